/- Package link: small letters, Scheme of ASCII text, May. -/
import Derived.Lib.SlicesS
import Derived.Test.YtkekjddkbmmckaaGreatStr
namespace Go.Proofs.YtkekjddkbmmckaaGreat
open Go.RowKit Go.Mh

/-- '[]byte(s)' in the walk: a row of the call's own that holds the bytes. -/
theorem wpList_bytes_of_string {P : Program} (w : World) {ops : Array Oper} {rest : List Oper} {o : Oper} {a : Act} {Q : Exit → Act → World → Prop}
    (hg : o.guard = none) (src dst : TypeId) (x : Operand) (hop : o.op = Op.convert src dst x) (e : TypeId)
    (hs : P.underlying src = some .string) (hd : P.underlying dst = some (.slice e)) (he : P.underlying e = some (.int .u8)) (l : Bs) (hx : a.eval x = str l)
    (hK : ∀ w' cap, (∀ j c, l[j]? = some c → w'.cell? ⟨w.heap.size, j, none⟩ = some (.int .u8 (c.toNat : Int))) → (∀ j, j < l.length → w'.frozen? ⟨w.heap.size, j, none⟩ = false) →
      w'.heap.size = w.heap.size + 1 → Below w.heap.size w w' → wpList P ops Q rest (a.put o.dst (.slice (some ⟨w.heap.size, 0, none⟩) l.length cap)) w') :
    wpList P ops Q (o :: rest) a w := by
  refine wpList_plain hg fun K hK' => ?_
  have hrun := run_bytes_of_string (P := P) w src dst e ⟨l.toArray⟩ hs hd he
  unfold Oper.wp
  simp only [execOp, hop, hx]
  simp [hrun, Result.andThen]
  refine hK' _ _ (hK _ _ ?_ ?_ ?_ ?_)
  · intro j c hj
    have hj' := (List.getElem?_eq_some_iff.1 hj).1
    have := bytesRow_at ⟨l.toArray⟩ (grownCap w l.length 0 e) j (by simpa using hj')
    simp at this
    rw [(List.getElem?_eq_some_iff.1 hj).2] at this
    rw [← this]
    exact World.cell?_alloc_mark w.drew _ _ _ j
  · intro j h
    refine (World.frozen?_alloc_mark w.drew _ e _ _ j).trans ?_
    have hsz : ∀ n, l.length ≤ (bytesRow ⟨l.toArray⟩ n).size := fun n => by simp [bytesRow]
    have := hsz (grownCap w (⟨l.toArray⟩ : ByteArray).size 0 e)
    simp only [Bool.and_eq_false_iff, decide_eq_false_iff_not]
    left; omega
  · simp
  · exact (Below.refl _ _).drew.alloc (Nat.le_refl _) _

/-- A cell behind a store into another place, or the same. -/
theorem cell_set {w : World} {b i j : Nat} {v u : Value} (h : w.cell? ⟨b, j, none⟩ = some u) : (w.setCell ⟨b, i, none⟩ v).cell? ⟨b, j, none⟩ = some (if i = j then v else u) := by
  by_cases hij : i = j
  · subst hij
    rw [if_pos rfl, World.cell?_setCell_same (h := h)]
  · have hne : (⟨b, i, none⟩ : Addr) ≠ ⟨b, j, none⟩ := by intro e; exact hij (Addr.mk.inj e).2.1
    rw [if_neg hij]
    exact (World.cell?_setCell_other w _ _ v hne).trans h

def Ascii (l : Bs) : Prop := ∀ (j : Nat) b, l[j]? = some b → b.toNat < 128

theorem okC_iff (c : UInt8) : okC c = true ↔ (32 < (c.toNat : Int) ∧ (c.toNat : Int) ≤ 126 ∧ ¬ (c.toNat : Int) = 34 ∧ ¬ (c.toNat : Int) = 39 ∧ ¬ (c.toNat : Int) = 60 ∧ ¬ (c.toNat : Int) = 62 ∧ ¬ (c.toNat : Int) = 92 ∧ ¬ (c.toNat : Int) = 96) := by
  have e : ∀ d : UInt8, (c = d) ↔ (c.toNat : Int) = d.toNat := fun d => by rw [← UInt8.toNat_inj]; omega
  simp only [okC, Bool.and_eq_true, decide_eq_true_eq, bne_iff_ne, ne_eq, e, UInt8.lt_iff_toNat_lt, UInt8.le_iff_toNat_le]
  simp
  omega

def schemesZ : List ByteArray := [⟨sHttp.toArray⟩, ⟨sHttps.toArray⟩, ⟨sMailto.toArray⟩]

theorem contains_schemes (x : Bs) : Lib.containsS schemesZ ⟨x.toArray⟩ = [sHttp, sHttps, sMailto].contains x := by
  have e : ∀ a b : Bs, ((⟨a.toArray⟩ : ByteArray) = ⟨b.toArray⟩) ↔ a = b := fun a b => ⟨fun h => by injection h with h; injection h, fun h => by rw [h]⟩
  rw [Bool.eq_iff_iff, Lib.containsS_iff]
  simp only [schemesZ, List.mem_cons, e, List.not_mem_nil, or_false, List.contains_eq_mem, decide_eq_true_eq]

end Go.Proofs.YtkekjddkbmmckaaGreat
