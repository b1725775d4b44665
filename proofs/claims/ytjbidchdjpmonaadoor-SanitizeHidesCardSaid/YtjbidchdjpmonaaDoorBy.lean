/- '[]byte(s)' as a row read. -/
import Derived.Test.YtjbidchdjpmonaaDoorPaged
namespace Go.Proofs.YtjbidchdjpmonaaDoor
open Go.RowKit Go.Mh

theorem wpList_bytes_rd {P : Program} (w : World) {ops : Array Oper} {rest : List Oper} {o : Oper} {a : Act} {Q : Exit → Act → World → Prop}
    (hg : o.guard = none) (src dst : TypeId) (x : Operand) (hop : o.op = Op.convert src dst x) (e : TypeId)
    (hs : P.underlying src = some .string) (hd : P.underlying dst = some (.slice e)) (he : P.underlying e = some (.int .u8)) (l : Bs) (hl : l.length ≤ maxLen) (hx : a.eval x = str l)
    (hK : ∀ w' cap, RBytes (w.heap.size ≤ ·) w' (.slice (some ⟨w.heap.size, 0, none⟩) l.length cap) l → Below w.heap.size w w' → wpList P ops Q rest (a.put o.dst (.slice (some ⟨w.heap.size, 0, none⟩) l.length cap)) w') :
    wpList P ops Q (o :: rest) a w := by
  refine wpList_plain hg fun K hK' => ?_
  have hrun := run_bytes_of_string (P := P) w src dst e ⟨l.toArray⟩ hs hd he
  unfold Oper.wp
  simp only [execOp, hop, hx]
  simp [hrun, Result.andThen]
  refine hK' _ _ (hK _ _ ⟨_, _, rfl, grownCap_ge _ _ _ _, grownCap_le_maxLen _ _ _ _ hl, fun h => by simp at h, fun j c hj => ⟨w.heap.size, 0, [.int .u8 c.toNat], rfl, Nat.le_refl _, rfl, fun i u hi => ?_, rfl⟩⟩ ((Below.refl _ _).drew.alloc (Nat.le_refl _) _))
  match i, hi with
  | 0, hi =>
    simp at hi
    subst hi
    unfold World.cell?
    rw [show (w.drew.alloc _).heap[w.heap.size]? = _ from heap_new w.drew _]
    have hj' := (List.getElem?_eq_some_iff.1 hj).1
    have := bytesRow_at ⟨l.toArray⟩ (grownCap w l.length 0 e) j (by simpa using hj')
    simp at this
    rw [(List.getElem?_eq_some_iff.1 hj).2] at this
    rw [← this]
    simp only [Nat.zero_add, Nat.mul_one, Nat.add_zero]
    rfl
end Go.Proofs.YtjbidchdjpmonaaDoor
