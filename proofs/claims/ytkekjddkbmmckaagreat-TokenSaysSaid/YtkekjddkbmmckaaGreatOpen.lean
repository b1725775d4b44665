/- What comes in, opened: from the form's reading to ours. -/
import Derived.Test.YtkekjddkbmmckaaGreatMem
import Derived.Test.YtkekjddkbmmckaaGreatCmp
import Derived.ProofKit
import Derived.Deep.Slices
namespace Go.Proofs.YtkekjddkbmmckaaGreat
open Go.RowKit Go.Mh Go.Deep

section
variable {H : Type} {enc : TypeId × Value → H} {w : World} {held : Bool} {spare : Nat → Bool}

theorem field_at {fs : Array Field} {l : List (String × Nat × Nat)} (h : fs.toList.map (fun f => (f.name, f.type, f.offset)) = l) {i : Nat} {x : String × Nat × Nat} (hx : l[i]? = some x) :
    ∃ f, fs[i]? = some f ∧ f.type = x.2.1 ∧ f.offset = x.2.2 := by
  subst h
  rw [List.getElem?_map] at hx
  obtain ⟨f, hf, rfl⟩ := Option.map_eq_some_iff.1 hx
  exact ⟨f, by simpa using hf, rfl, rfl⟩

/-- One field of a struct that is read. -/
theorem trod_field {t : TypeId} {fuel : Nat} {cs : List Value} {x : DataW H × List MemPlace} {l : List (String × Nat × Nat)} (ht : Tryz.prog.underlying t = some (.struct (Tryz.prog.fieldsOf t))) (hl : (Tryz.prog.fieldsOf t).toList.map (fun f => (f.name, f.type, f.offset)) = l)
    (h : DataW.trod enc Tryz.prog w 0 spare held fuel t cs = some x) (i : Nat) (y : String × Nat × Nat) (hy : l[i]? = some y) :
    ∃ n z, DataW.trod enc Tryz.prog w 0 spare held n y.2.1 ((cs.drop y.2.2).take (Tryz.prog.cellsOf y.2.1)) = some z := by
  obtain ⟨xs, n, _, _, _, hlen, hf⟩ := DataW.trod_struct ht h
  obtain ⟨f, hff, h1, h2⟩ := field_at hl hy
  have hi : i < xs.length := by
    rw [hlen]
    exact (Array.getElem?_eq_some_iff.1 hff).1
  refine ⟨n, xs[i], ?_⟩
  rw [← h1, ← h2, hf i f hff]
  exact List.getElem?_eq_getElem hi

theorem trod_len {t : TypeId} {fuel : Nat} {cs : List Value} {x : DataW H × List MemPlace} (ht : Tryz.prog.underlying t = some (.struct (Tryz.prog.fieldsOf t))) (h : DataW.trod enc Tryz.prog w 0 spare held fuel t cs = some x) : cs.length = Tryz.prog.cellsOf t := by
  obtain ⟨xs, n, _, _, hl, _, _⟩ := DataW.trod_struct ht h
  exact hl

theorem cells_u8 : Tryz.prog.cellsOf 5 = 1 := by kernel_rfl
theorem cells_int : Tryz.prog.cellsOf 3 = 1 := by kernel_rfl
theorem cells_string : Tryz.prog.cellsOf 9 = 1 := by kernel_rfl
theorem cells_bool : Tryz.prog.cellsOf 4 = 1 := by kernel_rfl
theorem byte_of {n : Int} (h : (Lit.int .u8 n).wf = true) : ∃ c : UInt8, n = (c.toNat : Int) := by
  have hb : 0 ≤ n ∧ n < 256 := by
    have := h
    simp [Lit.wf, IntKind.min, IntKind.max, IntKind.signed, IntKind.bits] at this
    constructor <;> omega
  refine ⟨UInt8.ofNat n.toNat, ?_⟩
  simp [UInt8.toNat_ofNat']
  omega

theorem str_of (s : ByteArray) : ∃ l : Bs, s = ⟨l.toArray⟩ := ⟨s.data.toList, by cases s; simp⟩

/-- A slice that is read, element by element. -/
theorem RdS.ofTrod {α : Type} [Inhabited α] {sz : Nat} {R : World → List Value → α → Prop} {t e : TypeId} {fuel len cap : Nat} {a : Option Addr} {x : DataW H × List MemPlace} (ht : Tryz.prog.underlying t = some (.slice e)) (hsz : Tryz.prog.cellsOf e = sz) (hpos : 0 < sz)
    (hel : ∀ (n : Nat) (cs : List Value) (y : DataW H × List MemPlace), DataW.trod enc Tryz.prog w 0 (fun _ => true) held n e cs = some y → ∃ z, R w cs z)
    (h : DataW.trod enc Tryz.prog w 0 (fun _ => true) held fuel t [.slice a len cap] = some x) : ∃ L : List α, RdS sz R (fun _ => True) w (.slice a len cap) L := by
  rcases open_slice ht h with ⟨hcs, _⟩ | ⟨ad, len', cap', m, n, D, Pl, hcs, _, hl, hm, hmm, _, hx⟩
  · simp at hcs
    obtain ⟨rfl, rfl, rfl⟩ := hcs
    exact ⟨[], RdS.nil⟩
  · simp at hcs
    obtain ⟨rfl, rfl, rfl⟩ := hcs
    simp at hmm
    subst hmm
    obtain ⟨f, hf⟩ := choose_lt (α := α) (n := len) (p := fun i z => ∃ b o cs, ad = ⟨b, o, none⟩ ∧ cs.length = sz ∧ At w b (o + i * sz) cs ∧ R w cs z) (fun i hi => by
      obtain ⟨cs, h1, h2⟩ := hx i (by omega)
      obtain ⟨z, hz⟩ := hel _ _ _ h2
      rw [hsz] at h1
      obtain ⟨_, hlen, hcell⟩ := World.cells?_some h1
      have hsp : ad = ⟨ad.block, ad.off, none⟩ := by
        obtain ⟨cs0, h10, _⟩ := hx 0 (by omega)
        rw [hsz] at h10
        obtain ⟨_, hlen0, hcell0⟩ := World.cells?_some h10
        have h0 := hcell0 0 hpos
        rw [List.getElem?_eq_getElem (by omega)] at h0
        have := World.cell?_spot h0
        simp [Addr.add] at this
        obtain ⟨b, o, s⟩ := ad
        simp at this
        subst this
        rfl
      refine ⟨z, ad.block, ad.off, cs, hsp, hlen, fun j v hj => ?_, hz⟩
      have hj' := (List.getElem?_eq_some_iff.1 hj).1
      have := hcell j (by omega)
      rw [hj, hsp, Addr.add_lit, Addr.add_lit] at this
      exact this)
    refine ⟨(List.range len).map f, some ad, _, by simp, by simpa using hl, hm, fun h => by simp at h, fun i z hz => ?_⟩
    rw [List.getElem?_map] at hz
    obtain ⟨i', hi', rfl⟩ := Option.map_eq_some_iff.1 hz
    obtain ⟨hlt, rfl⟩ : i < len ∧ i = i' := by
      have h1 := (List.getElem?_eq_some_iff.1 hi').1
      have h2 := (List.getElem?_eq_some_iff.1 hi').2
      simp at h1 h2
      exact ⟨h1, h2⟩
    obtain ⟨b, o, cs, h1, h2, h3, h4⟩ := hf i hlt
    exact ⟨b, o, cs, by rw [h1], trivial, h2, h3, h4⟩

instance : Inhabited It := ⟨⟨0, 0, []⟩⟩

theorem open_bytes {t : TypeId} {fuel len cap : Nat} {a : Option Addr} {x : DataW H × List MemPlace} (ht : Tryz.prog.underlying t = some (.slice 5))
    (h : DataW.trod enc Tryz.prog w 0 (fun _ => true) held fuel t (Value.slice a len cap).cells.toList = some x) : ∃ L : Bs, RBytes (fun _ => True) w (.slice a len cap) L :=
  RdS.ofTrod ht cells_u8 (by decide) (fun n cs y hy => by
    obtain ⟨m, rfl, _, wm⟩ := DataW.trod_int Tryz.underlying5 hy
    obtain ⟨c, rfl⟩ := byte_of wm
    exact ⟨c, rfl⟩) h

end
end Go.Proofs.YtkekjddkbmmckaaGreat
