/- What comes in, opened: from the form's reading to ours. -/
import Derived.Test.YteikncnldbdfmaaGreatDoorMem
import Derived.Test.YteikncnldbdfmaaGreatDoorCmp
import Derived.ProofKit
import Derived.Deep.Slices
import Derived.HandedShaped
import Derived.Shelf.Strings.Shaped
namespace Go.Proofs.YteikncnldbdfmaaGreatDoor
open Go.RowKit Go.Mh Go.Deep

section
variable {H : Type} {enc : TypeId × Value → H} {w : World} {held : Bool} {spare : Nat → Bool}

theorem cells_u8 : Tryz.prog.cellsOf 5 = 1 := by kernel_rfl
theorem byte_of {n : Int} (h : (Lit.int .u8 n).wf = true) : ∃ c : UInt8, n = (c.toNat : Int) := by
  have hb : 0 ≤ n ∧ n < 256 := by
    have := h
    simp [Lit.wf, IntKind.min, IntKind.max, IntKind.signed, IntKind.bits] at this
    constructor <;> omega
  refine ⟨UInt8.ofNat n.toNat, ?_⟩
  simp [UInt8.toNat_ofNat']
  omega

/-- A slice that is read, element by element. -/
theorem RdS.ofTrod {α : Type} [Inhabited α] {sz : Nat} {R : World → List Value → α → Prop} {t e : TypeId} {fuel len cap : Nat} {a : Option Addr} {x : DataW H × List MemPlace} (ht : Tryz.prog.underlying t = some (.slice e)) (hsz : Tryz.prog.cellsOf e = sz) (hpos : 0 < sz)
    (hel : ∀ (n : Nat) (cs : List Value) (y : DataW H × List MemPlace), DataW.trod enc Tryz.prog w 0 (fun _ => true) held n e cs = some y → ∃ z, R w cs z)
    (h : DataW.trod enc Tryz.prog w 0 (fun _ => true) held fuel t [.slice a len cap] = some x) : ∃ L : List α, RdS sz R (fun _ => True) w (.slice a len cap) L := by
  rcases open_slice ht h with ⟨hcs, _⟩ | ⟨ad, len', cap', m, n, D, Pl, hcs, _, hl, hm, hmm, _, hx⟩
  · simp at hcs
    obtain ⟨rfl, rfl, rfl⟩ := hcs
    exact ⟨[], RdS.nil⟩
  · simp at hcs
    obtain ⟨rfl, rfl, rfl⟩ := hcs
    simp at hmm
    subst hmm
    obtain ⟨f, hf⟩ := choose_lt (α := α) (n := len) (p := fun i z => ∃ b o cs, ad = ⟨b, o, none⟩ ∧ cs.length = sz ∧ At w b (o + i * sz) cs ∧ R w cs z) (fun i hi => by
      obtain ⟨cs, h1, h2⟩ := hx i (by omega)
      obtain ⟨z, hz⟩ := hel _ _ _ h2
      rw [hsz] at h1
      obtain ⟨_, hlen, hcell⟩ := World.cells?_some h1
      have hsp : ad = ⟨ad.block, ad.off, none⟩ := by
        obtain ⟨cs0, h10, _⟩ := hx 0 (by omega)
        rw [hsz] at h10
        obtain ⟨_, hlen0, hcell0⟩ := World.cells?_some h10
        have h0 := hcell0 0 hpos
        rw [List.getElem?_eq_getElem (by omega)] at h0
        have := World.cell?_spot h0
        simp [Addr.add] at this
        obtain ⟨b, o, s⟩ := ad
        simp at this
        subst this
        rfl
      refine ⟨z, ad.block, ad.off, cs, hsp, hlen, fun j v hj => ?_, hz⟩
      have hj' := (List.getElem?_eq_some_iff.1 hj).1
      have := hcell j (by omega)
      rw [hj, hsp, Addr.add_lit, Addr.add_lit] at this
      exact this)
    refine ⟨(List.range len).map f, some ad, _, by simp, by simpa using hl, hm, fun h => by simp at h, fun i z hz => ?_⟩
    rw [List.getElem?_map] at hz
    obtain ⟨i', hi', rfl⟩ := Option.map_eq_some_iff.1 hz
    obtain ⟨hlt, rfl⟩ : i < len ∧ i = i' := by
      have h1 := (List.getElem?_eq_some_iff.1 hi').1
      have h2 := (List.getElem?_eq_some_iff.1 hi').2
      simp at h1 h2
      exact ⟨h1, h2⟩
    obtain ⟨b, o, cs, h1, h2, h3, h4⟩ := hf i hlt
    exact ⟨b, o, cs, by rw [h1], trivial, h2, h3, h4⟩

instance : Inhabited It := ⟨⟨0, 0, []⟩⟩

theorem open_bytes {t : TypeId} {fuel len cap : Nat} {a : Option Addr} {x : DataW H × List MemPlace} (ht : Tryz.prog.underlying t = some (.slice 5))
    (h : DataW.trod enc Tryz.prog w 0 (fun _ => true) held fuel t (Value.slice a len cap).cells.toList = some x) : ∃ L : Bs, RBytes (fun _ => True) w (.slice a len cap) L :=
  RdS.ofTrod ht cells_u8 (by decide) (fun n cs y hy => by
    obtain ⟨m, rfl, _, wm⟩ := DataW.trod_int Tryz.underlying5 hy
    obtain ⟨c, rfl⟩ := byte_of wm
    exact ⟨c, rfl⟩) h

end
end Go.Proofs.YteikncnldbdfmaaGreatDoor
/- What comes in, opened: bytes within the form's reach; the library's own number. -/
namespace Go.Proofs.YteikncnldbdfmaaGreatDoor
open Go.RowKit Go.Mh
theorem bytes_u8 : Tryz.prog.bytesOf 5 = 1 := by kernel_rfl
theorem len_bytes {H : Type} {enc : TypeId × Value → H} {w : World} {held : Bool} {ts : List TypeId} {ds : List (DataW H)} (hsz : (DataW.weightsEach Tryz.prog ts ds).all (· ≤ reachBytes) = true) {j len cap : Nat} {a : Option Addr} {d : DataW H} {p : List MemPlace} {F : Nat → Prop} {L : Bs}
    (ht : ts[j]? = some 41) (hd : ds[j]? = some d) (h : DataW.Trod enc Tryz.prog w 0 (fun _ => true) held 41 (.slice a len cap) d p) (hr : RBytes F w (.slice a len cap) L) : L.length ≤ 140737488351232 := by
  have hl : len = L.length := by obtain ⟨_, _, e, _⟩ := hr; cases e; rfl
  obtain ⟨fuel, hf⟩ := h
  rcases DataW.trod_slice Tryz.underlying41 hf with ⟨hcs, _⟩ | ⟨ad, l2, c2, elems, rest, n, _, hcs, hx, _, _, _, hel, _⟩
  · have e : [Value.slice a len cap] = [Value.slice none 0 0] := hcs
    simp at e
    omega
  · have e : [Value.slice a len cap] = [Value.slice (some ad) l2 c2] := hcs
    simp at e
    have hd' : d = .slice (elems.map (·.1)) (rest.map (·.1)) := by cases hx; rfl
    subst hd'
    have := sized_slice hsz ht hd Tryz.underlying41
    rw [bytes_u8] at this
    simp only [List.length_map, reachBytes] at this
    omega
theorem lib_num {w : World} (h : w.ShapedOpen Tryz.prog) : ∃ m, w.cell? ⟨2, 0, none⟩ = some (.int .i64 m) :=
  Go.Proofs.cell_of_shapedOpen_int (zero := #[.int .i64 0]) (t := 3) h (of_decide_eq_true (by kernel_rfl)) (by kernel_rfl) rfl (by kernel_rfl) (by kernel_rfl) Tryz.underlying3
end Go.Proofs.YteikncnldbdfmaaGreatDoor
