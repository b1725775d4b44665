/- What comes in, opened: bytes within the form's reach; the library's own number. -/
import Derived.Test.YtkekjddkbmmckaaGreatOpen
import Derived.HandedShaped
import Derived.Shelf.Strings.Shaped
namespace Go.Proofs.YtkekjddkbmmckaaGreat
open Go.RowKit Go.Mh
theorem bytes_u8 : Tryz.prog.bytesOf 5 = 1 := by kernel_rfl
theorem len_bytes {H : Type} {enc : TypeId × Value → H} {w : World} {held : Bool} {ts : List TypeId} {ds : List (DataW H)} (hsz : (DataW.weightsEach Tryz.prog ts ds).all (· ≤ reachBytes) = true) {j len cap : Nat} {a : Option Addr} {d : DataW H} {p : List MemPlace} {F : Nat → Prop} {L : Bs}
    (ht : ts[j]? = some 22) (hd : ds[j]? = some d) (h : DataW.Trod enc Tryz.prog w 0 (fun _ => true) held 22 (.slice a len cap) d p) (hr : RBytes F w (.slice a len cap) L) : L.length ≤ 140737488351232 := by
  have hl : len = L.length := by obtain ⟨_, _, e, _⟩ := hr; cases e; rfl
  obtain ⟨fuel, hf⟩ := h
  rcases DataW.trod_slice Tryz.underlying22 hf with ⟨hcs, _⟩ | ⟨ad, l2, c2, elems, rest, n, _, hcs, hx, _, _, _, hel, _⟩
  · have e : [Value.slice a len cap] = [Value.slice none 0 0] := hcs
    simp at e
    omega
  · have e : [Value.slice a len cap] = [Value.slice (some ad) l2 c2] := hcs
    simp at e
    have hd' : d = .slice (elems.map (·.1)) (rest.map (·.1)) := by cases hx; rfl
    subst hd'
    have := sized_slice hsz ht hd Tryz.underlying22
    rw [bytes_u8] at this
    simp only [List.length_map, reachBytes] at this
    omega
theorem lib_num {w : World} (h : w.ShapedOpen Tryz.prog) : ∃ m, w.cell? ⟨0, 0, none⟩ = some (.int .i64 m) :=
  Go.Proofs.cell_of_shapedOpen_int (zero := #[.int .i64 0]) (t := 3) h (of_decide_eq_true (by kernel_rfl)) (by kernel_rfl) rfl (by kernel_rfl) (by kernel_rfl) Tryz.underlying3
end Go.Proofs.YtkekjddkbmmckaaGreat
