/- The small document of the closed facts. -/
import Derived.Test.YteikncnldbdfmaaGreatDoorMem
import Derived.Test.YteikncnldbdfmaaGreatDoorShelf
import Derived.Test.YteikncnldbdfmaaGreatDoorRows
namespace Go.Proofs.YteikncnldbdfmaaGreatDoor
open Go.RowKit Go.Mh

def smallL : List It := [⟨97, 0, []⟩, ⟨98, 1, []⟩, ⟨10, 1, []⟩, ⟨60, 0, [104, 116, 116, 112, 58, 38]⟩, ⟨10, 2, []⟩]
set_option maxHeartbeats 400000 in
theorem small_any (w : World) :
    Calls Tryz.prog 40 #[] w fun e w' => ∃ v, e = .returned v ∧ RItems (w.heap.size ≤ ·) w' v smallL ∧ Below w.heap.size w w' := by
  go_enter Tryz.func40, Tryz.ntmps40
  go_wp2
  go_ret
  refine ⟨_, rfl, RItems.lit (heap_new _ _) rfl (by decide) (by decide) (Nat.le_refl _) (fun i x hi => ?_), (Below.refl _ _).alloc (Nat.le_refl _) _⟩
  match i, hi with
  | 0, hi => simp [smallL] at hi; subst hi; exact ⟨rfl, rfl, rfl⟩
  | 1, hi => simp [smallL] at hi; subst hi; exact ⟨rfl, rfl, rfl⟩
  | 2, hi => simp [smallL] at hi; subst hi; exact ⟨rfl, rfl, rfl⟩
  | 3, hi => simp [smallL] at hi; subst hi; exact ⟨rfl, rfl, rfl⟩
  | 4, hi => simp [smallL] at hi; subst hi; exact ⟨rfl, rfl, rfl⟩
  | n + 5, hi => simp [smallL] at hi
end Go.Proofs.YteikncnldbdfmaaGreatDoor
