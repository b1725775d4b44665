/- The closed fact 'kept' of the laws on documents. -/
import Derived.Test.YtgodceplajkcdaaRuns
import Derived.Test.YtgodceplajkcdaaEqInts
namespace Go.Proofs.Ytgodceplajkcdaa
open Go.RowKit Go.Mh

def smallL : List It := [⟨97, 0, []⟩, ⟨98, 1, []⟩, ⟨10, 1, []⟩, ⟨60, 0, [104, 116, 116, 112, 58, 38]⟩, ⟨10, 2, []⟩]
theorem small_chk : chkDoc smallL = 0 := by decide +kernel
theorem small_chk2 : chkDoc (smallL.take 2) = 4 := by decide +kernel
theorem small_runs : runs smallL = [0, 1, 2, 3, 4] := by decide +kernel
theorem small_text : smallL.map It.c = [97, 98, 10, 60, 10] := rfl

set_option maxHeartbeats 400000 in
theorem small_any (w : World) :
    Calls Try.prog 81 #[] w fun e w' => ∃ v, e = .returned v ∧ RItems (w.heap.size ≤ ·) w' v smallL ∧ Below w.heap.size w w' := by
  go_enter Try.func81, Try.ntmps81
  go_wp2
  go_ret
  refine ⟨_, rfl, RItems.lit (heap_new _ _) rfl (by decide) (by decide) (Nat.le_refl _) (fun i x hi => ?_), (Below.refl _ _).alloc (Nat.le_refl _) _⟩
  match i, hi with
  | 0, hi => simp [smallL] at hi; subst hi; exact ⟨rfl, rfl, rfl⟩
  | 1, hi => simp [smallL] at hi; subst hi; exact ⟨rfl, rfl, rfl⟩
  | 2, hi => simp [smallL] at hi; subst hi; exact ⟨rfl, rfl, rfl⟩
  | 3, hi => simp [smallL] at hi; subst hi; exact ⟨rfl, rfl, rfl⟩
  | 4, hi => simp [smallL] at hi; subst hi; exact ⟨rfl, rfl, rfl⟩
  | n + 5, hi => simp [smallL] at hi

set_option maxHeartbeats 400000 in
theorem kept_any (w : World) :
    Calls Try.prog 27 #[] w fun e w' => e = .returned (.bool true) ∧ Below w.heap.size w w' := by
  go_enter Try.func27, Try.ntmps27
  go_wp2_with fail
  refine (small_any w).mono ?_
  rintro e w1 ⟨v1, rfl, hr1, hb1⟩
  go_wp2_with fail
  refine (plain_ok _ v1 smallL w1 hr1 small_chk (by decide)).mono ?_
  rintro e w2 ⟨rfl, hb2⟩
  rw [small_text]
  have hB2 := hb1.trans (hb2.mono hb1.size)
  clear hr1
  go_wp2_with fail
  refine (small_any w2).mono ?_
  rintro e w3 ⟨v3, rfl, hr3, hb3⟩
  have hB3 := hB2.trans (hb3.mono hB2.size)
  go_wp2_with fail
  refine (runs_ok _ v3 smallL w3 hr3 small_chk (by decide)).mono ?_
  rintro e w4 ⟨u4, rfl, hr4, hb4⟩
  have hB4 := hB3.trans (hb4.mono hB3.size)
  rw [small_runs] at hr4
  clear hr3
  go_wp2_with fail
  refine (eqInts_any (w3.heap.size ≤ ·) (fun _ => True) u4 _ [0, 1, 2, 3, 4] [0, 1, 2, 3, 4] _ (hr4.to (Kp.below ((Below.refl _ _).alloc (Nat.le_refl _) _))) (RInts.lit (heap_new _ _) rfl (by decide) (by decide) trivial rfl)).mono ?_
  rintro e w5 ⟨rfl, hb5⟩
  have hB5 := (hB4.alloc hB4.size _).trans (hb5.mono (by have := hB4.size; simp; omega))
  have hdec : decide (([0, 1, 2, 3, 4] : List Int) = [0, 1, 2, 3, 4]) = true := by decide
  rw [hdec]
  go_wp2_with fail
  refine (small_any w5).mono ?_
  rintro e w6 ⟨v6, rfl, hr6, hb6⟩
  have hB6 := hB5.trans (hb6.mono hB5.size)
  obtain ⟨a6, c6, rfl, hn6⟩ := RdS.len hr6
  have hcap6 : (5 : Nat) ≤ c6 := hr6.capLe
  have hr6' := hr6.take 2 (by decide)
  clear hr6 hr4
  go_wp2_with fail
  refine (check_any _ _ (smallL.take 2) w6 hr6').mono ?_
  rintro e w7 ⟨rfl, hb7⟩
  rw [small_chk2]
  go_wp2
  go_ret
  exact ⟨rfl, hB6.trans (hb7.mono hB6.size)⟩
end Go.Proofs.Ytgodceplajkcdaa
