/- The law Names: a closed sentence: each constant has its value. -/
import Derived.Test.YtgcocaaobojejaaEqInts
namespace Go.Proofs.Ytgcocaaobojejaa
open Go.RowKit Go.Mh

theorem errsCell (w : World) (k : Nat) (hk : k < 8) :
    (w.alloc (Obj.cells #[Value.int .i64 0, Value.int .i64 1, Value.int .i64 2, Value.int .i64 3, Value.int .i64 4, Value.int .i64 5, Value.int .i64 6, Value.int .i64 7] 22)).cell? ⟨w.heap.size, k, none⟩ = some (.int .i64 k) := by
  rw [World.cell?_alloc_new]
  match k, hk with
  | 0, _ => rfl
  | 1, _ => rfl
  | 2, _ => rfl
  | 3, _ => rfl
  | 4, _ => rfl
  | 5, _ => rfl
  | 6, _ => rfl
  | 7, _ => rfl

set_option maxHeartbeats 800000 in
theorem names_walk (w : World) :
    Calls Try.prog 3 #[] w fun e w' => e = .returned (.bool true) ∧ Below w.heap.size w w' := by
  go_enter Try.func3, Try.ntmps3
  go_wp2_with fail
  go_loop [9] (fun i => ∃ k : Nat, k ≤ 8 ∧ i = .int .i64 k) (fun i => 8 - (intOf i).toNat)
  case atStart => exact ⟨0, Nat.zero_le _, rfl⟩
  case round =>
    obtain ⟨k, hk, rfl⟩ := hrel
    by_cases hlt : k < 8
    · have hc := errsCell w k hlt
      have hck : ((k : Int) != (k : Int)) = false := by simp
      go_wp2_with fail
      go_round
      case rel => exact ⟨k + 1, by omega, by go_num⟩
      case measure => simp [intOf]; omega
    · obtain rfl : k = 8 := by omega
      go_wp2_with fail
      refine (eqInts_same (fun _ => True) (fun _ => True) _ _ [80, 24, 20000, 40, 60, 4, 30, 200, 10000] _ (RInts.blk (fun i => by simp [go_sem]) rfl (by decide) (by decide) trivial) (RInts.blk (fun i => by simp [go_sem]) rfl (by decide) (by decide) trivial)).mono ?_
      rintro e w1 ⟨rfl, hb1⟩
      go_wp2_with fail
      refine (eqInts_same (fun _ => True) (fun _ => True) _ _ [1, 2, 1, 2, 3, 1, 2, 3, 4, 1, 2, 3, 4, 5, 6] _ (RInts.to (w := ((((w.alloc _).alloc _).alloc _).alloc _)) (RInts.blk (fun i => by simp [go_sem]) rfl (by decide) (by decide) trivial) (Kp.below (hb1.alloc hb1.size _))) (RInts.blk (fun i => by simp [go_sem]) rfl (by decide) (by decide) trivial)).mono ?_
      rintro e w2 ⟨rfl, hb2⟩
      have hsz := hb1.size
      simp at hsz
      have hA : Below w.heap.size w w1 := (bal (bal (bal (bal (brf w) _) _) _) _).trans (hb1.mono (by simp; omega))
      go_wp2
      go_ret
      exact ⟨rfl, (bal hA _).trans (hb2.mono (by simp; omega))⟩
end Go.Proofs.Ytgcocaaobojejaa
