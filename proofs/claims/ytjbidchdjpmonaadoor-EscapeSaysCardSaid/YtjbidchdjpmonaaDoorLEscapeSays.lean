/- The law EscapeSays, walked. -/
import Derived.Test.YtjbidchdjpmonaaDoorLEscape
import Derived.Test.YtjbidchdjpmonaaDoorWr
import Derived.Test.YtjbidchdjpmonaaDoorRepR
namespace Go.Proofs.YtjbidchdjpmonaaDoor
open Go.RowKit Go.Mh

set_option maxRecDepth 100000 in
set_option maxHeartbeats 4000000 in
theorem escapeSays_walk (S : Bs) (w : World) (hm : ∃ m, w.cell? ⟨0, 0, none⟩ = some (.int .i64 m)) (hS : S.length ≤ 140737488355328) :
    Calls Tryd.prog 9 #[str S] w fun e w' => e = .returned (.bool true) ∧ Below w.heap.size w w' := by
  have hM := Lib.hid (fun w' (hb : Below w.heap.size w w') => somec hm hb)
  clear hm
  by_cases hlong : 20000 < S.length
  · have C := Lib.hid (escWrite_p S ([], 2) (if_pos hlong) w (hM.out _ (brf _)))
    have l1 : decide ((20000 : Int) < (S.length : Int)) = true := by simp; omega
    have l2 : decide ((S.length : Int) ≤ (20000 : Int)) = false := by simp; omega
    have l1' : (20000 : Int) < (S.length : Int) := by omega
    have l2' : ¬ ((S.length : Int) ≤ (20000 : Int)) := by omega
    by_cases hvast : 120000 < S.length
    · have D := Lib.hid (fun w' => escRead_p S ([], 2) (if_pos hvast) w' (by unfold maxLen; omega))
      have l3 : decide ((120000 : Int) < (S.length : Int)) = true := by simp; omega
      have l3' : (120000 : Int) < (S.length : Int) := by omega
      clear hlong hvast
      go_enter Tryd.func9, Tryd.ntmps9
      go_wp2_with fail
      refine C.out.mono ?_
      rintro e w1 ⟨rfl, hb1⟩
      go_wp2_with fail
      refine (D.out _).mono ?_
      rintro e w2 ⟨rfl, hb2⟩
      go_wp2_with fail
      refine (escaped_any _ (hM.out _ (btr hb1 hb2))).mono ?_
      rintro e w3 ⟨rfl, hb3⟩
      go_wp2
      go_ret
      exact ⟨rfl, btr (btr hb1 hb2) hb3⟩
    · have D := Lib.hid (fun w' => escRead_p S (readE S, 0) (if_neg hvast) w' (by unfold maxLen; omega))
      have R := Lib.hid (fun w' => readSo_any S w' (by omega))
      have l3 : decide ((120000 : Int) < (S.length : Int)) = false := by simp; omega
      have l3' : ¬ ((120000 : Int) < (S.length : Int)) := by omega
      clear hlong hvast
      obtain ⟨Y, hY⟩ : ∃ Y, readE S = Y := ⟨_, rfl⟩
      rw [hY] at D R
      clear hY
      go_enter Tryd.func9, Tryd.ntmps9
      go_wp2_with fail
      refine C.out.mono ?_
      rintro e w1 ⟨rfl, hb1⟩
      go_wp2_with fail
      refine (D.out _).mono ?_
      rintro e w2 ⟨rfl, hb2⟩
      go_wp2_with fail
      refine (escaped_any _ (hM.out _ (btr hb1 hb2))).mono ?_
      rintro e w3 ⟨rfl, hb3⟩
      go_wp2_with fail
      refine (R.out _).mono ?_
      rintro e w4 ⟨rfl, hb4⟩
      go_wp2
      go_ret
      exact ⟨rfl, btr (btr (btr hb1 hb2) hb3) hb4⟩
  · have C := Lib.hid (escWrite_p S (writeE S, 0) (if_neg hlong) w (hM.out _ (brf _)))
    have l1 : decide ((20000 : Int) < (S.length : Int)) = false := by simp; omega
    have l2 : decide ((S.length : Int) ≤ (20000 : Int)) = true := by simp; omega
    have l1' : ¬ ((20000 : Int) < (S.length : Int)) := by omega
    have l2' : (S.length : Int) ≤ (20000 : Int) := by omega
    have D := Lib.hid (fun w' => escRead_p S (readE S, 0) (if_neg (by omega)) w' (by unfold maxLen; omega))
    have R := Lib.hid (fun w' => readSo_any S w' (by omega))
    have V := Lib.hid (fun w' => writtenSo_any S w' hS)
    have l3 : decide ((120000 : Int) < (S.length : Int)) = false := by simp; omega
    have l3' : ¬ ((120000 : Int) < (S.length : Int)) := by omega
    clear hlong
    obtain ⟨Y, hY⟩ : ∃ Y, readE S = Y := ⟨_, rfl⟩
    obtain ⟨X, hX⟩ : ∃ X, writeE S = X := ⟨_, rfl⟩
    rw [hY] at D R
    rw [hX] at C V
    clear hY hX
    go_enter Tryd.func9, Tryd.ntmps9
    go_wp2_with fail
    refine C.out.mono ?_
    rintro e w1 ⟨rfl, hb1⟩
    go_wp2_with fail
    refine (D.out _).mono ?_
    rintro e w2 ⟨rfl, hb2⟩
    go_wp2_with fail
    refine (escaped_any _ (hM.out _ (btr hb1 hb2))).mono ?_
    rintro e w3 ⟨rfl, hb3⟩
    go_wp2_with fail
    refine (V.out _).mono ?_
    rintro e w4 ⟨rfl, rfl⟩
    go_wp2_with fail
    refine (R.out _).mono ?_
    rintro e w5 ⟨rfl, hb5⟩
    go_wp2
    go_ret
    exact ⟨rfl, btr (btr (btr hb1 hb2) hb3) hb5⟩
end Go.Proofs.YtjbidchdjpmonaaDoor
