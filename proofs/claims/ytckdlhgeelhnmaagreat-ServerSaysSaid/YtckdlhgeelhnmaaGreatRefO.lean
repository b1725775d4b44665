/- The references on parts: checkPart. -/
import Derived.Test.YtckdlhgeelhnmaaGreatOpC
namespace Go.Proofs.YtckdlhgeelhnmaaGreat
open Go.RowKit Go.Mh

set_option maxRecDepth 100000 in
set_option maxHeartbeats 2000000 in
theorem checkPart_any (F : Nat → Prop) (sv : Value) (p : Pt) (w : World) (h : RItems F w sv p.its) :
    Calls Tryz.prog 118 #[pv p sv] w fun e w' => e = .returned (.int .i64 (chkPt p)) ∧ Below w.heap.size w w' := by
  obtain ⟨k, n, its, set, clr, to, l⟩ := p
  obtain ⟨a, cap, rfl, hn⟩ := RdS.len h
  have H := Lib.hid h; clear h
  have hnn := Lib.hid (@band_nn set clr)
  by_cases h1 : k = 1
  · subst h1
    go_enter Tryz.func118, Tryz.ntmps118
    go_wp2_with (go_at_call 119; refine (mayBe_any _ _).mono ?_; rintro e w1 ⟨rfl, hb⟩; obtain ⟨a0, a1, a2, a3, a4, a5, a6⟩ : P7 w1 w.heap.size (.int .i64 1) (.int .i64 n) (.slice a its.length cap) (.int .i64 set) (.int .i64 clr) (.bool to) (str l) := (by refine ⟨?_, ?_, ?_, ?_, ?_, ?_, ?_⟩ <;> (rw [hb.cell (by first | (simp; done) | (simp; omega))]; first | (simp; done) | (simp; assumption))))
    all_goals
      go_ret
      go_light
      refine ⟨congrArg (fun n => Ending.returned (Value.int IntKind.i64 n)) ?_, ?_⟩
      · rw [chkPt1]
        have hnn' := hnn.out
        clear hnn H
        first | (simp_all; done) | (simp_all; omega) | grind
      · first | exact bal (brf _) _ | exact (bal (brf _) _).trans ((by assumption : Below _ _ _).mono (by simp))
  by_cases h2 : k = 2
  · subst h2
    by_cases hbad : its = [] ∨ 80 < its.length
    · have hv : chkPt ⟨2, n, its, set, clr, to, l⟩ = 2 := by rw [chkPt2, if_pos hbad]
      rw [hv]
      rcases hbad with rfl | h80
      · go_enter Tryz.func118, Tryz.ntmps118
        go_wp2
        go_ret
        exact ⟨rfl, bal (brf _) _⟩
      · have hz : decide ((its.length : Int) < 1) = false := by simp; omega
        have hz2 : decide ((80 : Int) < its.length) = true := by simp; omega
        go_enter Tryz.func118, Tryz.ntmps118
        go_wp2
        go_ret
        exact ⟨rfl, bal (brf _) _⟩
    · have hz : decide ((its.length : Int) < 1) = false := by
        cases its with
        | nil => simp at hbad
        | cons y t => simp; omega
      have hz2 : decide ((80 : Int) < its.length) = false := by simp; omega
      rw [chkPt2, if_neg hbad]
      clear hbad
      go_enter Tryz.func118, Tryz.ntmps118
      go_wp2_with fail
      refine (checkItems_any F _ its _ (H.out.to (Kp.below (bal (brf _) _)))).mono ?_
      rintro e w1 ⟨rfl, hb⟩
      have hB1 : Below w.heap.size w w1 := (bal (brf _) _).trans (hb.mono (by simp))
      obtain ⟨a0, a1, a2, a3, a4, a5, a6⟩ : P7 w1 w.heap.size (.int .i64 2) (.int .i64 n) (.slice a its.length cap) (.int .i64 set) (.int .i64 clr) (.bool to) (str l) := by
        refine ⟨?_, ?_, ?_, ?_, ?_, ?_, ?_⟩ <;> (rw [hb.cell (by first | (simp; done) | (simp; omega))]; simp)
      clear hb
      go_wp2
      all_goals
        go_ret
        go_light
        refine ⟨congrArg (fun n => Ending.returned (Value.int IntKind.i64 n)) ?_, hB1⟩
        clear H hnn a0 a1 a2 a3 a4 a5 a6
        first | (simp_all; done) | grind
  by_cases h3 : k = 3
  · subst h3
    go_enter Tryz.func118, Tryz.ntmps118
    go_wp2
    all_goals
      go_ret
      go_light
      refine ⟨congrArg (fun n => Ending.returned (Value.int IntKind.i64 n)) ?_, bal (brf _) _⟩
      rw [chkPt3]
      clear hnn H
      first | (simp_all; done) | (simp_all [List.length_pos_iff]; omega) | grind
  rw [chkPt4 k n its set clr to l h1 h2 h3]
  go_enter Tryz.func118, Tryz.ntmps118
  go_wp2
  all_goals go_ret
  all_goals first | exact ⟨rfl, bal (brf _) _⟩ | (exfalso; simp_all; done)
end Go.Proofs.YtckdlhgeelhnmaaGreat
