/- Package op: part, of whatever part. -/
import Derived.Test.YtgodceplajkcdaaOpC
namespace Go.Proofs.Ytgodceplajkcdaa
open Go.RowKit Go.Mh

set_option maxRecDepth 100000 in
set_option maxHeartbeats 2000000 in
theorem part_cut (F : Nat → Prop) (sv : Value) (n : Int) (its : List It) (set clr : Int) (to : Bool) (l : Bs) (w : World) (h : RItems F w sv its) :
    Calls Try.prog 95 #[pv ⟨3, n, its, set, clr, to, l⟩ sv] w fun e w' => e = .returned (.int .i64 (chkPt ⟨3, n, its, set, clr, to, l⟩)) ∧ Below w.heap.size w w' := by
  obtain ⟨a, cap, rfl, hn⟩ := RdS.len h
  clear h
  go_enter Try.func95, Try.ntmps95
  go_wp2
  all_goals
    go_ret
    go_light
    refine ⟨congrArg (fun n => Ending.returned (Value.int IntKind.i64 n)) ?_, bal (bal (brf _) _) _⟩
    rw [chkPt3]
    first | (simp_all [List.length_pos_iff]; done) | (simp_all [List.length_pos_iff]; omega) | grind

set_option maxRecDepth 100000 in
set_option maxHeartbeats 2000000 in
theorem part_other (F : Nat → Prop) (sv : Value) (k n : Int) (its : List It) (set clr : Int) (to : Bool) (l : Bs) (w : World) (_h : RItems F w sv its) (h1 : ¬k = 1) (h2 : ¬k = 2) (h3 : ¬k = 3) :
    Calls Try.prog 95 #[pv ⟨k, n, its, set, clr, to, l⟩ sv] w fun e w' => e = .returned (.int .i64 (chkPt ⟨k, n, its, set, clr, to, l⟩)) ∧ Below w.heap.size w w' := by
  rw [chkPt4 k n its set clr to l h1 h2 h3]
  go_enter Try.func95, Try.ntmps95
  go_wp2
  all_goals go_ret
  all_goals first | exact ⟨rfl, bal (bal (brf _) _) _⟩ | (exfalso; simp_all; done)

set_option maxRecDepth 100000 in
set_option maxHeartbeats 2000000 in
theorem part_put (F : Nat → Prop) (sv : Value) (n : Int) (its : List It) (set clr : Int) (to : Bool) (l : Bs) (w : World) (h : RItems F w sv its) :
    Calls Try.prog 95 #[pv ⟨2, n, its, set, clr, to, l⟩ sv] w fun e w' => e = .returned (.int .i64 (chkPt ⟨2, n, its, set, clr, to, l⟩)) ∧ Below w.heap.size w w' := by
  obtain ⟨a, cap, rfl, hn⟩ := RdS.len h
  have H := Lib.hid h; clear h
  by_cases hbad : its = [] ∨ 80 < its.length
  · have hv : chkPt ⟨2, n, its, set, clr, to, l⟩ = 2 := by rw [chkPt2, if_pos hbad]
    rw [hv]
    rcases hbad with rfl | h80
    · go_enter Try.func95, Try.ntmps95
      go_wp2
      go_ret
      exact ⟨rfl, bal (bal (brf _) _) _⟩
    · have hz : ((its.length : Int) == 0) = false := by simp; intro e; subst e; simp at h80
      have hz2 : decide ((80 : Int) < its.length) = true := by simp; omega
      go_enter Try.func95, Try.ntmps95
      go_wp2
      go_ret
      exact ⟨rfl, bal (bal (brf _) _) _⟩
  · have hz : ((its.length : Int) == 0) = false := by simp; intro e; simp [e] at hbad
    have hz2 : decide ((80 : Int) < its.length) = false := by simp; omega
    rw [chkPt2, if_neg hbad]
    clear hbad
    go_enter Try.func95, Try.ntmps95
    go_wp2_with fail
    refine (items_any F _ its _ (H.out.to (Kp.below (bal (bal (brf _) _) _)))).mono ?_
    rintro e w1 ⟨rfl, hb⟩
    have hB1 : Below w.heap.size w w1 := (bal (bal (brf _) _) _).trans (hb.mono (by simp; omega))
    obtain ⟨a0, a1, a2, a3, a4, a5, a6⟩ : P7 w1 w.heap.size (.int .i64 2) (.int .i64 n) (.slice a its.length cap) (.int .i64 set) (.int .i64 clr) (.bool to) (str l) := by
      refine ⟨?_, ?_, ?_, ?_, ?_, ?_, ?_⟩ <;> (rw [hb.cell (by first | (simp; done) | (simp; omega))]; simp)
    obtain ⟨b0, b1, b2, b3, b4, b5, b6⟩ : P7 w1 (w.heap.size + 1) (.int .i64 2) (.int .i64 0) (.slice none 0 0) (.int .i64 0) (.int .i64 0) (.bool false) (str []) := by
      refine ⟨?_, ?_, ?_, ?_, ?_, ?_, ?_⟩ <;> (rw [hb.cell (by first | (simp; done) | (simp; omega))]; simp)
    clear hb
    go_wp2
    all_goals
      go_ret
      go_light
      refine ⟨congrArg (fun n => Ending.returned (Value.int IntKind.i64 n)) ?_, hB1⟩
      clear H a0 a1 a2 a3 a4 a5 a6 b0 b1 b2 b3 b4 b5 b6
      first | (simp_all; done) | grind

theorem part_any (F : Nat → Prop) (sv : Value) (p : Pt) (w : World) (h : RItems F w sv p.its) :
    Calls Try.prog 95 #[pv p sv] w fun e w' => e = .returned (.int .i64 (chkPt p)) ∧ Below w.heap.size w w' := by
  obtain ⟨k, n, its, set, clr, to, l⟩ := p
  by_cases h1 : k = 1
  · subst h1; exact part_keep F sv n its set clr to l w h
  by_cases h2 : k = 2
  · subst h2; exact part_put F sv n its set clr to l w h
  by_cases h3 : k = 3
  · subst h3; exact part_cut F sv n its set clr to l w h
  exact part_other F sv k n its set clr to l w h h1 h2 h3
end Go.Proofs.Ytgodceplajkcdaa
