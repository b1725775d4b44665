/- Package op: part, of a part that keeps. -/
import Derived.Test.YtgodceplajkcdaaRefD
import Derived.Test.YtgodceplajkcdaaPlO
import Derived.Test.YtgodceplajkcdaaTac
import Derived.Test.YtgodceplajkcdaaMemO
import Derived.BigRegion
import Derived.RegionTactic
import Derived.ChangeAlike
namespace Go.Proofs.Ytgodceplajkcdaa
open Go.RowKit Go.Mh

set_option maxRecDepth 100000 in
set_option maxHeartbeats 2000000 in
theorem part_keep (F : Nat → Prop) (sv : Value) (n : Int) (its : List It) (set clr : Int) (to : Bool) (l : Bs) (w : World) (h : RItems F w sv its) :
    Calls Try.prog 95 #[pv ⟨1, n, its, set, clr, to, l⟩ sv] w fun e w' => e = .returned (.int .i64 (chkPt ⟨1, n, its, set, clr, to, l⟩)) ∧ Below w.heap.size w w' := by
  obtain ⟨a, cap, rfl, hn⟩ := RdS.len h
  have H := Lib.hid h; clear h
  · skip
    go_enter Try.func95, Try.ntmps95
    go_wp2
    go_region
    refine name_world ?_
    intro w3 hW3
    have hB3 : Below w.heap.size w w3 := by rw [← hW3]; exact (bal (bal (brf _) _) _).drew
    have hq0 : P7 w3 w.heap.size (.int .i64 1) (.int .i64 n) (.slice a its.length cap) (.int .i64 set) (.int .i64 clr) (.bool to) (str l) := by rw [← hW3]; refine ⟨?_, ?_, ?_, ?_, ?_, ?_, ?_⟩ <;> simp
    have hq1 : P7 w3 (w.heap.size + 1) (.int .i64 1) (.int .i64 n) (.slice none 0 0) (.int .i64 set) (.int .i64 clr) (.bool to) (str l) := by rw [← hW3]; refine ⟨?_, ?_, ?_, ?_, ?_, ?_, ?_⟩ <;> simp
    clear hW3
    have hp0 := Lib.hid hq0
    have hp1 := Lib.hid hq1
    obtain ⟨a0, a1, a2, a3, a4, a5, a6⟩ := hq0
    obtain ⟨b0, b1, b2, b3, b4, b5, b6⟩ := hq1
    go_wp2_with (go_at_call 82; refine (may_any _ _).mono ?_; rintro e w1 ⟨rfl, hb⟩; obtain ⟨a0, a1, a2, a3, a4, a5, a6⟩ := hp0.out.below hb; obtain ⟨b0, b1, b2, b3, b4, b5, b6⟩ := hp1.out.below hb)
    all_goals
      go_ret
      go_light
      refine ⟨congrArg (fun n => Ending.returned (Value.int IntKind.i64 n)) ?_, ?_⟩
      · rw [chkPt1]
        clear hp0 hp1 H
        clear a0 a1 a2 a3 a4 a5 a6 b0 b1 b2 b3 b4 b5 b6
        first | (simp_all [List.length_pos_iff]; done) | (simp_all [List.length_pos_iff]; omega) | grind
      · first | exact hB3 | exact btr hB3 (by assumption)
end Go.Proofs.Ytgodceplajkcdaa
