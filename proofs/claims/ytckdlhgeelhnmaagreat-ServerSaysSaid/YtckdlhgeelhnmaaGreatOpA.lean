/- Package op: an item marked, parts that are alike, how long an operation is. -/
import Derived.Test.YtckdlhgeelhnmaaGreatClone
import Derived.BigRegion
import Derived.RegionTactic
import Derived.ChangeAlike
namespace Go.Proofs.YtckdlhgeelhnmaaGreat
open Go.RowKit Go.Mh

set_option maxRecDepth 100000 in
set_option maxHeartbeats 1000000 in
theorem opMark_any (x : It) (p : Pt) (sv : Value) (w : World) :
    Calls Tryz.prog 117 #[iv x, pv p sv] w fun e w' => e = .returned (iv (markI x p.kd)) ∧ Below w.heap.size w w' := by
  obtain ⟨c, m, l⟩ := x
  obtain ⟨k, n, its, set, clr, to, pl⟩ := p
  cases to with
  | false =>
    go_enter Tryz.func117, Tryz.ntmps117
    go_wp2
    exact bodyPost_ret (v := iv ⟨c, bor (bnot m clr) set, l⟩) (by simp [results, Tryz.results117, go_sem]) rfl ⟨rfl, bal (bal (bal (brf _) _) _) _⟩
  | true =>
    by_cases hc : (c.toNat : Int) = 10
    · have hcb : ((c.toNat : Int) != 10) = false := by simpa using hc
      have hc' := Lib.hid hc; clear hc
      go_enter Tryz.func117, Tryz.ntmps117
      go_wp2
      exact bodyPost_ret (v := iv ⟨c, bor (bnot m clr) set, l⟩) (by simp [results, Tryz.results117, go_sem]) rfl ⟨congrArg (fun x => Ending.returned (iv x)) (by simp [markI, Pt.kd, hc'.out]), bal (bal (bal (brf _) _) _) _⟩
    · have hcb : ((c.toNat : Int) != 10) = true := by simpa using hc
      have hc' := Lib.hid hc; clear hc
      go_enter Tryz.func117, Tryz.ntmps117
      go_wp2
      exact bodyPost_ret (v := iv ⟨c, bor (bnot m clr) set, pl⟩) (by simp [results, Tryz.results117, go_sem]) rfl ⟨congrArg (fun x => Ending.returned (iv x)) (by simp [markI, Pt.kd, hc'.out]), bal (bal (bal (brf _) _) _) _⟩

set_option maxRecDepth 100000 in
set_option maxHeartbeats 1000000 in
theorem alike_any (p q : Pt) (sv tv : Value) (w : World) :
    Calls Tryz.prog 91 #[pv p sv, pv q tv] w fun e w' => e = .returned (.bool (alikeP p q)) ∧ Below w.heap.size w w' := by
  obtain ⟨k, n, its, set, clr, to, l⟩ := p
  obtain ⟨k', n', its', set', clr', to', l'⟩ := q
  go_enter Tryz.func91, Tryz.ntmps91
  go_wp2
  all_goals
    go_ret
    exact ⟨by simp_all [alikeP], bal (bal (brf _) _) _⟩
end Go.Proofs.YtckdlhgeelhnmaaGreat
