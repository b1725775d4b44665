/- The closed fact 'opened' of the laws on operations. -/
import Derived.Test.YtckdlhgeelhnmaaGreatKept
import Derived.Test.YtckdlhgeelhnmaaGreatOpTidy
import Derived.Test.YtckdlhgeelhnmaaGreatOpApply
namespace Go.Mh
open Go.RowKit

theorem ROp.lit {F : Nat → Prop} {w : World} {g n cap : Nat} {L : List Pt} {xs : Array Value} {e : TypeId} {fr : Nat × Nat} (hg : w.heap[g]? = some (.cells xs e fr)) (hn : n = L.length) (hc : n ≤ cap) (hm : cap ≤ maxLen) (hF : F g)
    (hx : ∀ i x, L[i]? = some x → ∃ sv, RItems F w sv x.its ∧ xs[i * 7]? = some (.int .i64 x.k) ∧ xs[i * 7 + 1]? = some (.int .i64 x.n) ∧ xs[i * 7 + 2]? = some sv ∧ xs[i * 7 + 3]? = some (.int .i64 x.set) ∧ xs[i * 7 + 4]? = some (.int .i64 x.clr) ∧ xs[i * 7 + 5]? = some (.bool x.to) ∧ xs[i * 7 + 6]? = some (str x.l)) : ROp F w (.slice (some ⟨g, 0, none⟩) n cap) L := by
  subst hn
  refine ⟨_, cap, rfl, hc, hm, fun h => by simp at h, fun i x hi => ?_⟩
  obtain ⟨sv, hs, a0, a1, a2, a3, a4, a5, a6⟩ := hx i x hi
  refine ⟨g, 0, [.int .i64 x.k, .int .i64 x.n, sv, .int .i64 x.set, .int .i64 x.clr, .bool x.to, str x.l], rfl, hF, rfl, fun j u hj => ?_, sv, rfl, hs⟩
  unfold World.cell?
  rw [hg]
  match j, hj with
  | 0, hj => simp at hj; subst hj; simpa using a0
  | 1, hj => simp at hj; subst hj; simpa using a1
  | 2, hj => simp at hj; subst hj; simpa using a2
  | 3, hj => simp at hj; subst hj; simpa using a3
  | 4, hj => simp at hj; subst hj; simpa using a4
  | 5, hj => simp at hj; subst hj; simpa using a5
  | 6, hj => simp at hj; subst hj; simpa using a6

def exOp : List Pt := [⟨1, 1, [], 2, 1, true, [104, 116, 116, 112, 58, 120]⟩, ⟨3, 1, [], 0, 0, false, []⟩, ⟨2, 0, [⟨122, 0, []⟩], 0, 0, false, []⟩, ⟨1, 3, [], 0, 0, false, []⟩]
end Go.Mh
namespace Go.Proofs.YtckdlhgeelhnmaaGreat
open Go.RowKit Go.Mh

theorem ex_apply : (applyP smallL exOp).2 = 0 := by decide +kernel
theorem ex_apply0 : ((applyP smallL exOp).1)[0]? = some ⟨97, 2, [104, 116, 116, 112, 58, 120]⟩ := by decide +kernel
theorem ex_apply1 : (((applyP smallL exOp).1)[1]?).map It.c = some 122 := by decide +kernel
theorem ex_len : (applyP smallL exOp).1.length = 5 := by decide +kernel
theorem ex_tidy : (tidyP exOp).2 = 0 := by decide +kernel
theorem ex_tidyl : (tidyP exOp).1.length = 4 := by decide +kernel
theorem ex_tidy1 : (((tidyP exOp).1)[1]?).map Pt.k = some 2 := by decide +kernel
theorem ex_long : longs 0 0 exOp = (5, 5) := by decide +kernel

end Go.Proofs.YtckdlhgeelhnmaaGreat
