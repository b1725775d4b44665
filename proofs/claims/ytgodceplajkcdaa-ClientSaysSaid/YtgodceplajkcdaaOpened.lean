/- The closed fact 'opened' of the laws on operations. -/
import Derived.Test.YtgodceplajkcdaaKept
import Derived.Test.YtgodceplajkcdaaOpTidy
import Derived.Test.YtgodceplajkcdaaOpApply
namespace Go.Mh
open Go.RowKit

theorem ROp.lit {F : Nat → Prop} {w : World} {g n cap : Nat} {L : List Pt} {xs : Array Value} {e : TypeId} {fr : Nat × Nat} (hg : w.heap[g]? = some (.cells xs e fr)) (hn : n = L.length) (hc : n ≤ cap) (hm : cap ≤ maxLen) (hF : F g)
    (hx : ∀ i x, L[i]? = some x → ∃ sv, RItems F w sv x.its ∧ xs[i * 7]? = some (.int .i64 x.k) ∧ xs[i * 7 + 1]? = some (.int .i64 x.n) ∧ xs[i * 7 + 2]? = some sv ∧ xs[i * 7 + 3]? = some (.int .i64 x.set) ∧ xs[i * 7 + 4]? = some (.int .i64 x.clr) ∧ xs[i * 7 + 5]? = some (.bool x.to) ∧ xs[i * 7 + 6]? = some (str x.l)) : ROp F w (.slice (some ⟨g, 0, none⟩) n cap) L := by
  subst hn
  refine ⟨_, cap, rfl, hc, hm, fun h => by simp at h, fun i x hi => ?_⟩
  obtain ⟨sv, hs, a0, a1, a2, a3, a4, a5, a6⟩ := hx i x hi
  refine ⟨g, 0, [.int .i64 x.k, .int .i64 x.n, sv, .int .i64 x.set, .int .i64 x.clr, .bool x.to, str x.l], rfl, hF, rfl, fun j u hj => ?_, sv, rfl, hs⟩
  unfold World.cell?
  rw [hg]
  match j, hj with
  | 0, hj => simp at hj; subst hj; simpa using a0
  | 1, hj => simp at hj; subst hj; simpa using a1
  | 2, hj => simp at hj; subst hj; simpa using a2
  | 3, hj => simp at hj; subst hj; simpa using a3
  | 4, hj => simp at hj; subst hj; simpa using a4
  | 5, hj => simp at hj; subst hj; simpa using a5
  | 6, hj => simp at hj; subst hj; simpa using a6

def exOp : List Pt := [⟨1, 1, [], 2, 1, true, [104, 116, 116, 112, 58, 120]⟩, ⟨3, 1, [], 0, 0, false, []⟩, ⟨2, 0, [⟨122, 0, []⟩], 0, 0, false, []⟩, ⟨1, 3, [], 0, 0, false, []⟩]
end Go.Mh
namespace Go.Proofs.Ytgodceplajkcdaa
open Go.RowKit Go.Mh

theorem ex_apply : (applyP smallL exOp).2 = 0 := by decide +kernel
theorem ex_apply0 : ((applyP smallL exOp).1)[0]? = some ⟨97, 2, [104, 116, 116, 112, 58, 120]⟩ := by decide +kernel
theorem ex_apply1 : (((applyP smallL exOp).1)[1]?).map It.c = some 122 := by decide +kernel
theorem ex_len : (applyP smallL exOp).1.length = 5 := by decide +kernel
theorem ex_tidy : (tidyP exOp).2 = 0 := by decide +kernel
theorem ex_tidyl : (tidyP exOp).1.length = 4 := by decide +kernel
theorem ex_tidy1 : (((tidyP exOp).1)[1]?).map Pt.k = some 2 := by decide +kernel
theorem ex_long : longs 0 0 exOp = (5, 5) := by decide +kernel

set_option maxRecDepth 100000 in
set_option maxHeartbeats 2000000 in
theorem opened_any (w : World) :
    Calls Try.prog 39 #[] w fun e w' => e = .returned (.bool true) ∧ Below w.heap.size w w' := by
  go_enter Try.func39, Try.ntmps39
  go_wp2_with fail
  generalize hwp : World.alloc _ _ = wp
  have hop : Hid (ROp (w.heap.size ≤ ·) wp (.slice (some ⟨w.heap.size + 1, 0, none⟩) 4 4) exOp) := Lib.hid (by
    subst hwp
    have hg := heap_new (w.alloc (.cells #[.int .u8 122, .int .i64 0, .string ⟨#[]⟩] 42)) (.cells #[.int .i64 1, .int .i64 1, .slice none 0 0, .int .i64 2, .int .i64 1, .bool true, .string ⟨#[104, 116, 116, 112, 58, 120]⟩, .int .i64 3, .int .i64 1, .slice none 0 0, .int .i64 0, .int .i64 0, .bool false, .string ⟨#[]⟩, .int .i64 2, .int .i64 0, .slice (some ⟨w.heap.size, 0, none⟩) 1 1, .int .i64 0, .int .i64 0, .bool false, .string ⟨#[]⟩, .int .i64 1, .int .i64 3, .slice none 0 0, .int .i64 0, .int .i64 0, .bool false, .string ⟨#[]⟩] 57)
    have hz : (w.alloc (.cells #[.int .u8 122, .int .i64 0, .string ⟨#[]⟩] 42)).heap.size = w.heap.size + 1 := by simp
    rw [hz] at hg
    refine ROp.lit hg rfl (by decide) (by decide) (Nat.le_succ _) (fun i x hi => ?_)
    match i, hi with
    | 0, hi => simp [exOp] at hi; subst hi; exact ⟨_, RdS.nil, rfl, rfl, rfl, rfl, rfl, rfl, rfl⟩
    | 1, hi => simp [exOp] at hi; subst hi; exact ⟨_, RdS.nil, rfl, rfl, rfl, rfl, rfl, rfl, rfl⟩
    | 2, hi =>
      simp [exOp] at hi; subst hi
      refine ⟨_, ?_, rfl, rfl, rfl, rfl, rfl, rfl, rfl⟩
      refine RItems.lit (((bal (brf _) _).block _ (by simp)).trans (heap_new w _)) rfl (by decide) (by decide) (Nat.le_refl _) (fun i x hi => ?_)
      match i, hi with
      | 0, hi => simp at hi; subst hi; exact ⟨rfl, rfl, rfl⟩
      | n + 1, hi => simp at hi
    | 3, hi => simp [exOp] at hi; subst hi; exact ⟨_, RdS.nil, rfl, rfl, rfl, rfl, rfl, rfl, rfl⟩
    | n + 4, hi => simp [exOp] at hi)
  have hb0 : Below w.heap.size w wp := by subst hwp; exact (bal (brf w) _).alloc (by simp) _
  clear hwp
  refine (small_any wp).mono ?_
  rintro e w1 ⟨v1, rfl, hr1, hb1⟩
  have hB1 := hb0.trans (hb1.mono hb0.size)
  have hop1 := Lib.hid (ROp.to hop.out (Kp.below hb1))
  have C1 := Lib.hid (opApply_any _ _ v1 _ smallL exOp w1 hr1 hop1.out)
  rw [ex_apply] at C1
  clear hr1
  go_wp2_with fail
  refine C1.out.mono ?_
  rintro e w2 ⟨r2, rfl, hr2, hb2⟩
  have hB2 := hB1.trans (hb2.mono hB1.size)
  have hop2 := Lib.hid (ROp.to hop1.out (Kp.below hb2))
  have C2 := Lib.hid (opTidy_any _ _ exOp w2 hop2.out)
  rw [ex_tidy] at C2
  have hr2' := Lib.hid hr2
  clear hr2 C1
  go_wp2_with fail
  refine C2.out.mono ?_
  rintro e w3 ⟨r3, rfl, hr3, hb3⟩
  have hB3 := hB2.trans (hb3.mono hB2.size)
  have hop3 := Lib.hid (ROp.to hop2.out (Kp.below hb3))
  have C3 := Lib.hid (opLong_any _ _ exOp w3 hop3.out)
  rw [ex_long] at C3
  have hr3' := Lib.hid hr3.readT
  clear hr3 C2
  go_wp2_with fail
  refine C3.out.mono ?_
  rintro e w4 ⟨rfl, hb4⟩
  have hB4 := hB3.trans (hb4.mono hB3.size)
  obtain ⟨a2, c2, rfl, _⟩ := RdS.len hr2'.out
  obtain ⟨a3, c3, rfl, _⟩ := RdS.len hr3'.out
  rw [ex_len, ex_tidyl]
  obtain ⟨y, hy, hyc⟩ : ∃ y, ((applyP smallL exOp).1)[1]? = some y ∧ y.c = 122 := by
    have h := ex_apply1
    cases hq : ((applyP smallL exOp).1)[1]? with
    | none => rw [hq] at h; simp at h
    | some y => rw [hq] at h; simp at h; exact ⟨y, rfl, h⟩
  obtain ⟨z, hz, hzk⟩ : ∃ z, ((tidyP exOp).1)[1]? = some z ∧ z.k = 2 := by
    have h := ex_tidy1
    cases hq : ((tidyP exOp).1)[1]? with
    | none => rw [hq] at h; simp at h
    | some z => rw [hq] at h; simp at h; exact ⟨z, rfl, h⟩
  have hb24 : Below w2.heap.size w2 w4 := hb3.trans (hb4.mono hb3.size)
  obtain ⟨b0, o0, e0, x0, x1, x2⟩ := RItems.at hr2'.out hb24 ex_apply0
  cases e0
  obtain ⟨b1, o1, e1, y0, y1, y2⟩ := RItems.at hr2'.out hb24 hy
  cases e1
  obtain ⟨b3, o3, sv, e3, _, z0, z1, z2, z3, z4, z5, z6⟩ := ROp.at hr3'.out hb4 hz
  cases e3
  rw [hyc] at y0
  rw [hzk] at z0
  simp only [Nat.zero_mul, Nat.add_zero, Nat.one_mul] at x0 x1 x2 y0 y1 y2 z0
  have hq1 := fun w' => eqlItem ⟨97, 2, [104, 116, 116, 112, 58, 120]⟩ ⟨97, 2, [104, 116, 116, 112, 58, 120]⟩ w'
  simp only [decide_true] at hq1
  clear hr2' hr3' C3 hop hop1 hop2 hop3 hy hyc hz hzk y1 y2 z1 z2 z3 z4 z5 z6
  go_wp2
  go_ret
  exact ⟨rfl, hB4⟩
end Go.Proofs.Ytgodceplajkcdaa
