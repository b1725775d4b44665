/- The law OtSays, walked (the closed fact turned ahead of it). -/
import Derived.Test.YtgodceplajkcdaaOpened
import Derived.Test.YtgodceplajkcdaaOtTurn
import Derived.Test.YtgodceplajkcdaaOtJoin
import Derived.Test.YtgodceplajkcdaaRefJ
import Derived.Test.YtgodceplajkcdaaRefM

namespace Go.Mh
open Go.RowKit
def puOp (c : UInt8) : List Pt := [⟨1, 1, [], 0, 0, false, []⟩, ⟨2, 0, [⟨c, 0, []⟩], 0, 0, false, []⟩, ⟨1, 4, [], 0, 0, false, []⟩]
end Go.Mh
namespace Go.Proofs.Ytgodceplajkcdaa
open Go.RowKit Go.Mh

theorem pu_turn : (turnP (puOp 120) (puOp 121)).2.2 = 0 := by decide +kernel
theorem pu_len : (turnP (puOp 120) (puOp 121)).1.length = 3 := by decide +kernel
theorem pu_x2 : (((turnP (puOp 120) (puOp 121)).1)[2]?).map Pt.n = some 5 := by decide +kernel
theorem pu_ylen : (turnP (puOp 120) (puOp 121)).2.1.length = 3 := by decide +kernel
theorem pu_y0 : (((turnP (puOp 120) (puOp 121)).2.1)[0]?).map Pt.n = some 2 := by decide +kernel
theorem pu_join : (joinP (puOp 120) (turnP (puOp 120) (puOp 121)).2.1).2 = 0 := by decide +kernel
theorem pu_apply : (applyP smallL (joinP (puOp 120) (turnP (puOp 120) (puOp 121)).2.1).1).2 = 0 := by decide +kernel
theorem pu_alen : (applyP smallL (joinP (puOp 120) (turnP (puOp 120) (puOp 121)).2.1).1).1.length = 7 := by decide +kernel
theorem pu_d1 : (((applyP smallL (joinP (puOp 120) (turnP (puOp 120) (puOp 121)).2.1).1).1)[1]?).map It.c = some 120 := by decide +kernel
theorem pu_d2 : (((applyP smallL (joinP (puOp 120) (turnP (puOp 120) (puOp 121)).2.1).1).1)[2]?).map It.c = some 121 := by decide +kernel

set_option maxRecDepth 100000 in
set_option maxHeartbeats 2000000 in
theorem put1_any (c : UInt8) (w : World) :
    Calls Try.prog 98 #[.int .u8 c.toNat] w fun e w' => ∃ r, e = .returned r ∧ ROp (w.heap.size ≤ ·) w' r (puOp c) ∧ Below w.heap.size w w' := by
  go_enter Try.func98, Try.ntmps98
  go_wp2
  go_ret
  refine ⟨_, rfl, ?_, (bal (brf w) _).alloc (by simp) _⟩
  have hg := heap_new (w.alloc (.cells #[.int .u8 c.toNat, .int .i64 0, .string ⟨#[]⟩] 42)) (.cells #[.int .i64 1, .int .i64 1, .slice none 0 0, .int .i64 0, .int .i64 0, .bool false, .string ⟨#[]⟩, .int .i64 2, .int .i64 0, .slice (some ⟨w.heap.size, 0, none⟩) 1 1, .int .i64 0, .int .i64 0, .bool false, .string ⟨#[]⟩, .int .i64 1, .int .i64 4, .slice none 0 0, .int .i64 0, .int .i64 0, .bool false, .string ⟨#[]⟩] 57)
  have hz : (w.alloc (.cells #[.int .u8 c.toNat, .int .i64 0, .string ⟨#[]⟩] 42)).heap.size = w.heap.size + 1 := by simp
  rw [hz] at hg
  refine ROp.lit hg rfl (by decide) (by decide) (Nat.le_succ _) (fun i x hi => ?_)
  match i, hi with
  | 0, hi => simp [puOp] at hi; subst hi; exact ⟨_, RdS.nil, rfl, rfl, rfl, rfl, rfl, rfl, rfl⟩
  | 1, hi =>
    simp [puOp] at hi; subst hi
    refine ⟨_, ?_, rfl, rfl, rfl, rfl, rfl, rfl, rfl⟩
    refine RItems.lit (((bal (brf _) _).block _ (by simp)).trans (heap_new w _)) rfl (by decide) (by decide) (Nat.le_refl _) (fun i x hi => ?_)
    match i, hi with
    | 0, hi => simp at hi; subst hi; exact ⟨rfl, rfl, rfl⟩
    | n + 1, hi => simp at hi
  | 2, hi => simp [puOp] at hi; subst hi; exact ⟨_, RdS.nil, rfl, rfl, rfl, rfl, rfl, rfl, rfl⟩
  | n + 3, hi => simp [puOp] at hi

theorem get_map {α β : Type} {l : List α} {f : α → β} {i : Nat} {y : β} (h : (l[i]?).map f = some y) : ∃ x, l[i]? = some x ∧ f x = y := by
  cases hq : l[i]? with
  | none => rw [hq] at h; simp at h
  | some x => rw [hq] at h; simp at h; exact ⟨x, rfl, h⟩

set_option maxRecDepth 100000 in
set_option maxHeartbeats 4000000 in
theorem turned_any (w : World) :
    Calls Try.prog 49 #[] w fun e w' => e = .returned (.bool true) ∧ Below w.heap.size w w' := by
  go_enter Try.func49, Try.ntmps49
  go_wp2_with fail
  refine (put1_any 120 w).mono ?_
  rintro e w1 ⟨r1, rfl, hr1, hb1⟩
  have h1 := Lib.hid hr1
  clear hr1
  go_wp2_with fail
  refine (put1_any 121 w1).mono ?_
  rintro e w2 ⟨r2, rfl, hr2, hb2⟩
  have hB2 := hb1.trans (hb2.mono hb1.size)
  have h12 := Lib.hid (ROp.to h1.out (Kp.below hb2))
  have h2 := Lib.hid hr2
  clear hr2 hb2 h1
  have C1 := Lib.hid (otTurn_any _ _ r1 r2 (puOp 120) (puOp 121) w2 h12.out h2.out)
  rw [pu_turn] at C1
  go_wp2_with fail
  refine C1.out.mono ?_
  rintro e w3 ⟨x3, y3, rfl, hx3, hy3, hb3⟩
  obtain ⟨xa, xc, rfl, _⟩ := RdS.len hx3
  obtain ⟨ya, yc, rfl, _⟩ := RdS.len hy3
  have hB3 := hB2.trans (hb3.mono hB2.size)
  have hX := Lib.hid hx3
  have hY := Lib.hid hy3
  clear hx3 hy3 hb3 C1 h12 h2
  rw [pu_len, pu_ylen]
  go_wp2_with fail
  refine (put1_any 120 w3).mono ?_
  rintro e w4 ⟨r4, rfl, hr4, hb4⟩
  have hB4 := hB3.trans (hb4.mono hB3.size)
  have hY4 := Lib.hid (ROp.to hY.out (Kp.below hb4))
  have C2 := Lib.hid (otJoin_any _ _ r4 _ (puOp 120) _ w4 hr4 hY4.out)
  rw [pu_join, pu_ylen] at C2
  have e4 : Below w3.heap.size w3 w4 := hb4
  clear hr4 hb4
  go_wp2_with fail
  refine C2.out.mono ?_
  rintro e w5 ⟨r5, rfl, hr5, hb5⟩
  have hB5 := hB4.trans (hb5.mono hB4.size)
  have e5 : Below w3.heap.size w3 w5 := e4.trans (hb5.mono e4.size)
  have h5 := Lib.hid hr5
  clear hr5 hb5 C2 e4
  go_wp2_with fail
  refine (small_any w5).mono ?_
  rintro e w6 ⟨v6, rfl, hr6, hb6⟩
  have hB6 := hB5.trans (hb6.mono hB5.size)
  have e6 : Below w3.heap.size w3 w6 := e5.trans (hb6.mono e5.size)
  have C3 := Lib.hid (opApply_any _ _ v6 _ smallL _ w6 hr6 (ROp.to h5.out (Kp.below hb6)))
  rw [pu_apply] at C3
  clear hr6 hb6 h5
  go_wp2_with fail
  refine C3.out.mono ?_
  rintro e w7 ⟨r7, rfl, hr7, hb7⟩
  have hB7 := hB6.trans (hb7.mono hB6.size)
  have e7 : Below w3.heap.size w3 w7 := e6.trans (hb7.mono e6.size)
  obtain ⟨a7, c7, rfl, _⟩ := RdS.len hr7
  obtain ⟨p2, hp2, hn2⟩ := get_map pu_x2
  obtain ⟨q0, hq0, hn0⟩ := get_map pu_y0
  obtain ⟨i1, hi1, hc1⟩ := get_map pu_d1
  obtain ⟨i2, hi2, hc2⟩ := get_map pu_d2
  obtain ⟨bx, ox, sx, ex, _, x0, x1, x2, x3, x4, x5, x6⟩ := ROp.at hX.out e7 hp2
  obtain ⟨by', oy, sy, ey, _, y0, y1, y2, y3, y4, y5, y6⟩ := ROp.at hY.out e7 hq0
  obtain ⟨bd, od, ed, z0, _, _⟩ := RItems.at hr7 (brf _) hi1
  obtain ⟨bd', od', ed', t0, _, _⟩ := RItems.at hr7 (brf _) hi2
  subst ex ey ed
  cases ed'
  rw [hn2] at x1
  rw [hn0] at y1
  rw [hc1] at z0
  rw [hc2] at t0
  rw [pu_alen]
  simp only [Nat.zero_mul, Nat.add_zero, Nat.one_mul] at x1 y1 z0 t0
  clear hX hY hY4 hr7 C3 hp2 hq0 hi1 hi2 hn2 hn0 hc1 hc2 x0 x2 x3 x4 x5 x6 y0 y2 y3 y4 y5 y6 hB2 hB3 hB4 hB5 hB6 e5 e6 e7 hb1 hb7
  go_wp2
  go_ret
  exact ⟨rfl, hB7⟩
end Go.Proofs.Ytgodceplajkcdaa

namespace Go.Proofs.Ytgodceplajkcdaa
open Go.RowKit Go.Mh

set_option maxRecDepth 100000 in
set_option maxHeartbeats 8000000 in
theorem otSays_walk (F G : Nat → Prop) (v u : Value) (a b : List Pt) (w : World) (h : ROp F w v a) (g : ROp G w u b) :
    Calls Try.prog 15 #[v, u] w fun e w' => e = .returned (.bool true) ∧ Below w.heap.size w w' := by
  have HA := Lib.hid (fun w' (hb : Below w.heap.size w w') => ROp.to h (Kp.below hb))
  have HB := Lib.hid (fun w' (hb : Below w.heap.size w w') => ROp.to g (Kp.below hb))
  obtain ⟨va, vc, rfl, _⟩ := RdS.len h
  obtain ⟨ua, uc, rfl, _⟩ := RdS.len g
  clear h g
  obtain ⟨⟨T1, T2, T3⟩, hT⟩ : ∃ q, turnP a b = q := ⟨_, rfl⟩
  obtain ⟨⟨J1, J2⟩, hJ⟩ : ∃ q, joinP a b = q := ⟨_, rfl⟩
  have hB0 : Below w.heap.size w w := brf w
  have C1 := Lib.hid (otTurn_any F G _ _ a b w (HA.out w hB0) (HB.out w hB0))
  have C2 := Lib.hid (fun w' hb => otJoin_any F G _ _ a b w' (HA.out w' hb) (HB.out w' hb))
  have C3 := Lib.hid (fun w' hb => refTurned_any F G _ _ a b w' (HA.out w' hb) (HB.out w' hb))
  have C4 := Lib.hid (fun w' hb => refJoined_any F G _ _ a b w' (HA.out w' hb) (HB.out w' hb))
  simp only [hT, hJ] at C1 C2 C3 C4
  clear hT hJ
  have b1 : (T3 == T3) = true := by simp
  have b2 : (J2 == J2) = true := by simp
  go_enter Try.func15, Try.ntmps15
  go_wp2_with fail
  refine C1.out.mono ?_
  rintro e w1 ⟨r1, s1, rfl, hr1, hs1, hb1⟩
  have hr1' : ROp (fun _ => True) w1 r1 T1 := ROp.to hr1 (Kp.weak w1 fun _ _ => trivial)
  have hs1' : ROp (fun _ => True) w1 s1 T2 := ROp.to hs1 (Kp.weak w1 fun _ _ => trivial)
  obtain ⟨a1, c1, rfl, _⟩ := RdS.len hr1'
  obtain ⟨a2, c2, rfl, _⟩ := RdS.len hs1'
  have H1 := Lib.hid (fun w' (hb : Below w1.heap.size w1 w') => ROp.to hr1' (Kp.below hb))
  have H2 := Lib.hid (fun w' (hb : Below w1.heap.size w1 w') => ROp.to hs1' (Kp.below hb))
  clear hr1 hs1 hr1' hs1' C1
  go_wp2_with fail
  refine (C2.out w1 hb1).mono ?_
  rintro e w2 ⟨r2, rfl, hr2, hb2⟩
  have hr2' : ROp (fun _ => True) w2 r2 J1 := ROp.to hr2 (Kp.weak w2 fun _ _ => trivial)
  obtain ⟨a3, c3, rfl, _⟩ := RdS.len hr2'
  have hB2 := btr hb1 hb2
  have H3 := Lib.hid (fun w' (hb : Below w2.heap.size w2 w') => ROp.to hr2' (Kp.below hb))
  clear hr2 hr2' C2
  go_wp2_with fail
  refine (C3.out w2 hB2).mono ?_
  rintro e w3 ⟨r3, s3, rfl, hr3, hs3, hb3⟩
  obtain ⟨a4, c4, rfl, _⟩ := RdS.len hr3
  obtain ⟨a5, c5, rfl, _⟩ := RdS.len hs3
  have hB3 := btr hB2 hb3
  have hb13 := btr hb2 hb3
  have H4 := Lib.hid (fun w' (hb : Below w3.heap.size w3 w') => ROp.to hr3 (Kp.below hb))
  have H5 := Lib.hid (fun w' (hb : Below w3.heap.size w3 w') => ROp.to hs3 (Kp.below hb))
  clear hr3 hs3 C3
  go_wp2_with fail
  refine (C4.out w3 hB3).mono ?_
  rintro e w4 ⟨r4, rfl, hr4, hb4⟩
  obtain ⟨a6, c6, rfl, _⟩ := RdS.len hr4
  have hB4 := btr hB3 hb4
  have hb14 := btr hb13 hb4
  have hb24 := btr hb3 hb4
  have H6 := Lib.hid (fun w' (hb : Below w4.heap.size w4 w') => ROp.to hr4 (Kp.below hb))
  clear hr4 C4
  go_wp2_with fail
  refine (turned_any w4).mono ?_
  rintro e w5 ⟨rfl, hb5⟩
  have hB5 := btr hB4 hb5
  have C5 := Lib.hid (refSame_any _ _ _ _ T1 T1 w5 (H1.out w5 (btr hb14 hb5)) (H4.out w5 (btr hb4 hb5)))
  rw [decide_eq_true rfl] at C5
  go_wp2_with fail
  refine C5.out.mono ?_
  rintro e w6 ⟨rfl, hb6⟩
  have hB6 := btr hB5 hb6
  have hb46 := btr hb5 hb6
  have C6 := Lib.hid (refSame_any _ _ _ _ T2 T2 w6 (H2.out w6 (btr hb14 hb46)) (H5.out w6 (btr hb4 hb46)))
  rw [decide_eq_true rfl] at C6
  clear C5 H1 H4
  go_wp2_with fail
  refine C6.out.mono ?_
  rintro e w7 ⟨rfl, hb7⟩
  have hB7 := btr hB6 hb7
  have hb47 := btr hb46 hb7
  have C7 := Lib.hid (refSame_any _ _ _ _ J1 J1 w7 (H3.out w7 (btr hb24 hb47)) (H6.out w7 hb47))
  rw [decide_eq_true rfl] at C7
  clear C6 H2 H5
  go_wp2_with fail
  refine C7.out.mono ?_
  rintro e w8 ⟨rfl, hb8⟩
  go_wp2
  go_ret
  exact ⟨rfl, btr hB7 hb8⟩
end Go.Proofs.Ytgodceplajkcdaa
