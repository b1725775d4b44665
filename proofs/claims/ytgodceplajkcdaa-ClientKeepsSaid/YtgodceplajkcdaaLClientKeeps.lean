/- The law ClientKeeps, walked. -/
import Derived.Test.YtgodceplajkcdaaClH
namespace Go.Proofs.Ytgodceplajkcdaa
open Go.RowKit Go.Mh

set_option maxRecDepth 100000 in
set_option maxHeartbeats 8000000 in
theorem clientKeeps_walk (F G K : Nat → Prop) (v u ov : Value) (c : Cl) (o : List Pt) (who : Int) (m : Msg) (w : World) (h : RCl F w v c) (g : ROp G w u o) (k : ROp K w ov m.e.o) :
    Calls Try.prog 16 #[v, u, .int .i64 who, .agg #[.int .i64 m.rev, .int .i64 m.e.client, .int .i64 m.e.seq, ov]] w fun e w' => e = .returned (.bool true) ∧ Below w.heap.size w w' := by
  obtain ⟨b0, n0, s0, k0, rfl, _⟩ := id h
  obtain ⟨p1, p2, p3, p4, p5, p6, p7, p8, rfl, rfl, rfl, rfl⟩ := rcl_shape h
  obtain ⟨oa, oc, rfl, _⟩ := RdS.len k
  obtain ⟨w0, hw0⟩ : ∃ w0, w0 = (w.alloc (.cells #[.int .i64 c.rev, .slice p1 c.base.length p2, .slice p3 c.now.length p4, .int .i64 c.seq, .slice p5 c.sent.length p6, .slice p7 c.held.length p8, .bool c.joined] 87)).alloc (.cells #[.int .i64 m.rev, .int .i64 m.e.client, .int .i64 m.e.seq, .slice oa m.e.o.length oc] 89) := ⟨_, rfl⟩
  have hb0 : Below w.heap.size w w0 := by rw [hw0]; exact bal (bal (brf w) _) _
  have E0 := Lib.hid (by rw [hw0]; exact heap_at2 rfl : w0.heap[w.heap.size]? = some (.cells #[.int .i64 c.rev, .slice p1 c.base.length p2, .slice p3 c.now.length p4, .int .i64 c.seq, .slice p5 c.sent.length p6, .slice p7 c.held.length p8, .bool c.joined] 87 (0, 0)))
  have M0 := Lib.hid (by rw [hw0]; exact heap_at (by simp) : w0.heap[w.heap.size + 1]? = some (.cells #[.int .i64 m.rev, .int .i64 m.e.client, .int .i64 m.e.seq, .slice oa m.e.o.length oc] 89 (0, 0)))
  have hl0 := lt_of_heap E0.out
  have hl1 := lt_of_heap M0.out
  have HV := Lib.hid (RCl.to h (Kp.below hb0))
  have GV := Lib.hid (ROp.to g (Kp.below hb0))
  have KV := Lib.hid (ROp.to k (Kp.below hb0))
  obtain ⟨_, _, _, _, e0, h1, h2, _, _⟩ := id HV.out
  simp at e0
  obtain ⟨rfl, rfl, rfl, rfl⟩ := e0
  have HB := Lib.hid h1
  have HN := Lib.hid h2
  clear h g k h1 h2
  have hdo : ∃ r, Hid (doC c o = r) := ⟨_, Lib.hid rfl⟩
  obtain ⟨⟨x, sx, ex⟩, hdo⟩ := hdo
  have hhe : ∃ r, Hid (hearC c who m = r) := ⟨_, Lib.hid rfl⟩
  obtain ⟨⟨y, sy, ey⟩, hhe⟩ := hhe
  have CD := Lib.hid (clDo_any F G _ u c o w0 HV.out GV.out)
  rw [hdo.out] at CD
  have CH := Lib.hid (fun (w' : World) (hb : Below w0.heap.size w0 w') => clHear_any F K _ _ c who m w' (RCl.to HV.out (Kp.below hb)) (ROp.to KV.out (Kp.below hb)))
  rw [hhe.out] at CH
  go_enter Try.func16, Try.ntmps16
  go_upto_region 1 with fail
  rw [← hw0]
  clear hw0
  obtain ⟨x0, x1, x2, x3, x4, x5, x6⟩ := P7.of (((brf w0).block _ hl0).trans E0.out)
  obtain ⟨u0, u1, u2, u3⟩ := P4.of (((brf w0).block _ hl1).trans M0.out)
  go_wp2_with fail
  refine CD.out.mono ?_
  rintro e w2 ⟨v2, rfl, hr2, hb2⟩
  obtain ⟨b4, n4, s4, k4, rfl, _⟩ := id hr2
  obtain ⟨q1, q2, q3, q4, q5, q6, q7, q8, rfl, rfl, rfl, rfl⟩ := rcl_shape hr2
  have hr2' := Lib.hid hr2
  clear CD hr2 x0 x1 x2 x3 x4 x5 x6 u0 u1 u2 u3
  go_upto_region 2 with fail
  refine name_world ?_
  intro w3 hW3
  obtain ⟨hA, hbA⟩ := var_store hr2'.out hW3
  have B3 : Below w0.heap.size w0 w3 := hb2.trans (hbA.mono hb2.size)
  have H3 := Lib.hid hA
  clear hW3 hA hbA hr2' hb2
  generalize w2.heap.size = g at *
  go_upto_if 26 with fail
  go_cut [12] (fun s12 wx => s12 = s12 ∧ Below w0.heap.size w0 wx)
  case first =>
    by_cases hex : ex = 0
    · subst hex
      obtain ⟨_, l2, l3, l4, l5, l6, l7⟩ := law_do hdo.out
      have k1 := Lib.hid l3.chk
      have k2 := Lib.hid l2.eq
      have k4 := Lib.hid l4
      have k5 := Lib.hid l5
      have k6 := Lib.hid l6
      obtain ⟨_, _, bx, nx, sx', kx, e0, e1, e2, e3, e4⟩ := id H3.out
      obtain ⟨ba, bc, rfl, _⟩ := RdS.len e1
      obtain ⟨na, nc, rfl, _⟩ := RdS.len e2
      obtain ⟨sa, sc, rfl, _⟩ := RdS.len e3
      obtain ⟨ka, kc, rfl, _⟩ := RdS.len e4
      have X0 := Lib.hid e0
      have X1 := Lib.hid e1
      have X2 := Lib.hid e2
      have XV : Hid (RCl (· ≠ g) w3 (.agg #[.int .i64 x.rev, .slice ba x.base.length bc, .slice na x.now.length nc, .int .i64 x.seq, .slice sa x.sent.length sc, .slice ka x.held.length kc, .bool x.joined]) x) := Lib.hid ⟨_, _, _, _, rfl, e1, e2, e3, e4⟩
      have hlg := lt_of_heap e0
      have C1 := Lib.hid (opApply_any _ _ _ u c.now o w3 (RItems.to HN.out (Kp.below B3)) (ROp.to GV.out (Kp.below B3)))
      rw [k2.out] at C1
      have d9 : (c.rev != c.rev) = false := by simp
      clear l2 l3 l4 l5 l6 l7 e0 e1 e2 e3 e4 hdo
      obtain ⟨x0, x1, x2, x3, x4, x5, x6⟩ := P7.of ((B3.block _ hl0).trans E0.out)
      obtain ⟨u0, u1, u2, u3⟩ := P4.of ((B3.block _ hl1).trans M0.out)
      go_wp2_with fail
      refine C1.out.mono ?_
      rintro e w4 ⟨r4, rfl, hr4, hb4⟩
      have R4 := Lib.hid hr4
      have B4 := B3.trans (hb4.mono B3.size)
      clear x0 x1 x2 x3 x4 x5 x6 u0 u1 u2 u3
      obtain ⟨y0, y1, y2, y3, y4, y5, y6⟩ := P7.of ((hb4.block _ hlg).trans X0.out)
      obtain ⟨x0, x1, x2, x3, x4, x5, x6⟩ := P7.of ((B4.block _ hl0).trans E0.out)
      obtain ⟨u0, u1, u2, u3⟩ := P4.of ((B4.block _ hl1).trans M0.out)
      clear hr4 C1
      go_wp2_with fail
      refine (clCheck_any _ _ x w4 (RCl.to XV.out (Kp.below hb4))).mono ?_
      rintro e w5 ⟨rfl, hb5⟩
      rw [k1.out]
      have B5 := B4.trans (hb5.mono B4.size)
      have b35 : Below w3.heap.size w3 w5 := hb4.trans (hb5.mono hb4.size)
      have S1 := Lib.hid (same_any _ _ r4 _ (doA c.now (acts o)) x.now w5 (RItems.to R4.out (Kp.below hb5)) (RItems.to X2.out (Kp.below b35)))
      rw [decide_eq_true k4.out.symm] at S1
      clear x0 x1 x2 x3 x4 x5 x6 u0 u1 u2 u3
      clear y0 y1 y2 y3 y4 y5 y6
      obtain ⟨y0, y1, y2, y3, y4, y5, y6⟩ := P7.of ((b35.block _ hlg).trans X0.out)
      obtain ⟨x0, x1, x2, x3, x4, x5, x6⟩ := P7.of ((B5.block _ hl0).trans E0.out)
      obtain ⟨u0, u1, u2, u3⟩ := P4.of ((B5.block _ hl1).trans M0.out)
      go_wp2_with fail
      refine S1.out.mono ?_
      rintro e w6 ⟨rfl, hb6⟩
      have B6 := B5.trans (hb6.mono B5.size)
      have b36 : Below w3.heap.size w3 w6 := b35.trans (hb6.mono b35.size)
      have S2 := Lib.hid (same_any _ _ _ _ x.base c.base w6 (RItems.to X1.out (Kp.below b36)) (RItems.to HB.out (Kp.below B6)))
      rw [decide_eq_true k5.out] at S2
      clear x0 x1 x2 x3 x4 x5 x6 u0 u1 u2 u3
      clear y0 y1 y2 y3 y4 y5 y6
      obtain ⟨y0, y1, y2, y3, y4, y5, y6⟩ := P7.of ((b36.block _ hlg).trans X0.out)
      obtain ⟨x0, x1, x2, x3, x4, x5, x6⟩ := P7.of ((B6.block _ hl0).trans E0.out)
      obtain ⟨u0, u1, u2, u3⟩ := P4.of ((B6.block _ hl1).trans M0.out)
      go_wp2_with fail
      refine S2.out.mono ?_
      rintro e w7 ⟨rfl, hb7⟩
      have B7 := B6.trans (hb7.mono B6.size)
      have b37 : Below w3.heap.size w3 w7 := b36.trans (hb7.mono b36.size)
      clear x0 x1 x2 x3 x4 x5 x6 u0 u1 u2 u3
      clear y0 y1 y2 y3 y4 y5 y6
      obtain ⟨y0, y1, y2, y3, y4, y5, y6⟩ := P7.of ((b37.block _ hlg).trans X0.out)
      rw [k6.out] at y0
      obtain ⟨x0, x1, x2, x3, x4, x5, x6⟩ := P7.of ((B7.block _ hl0).trans E0.out)
      obtain ⟨u0, u1, u2, u3⟩ := P4.of ((B7.block _ hl1).trans M0.out)
      go_wp2
      go_meet
      exact ⟨trivial, B7⟩
    · have hex' : (ex == 0) = false := by simpa using hex
      clear hex hdo
      go_wp2
      go_meet
      exact ⟨trivial, B3⟩
  case rest =>
    obtain ⟨_, BC⟩ := hcut
    clear H3 B3 hdo
    have C1 := Lib.hid (CH.out wc BC)
    clear CH
    obtain ⟨x0, x1, x2, x3, x4, x5, x6⟩ := P7.of ((BC.block _ hl0).trans E0.out)
    obtain ⟨u0, u1, u2, u3⟩ := P4.of ((BC.block _ hl1).trans M0.out)
    go_wp2_with fail
    refine C1.out.mono ?_
    rintro e w4 ⟨v4, rfl, hr4, hb4⟩
    have B4 := BC.trans (hb4.mono BC.size)
    obtain ⟨b5, n5, s5, k5, rfl, _⟩ := id hr4
    obtain ⟨r1, r2, r3, r4, r5, r6, r7, r8, rfl, rfl, rfl, rfl⟩ := rcl_shape hr4
    have hr4' := Lib.hid hr4
    clear x0 x1 x2 x3 x4 x5 x6 u0 u1 u2 u3
    clear C1 hr4 hb4
    go_upto_region 7 with fail
    refine name_world ?_
    intro w5 hW5
    obtain ⟨hA, hbA⟩ := var_store hr4'.out hW5
    have B5 := B4.trans (hbA.mono B4.size)
    have H5 := Lib.hid hA
    clear hW5 hA hbA hr4' B4 BC
    generalize w4.heap.size = g' at *
    go_wp2_with fail
    refine (heard_any w5).mono ?_
    rintro e w6 ⟨rfl, hb6⟩
    have B6 := B5.trans (hb6.mono B5.size)
    have H6 := Lib.hid (H5.out.below hb6)
    clear H5 B5 hb6
    by_cases hey : ey = 0
    · subst hey
      obtain ⟨l1, l2, l3, l4, l5, l6, l7⟩ := law_hear hhe.out
      have L1 := Lib.hid l1.chk
      have L6 := Lib.hid l6
      have L7 := Lib.hid l7
      obtain ⟨_, _, by', ny', sy', ky', e0, e1, e2, e3, e4⟩ := id H6.out
      obtain ⟨ba', bc', rfl, _⟩ := RdS.len e1
      obtain ⟨na', nc', rfl, _⟩ := RdS.len e2
      obtain ⟨sa', sc', rfl, _⟩ := RdS.len e3
      obtain ⟨ka', kc', rfl, _⟩ := RdS.len e4
      have Y0 := Lib.hid e0
      have Y1 := Lib.hid e1
      have YV : Hid (RCl (· ≠ g') w6 (.agg #[.int .i64 y.rev, .slice ba' y.base.length bc', .slice na' y.now.length nc', .int .i64 y.seq, .slice sa' y.sent.length sc', .slice ka' y.held.length kc', .bool y.joined]) y) := Lib.hid ⟨_, _, _, _, rfl, e1, e2, e3, e4⟩
      have hlg := lt_of_heap e0
      obtain ⟨y0, y1, y2, y3, y4, y5, y6⟩ := P7.of e0
      have way : sy = false ∨ (sy = true ∧ ((y.sent.length : Int) == 0) = false ∧ (y.seq != c.seq + 1) = false ∧ IntKind.i64.wrap (c.seq + 1) = c.seq + 1) := by
        cases hsy : sy with
        | false => exact Or.inl rfl
        | true =>
          obtain ⟨a1, a2⟩ := l4 hsy
          refine Or.inr ⟨rfl, len0_false a1, by simp [a2], IntWalk.i64_in _ ?_⟩
          have := l1.s0; have := l1.s1; omega
      have d1 : decide (y.rev < c.rev) = false := by simp; omega
      have d2 : decide (c.rev + 1 < y.rev) = false := by simp; omega
      have d3 : (c.joined != c.joined) = false := by simp
      have hwr : IntKind.i64.wrap (c.rev + 1) = c.rev + 1 := IntWalk.i64_in _ (by have := l1.r0; have := l1.r60; omega)
      have hj := Lib.hid l5
      clear l1 l2 l3 l4 l5 l6 l7 e0 e1 e2 e3 e4 hhe H6
      obtain ⟨x0, x1, x2, x3, x4, x5, x6⟩ := P7.of ((B6.block _ hl0).trans E0.out)
      obtain ⟨u0, u1, u2, u3⟩ := P4.of ((B6.block _ hl1).trans M0.out)
      go_wp2_with fail
      refine (clCheck_any _ _ y w6 YV.out).mono ?_
      rintro e w7 ⟨rfl, hb7⟩
      rw [L1.out]
      have B7 := B6.trans (hb7.mono B6.size)
      clear x0 x1 x2 x3 x4 x5 x6 u0 u1 u2 u3
      clear y0 y1 y2 y3 y4 y5 y6
      obtain ⟨y0, y1, y2, y3, y4, y5, y6⟩ := P7.of ((hb7.block _ hlg).trans Y0.out)
      rw [hj.out] at y6
      obtain ⟨x0, x1, x2, x3, x4, x5, x6⟩ := P7.of ((B7.block _ hl0).trans E0.out)
      obtain ⟨u0, u1, u2, u3⟩ := P4.of ((B7.block _ hl1).trans M0.out)
      rcases way with hsy | ⟨hsy, t1, t2, hws⟩
      all_goals
        subst hsy
        by_cases hr : y.rev = c.rev
        · have d4 : (y.rev == c.rev) = true := by simpa using hr
          have S := Lib.hid (same_any _ _ _ _ y.base c.base w7 (RItems.to Y1.out (Kp.below hb7)) (RItems.to HB.out (Kp.below B7)))
          rw [decide_eq_true (L6.out hr)] at S
          clear hr
          go_wp2_with fail
          refine S.out.mono ?_
          rintro e w8 ⟨rfl, hb8⟩
          go_wp2
          go_ret
          exact ⟨rfl, (hb0.trans (B7.mono hb0.size)).trans (hb8.mono (hb0.trans (B7.mono hb0.size)).size)⟩
        · have d4 : (y.rev == c.rev) = false := by simpa using hr
          have C := Lib.hid (opApply_any _ _ _ _ c.base m.e.o w7 (RItems.to HB.out (Kp.below B7)) (ROp.to KV.out (Kp.below B7)))
          rw [L7.out hr] at C
          clear hr
          go_wp2_with fail
          refine C.out.mono ?_
          rintro e w8 ⟨r8, rfl, hr8, hb8⟩
          have B8 := B7.trans (hb8.mono B7.size)
          have b68 : Below w6.heap.size w6 w8 := hb7.trans (hb8.mono hb7.size)
          have S := Lib.hid (same_any _ _ r8 _ y.base y.base w8 hr8 (RItems.to Y1.out (Kp.below b68)))
          rw [decide_eq_true rfl] at S
          clear x0 x1 x2 x3 x4 x5 x6 u0 u1 u2 u3 y0 y1 y2 y3 y4 y5 y6 hr8 C
          obtain ⟨y0, y1, y2, y3, y4, y5, y6⟩ := P7.of ((b68.block _ hlg).trans Y0.out)
          go_wp2_with fail
          refine S.out.mono ?_
          rintro e w9 ⟨rfl, hb9⟩
          go_wp2
          go_ret
          exact ⟨rfl, (hb0.trans (B8.mono hb0.size)).trans (hb9.mono (hb0.trans (B8.mono hb0.size)).size)⟩
    · have hey' : (ey != 0) = true := by simpa using hey
      clear hey hhe
      go_wp2_with fail
      refine (heard_any w6).mono ?_
      rintro e w7 ⟨rfl, hb7⟩
      go_wp2
      go_ret
      exact ⟨rfl, (hb0.trans (B6.mono hb0.size)).trans (hb7.mono (hb0.trans (B6.mono hb0.size)).size)⟩
end Go.Proofs.Ytgodceplajkcdaa
