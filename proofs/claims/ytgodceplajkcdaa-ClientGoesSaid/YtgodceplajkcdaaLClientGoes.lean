/- The law ClientGoes, walked. -/
import Derived.Test.YtgodceplajkcdaaClH
import Derived.Test.YtgodceplajkcdaaOpSame
namespace Go.Proofs.Ytgodceplajkcdaa
open Go.RowKit Go.Mh

set_option maxRecDepth 100000 in
set_option maxHeartbeats 8000000 in
theorem clientGoes_walk (F G K : Nat → Prop) (v u s : Value) (c : Cl) (a b : List Pt) (w : World) (h : RCl F w v c) (g : ROp G w u a) (k : ROp K w s b) :
    Calls Try.prog 18 #[v, u, s] w fun e w' => e = .returned (.bool true) ∧ Below w.heap.size w w' := by
  have G' := Lib.hid g
  have K' := Lib.hid k
  have H' := Lib.hid h
  obtain ⟨b0, n0, s0, k0, rfl, _⟩ := id h
  obtain ⟨p1, p2, p3, p4, p5, p6, p7, p8, rfl, rfl, rfl, rfl⟩ := rcl_shape h
  clear h g k
  have hdo : ∃ r, Hid (doC c a = r) := ⟨_, Lib.hid rfl⟩
  obtain ⟨⟨x, sx, ex⟩, hdo⟩ := hdo
  go_enter Try.func18, Try.ntmps18
  have hb0 : Below w.heap.size w (w.alloc (.cells #[.int .i64 c.rev, .slice p1 c.base.length p2, .slice p3 c.now.length p4, .int .i64 c.seq, .slice p5 c.sent.length p6, .slice p7 c.held.length p8, .bool c.joined] 87)) := bal (brf w) _
  go_wp2_with fail
  have C1 := Lib.hid (clDo_any F G _ u c a _ (RCl.to H'.out (Kp.below hb0)) (ROp.to G'.out (Kp.below hb0)))
  rw [hdo.out] at C1
  refine C1.out.mono ?_
  rintro e w2 ⟨v2, rfl, hr2, hb2⟩
  have hB2 := btr hb0 hb2
  obtain ⟨b4, n4, s4, k4, rfl, _⟩ := id hr2
  obtain ⟨q1, q2, q3, q4, q5, q6, q7, q8, rfl, rfl, rfl, rfl⟩ := rcl_shape hr2
  have hr2' := Lib.hid hr2
  clear C1 hr2 hb0 hb2
  go_upto_region 2 with fail
  refine name_world ?_
  intro w3 hW3
  obtain ⟨hA, hbA⟩ := var_store hr2'.out hW3
  have hB3 := hB2.trans (hbA.mono hB2.size)
  have H3 := Lib.hid hA
  clear hW3 hA hbA hr2' hB2
  generalize w2.heap.size = g at *
  go_wp2_with fail
  refine (heard_any w3).mono ?_
  rintro e w4 ⟨rfl, hb4⟩
  have hB4 := hB3.trans (hb4.mono hB3.size)
  have H4 := Lib.hid (H3.out.below hb4)
  clear H3 hB3 hb4
  by_cases hex : ex = 0
  · subst hex
    obtain ⟨l1, l2, l3, l4, l5, l6, l7, l8, _⟩ := law_do hdo.out
    have hok := Lib.hid l3
    have hxs := Lib.hid l8
    clear l1 l2 l3 l4 l5 l6 l7 l8 hdo
    have hdo2 : ∃ r, Hid (doC x b = r) := ⟨_, Lib.hid rfl⟩
    obtain ⟨⟨y, sy, ey⟩, hdo2⟩ := hdo2
    obtain ⟨_, _, bx, nx, sx', kx, e0, e1, e2, e3, e4⟩ := id H4.out
    obtain ⟨ba, bc, rfl, _⟩ := RdS.len e1
    obtain ⟨na, nc, rfl, _⟩ := RdS.len e2
    obtain ⟨sa, sc, rfl, _⟩ := RdS.len e3
    obtain ⟨ka, kc, rfl, _⟩ := RdS.len e4
    obtain ⟨x0, x1, x2, x3, x4, x5, x6⟩ := P7.of e0
    have E0 := Lib.hid e0
    have E2 := Lib.hid e2
    have E3 := Lib.hid e3
    have C2 := Lib.hid (clDo_any _ K _ s x b w4 ⟨_, _, _, _, rfl, e1, e2, e3, e4⟩ (ROp.to K'.out (Kp.below hB4)))
    rw [hdo2.out] at C2
    clear e0 e1 e2 e3 e4
    go_wp2_with fail
    refine C2.out.mono ?_
    rintro e w5 ⟨v5, rfl, hr5, hb5⟩
    have hB5 := hB4.trans (hb5.mono hB4.size)
    obtain ⟨b5, n5, s5, k5, rfl, _⟩ := id hr5
    obtain ⟨r1, r2, r3, r4, r5, r6, r7, r8, rfl, rfl, rfl, rfl⟩ := rcl_shape hr5
    have hr5' := Lib.hid hr5
    clear C2 hr5 x0 x1 x2 x3 x4 x5 x6
    go_upto_region 5 with fail
    refine name_world ?_
    intro w6 hW6
    obtain ⟨hA, hbA⟩ := var_store hr5'.out hW6
    have hB6 := hB5.trans (hbA.mono hB5.size)
    have hb46 : Below w4.heap.size w4 w6 := hb5.trans (hbA.mono hb5.size)
    have H6 := Lib.hid hA
    have hgl := lt_of_heap E0.out
    have E06 := Lib.hid ((hb46.block _ hgl).trans E0.out)
    have E26 := Lib.hid (RItems.to E2.out (Kp.below hb46))
    have E36 := Lib.hid (ROp.to E3.out (Kp.below hb46))
    clear hW6 hA hbA hr5' hB5 hb5 E0 E2 E3 hb46 hB4 H4
    generalize w5.heap.size = g' at *
    by_cases hey : ey = 0
    · subst hey
      obtain ⟨_, l2, _, l4, _, _, _, _, l9, _⟩ := law_do hdo2.out
      obtain ⟨m1, m2, m3, m4⟩ := l9 hxs.out
      have hap := l2.eq
      subst m4
      have M1 := Lib.hid m1
      have M2 := Lib.hid m2
      have M3 : 0 < y.held.length := lpos_true m3
      have M4 := Lib.hid l4
      obtain ⟨_, _, by', ny, sy', ky, f0, f1, f2, f3, f4⟩ := id H6.out
      obtain ⟨ba', bc', rfl, _⟩ := RdS.len f1
      obtain ⟨na', nc', rfl, _⟩ := RdS.len f2
      obtain ⟨sa', sc', rfl, _⟩ := RdS.len f3
      obtain ⟨ka', kc', rfl, _⟩ := RdS.len f4
      have F0 := Lib.hid f0
      have F2 := Lib.hid f2
      have F3 := Lib.hid f3
      have C3 := Lib.hid (opApply_any _ K _ s x.now b w6 E26.out (ROp.to K'.out (Kp.below hB6)))
      rw [hap] at C3
      clear m1 m2 m3 l4 l2 l9 hap f0 f1 f2 f3 f4 hdo2
      obtain ⟨x0, x1, x2, x3, x4, x5, x6⟩ := P7.of E06.out
      go_wp2_with fail
      refine C3.out.mono ?_
      rintro e w7 ⟨r7, rfl, hr7, hb7⟩
      have hB7 := hB6.trans (hb7.mono hB6.size)
      have S1 := Lib.hid (same_any _ _ r7 _ (doA x.now (acts b)) y.now w7 hr7 (RItems.to F2.out (Kp.below hb7)))
      rw [decide_eq_true M4.out.symm] at S1
      have E07 := Lib.hid ((hb7.block _ (lt_of_heap E06.out)).trans E06.out)
      have F07 := Lib.hid ((hb7.block _ (lt_of_heap F0.out)).trans F0.out)
      have S2 := Lib.hid (fun (w' : World) (hb : Below w7.heap.size w7 w') => opSame_any _ _ _ _ y.sent x.sent w' (ROp.to F3.out (Kp.below (hb7.trans (hb.mono hb7.size)))) (ROp.to E36.out (Kp.below (hb7.trans (hb.mono hb7.size)))))
      rw [decide_eq_true M1.out] at S2
      clear x0 x1 x2 x3 x4 x5 x6 C3 hr7 E06 F0 E26 E36 F2 F3 hB6 H6
      obtain ⟨y0, y1, y2, y3, y4, y5, y6⟩ := P7.of F07.out
      go_wp2_with fail
      refine S1.out.mono ?_
      rintro e w8 ⟨rfl, hb8⟩
      have hB8 := hB7.trans (hb8.mono hB7.size)
      have E08 := Lib.hid ((hb8.block _ (lt_of_heap E07.out)).trans E07.out)
      have F08 := Lib.hid ((hb8.block _ (lt_of_heap F07.out)).trans F07.out)
      clear y0 y1 y2 y3 y4 y5 y6 E07 F07 S1
      obtain ⟨x0, x1, x2, x3, x4, x5, x6⟩ := P7.of E08.out
      obtain ⟨y0, y1, y2, y3, y4, y5, y6⟩ := P7.of F08.out
      go_wp2_with fail
      refine (S2.out w8 hb8).mono ?_
      rintro e w9 ⟨rfl, hb9⟩
      have E09 := Lib.hid ((hb9.block _ (lt_of_heap E08.out)).trans E08.out)
      have F09 := Lib.hid ((hb9.block _ (lt_of_heap F08.out)).trans F08.out)
      clear x0 x1 x2 x3 x4 x5 x6 y0 y1 y2 y3 y4 y5 y6 E08 F08
      obtain ⟨x0, x1, x2, x3, x4, x5, x6⟩ := P7.of E09.out
      obtain ⟨y0, y1, y2, y3, y4, y5, y6⟩ := P7.of F09.out
      rw [M2.out] at y3
      go_wp2
      go_ret
      exact ⟨rfl, hB8.trans (hb9.mono hB8.size)⟩
    · have hey' : (ey != 0) = true := by simpa using hey
      clear hey hdo2
      go_wp2
      go_ret
      exact ⟨rfl, hB6⟩
  · have hex' : (ex != 0) = true := by simpa using hex
    clear hex hdo
    go_wp2_with fail
    refine (heard_any w4).mono ?_
    rintro e w5 ⟨rfl, hb5⟩
    go_wp2
    go_ret
    exact ⟨rfl, hB4.trans (hb5.mono hB4.size)⟩
end Go.Proofs.Ytgodceplajkcdaa
