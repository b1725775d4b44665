/- The law ClientMeets, walked. -/
import Derived.Test.YtgodceplajkcdaaClH
import Derived.Test.YtgodceplajkcdaaPlCm
namespace Go.Mh
theorem hear_ok {c y : Cl} {who : Int} {m : Msg} {b : Bool} (h : hearC c who m = (y, b, 0)) : ClOk c := by
  unfold hearC at h
  split at h; · rename_i h1; simp at h; exact absurd h.2.2 h1
  rename_i h1
  exact ClOk.of (Decidable.not_not.1 h1)
end Go.Mh
namespace Go.Proofs.Ytgodceplajkcdaa
open Go.RowKit Go.Mh

set_option maxRecDepth 100000 in
set_option maxHeartbeats 8000000 in
theorem clientMeets_walk (F G : Nat → Prop) (v u : Value) (c : Cl) (o : List Pt) (w : World) (h : RCl F w v c) (g : ROp G w u o) :
    Calls Try.prog 17 #[v, u] w fun e w' => e = .returned (.bool true) ∧ Below w.heap.size w w' := by
  obtain ⟨b0, n0, s0, k0, rfl, _⟩ := id h
  obtain ⟨p1, p2, p3, p4, p5, p6, p7, p8, rfl, rfl, rfl, rfl⟩ := rcl_shape h
  obtain ⟨oa, oc, rfl, _⟩ := RdS.len g
  obtain ⟨w0, hw0⟩ : ∃ w0, w0 = w.alloc (.cells #[.int .i64 c.rev, .slice p1 c.base.length p2, .slice p3 c.now.length p4, .int .i64 c.seq, .slice p5 c.sent.length p6, .slice p7 c.held.length p8, .bool c.joined] 87) := ⟨_, rfl⟩
  have hb0 : Below w.heap.size w w0 := by rw [hw0]; exact bal (brf w) _
  have E0 := Lib.hid (by rw [hw0]; exact heap_at rfl : w0.heap[w.heap.size]? = some (.cells #[.int .i64 c.rev, .slice p1 c.base.length p2, .slice p3 c.now.length p4, .int .i64 c.seq, .slice p5 c.sent.length p6, .slice p7 c.held.length p8, .bool c.joined] 87 (0, 0)))
  have hl0 := lt_of_heap E0.out
  have HV := Lib.hid (RCl.to h (Kp.below hb0))
  have GV := Lib.hid (ROp.to g (Kp.below hb0))
  obtain ⟨_, _, _, _, e0, h1, h2, h3, h4⟩ := id HV.out
  simp at e0
  obtain ⟨rfl, rfl, rfl, rfl⟩ := e0
  have HB := Lib.hid h1
  have HN := Lib.hid h2
  have HS := Lib.hid h3
  have HH := Lib.hid h4
  clear h g h1 h2 h3 h4
  obtain ⟨mr, hmr⟩ : ∃ mr, IntKind.i64.wrap (c.rev + 1) = mr := ⟨_, rfl⟩
  have hmr' : Hid (0 ≤ c.rev → c.rev ≤ 60 → mr = c.rev + 1) := Lib.hid fun a b => by rw [← hmr]; exact IntWalk.i64_in _ (by omega)
  have hhe : ∃ r, Hid (hearC c 0 ⟨mr, ⟨1, 1, o⟩⟩ = r) := ⟨_, Lib.hid rfl⟩
  obtain ⟨⟨y, sy, ey⟩, hhe⟩ := hhe
  have CH := Lib.hid (clHear_any F G _ _ c 0 ⟨mr, ⟨1, 1, o⟩⟩ w0 HV.out GV.out)
  rw [hhe.out] at CH
  have i0 := fun w => idx2_0 (.slice p5 c.sent.length p6) (.slice p7 c.held.length p8) w
  have i1 := fun w => idx2_1 (.slice p5 c.sent.length p6) (.slice p7 c.held.length p8) w
  go_enter Try.func17, Try.ntmps17
  go_upto_region 1 with fail
  rw [← hw0]
  clear hw0
  obtain ⟨x0, x1, x2, x3, x4, x5, x6⟩ := P7.of E0.out
  go_wp2_with fail
  refine CH.out.mono ?_
  rintro e w2 ⟨v2, rfl, hr2, hb2⟩
  obtain ⟨b4, n4, s4, k4, rfl, _⟩ := id hr2
  obtain ⟨q1, q2, q3, q4, q5, q6, q7, q8, rfl, rfl, rfl, rfl⟩ := rcl_shape hr2
  have hr2' := Lib.hid hr2
  clear CH hr2 x0 x1 x2 x3 x4 x5 x6 hmr
  go_upto_region 2 with fail
  refine name_world ?_
  intro w3 hW3
  obtain ⟨hA, hbA⟩ := var_store hr2'.out hW3
  have B3 : Below w0.heap.size w0 w3 := hb2.trans (hbA.mono hb2.size)
  have H3 := Lib.hid hA
  clear hW3 hA hbA hr2' hb2
  generalize w2.heap.size = g at *
  go_wp2_with fail
  refine (heard_any w3).mono ?_
  rintro e w4 ⟨rfl, hb4⟩
  have B4 := B3.trans (hb4.mono B3.size)
  have H4 := Lib.hid (H3.out.below hb4)
  clear H3 B3 hb4
  obtain ⟨_, _, by', ny', sy', ky', e0, e1, e2, e3, e4⟩ := id H4.out
  obtain ⟨ba', bc', rfl, _⟩ := RdS.len e1
  obtain ⟨na', nc', rfl, _⟩ := RdS.len e2
  obtain ⟨sa', sc', rfl, _⟩ := RdS.len e3
  obtain ⟨ka', kc', rfl, _⟩ := RdS.len e4
  have Y0 := Lib.hid e0
  have Y2 := Lib.hid e2
  have hlg := lt_of_heap e0
  obtain ⟨y0, y1, y2, y3, y4, y5, y6⟩ := P7.of e0
  obtain ⟨x0, x1, x2, x3, x4, x5, x6⟩ := P7.of ((B4.block _ hl0).trans E0.out)
  clear e0 e1 e2 e3 e4 H4
  by_cases hgo : ey = 0 ∧ y.rev ≠ c.rev
  · obtain ⟨rfl, hrv⟩ := hgo
    have hok := hear_ok hhe.out
    have hmr2 := hmr'.out hok.r0 hok.r60
    subst hmr2
    have M := Lib.hid (law_cmeets hhe.out hrv)
    have d1 : (y.rev == c.rev) = false := by simpa using hrv
    have C1 := Lib.hid (opApply_any _ _ _ _ c.base o w4 (RItems.to HB.out (Kp.below B4)) (ROp.to GV.out (Kp.below B4)))
    rw [M.out.ap] at C1
    clear hhe hrv hok hmr'
    go_wp2_with fail
    refine C1.out.mono ?_
    rintro e w5 ⟨r5, rfl, hr5, hb5⟩
    have B5 := B4.trans (hb5.mono B4.size)
    have R5 := Lib.hid hr5
    clear C1 hr5 x0 x1 x2 x3 x4 x5 x6 y0 y1 y2 y3 y4 y5 y6
    obtain ⟨x0, x1, x2, x3, x4, x5, x6⟩ := P7.of ((B5.block _ hl0).trans E0.out)
    obtain ⟨y0, y1, y2, y3, y4, y5, y6⟩ := P7.of ((hb5.block _ hlg).trans Y0.out)
    by_cases hA : c.sent ≠ [] ∧ y.sent = []
    · have t1 := lpos_true hA.1
      have t2 := len0_true hA.2
      have hyn := M.out.gone hA.1 hA.2
      have S := Lib.hid (same_any _ _ _ r5 y.now (applyP c.base o).1 w5 (RItems.to Y2.out (Kp.below hb5)) R5.out)
      rw [decide_eq_true hyn] at S
      clear hA hyn M
      go_wp2_with fail
      refine S.out.mono ?_
      rintro e w6 ⟨rfl, hb6⟩
      go_wp2
      go_ret
      exact ⟨rfl, (hb0.trans (B5.mono hb0.size)).trans (hb6.mono (hb0.trans (B5.mono hb0.size)).size)⟩
    · have hne : Hid (c.sent ≠ [] → y.sent ≠ []) := Lib.hid fun a b => hA ⟨a, b⟩
      have way : ¬ 0 < c.sent.length ∨ (0 < c.sent.length ∧ ((y.sent.length : Int) == 0) = false) := by
        by_cases a : c.sent = []
        · exact Or.inl (lpos_false a)
        · exact Or.inr ⟨lpos_true a, len0_false (hne.out a)⟩
      clear hA
      rcases way with t1 | ⟨t1, t2⟩
      all_goals
        go_upto_region 10 with fail
        go_upto_block 0 with fail
        go_cut [8, 9] (fun dv pv wx => ∃ G1 G2 p, RItems G1 wx dv y.now ∧ ROp G2 wx pv p ∧ Hid ((applyP c.now p).2 = 2 ∨ applyP c.now p = (y.now, 0)) ∧ Below w5.heap.size w5 wx)
        case first =>
          go_wp2_with fail
          go_loopw [8, 9, 71] (fun dv pv i wr => ∃ k : Nat, k ≤ 2 ∧ i = .int .i64 k ∧ ∃ G1 D G2 p, RItems G1 wr dv D ∧ ROp G2 wr pv p ∧ Below w5.heap.size w5 wr ∧ Hid (k = 0 → D = (applyP c.base o).1 ∧ p = o) ∧ Hid (k = 1 → c.sent ≠ [] ∧ D = (applyP (applyP c.base o).1 (turnP o c.sent).2.1).1 ∧ p = (turnP o c.sent).1) ∧ Hid (k = 2 → c.sent ≠ [] ∧ c.held ≠ [] ∧ D = y.now ∧ p = (turnP (turnP o c.sent).1 c.held).1)) (fun _ _ i _ => 2 - (intOf i).toNat)
          case atStart => exact ⟨0, by omega, rfl, _, _, _, o, R5.out, ROp.to GV.out (Kp.below B5), brf _, Lib.hid fun _ => ⟨rfl, rfl⟩, Lib.hid fun h => by omega, Lib.hid fun h => by omega⟩
          case round =>
            clear x0 x1 x2 x3 x4 x5 x6 y0 y1 y2 y3 y4 y5 y6
            obtain ⟨k, hk, rfl, G1, D, G2, p, hD, hp, hbr, z0, z1, z2⟩ := hrel
            have hD' := Lib.hid hD
            have hp' := Lib.hid hp
            have B6 := B5.trans (hbr.mono B5.size)
            clear hD hp t1
            rcases (by omega : k = 0 ∨ k = 1 ∨ k = 2) with rfl | rfl | rfl
            · obtain ⟨a1, a2⟩ := z0.out rfl
              have a2' := a2.symm
              subst a1 a2'
              clear z0 z1 z2 a2
              by_cases hs : c.sent = []
              · have t3 := len0_true hs
                obtain ⟨m1, m2⟩ := M.out.none hs
                have hD2 := Lib.hid (m1.symm ▸ hD'.out)
                have hfin : Hid ((applyP c.now o).2 = 2 ∨ applyP c.now o = (y.now, 0)) := Lib.hid (Or.inr (by rw [m2, m1]))
                clear hs m1 m2
                go_wp2
                go_meet
                exact ⟨_, _, _, hD2.out, hp'.out, hfin, hbr⟩
              · have t3 := len0_false hs
                obtain ⟨m1, m2, _, _⟩ := M.out.one hs (hne.out hs)
                have C := Lib.hid (otTurn_any _ _ _ _ o c.sent wr hp'.out (ROp.to HS.out (Kp.below B6)))
                rw [m1] at C
                have hs' := Lib.hid hs
                have m2' := Lib.hid m2
                clear hs m1 m2
                go_wp2_with fail
                refine C.out.mono ?_
                rintro e w7 ⟨ra7, rb7, rfl, ha7, hb7, hbel⟩
                have A7 := Lib.hid ha7
                have CA := Lib.hid (opApply_any _ _ _ rb7 (applyP c.base o).1 (turnP o c.sent).2.1 w7 (RItems.to hD'.out (Kp.below hbel)) hb7)
                rw [m2'.out] at CA
                clear ha7 hb7 C
                go_wp2_with fail
                refine CA.out.mono ?_
                rintro e w8 ⟨r8, rfl, hr8, hb8⟩
                have R8 := Lib.hid hr8
                have A8 := Lib.hid (ROp.to A7.out (Kp.below hb8))
                have b58 := (hbr.trans (hbel.mono hbr.size)).trans (hb8.mono (hbr.trans (hbel.mono hbr.size)).size)
                clear hr8 CA
                go_wp2
                go_roundw
                case rel => exact ⟨1, by omega, rfl, _, _, _, _, R8.out, A8.out, b58, Lib.hid fun h => by omega, Lib.hid fun _ => ⟨hs'.out, rfl, rfl⟩, Lib.hid fun h => by omega⟩
                case measure => simp [intOf]
            · obtain ⟨a0, a1, a2⟩ := z1.out rfl
              subst a1 a2
              clear z0 z1 z2
              obtain ⟨_, _, m3, m4⟩ := M.out.one a0 (hne.out a0)
              by_cases hs : c.held = []
              · have t3 := len0_true hs
                obtain ⟨m5, m6⟩ := m3 hs
                have hD2 := Lib.hid (m5.symm ▸ hD'.out)
                have hfin := Lib.hid m6
                clear hs m3 m4 m5 m6 a0
                go_wp2
                go_meet
                exact ⟨_, _, _, hD2.out, hp'.out, hfin, hbr⟩
              · have t3 := len0_false hs
                obtain ⟨m5, m6, _⟩ := m4 hs
                have C := Lib.hid (otTurn_any _ _ _ _ (turnP o c.sent).1 c.held wr hp'.out (ROp.to HH.out (Kp.below B6)))
                rw [m5] at C
                have hs' := Lib.hid hs
                have a0' := Lib.hid a0
                have m6' := Lib.hid m6
                clear hs m3 m4 m5 m6 a0
                go_wp2_with fail
                refine C.out.mono ?_
                rintro e w7 ⟨ra7, rb7, rfl, ha7, hb7, hbel⟩
                have A7 := Lib.hid ha7
                have CA := Lib.hid (opApply_any _ _ _ rb7 (applyP (applyP c.base o).1 (turnP o c.sent).2.1).1 (turnP (turnP o c.sent).1 c.held).2.1 w7 (RItems.to hD'.out (Kp.below hbel)) hb7)
                rw [m6'.out] at CA
                clear ha7 hb7 C
                go_wp2_with fail
                refine CA.out.mono ?_
                rintro e w8 ⟨r8, rfl, hr8, hb8⟩
                have R8 := Lib.hid hr8
                have A8 := Lib.hid (ROp.to A7.out (Kp.below hb8))
                have b58 := (hbr.trans (hbel.mono hbr.size)).trans (hb8.mono (hbr.trans (hbel.mono hbr.size)).size)
                clear hr8 CA
                go_wp2
                go_roundw
                case rel => exact ⟨2, by omega, rfl, _, _, _, _, R8.out, A8.out, b58, Lib.hid fun h => by omega, Lib.hid fun h => by omega, Lib.hid fun _ => ⟨a0'.out, hs'.out, rfl, rfl⟩⟩
                case measure => simp [intOf]
            · obtain ⟨a0, a1, a2, a3⟩ := z2.out rfl
              have hfin := Lib.hid (((M.out.one a0 (hne.out a0)).2.2.2 a1).2.2)
              subst a2 a3
              clear z0 z1 z2 a0 a1
              go_wp2
              go_meet
              exact ⟨_, _, _, hD'.out, hp'.out, hfin, hbr⟩
        case rest =>
          obtain ⟨G1, G2, p, hD, hp, hfin, hbc⟩ := hcut
          have BC := B5.trans (hbc.mono B5.size)
          have b4c : Below w4.heap.size w4 wc := hb5.trans (hbc.mono hb5.size)
          have P := Lib.hid hp
          have S := Lib.hid (same_any _ _ _ _ y.now y.now wc (RItems.to Y2.out (Kp.below b4c)) hD)
          rw [decide_eq_true rfl] at S
          clear hD hp x0 x1 x2 x3 x4 x5 x6 y0 y1 y2 y3 y4 y5 y6
          obtain ⟨x0, x1, x2, x3, x4, x5, x6⟩ := P7.of ((BC.block _ hl0).trans E0.out)
          obtain ⟨y0, y1, y2, y3, y4, y5, y6⟩ := P7.of ((b4c.block _ hlg).trans Y0.out)
          go_wp2_with fail
          refine S.out.mono ?_
          rintro e w7 ⟨rfl, hb7⟩
          have B7 := BC.trans (hb7.mono BC.size)
          have b47 : Below w4.heap.size w4 w7 := b4c.trans (hb7.mono b4c.size)
          have C := Lib.hid (opApply_any _ _ _ _ c.now p w7 (RItems.to HN.out (Kp.below B7)) (ROp.to P.out (Kp.below hb7)))
          clear S x0 x1 x2 x3 x4 x5 x6 y0 y1 y2 y3 y4 y5 y6
          obtain ⟨x0, x1, x2, x3, x4, x5, x6⟩ := P7.of ((B7.block _ hl0).trans E0.out)
          obtain ⟨y0, y1, y2, y3, y4, y5, y6⟩ := P7.of ((b47.block _ hlg).trans Y0.out)
          rcases hfin.out with hf | hf
          · rw [hf] at C
            clear hf hfin
            go_wp2_with fail
            refine C.out.mono ?_
            rintro e w8 ⟨r8, rfl, hr8, hb8⟩
            go_wp2
            go_ret
            exact ⟨rfl, (hb0.trans (B7.mono hb0.size)).trans (hb8.mono (hb0.trans (B7.mono hb0.size)).size)⟩
          · rw [hf] at C
            clear hf hfin
            go_wp2_with fail
            refine C.out.mono ?_
            rintro e w8 ⟨r8, rfl, hr8, hb8⟩
            have B8 := B7.trans (hb8.mono B7.size)
            have b48 : Below w4.heap.size w4 w8 := b47.trans (hb8.mono b47.size)
            have S2 := Lib.hid (same_any _ _ _ r8 y.now y.now w8 (RItems.to Y2.out (Kp.below b48)) hr8)
            rw [decide_eq_true rfl] at S2
            clear hr8 C x0 x1 x2 x3 x4 x5 x6 y0 y1 y2 y3 y4 y5 y6
            obtain ⟨y0, y1, y2, y3, y4, y5, y6⟩ := P7.of ((b48.block _ hlg).trans Y0.out)
            go_wp2_with fail
            refine S2.out.mono ?_
            rintro e w9 ⟨rfl, hb9⟩
            go_wp2
            go_ret
            exact ⟨rfl, (hb0.trans (B8.mono hb0.size)).trans (hb9.mono (hb0.trans (B8.mono hb0.size)).size)⟩
  · have way : (ey != 0) = true ∨ ((ey != 0) = false ∧ (y.rev == c.rev) = true) := by
      by_cases h1 : ey = 0
      · right; simp [h1] at hgo ⊢; exact hgo
      · left; simpa using h1
    clear hgo hhe
    rcases way with t1 | ⟨t1, t2⟩
    all_goals
      go_wp2_with fail
      refine (heard_any w4).mono ?_
      rintro e w5 ⟨rfl, hb5⟩
      go_wp2
      go_ret
      exact ⟨rfl, (hb0.trans (B4.mono hb0.size)).trans (hb5.mono (hb0.trans (B4.mono hb0.size)).size)⟩
end Go.Proofs.Ytgodceplajkcdaa
