/- The law ServerFolds, walked. -/
import Derived.Test.YtgodceplajkcdaaSvH
import Derived.Test.YtgodceplajkcdaaSvF
import Derived.Deep.RegionHeld3
import Derived.Test.YtgodceplajkcdaaRegT
namespace Go.Mh
open Go.RowKit
theorem RLog.some {F : Nat → Prop} {w : World} {a : Option Addr} {n cap : Nat} {L : List En} (h : RLog F w (.slice a n cap) L) (hn : L ≠ []) : ∃ b o, a = some ⟨b, o, none⟩ ∧ L.length ≤ cap := by
  obtain ⟨a', cap', e, h1, _, _, h4⟩ := h
  cases e
  cases L with
  | nil => exact absurd rfl hn
  | cons x L =>
    obtain ⟨b, o, _, e1, _⟩ := h4 0 x rfl
    exact ⟨b, o, e1, h1⟩
theorem keep8 {g1 g2 g3 : Nat} {y0 y1 y2 x0 x1 x2 e0 e1 : Value} {w4 wc w' : World} (h : wc.cell? ⟨g1, 0, none⟩ = some y0 ∧ wc.cell? ⟨g1, 1, none⟩ = some y1 ∧ wc.cell? ⟨g1, 2, none⟩ = some y2 ∧ wc.cell? ⟨g2, 0, none⟩ = some x0 ∧ wc.cell? ⟨g2, 1, none⟩ = some x1 ∧ wc.cell? ⟨g2, 2, none⟩ = some x2 ∧ wc.cell? ⟨g3, 0, none⟩ = some e0 ∧ wc.cell? ⟨g3, 1, none⟩ = some e1 ∧ Below w4.heap.size w4 wc) (hb : Below wc.heap.size wc w') :
    w'.cell? ⟨g1, 0, none⟩ = some y0 ∧ w'.cell? ⟨g1, 1, none⟩ = some y1 ∧ w'.cell? ⟨g1, 2, none⟩ = some y2 ∧ w'.cell? ⟨g2, 0, none⟩ = some x0 ∧ w'.cell? ⟨g2, 1, none⟩ = some x1 ∧ w'.cell? ⟨g2, 2, none⟩ = some x2 ∧ w'.cell? ⟨g3, 0, none⟩ = some e0 ∧ w'.cell? ⟨g3, 1, none⟩ = some e1 ∧ Below w4.heap.size w4 w' := by
  obtain ⟨h1, h2, h3, h4, h5, h6, h7, h8, h9⟩ := h
  exact ⟨(hb.cell (lt_of_cell h1)).trans h1, (hb.cell (lt_of_cell h2)).trans h2, (hb.cell (lt_of_cell h3)).trans h3, (hb.cell (lt_of_cell h4)).trans h4, (hb.cell (lt_of_cell h5)).trans h5, (hb.cell (lt_of_cell h6)).trans h6, (hb.cell (lt_of_cell h7)).trans h7, (hb.cell (lt_of_cell h8)).trans h8, btr h9 hb⟩
theorem bel8 {a1 a2 a3 a4 a5 a6 a7 a8 : Prop} {w4 wc : World} (h : a1 ∧ a2 ∧ a3 ∧ a4 ∧ a5 ∧ a6 ∧ a7 ∧ a8 ∧ Below w4.heap.size w4 wc) : Below w4.heap.size w4 wc := h.2.2.2.2.2.2.2.2
end Go.Mh
namespace Go.Proofs.Ytgodceplajkcdaa
open Go.RowKit Go.Mh

set_option maxRecDepth 100000 in
set_option maxHeartbeats 8000000 in
theorem serverFolds_walk (F G : Nat → Prop) (v ov : Value) (s : Srv) (rev : Int) (x : En) (w : World) (h : RSrv F w v s) (g : ROp G w ov x.o) :
    Calls Try.prog 14 #[v, .int .i64 rev, .agg #[.int .i64 x.client, .int .i64 x.seq, ov]] w fun e w' => e = .returned (.bool true) ∧ Below w.heap.size w w' := by
  obtain ⟨a0, l0, n0, rfl, _⟩ := id h
  obtain ⟨aa, ac, la, lc, na, nc, rfl, rfl, rfl⟩ := rsrv_shape h
  obtain ⟨oa, oc, rfl, _⟩ := RdS.len g
  obtain ⟨w0, hw0⟩ : ∃ w0, w0 = (w.alloc (.cells #[.slice aa s.first.length ac, .slice la s.log.length lc, .slice na s.now.length nc] 74)).alloc (.cells #[.int .i64 x.client, .int .i64 x.seq, .slice oa x.o.length oc] 76) := ⟨_, rfl⟩
  have hb0 : Below w.heap.size w w0 := by rw [hw0]; exact bal (bal (brf w) _) _
  have E0 := Lib.hid (by rw [hw0]; exact heap_at2 rfl : w0.heap[w.heap.size]? = some (.cells #[.slice aa s.first.length ac, .slice la s.log.length lc, .slice na s.now.length nc] 74 (0, 0)))
  have M0 := Lib.hid (by rw [hw0]; exact heap_at (by simp) : w0.heap[w.heap.size + 1]? = some (.cells #[.int .i64 x.client, .int .i64 x.seq, .slice oa x.o.length oc] 76 (0, 0)))
  have hl0 := lt_of_heap E0.out
  have hl1 := lt_of_heap M0.out
  have HV := Lib.hid (RSrv.to h (Kp.below hb0))
  have HO := Lib.hid (ROp.to g (Kp.below hb0))
  clear h g
  have htk : ∃ r, Hid (takeP s rev x = r) := ⟨_, Lib.hid rfl⟩
  obtain ⟨⟨t, et⟩, htk⟩ := htk
  have CT := Lib.hid (svTake_any F G _ _ s rev x w0 HV.out HO.out)
  rw [htk.out] at CT
  go_enter Try.func14, Try.ntmps14
  go_upto_region 1 with fail
  rw [← hw0]
  clear hw0
  obtain ⟨x0, x1, x2⟩ := P3.of (((brf w0).block _ hl0).trans E0.out)
  obtain ⟨e0, e1, e2⟩ := P3.of (((brf w0).block _ hl1).trans M0.out)
  go_wp2_with fail
  refine CT.out.mono ?_
  rintro e w2 ⟨v2, rfl, hr2, hb2⟩
  obtain ⟨a2, l2, n2, rfl, _⟩ := id hr2
  obtain ⟨ta, tc, ua, uc, pa, pc, rfl, rfl, rfl⟩ := rsrv_shape hr2
  have hr2' := Lib.hid hr2
  clear CT hr2 x0 x1 x2 e0 e1 e2
  go_upto_region 2 with fail
  refine name_world ?_
  intro w3 hW3
  obtain ⟨hA, hbA⟩ := srv_store hr2'.out hW3
  have B3 : Below w0.heap.size w0 w3 := hb2.trans (hbA.mono hb2.size)
  have H3 := Lib.hid hA
  clear hW3 hA hbA hr2' hb2
  generalize w2.heap.size = gt at *
  go_wp2_with fail
  refine (served_any w3).mono ?_
  rintro e w4 ⟨rfl, hb4⟩
  have B4 := B3.trans (hb4.mono B3.size)
  have H4 := Lib.hid (H3.out.below hb4)
  clear H3 B3 hb4
  by_cases het : et = 0
  · subst het
    obtain ⟨k1, k2, k3, k4, k5, k6, k7, k8⟩ := law_folds htk.out
    have K1 := Lib.hid k1
    have K4 := Lib.hid k4
    have K5 := Lib.hid k5
    have K6 := Lib.hid k6
    have K7 := Lib.hid k7
    have K8 := Lib.hid k8
    have hne : t.log ≠ [] := by
      intro e
      rw [e] at k5
      simp [hasP] at k5
    obtain ⟨a3, l3, n3, T0, TV⟩ := id H4.out
    obtain ⟨ta', tc', ua', uc', pa', pc', rfl, rfl, rfl⟩ := rsrv_shape TV
    obtain ⟨_, _, _, ev, r1, r2, r3⟩ := id TV
    simp at ev
    obtain ⟨rfl, rfl, rfl⟩ := ev
    obtain ⟨ub, uo, rfl, hcap⟩ := RLog.some r2 hne
    have hgt := lt_of_heap T0
    have T0 := Lib.hid T0
    have TV := Lib.hid TV
    have R1 := Lib.hid r1
    have R2 := Lib.hid r2
    have R3 := Lib.hid r3
    have RS := Lib.hid (RdS.take r2 s.log.length k2)
    have s60 : s.log.length ≤ 61 := by
      have := (SrvOk.of k1).len
      omega
    have d1 : decide ((t.log.length : Int) < (s.log.length : Int)) = false := by simp; omega
    have d1n : decide (t.log.length < s.log.length) = false := by simp; omega
    have d2n : decide (s.log.length + 1 < t.log.length) = false := by simp; omega
    have hwr : IntKind.i64.wrap ((s.log.length : Int) + 1) = (s.log.length : Int) + 1 := IntWalk.i64_in _ (by omega)
    have d2 : decide ((s.log.length : Int) + 1 < (t.log.length : Int)) = false := by simp; omega
    have hcp : s.log.length ≤ uc' := Nat.le_trans k2 hcap
    have SL : Hid (RLog F w0 (.slice la s.log.length lc) s.log) := by
      obtain ⟨_, _, _, ev, q1, q2, q3⟩ := id HV.out
      simp at ev
      obtain ⟨rfl, rfl, rfl⟩ := ev
      exact Lib.hid q2
    have k2' := Lib.hid k2
    have k3' := Lib.hid k3
    clear k1 k3 k4 k5 k6 k7 k8 htk hne r1 r2 r3 hcap k2 s60
    obtain ⟨x0, x1, x2⟩ := P3.of ((B4.block _ hl0).trans E0.out)
    obtain ⟨e0, e1, e2⟩ := P3.of ((B4.block _ hl1).trans M0.out)
    obtain ⟨y0, y1, y2⟩ := P3.of T0.out
    go_upto_region 5 with fail
    have Q4 : w4.drew.heap.size = w4.heap.size := rfl
    go_cut [78] (fun t78 wx => t78 = .bool false ∧ Below w4.heap.size w4 wx)
    case first =>
      have C2 := Lib.hid (fun (w' : World) (hb : Below w4.heap.size w4 w') => svEqFunc_any _ _ _ _ (t.log.take s.log.length) s.log w' (RLog.to RS.out (Kp.below hb)) (RLog.to SL.out (Kp.below (B4.trans (hb.mono B4.size)))))
      rw [decide_eq_true K4.out] at C2
      have C3 := Lib.hid (fun (w' : World) (hb : Below w4.heap.size w4 w') => svHas_any _ _ t x.client x.seq w' (RSrv.to TV.out (Kp.below hb)))
      rw [K5.out] at C3
      have C4 := Lib.hid (fun (w' : World) (hb : Below w4.heap.size w4 w') => svSame_any _ _ _ _ t s w' (RSrv.to TV.out (Kp.below hb)) (RSrv.to HV.out (Kp.below (B4.trans (hb.mono B4.size)))))
      have Q : _ ∧ _ ∧ _ ∧ _ ∧ _ ∧ _ ∧ _ ∧ _ ∧ Below w4.heap.size w4 w4 := ⟨y0, y1, y2, x0, x1, x2, e0, e1, brf w4⟩
      clear y0 y1 y2 x0 x1 x2 e0 e1 e2
      by_cases hq : t.log.length = s.log.length
      · have d3 : ((t.log.length : Int) == (s.log.length : Int)) = true := by simp [hq]
        have d4 : (t.log.length == s.log.length) = true := by simp [hq]
        have hts := K6.out hq
        have f4 : (decide (t.first = s.first) && decide (t.now = s.now) && decide (t.log = s.log)) = true := by rw [hts]; simp
        rw [f4] at C4
        clear hq hts f4
        go_region_held3 (fun w' => w'.cell? ⟨gt, 0, none⟩ = some (.slice ta' t.first.length tc') ∧ w'.cell? ⟨gt, 1, none⟩ = some (.slice (some ⟨ub, uo, none⟩) t.log.length uc') ∧ w'.cell? ⟨gt, 2, none⟩ = some (.slice pa' t.now.length pc') ∧ w'.cell? ⟨w.heap.size, 0, none⟩ = some (.slice aa s.first.length ac) ∧ w'.cell? ⟨w.heap.size, 1, none⟩ = some (.slice la s.log.length lc) ∧ w'.cell? ⟨w.heap.size, 2, none⟩ = some (.slice na s.now.length nc) ∧ w'.cell? ⟨w.heap.size + 1, 0, none⟩ = some (.int .i64 x.client) ∧ w'.cell? ⟨w.heap.size + 1, 1, none⟩ = some (.int .i64 x.seq) ∧ Below w4.heap.size w4 w') (first | assumption | exact keep8 (by assumption) (by assumption) | exact keep8 Q (Below.refl _ _).drew)
          (first | (go_at_call 55; refine (svCheck_any _ _ t _ (RSrv.to TV.out (Kp.below (bel8 (by assumption))))).mono ?_; rintro e w5 ⟨rfl, hb5⟩; rw [K1.out])
                 | (go_at_call 56; refine (C2.out _ (bel8 (by assumption))).mono ?_; rintro e w5 ⟨rfl, hb5⟩)
                 | (go_at_call 58; refine (C3.out _ (bel8 (by assumption))).mono ?_; rintro e w5 ⟨rfl, hb5⟩)
                 | (go_at_call 59; refine (C4.out _ (bel8 (by assumption))).mono ?_; rintro e w5 ⟨rfl, hb5⟩))
        have hB := bel8 (by assumption)
        go_wp2_with fail
        go_meet
        exact ⟨rfl, hB⟩
      · have d3 : ((t.log.length : Int) == (s.log.length : Int)) = false := by simp; omega
        have d4 : (t.log.length == s.log.length) = false := by simpa using hq
        have d5 : decide (t.log.length = s.log.length) = false := by simpa using hq
        have Q0 := keep8 Q (Below.refl w4.heap.size w4).drew
        clear C4 Q
        refine wp_region_held (S := fun w' => w'.cell? ⟨gt, 0, none⟩ = some (.slice ta' t.first.length tc') ∧ w'.cell? ⟨gt, 1, none⟩ = some (.slice (some ⟨ub, uo, none⟩) t.log.length uc') ∧ w'.cell? ⟨gt, 2, none⟩ = some (.slice pa' t.now.length pc') ∧ w'.cell? ⟨w.heap.size, 0, none⟩ = some (.slice aa s.first.length ac) ∧ w'.cell? ⟨w.heap.size, 1, none⟩ = some (.slice la s.log.length lc) ∧ w'.cell? ⟨w.heap.size, 2, none⟩ = some (.slice na s.now.length nc) ∧ w'.cell? ⟨w.heap.size + 1, 0, none⟩ = some (.int .i64 x.client) ∧ w'.cell? ⟨w.heap.size + 1, 1, none⟩ = some (.int .i64 x.seq) ∧ Below w4.heap.size w4 w') (by kernel_rfl) ?_
        refine wpAnyH_takeD 0 29 (v := ?_) rfl rfl (by kernel_rfl) (by kernel_rfl) (by kernel_rfl) (fun _ _ _ h => h) (Or.inl ⟨by rfl, ?_⟩) Q0 ?_
        rotate_left
        · (intro w' hw'; (try dsimp only at hw'); go_simp; try with_reducible rfl)
        simp only [List.set_cons_zero, List.set_cons_succ]
        refine wpAnyH_step 1 rfl (by kernel_rfl) (fun K' hK' => ?_)
        rw [if_pos (by rfl)]
        go_simp
        go_at_call 55
        refine (svCheck_any _ _ t _ (RSrv.to TV.out (Kp.below (bel8 Q0)))).mono ?_
        rintro e w51 ⟨rfl, hb1⟩
        rw [K1.out]
        have Q1 := keep8 Q0 hb1
        go_wp2_with fail
        refine hK'.out _ _ Q1 ?_
        clear hK' K'
        refine wpAnyH_takeD 2 31 (v := ?_) rfl rfl (by kernel_rfl) (by kernel_rfl) (by kernel_rfl) (fun _ _ _ h => h) (Or.inl ⟨by rfl, ?_⟩) Q1 ?_
        rotate_left
        · (intro w' hw'; (try dsimp only at hw'); go_simp; try with_reducible rfl)
        simp only [List.set_cons_zero, List.set_cons_succ]
        refine wpAnyH_takeD 3 32 (v := ?_) rfl rfl (by kernel_rfl) (by kernel_rfl) (by kernel_rfl) (fun _ _ _ h => h) (Or.inl ⟨by rfl, ?_⟩) Q1 ?_
        rotate_left
        · (intro w' hw'; (try dsimp only at hw'); go_simp; try with_reducible rfl)
        simp only [List.set_cons_zero, List.set_cons_succ]
        refine wpAnyH_takeD 4 33 (v := ?_) rfl rfl (by kernel_rfl) (by kernel_rfl) (by kernel_rfl) (fun _ _ _ h => h) (Or.inl ⟨by rfl, ?_⟩) Q1 ?_
        rotate_left
        · (intro w' hw'; (try dsimp only at hw'); go_simp; try with_reducible rfl)
        simp only [List.set_cons_zero, List.set_cons_succ]
        refine wpAnyH_takeD 5 34 (v := ?_) rfl rfl (by kernel_rfl) (by kernel_rfl) (by kernel_rfl) (fun _ _ _ h => h) (Or.inl ⟨by rfl, ?_⟩) Q1 ?_
        rotate_left
        · (intro w' hw'; (try dsimp only at hw'); go_simp; try with_reducible rfl)
        simp only [List.set_cons_zero, List.set_cons_succ]
        refine wpAnyH_takeD 6 35 (v := ?_) rfl rfl (by kernel_rfl) (by kernel_rfl) (by kernel_rfl) (fun _ _ _ h => h) (Or.inl ⟨by rfl, ?_⟩) Q1 ?_
        rotate_left
        · (intro w' hw'; (try dsimp only at hw'); go_simp; try with_reducible rfl)
        simp only [List.set_cons_zero, List.set_cons_succ]
        refine wpAnyH_takeD 7 36 (v := ?_) rfl rfl (by kernel_rfl) (by kernel_rfl) (by kernel_rfl) (fun _ _ _ h => h) (Or.inl ⟨by rfl, ?_⟩) Q1 ?_
        rotate_left
        · (intro w' hw'; (try dsimp only at hw'); go_simp; try with_reducible rfl)
        simp only [List.set_cons_zero, List.set_cons_succ]
        refine wpAnyH_takeD 8 37 (v := ?_) rfl rfl (by kernel_rfl) (by kernel_rfl) (by kernel_rfl) (fun _ _ _ h => h) (Or.inl ⟨by rfl, ?_⟩) Q1 ?_
        rotate_left
        · (intro w' hw'; (try dsimp only at hw'); go_simp; try with_reducible rfl)
        simp only [List.set_cons_zero, List.set_cons_succ]
        refine wpAnyH_takeD 9 38 (v := ?_) rfl rfl (by kernel_rfl) (by kernel_rfl) (by kernel_rfl) (fun _ _ _ h => h) (Or.inl ⟨by rfl, ?_⟩) Q1 ?_
        rotate_left
        · (intro w' hw'; (try dsimp only at hw'); go_simp; try with_reducible rfl)
        simp only [List.set_cons_zero, List.set_cons_succ]
        refine wpAnyH_takeD 10 39 (v := ?_) rfl rfl (by kernel_rfl) (by kernel_rfl) (by kernel_rfl) (fun _ _ _ h => h) (Or.inl ⟨by rfl, ?_⟩) Q1 ?_
        rotate_left
        · (intro w' hw'; (try dsimp only at hw'); go_simp; try with_reducible rfl)
        simp only [List.set_cons_zero, List.set_cons_succ]
        refine wpAnyH_takeD 11 40 (v := ?_) rfl rfl (by kernel_rfl) (by kernel_rfl) (by kernel_rfl) (fun _ _ _ h => h) (Or.inl ⟨by rfl, ?_⟩) Q1 ?_
        rotate_left
        · (intro w' hw'; (try dsimp only at hw'); go_simp; try with_reducible rfl)
        simp only [List.set_cons_zero, List.set_cons_succ]
        refine wpAnyH_takeD 12 41 (v := ?_) rfl rfl (by kernel_rfl) (by kernel_rfl) (by kernel_rfl) (fun _ _ _ h => h) (Or.inl ⟨by rfl, ?_⟩) Q1 ?_
        rotate_left
        · (intro w' hw'; (try dsimp only at hw'); go_simp; try with_reducible rfl)
        simp only [List.set_cons_zero, List.set_cons_succ]
        refine wpAnyH_takeD 13 42 (v := ?_) rfl rfl (by kernel_rfl) (by kernel_rfl) (by kernel_rfl) (fun _ _ _ h => h) (Or.inl ⟨by rfl, ?_⟩) Q1 ?_
        rotate_left
        · (intro w' hw'; (try dsimp only at hw'); go_simp; try with_reducible rfl)
        simp only [List.set_cons_zero, List.set_cons_succ]
        refine wpAnyH_takeD 14 43 (v := ?_) rfl rfl (by kernel_rfl) (by kernel_rfl) (by kernel_rfl) (fun _ _ _ h => h) (Or.inl ⟨by rfl, ?_⟩) Q1 ?_
        rotate_left
        · (intro w' hw'; (try dsimp only at hw'); go_simp; try with_reducible rfl)
        simp only [List.set_cons_zero, List.set_cons_succ]
        refine wpAnyH_takeD 15 44 (v := ?_) rfl rfl (by kernel_rfl) (by kernel_rfl) (by kernel_rfl) (fun _ _ _ h => h) (Or.inl ⟨by rfl, ?_⟩) Q1 ?_
        rotate_left
        · (intro w' hw'; (try dsimp only at hw'); go_simp; try with_reducible rfl)
        simp only [List.set_cons_zero, List.set_cons_succ]
        refine wpAnyH_takeD 16 45 (v := ?_) rfl rfl (by kernel_rfl) (by kernel_rfl) (by kernel_rfl) (fun _ _ _ h => h) (Or.inl ⟨by rfl, ?_⟩) Q1 ?_
        rotate_left
        · (intro w' hw'; (try dsimp only at hw'); go_simp; try with_reducible rfl)
        simp only [List.set_cons_zero, List.set_cons_succ]
        refine wpAnyH_takeD 17 46 (v := ?_) rfl rfl (by kernel_rfl) (by kernel_rfl) (by kernel_rfl) (fun _ _ _ h => h) (Or.inl ⟨by rfl, ?_⟩) Q1 ?_
        rotate_left
        · (intro w' hw'; (try dsimp only at hw'); go_simp; try with_reducible rfl)
        simp only [List.set_cons_zero, List.set_cons_succ]
        refine wpAnyH_takeD 18 47 (v := ?_) rfl rfl (by kernel_rfl) (by kernel_rfl) (by kernel_rfl) (fun _ _ _ h => h) (Or.inl ⟨by rfl, ?_⟩) Q1 ?_
        rotate_left
        · (intro w' hw'; (try dsimp only at hw'); go_simp; try with_reducible rfl)
        simp only [List.set_cons_zero, List.set_cons_succ]
        refine wpAnyH_takeD 19 48 (v := ?_) rfl rfl (by kernel_rfl) (by kernel_rfl) (by kernel_rfl) (fun _ _ _ h => h) (Or.inl ⟨by rfl, ?_⟩) Q1 ?_
        rotate_left
        · (intro w' hw'; (try dsimp only at hw'); go_simp; try with_reducible rfl)
        simp only [List.set_cons_zero, List.set_cons_succ]
        refine wpAnyH_takeD 20 49 (v := ?_) rfl rfl (by kernel_rfl) (by kernel_rfl) (by kernel_rfl) (fun _ _ _ h => h) (Or.inl ⟨by rfl, ?_⟩) Q1 ?_
        rotate_left
        · (intro w' hw'; (try dsimp only at hw'); go_simp; try with_reducible rfl)
        simp only [List.set_cons_zero, List.set_cons_succ]
        refine wpAnyH_takeD 21 50 (v := ?_) rfl rfl (by kernel_rfl) (by kernel_rfl) (by kernel_rfl) (fun _ _ _ h => h) (Or.inl ⟨by rfl, ?_⟩) Q1 ?_
        rotate_left
        · (intro w' hw'; (try dsimp only at hw'); go_simp; try with_reducible rfl)
        simp only [List.set_cons_zero, List.set_cons_succ]
        refine wpAnyH_takeD 22 51 (v := ?_) rfl rfl (by kernel_rfl) (by kernel_rfl) (by kernel_rfl) (fun _ _ _ h => h) (Or.inl ⟨by rfl, ?_⟩) Q1 ?_
        rotate_left
        · (intro w' hw'; (try dsimp only at hw'); go_simp; try with_reducible rfl)
        simp only [List.set_cons_zero, List.set_cons_succ]
        refine wpAnyH_takeD 23 52 (v := ?_) rfl rfl (by kernel_rfl) (by kernel_rfl) (by kernel_rfl) (fun _ _ _ h => h) (Or.inl ⟨by rfl, ?_⟩) Q1 ?_
        rotate_left
        · (intro w' hw'; (try dsimp only at hw'); go_simp; try with_reducible rfl)
        simp only [List.set_cons_zero, List.set_cons_succ]
        refine wpAnyH_takeD 24 53 (v := ?_) rfl rfl (by kernel_rfl) (by kernel_rfl) (by kernel_rfl) (fun _ _ _ h => h) (Or.inl ⟨by rfl, ?_⟩) Q1 ?_
        rotate_left
        · (intro w' hw'; (try dsimp only at hw'); go_simp; try with_reducible rfl)
        simp only [List.set_cons_zero, List.set_cons_succ]
        refine wpAnyH_step 25 rfl (by kernel_rfl) (fun K' hK' => ?_)
        rw [if_pos (by rfl)]
        go_simp
        go_at_call 56
        refine (C2.out _ (bel8 Q1)).mono ?_
        rintro e w75 ⟨rfl, hb25⟩
        have Q25 := keep8 Q1 hb25
        go_wp2_with fail
        refine hK'.out _ _ Q25 ?_
        clear hK' K'
        refine wpAnyH_takeD 26 55 (v := ?_) rfl rfl (by kernel_rfl) (by kernel_rfl) (by kernel_rfl) (fun _ _ _ h => h) (Or.inl ⟨by rfl, ?_⟩) Q25 ?_
        rotate_left
        · (intro w' hw'; (try dsimp only at hw'); go_simp; try with_reducible rfl)
        simp only [List.set_cons_zero, List.set_cons_succ]
        refine wpAnyH_takeD 27 56 (v := ?_) rfl rfl (by kernel_rfl) (by kernel_rfl) (by kernel_rfl) (fun _ _ _ h => h) (Or.inl ⟨by rfl, ?_⟩) Q25 ?_
        rotate_left
        · (intro w' hw'; (try dsimp only at hw'); go_simp; try with_reducible rfl)
        simp only [List.set_cons_zero, List.set_cons_succ]
        refine wpAnyH_takeD 28 57 (v := ?_) rfl rfl (by kernel_rfl) (by kernel_rfl) (by kernel_rfl) (fun _ _ _ h => h) (Or.inl ⟨by rfl, ?_⟩) Q25 ?_
        rotate_left
        · (intro w' hw'; (try dsimp only at hw'); go_simp; try with_reducible rfl)
        simp only [List.set_cons_zero, List.set_cons_succ]
        refine wpAnyH_takeD 29 58 (v := ?_) rfl rfl (by kernel_rfl) (by kernel_rfl) (by kernel_rfl) (fun _ _ _ h => h) (Or.inl ⟨by rfl, ?_⟩) Q25 ?_
        rotate_left
        · (intro w' hw'; (try dsimp only at hw'); go_simp; try with_reducible rfl)
        simp only [List.set_cons_zero, List.set_cons_succ]
        refine wpAnyH_takeD 30 59 (v := ?_) rfl rfl (by kernel_rfl) (by kernel_rfl) (by kernel_rfl) (fun _ _ _ h => h) (Or.inl ⟨by rfl, ?_⟩) Q25 ?_
        rotate_left
        · (intro w' hw'; (try dsimp only at hw'); go_simp; try with_reducible rfl)
        simp only [List.set_cons_zero, List.set_cons_succ]
        refine wpAnyH_takeD 31 60 (v := ?_) rfl rfl (by kernel_rfl) (by kernel_rfl) (by kernel_rfl) (fun _ _ _ h => h) (Or.inl ⟨by rfl, ?_⟩) Q25 ?_
        rotate_left
        · (intro w' hw'; (try dsimp only at hw'); go_simp; try with_reducible rfl)
        simp only [List.set_cons_zero, List.set_cons_succ]
        refine wpAnyH_takeD 32 61 (v := ?_) rfl rfl (by kernel_rfl) (by kernel_rfl) (by kernel_rfl) (fun _ _ _ h => h) (Or.inl ⟨by rfl, ?_⟩) Q25 ?_
        rotate_left
        · (intro w' hw'; (try dsimp only at hw'); go_simp; try with_reducible rfl)
        simp only [List.set_cons_zero, List.set_cons_succ]
        refine wpAnyH_takeD 33 62 (v := ?_) rfl rfl (by kernel_rfl) (by kernel_rfl) (by kernel_rfl) (fun _ _ _ h => h) (Or.inl ⟨by rfl, ?_⟩) Q25 ?_
        rotate_left
        · (intro w' hw'; (try dsimp only at hw'); go_simp; try with_reducible rfl)
        simp only [List.set_cons_zero, List.set_cons_succ]
        refine wpAnyH_step 34 rfl (by kernel_rfl) (fun K' hK' => ?_)
        rw [if_pos (by rfl)]
        go_simp
        go_at_call 58
        refine (C3.out _ (bel8 Q25)).mono ?_
        rintro e w84 ⟨rfl, hb34⟩
        have Q34 := keep8 Q25 hb34
        go_wp2_with fail
        refine hK'.out _ _ Q34 ?_
        clear hK' K'
        refine wpAnyH_takeD 35 64 (v := ?_) rfl rfl (by kernel_rfl) (by kernel_rfl) (by kernel_rfl) (fun _ _ _ h => h) (Or.inl ⟨by rfl, ?_⟩) Q34 ?_
        rotate_left
        · (intro w' hw'; (try dsimp only at hw'); go_simp; try with_reducible rfl)
        simp only [List.set_cons_zero, List.set_cons_succ]
        refine wpAnyH_takeD 36 65 (v := ?_) rfl rfl (by kernel_rfl) (by kernel_rfl) (by kernel_rfl) (fun _ _ _ h => h) (Or.inl ⟨by rfl, ?_⟩) Q34 ?_
        rotate_left
        · (intro w' hw'; (try dsimp only at hw'); go_simp; try with_reducible rfl)
        simp only [List.set_cons_zero, List.set_cons_succ]
        refine wpAnyH_takeD 37 66 (v := ?_) rfl rfl (by kernel_rfl) (by kernel_rfl) (by kernel_rfl) (fun _ _ _ h => h) (Or.inl ⟨by rfl, ?_⟩) Q34 ?_
        rotate_left
        · (intro w' hw'; (try dsimp only at hw'); go_simp; try with_reducible rfl)
        simp only [List.set_cons_zero, List.set_cons_succ]
        refine wpAnyH_takeD 38 67 (v := ?_) rfl rfl (by kernel_rfl) (by kernel_rfl) (by kernel_rfl) (fun _ _ _ h => h) (Or.inl ⟨by rfl, ?_⟩) Q34 ?_
        rotate_left
        · (intro w' hw'; (try dsimp only at hw'); go_simp; try with_reducible rfl)
        simp only [List.set_cons_zero, List.set_cons_succ]
        refine wpAnyH_takeD 39 68 (v := ?_) rfl rfl (by kernel_rfl) (by kernel_rfl) (by kernel_rfl) (fun _ _ _ h => h) (Or.inl ⟨by rfl, ?_⟩) Q34 ?_
        rotate_left
        · (intro w' hw'; (try dsimp only at hw'); go_simp; try with_reducible rfl)
        simp only [List.set_cons_zero, List.set_cons_succ]
        refine wpAnyH_takeD 40 69 (v := ?_) rfl rfl (by kernel_rfl) (by kernel_rfl) (by kernel_rfl) (fun _ _ _ h => h) (Or.inl ⟨by rfl, ?_⟩) Q34 ?_
        rotate_left
        · (intro w' hw'; (try dsimp only at hw'); go_simp; try with_reducible rfl)
        simp only [List.set_cons_zero, List.set_cons_succ]
        refine wpAnyH_takeD 41 70 (v := ?_) rfl rfl (by kernel_rfl) (by kernel_rfl) (by kernel_rfl) (fun _ _ _ h => h) (Or.inl ⟨by rfl, ?_⟩) Q34 ?_
        rotate_left
        · (intro w' hw'; (try dsimp only at hw'); go_simp; try with_reducible rfl)
        simp only [List.set_cons_zero, List.set_cons_succ]
        refine wpAnyH_takeD 42 71 (v := ?_) rfl rfl (by kernel_rfl) (by kernel_rfl) (by kernel_rfl) (fun _ _ _ h => h) (Or.inl ⟨by rfl, ?_⟩) Q34 ?_
        rotate_left
        · (intro w' hw'; (try dsimp only at hw'); go_simp; try with_reducible rfl)
        simp only [List.set_cons_zero, List.set_cons_succ]
        refine wpAnyH_takeD 43 72 (v := ?_) rfl rfl (by kernel_rfl) (by kernel_rfl) (by kernel_rfl) (fun _ _ _ h => h) (Or.inl ⟨by rfl, ?_⟩) Q34 ?_
        rotate_left
        · (intro w' hw'; (try dsimp only at hw'); go_simp; try with_reducible rfl)
        simp only [List.set_cons_zero, List.set_cons_succ]
        refine wpAnyH_takeD 44 73 (v := undef) rfl rfl (by kernel_rfl) (by kernel_rfl) (by kernel_rfl) (fun _ _ _ h => h) (Or.inr ⟨by rfl, rfl⟩) Q34 ?_
        simp only [List.set_cons_zero, List.set_cons_succ]
        refine wpAnyH_takeD 45 74 (v := undef) rfl rfl (by kernel_rfl) (by kernel_rfl) (by kernel_rfl) (fun _ _ _ h => h) (Or.inr ⟨by rfl, rfl⟩) Q34 ?_
        simp only [List.set_cons_zero, List.set_cons_succ]
        refine wpAnyH_skipD 46 75 rfl rfl (by kernel_rfl) Q34 (by rfl) ?_
        simp only [List.set_cons_zero, List.set_cons_succ]
        refine wpAnyH_takeD 47 76 (v := undef) rfl rfl (by kernel_rfl) (by kernel_rfl) (by kernel_rfl) (fun _ _ _ h => h) (Or.inr ⟨by rfl, rfl⟩) Q34 ?_
        simp only [List.set_cons_zero, List.set_cons_succ]
        refine wpAnyH_takeD 48 77 (v := ?_) rfl rfl (by kernel_rfl) (by kernel_rfl) (by kernel_rfl) (fun _ _ _ h => h) (Or.inl ⟨by rfl, ?_⟩) Q34 ?_
        rotate_left
        · (intro w' hw'; (try dsimp only at hw'); go_simp; try with_reducible rfl)
        simp only [List.set_cons_zero, List.set_cons_succ]
        refine wpAnyH_takeD 49 78 (v := ?_) rfl rfl (by kernel_rfl) (by kernel_rfl) (by kernel_rfl) (fun _ _ _ h => h) (Or.inl ⟨by rfl, ?_⟩) Q34 ?_
        rotate_left
        · (intro w' hw'; (try dsimp only at hw'); go_simp; try with_reducible rfl)
        simp only [List.set_cons_zero, List.set_cons_succ]
        refine wpAnyH_done (by kernel_rfl) ?_ _
        have hB := bel8 Q34
        go_wp2_with fail
        go_meet
        exact ⟨rfl, hB⟩
    case rest =>
      obtain ⟨rfl, BC⟩ := hcut
      clear x0 x1 x2 e0 e1 e2 y0 y1 y2 d1 d2 d1n d2n hwr
      have B5 := B4.trans (BC.mono B4.size)
      obtain ⟨y0, y1, y2⟩ := P3.of ((BC.block _ hgt).trans T0.out)
      obtain ⟨x0, x1, x2⟩ := P3.of ((B5.block _ hl0).trans E0.out)
      obtain ⟨e0, e1, e2⟩ := P3.of ((B5.block _ hl1).trans M0.out)
      have C := Lib.hid (svTake_any _ _ _ _ t rev x wc (RSrv.to TV.out (Kp.below BC)) (ROp.to HO.out (Kp.below B5)))
      rw [K7.out] at C
      go_wp2_with fail
      refine C.out.mono ?_
      rintro e w6 ⟨v6, rfl, hr6, hb6⟩
      obtain ⟨a6, l6, n6, rfl, _⟩ := id hr6
      obtain ⟨ha, hc, ia, ic, ja, jc, rfl, rfl, rfl⟩ := rsrv_shape hr6
      have hr6' := Lib.hid hr6
      clear C hr6 x0 x1 x2 e0 e1 e2 y0 y1 y2
      go_upto_region 8 with fail
      refine name_world ?_
      intro w7 hW7
      obtain ⟨hA, hbA⟩ := srv_store hr6'.out hW7
      have B7 : Below w4.heap.size w4 w7 := btr BC (hb6.trans (hbA.mono hb6.size))
      have H7 := Lib.hid hA
      clear hW7 hA hbA hr6' hb6 BC B5
      generalize w6.heap.size = gu at *
      obtain ⟨_, _, _, U0, UV⟩ := id H7.out
      obtain ⟨ha', hc', ia', ic', ja', jc', rfl, rfl, rfl⟩ := rsrv_shape UV
      have UV := Lib.hid UV
      obtain ⟨z0, z1, z2⟩ := P3.of U0
      obtain ⟨y0, y1, y2⟩ := P3.of ((B7.block _ hgt).trans T0.out)
      have C := Lib.hid (svSame_any _ _ _ _ t t w7 UV.out (RSrv.to TV.out (Kp.below B7)))
      have f4 : (decide (t.first = t.first) && decide (t.now = t.now) && decide (t.log = t.log)) = true := by simp
      rw [f4] at C
      clear f4 U0
      go_wp2_with fail
      refine C.out.mono ?_
      rintro e w8 ⟨rfl, hb8⟩
      have B8 := btr B7 hb8
      clear z0 z1 z2 y0 y1 y2 C
      obtain ⟨y0, y1, y2⟩ := P3.of ((B8.block _ hgt).trans T0.out)
      have C := Lib.hid (svFold_any _ _ _ _ t.first t.log w8 (RItems.to R1.out (Kp.below B8)) (RLog.to R2.out (Kp.below B8)))
      rw [K8.out] at C
      go_wp2_with fail
      refine C.out.mono ?_
      rintro e w9 ⟨r9, rfl, hr9, hb9⟩
      have B9 := btr B8 hb9
      clear y0 y1 y2 C
      obtain ⟨y0, y1, y2⟩ := P3.of ((B9.block _ hgt).trans T0.out)
      have S := Lib.hid (same_any _ _ r9 _ t.now t.now w9 hr9 (RItems.to R3.out (Kp.below B9)))
      rw [decide_eq_true rfl] at S
      go_wp2_with fail
      refine S.out.mono ?_
      rintro e w10 ⟨rfl, hb10⟩
      go_wp2
      go_ret
      have hb04 := btr hb0 B4
      exact ⟨rfl, btr hb04 (btr B9 hb10)⟩
  · have het' : (et != 0) = true := by simpa using het
    clear het htk
    go_wp2_with fail
    refine (served_any w4).mono ?_
    rintro e w5 ⟨rfl, hb5⟩
    go_wp2
    go_ret
    exact ⟨rfl, (hb0.trans (B4.mono hb0.size)).trans (hb5.mono (hb0.trans (B4.mono hb0.size)).size)⟩
end Go.Proofs.Ytgodceplajkcdaa
