/- The law OpKeeps, walked. -/
import Derived.Test.YtgodceplajkcdaaLOpNothing
import Derived.Test.YtgodceplajkcdaaOpTidy
import Derived.Test.YtgodceplajkcdaaOpSame
namespace Go.Mh
theorem doc_last {d : List It} (h : chkDoc d = 0) : ∃ j x, d.length = j + 1 ∧ d[j]? = some x ∧ x.c = 10 := by
  have hn := (chkDoc_ok h).1
  have hp := List.length_pos_iff.2 hn
  refine ⟨d.length - 1, d[d.length - 1], by omega, List.getElem?_eq_getElem (by omega), ?_⟩
  unfold chkDoc at h
  split at h; · simp at h
  split at h; · rename_i h2; exact absurd h h2
  have e : d.getLast? = some d[d.length - 1] := by rw [List.getLast?_eq_getElem?]; exact List.getElem?_eq_getElem (by omega)
  rw [e] at h
  simp at h
  exact UInt8.toNat_inj.1 (by show _ = 10; omega)
end Go.Mh
namespace Go.Proofs.Ytgodceplajkcdaa
open Go.RowKit Go.Mh

theorem keep2B {a b : Addr} {u v : Value} {w0 wc w' : World} (h : wc.cell? a = some u ∧ wc.cell? b = some v ∧ Below w0.heap.size w0 wc) (hb : Below wc.heap.size wc w') : w'.cell? a = some u ∧ w'.cell? b = some v ∧ Below w0.heap.size w0 w' :=
  ⟨(hb.cell (lt_of_cell h.1)).trans h.1, (hb.cell (lt_of_cell h.2.1)).trans h.2.1, btr h.2.2 hb⟩
theorem bel2B {a b : Addr} {u v : Value} {w0 wc : World} (h : wc.cell? a = some u ∧ wc.cell? b = some v ∧ Below w0.heap.size w0 wc) : Below w0.heap.size w0 wc := h.2.2

set_option maxRecDepth 100000 in
set_option maxHeartbeats 4000000 in
theorem opKeeps_walk (F G : Nat → Prop) (v u : Value) (D : List It) (L : List Pt) (w : World) (h : RItems F w v D) (g : ROp G w u L) :
    Calls Try.prog 8 #[v, u] w fun e w' => e = .returned (.bool true) ∧ Below w.heap.size w w' := by
  have C1 := Lib.hid (opApply_any F G v u D L w h g)
  obtain ⟨a, cap, rfl, hn⟩ := RdS.len h
  obtain ⟨a', cap', rfl, _⟩ := RdS.len g
  have H := Lib.hid h
  have G' := Lib.hid g
  clear h g
  by_cases hap : (applyP D L).2 = 0
  · have hA := Applies.of hap
    have hL := Lib.hid (chkOp_ok hA.op)
    obtain ⟨k1, k2, k3⟩ := law_keeps hA
    obtain ⟨r1, r2⟩ := hA.res
    have e1 : (applyP D L).1 = doA D (acts L) := by rw [hA.eq]
    have et : tidyP L = (madeP L, 0) := by simp [tidyP, hA.op]
    have et2 : tidyP (madeP L) = (madeP L, 0) := by simp [tidyP, k1, k2]
    have elong := Lib.hid (hL.out.longs)
    rw [← r2] at elong
    rw [hap, e1] at C1
    obtain ⟨j, x, hj, hx, hxc⟩ := doc_last hA.doc
    obtain ⟨j2, y, hj2, hy, hyc⟩ := doc_last r1
    have hx' := Lib.hid hx
    have hy' := Lib.hid hy
    have hxc' := Lib.hid hxc
    have hyc' := Lib.hid hyc
    have k3' := Lib.hid k3
    have et' := Lib.hid et
    have et2' := Lib.hid et2
    have r1' := Lib.hid r1
    have hj8 : j ≤ 100 := by have := (chkDoc_ok hA.doc).2; omega
    have hj9 : j2 ≤ 100 := by have := (chkDoc_ok r1).2; omega
    clear hap hA k1 k2 k3 r1 r2 e1 et et2 hx hy hxc hyc
    generalize doA D (acts L) = E at *
    generalize madeP L = T at *
    have hj' := Lib.hid hj
    have hj2' := Lib.hid hj2
    clear hj hj2
    go_enter Try.func8, Try.ntmps8
    go_wp2_with fail
    refine C1.out.mono ?_
    rintro e w1 ⟨q1, rfl, hq1, hb1⟩
    obtain ⟨a1, c1, rfl, _⟩ := RdS.len hq1
    have hE := Lib.hid hq1
    clear hq1 C1
    go_wp2_with fail
    refine (opened_any w1).mono ?_
    rintro e w2 ⟨rfl, hb2⟩
    have hB2 := hb1.trans (hb2.mono hb1.size)
    go_wp2_with fail
    refine (opLong_any G _ L w2 (ROp.to G'.out (Kp.below hB2))).mono ?_
    rintro e w3 ⟨rfl, hb3⟩
    rw [elong.out]
    have hB3 := hB2.trans (hb3.mono hB2.size)
    have hE3 : Hid (Below w1.heap.size w1 w3) := Lib.hid (hb2.trans (hb3.mono hb2.size))
    clear hb2 hb3 hB2
    go_wp2_with fail
    refine (opTidy_any G _ L w3 (ROp.to G'.out (Kp.below hB3))).mono ?_
    rintro e w4 ⟨q4, rfl, hq4, hb4⟩
    rw [et'.out] at hq4 ⊢
    obtain ⟨a4, c4, rfl, _⟩ := RdS.len hq4.rd
    have hT := Lib.hid hq4.readT
    have hB4 := hB3.trans (hb4.mono hB3.size)
    have hE4 : Hid (Below w1.heap.size w1 w4) := Lib.hid (hE3.out.trans (hb4.mono hE3.out.size))
    clear hq4 hb4 hB3 hE3
    go_wp2_with fail
    refine (opTidy_any _ _ T w4 hT.out).mono ?_
    rintro e w5 ⟨q5, rfl, hq5, hb5⟩
    rw [et2'.out] at hq5 ⊢
    obtain ⟨a5, c5, rfl, _⟩ := RdS.len hq5.rd
    have hT5 := Lib.hid hq5.readT
    have hT4 := Lib.hid (ROp.to hT.out (Kp.below hb5))
    have hB5 := hB4.trans (hb5.mono hB4.size)
    have hE5 : Hid (Below w1.heap.size w1 w5) := Lib.hid (hE4.out.trans (hb5.mono hE4.out.size))
    clear hq5 hb5 hB4 hE4 hT
    go_wp2_with fail
    refine (opApply_any F _ _ _ D T w5 (H.out.to (Kp.below hB5)) hT4.out).mono ?_
    rintro e w6 ⟨q6, rfl, hq6, hb6⟩
    rw [k3'.out] at hq6 ⊢
    obtain ⟨a6, c6, rfl, _⟩ := RdS.len hq6
    have hX6 := Lib.hid hq6
    have hB6 := hB5.trans (hb6.mono hB5.size)
    have hE6 : Hid (Below w1.heap.size w1 w6) := Lib.hid (hE5.out.trans (hb6.mono hE5.out.size))
    have hT6 := Lib.hid (ROp.to hT4.out (Kp.below hb6))
    have hU6 := Lib.hid (ROp.to hT5.out (Kp.below hb6))
    have hY6 := Lib.hid (hE.out.to (Kp.below hE6.out))
    have hD6 := Lib.hid (H.out.to (Kp.below hB6))
    clear hq6 hb6 hB5 hE5 hT4 hT5 hE6 hE
    have hjl := hj'.out
    have hj2l := hj2'.out
    obtain ⟨bx, ox, ex, x0, x1, x2⟩ := RItems.at hD6.out (brf _) hx'.out
    obtain ⟨bz, oz, ez, y0, y1, y2⟩ := RItems.at hY6.out (brf _) hy'.out
    rw [hxc'.out] at x0
    rw [hyc'.out] at y0
    subst ex ez
    rw [hjl] at H hD6 hn
    rw [hj2l] at hY6 hX6
    rw [hjl, hj2l]
    clear hjl hj2l
    have x0' : w6.cell? ⟨bx, ox + j * 3, none⟩ = some (.int .u8 10) := x0
    have y0' : w6.cell? ⟨bz, oz + j2 * 3, none⟩ = some (.int .u8 10) := y0
    clear x0 x1 x2 y0 y1 y2
    have Q : w6.cell? ⟨bz, oz + j2 * 3, none⟩ = some (.int .u8 10) ∧ w6.cell? ⟨bx, ox + j * 3, none⟩ = some (.int .u8 10) ∧ Below w6.heap.size w6 w6 := ⟨y0', x0', brf w6⟩
    clear x0' y0'
    have g1 : (0 : Int) ≤ (j : Int) := by omega
    have g2 : (0 : Int) ≤ (j2 : Int) := by omega
    have g3 : (j : Int) < (j : Int) + 1 := by omega
    have g4 : (j2 : Int) < (j2 : Int) + 1 := by omega
    have g7 : IntKind.i64.wrap (j : Int) = (j : Int) := IntWalk.i64_in _ (by omega)
    have g8 : IntKind.i64.wrap (j2 : Int) = (j2 : Int) := IntWalk.i64_in _ (by omega)
    have K1 := Lib.hid (fun (w' : World) (hb : Below w6.heap.size w6 w') => check_any _ _ E w' (hY6.out.to (Kp.below hb)))
    have K2 := Lib.hid (fun (w' : World) (hb : Below w6.heap.size w6 w') => same_any _ _ _ _ E E w' (hY6.out.to (Kp.below hb)) (hX6.out.to (Kp.below hb)))
    have K3 := Lib.hid (fun (w' : World) (hb : Below w6.heap.size w6 w') => opSame_any _ _ _ _ T T w' (ROp.to hT6.out (Kp.below hb)) (ROp.to hU6.out (Kp.below hb)))
    rw [r1'.out] at K1
    rw [decide_eq_true rfl] at K2 K3
    go_wp2_with fail
    go_region_held3 (fun w' => w'.cell? ⟨bz, oz + j2 * 3, none⟩ = some (.int .u8 10) ∧ w'.cell? ⟨bx, ox + j * 3, none⟩ = some (.int .u8 10) ∧ Below w6.heap.size w6 w') (first | exact keep2B (by assumption) (by assumption) | exact keep2B Q (Below.refl _ _).drew)
      (first | (go_at_call 30; (with_reducible refine (K1.out _ (bel2B (by assumption))).mono ?_); rintro e w7 ⟨rfl, hb7⟩)
             | (go_at_call 35; (with_reducible refine (K2.out _ (bel2B (by assumption))).mono ?_); rintro e w7 ⟨rfl, hb7⟩)
             | (go_at_call 42; (with_reducible refine (K3.out _ (bel2B (by assumption))).mono ?_); rintro e w7 ⟨rfl, hb7⟩))
    go_wp2
    go_ret
    exact ⟨rfl, btr hB6 (bel2B (by assumption))⟩
  · have hap' : ((applyP D L).2 != 0) = true := by simpa using hap
    clear hap
    generalize (applyP D L).2 = c at *
    generalize (applyP D L).1 = E at *
    go_enter Try.func8, Try.ntmps8
    go_wp2_with fail
    refine C1.out.mono ?_
    rintro e w1 ⟨r1, rfl, hr1, hb1⟩
    clear hr1 C1
    go_wp2_with fail
    refine (opened_any w1).mono ?_
    rintro e w2 ⟨rfl, hb2⟩
    have hB2 := hb1.trans (hb2.mono hb1.size)
    go_wp2_with fail
    refine (opened_any w2).mono ?_
    rintro e w3 ⟨rfl, hb3⟩
    have hB3 := hB2.trans (hb3.mono hB2.size)
    go_wp2
    go_ret
    exact ⟨rfl, hB3⟩
end Go.Proofs.Ytgodceplajkcdaa
