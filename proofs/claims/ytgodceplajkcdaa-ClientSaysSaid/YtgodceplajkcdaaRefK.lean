/- The references on clients: CheckClient, SameClient, givenUp; and client.Same. -/
import Derived.Test.YtgodceplajkcdaaClF
import Derived.Test.YtgodceplajkcdaaRefApply
import Derived.Test.YtgodceplajkcdaaRefR
import Derived.Test.YtgodceplajkcdaaRefM
import Derived.Test.YtgodceplajkcdaaRefJ
namespace Go.Proofs.Ytgodceplajkcdaa
open Go.RowKit Go.Mh

set_option maxRecDepth 100000 in
set_option maxHeartbeats 4000000 in
theorem refClCheck_any (F : Nat → Prop) (v : Value) (c : Cl) (w : World) (h : RCl F w v c) :
    Calls Try.prog 67 #[v] w fun e w' => e = .returned (.int .i64 (chkCl c)) ∧ Below w.heap.size w w' := by
  obtain ⟨b, n, s, g, rfl, hb, hn, hs, hg⟩ := h
  obtain ⟨ba, bc, rfl, _⟩ := RdS.len hb
  obtain ⟨na, nc, rfl, _⟩ := RdS.len hn
  obtain ⟨sa, sc, rfl, _⟩ := RdS.len hs
  obtain ⟨ga, gc, rfl, _⟩ := RdS.len hg
  have HB := Lib.hid hb
  have HN := Lib.hid hn
  have HS := Lib.hid hs
  have HG := Lib.hid hg
  clear hb hn hs hg
  have hrest := Lib.hid (chkCl_rest (c := c))
  have hdef : Hid (chkCl c = chkCl c) := Lib.hid rfl
  obtain ⟨r, hr⟩ : ∃ r, Hid (chkCl c = r) := ⟨_, Lib.hid rfl⟩
  clear hdef
  rw [hr.out]
  go_enter Try.func67, Try.ntmps67
  by_cases h1 : c.rev < 0 ∨ 60 < c.rev ∨ c.seq < 0 ∨ 10000 < c.seq
  · have e := hr.out
    rw [chkCl, if_pos h1] at e
    subst e
    have way : decide (c.rev < 0) = true ∨ (decide (c.rev < 0) = false ∧ decide (60 < c.rev) = true) ∨ (decide (c.rev < 0) = false ∧ decide (60 < c.rev) = false ∧ decide (c.seq < 0) = true) ∨ (decide (c.rev < 0) = false ∧ decide (60 < c.rev) = false ∧ decide (c.seq < 0) = false ∧ decide (10000 < c.seq) = true) := by
      simp only [decide_eq_true_eq, decide_eq_false_iff_not]; omega
    clear hr hrest h1
    rcases way with d1 | ⟨d1, d2⟩ | ⟨d1, d2, d3⟩ | ⟨d1, d2, d3, d4⟩
    all_goals
      go_wp2
      go_ret
      exact ⟨rfl, bal (brf w) _⟩
  · obtain ⟨d1, d2, d3, d4⟩ : decide (c.rev < 0) = false ∧ decide (60 < c.rev) = false ∧ decide (c.seq < 0) = false ∧ decide (10000 < c.seq) = false := by
      simp only [decide_eq_false_iff_not]; omega
    have hb0 : Below w.heap.size w (w.alloc (.cells #[.int .i64 c.rev, .slice ba c.base.length bc, .slice na c.now.length nc, .int .i64 c.seq, .slice sa c.sent.length sc, .slice ga c.held.length gc, .bool c.joined] 87)) := bal (brf w) _
    have hcell := Lib.hid (heap_new w (.cells #[.int .i64 c.rev, .slice ba c.base.length bc, .slice na c.now.length nc, .int .i64 c.seq, .slice sa c.sent.length sc, .slice ga c.held.length gc, .bool c.joined] 87))
    go_wp2_with fail
    refine (checkDoc_any F _ c.base _ (HB.out.to (Kp.below hb0))).mono ?_
    rintro e w1 ⟨rfl, hb1⟩
    have hB1 := btr hb0 hb1
    have hblk := Lib.hid ((hb1.block w.heap.size (by simp)).trans hcell.out)
    have hw1 : w.heap.size < w1.heap.size := lt_of_heap hblk.out
    clear hb0 hb1 hcell
    obtain ⟨x0, x1, x2, x3, x4, x5, x6⟩ := P7.of hblk.out
    by_cases h2 : chkDoc c.base = 0
    · have h12 := Lib.hid (hrest.out h1 h2)
      rw [h2]
      have h1' := Lib.hid h1
      have h2' := Lib.hid h2
      clear h1 h2 hrest
      by_cases h3 : (c.sent = [] ∧ c.held ≠ []) ∨ (c.sent ≠ [] ∧ c.seq = 0)
      · have e := hr.out
        rw [chkCl, if_neg h1'.out, h2'.out, if_neg (by simp), if_pos h3] at e
        subst e
        rcases h3 with ⟨s1, s2⟩ | ⟨s1, s2⟩
        · have t1 := len0_true s1
          have t2 := lpos_true s2
          clear s1 s2 h12 hr
          go_wp2
          go_ret
          exact ⟨rfl, hB1⟩
        · have t1 := len0_false s1
          have t2 := lpos_true s1
          have t3 : (c.seq == 0) = true := by simpa using s2
          rcases (by by_cases h : c.held = []; exact Or.inl (lpos_false h); exact Or.inr (lpos_true h) : (¬ 0 < c.held.length) ∨ 0 < c.held.length) with t4 | t4
          all_goals
            clear s1 s2 h12 hr
            go_wp2
            go_ret
            exact ⟨rfl, hB1⟩
      · have hrs := Lib.hid (h12.out h3)
        have e := hrs.out
        rw [hr.out] at e
        have hE := Lib.hid e
        have hsh : Hid (c.sent = [] → c.held = []) := Lib.hid fun h => Decidable.byContradiction fun h' => h3 (Or.inl ⟨h, h'⟩)
        have way : (((c.sent.length : Int) == 0) = true ∧ ¬ 0 < c.held.length ∧ ¬ 0 < c.sent.length ∧ True) ∨ (((c.sent.length : Int) == 0) = false ∧ 0 < c.sent.length ∧ (c.seq == 0) = false ∧ ¬ 0 < c.held.length) ∨ (((c.sent.length : Int) == 0) = false ∧ 0 < c.sent.length ∧ (c.seq == 0) = false ∧ 0 < c.held.length) := by
          by_cases hs : c.sent = []
          · exact Or.inl ⟨len0_true hs, lpos_false (hsh.out hs), lpos_false hs, trivial⟩
          · by_cases hh : c.held = []
            · exact Or.inr (Or.inl ⟨len0_false hs, lpos_true hs, by simp; exact fun h => h3 (Or.inr ⟨hs, h⟩), lpos_false hh⟩)
            · exact Or.inr (Or.inr ⟨len0_false hs, lpos_true hs, by simp; exact fun h => h3 (Or.inr ⟨hs, h⟩), lpos_true hh⟩)
        clear h3 h12 e hrs hr h1' h2'
        rcases way with ⟨t1, t2, t3, t4⟩ | ⟨t1, t2, t3, t4⟩ | ⟨t1, t2, t3, t4⟩
        all_goals
          go_wp2
          clear x0 x1 x2 x3 x4 x5 x6 t1 t2 t3 t4
          go_loopw [4, 62] (fun dv i wr => ∃ k : Nat, k ≤ 2 ∧ i = .int .i64 k ∧ ∃ D G, RItems G wr dv D ∧ Hid (k = 0 → D = c.base) ∧ Hid (k = 1 → ownsP c.base c.sent [] = (D, 0)) ∧ Hid (k = 2 → ownsP c.base c.sent c.held = (D, 0)) ∧ wr.heap[w.heap.size]? = some (.cells #[.int .i64 c.rev, .slice ba c.base.length bc, .slice na c.now.length nc, .int .i64 c.seq, .slice sa c.sent.length sc, .slice ga c.held.length gc, .bool c.joined] 87 (0, 0)) ∧ wr.heap[w1.heap.size]? = some (.cells #[.slice sa c.sent.length sc, .slice ga c.held.length gc] 53 (0, 0)) ∧ Below w.heap.size w wr) (fun _ i _ => 2 - (intOf i).toNat)
          case atStart => exact ⟨0, by omega, rfl, c.base, F, HB.out.to (Kp.below (bal hB1 _)), Lib.hid (fun _ => rfl), Lib.hid (fun h => by omega), Lib.hid (fun h => by omega), ((bal (brf w1) _).block _ hw1).trans hblk.out, heap_new w1 _, bal hB1 _⟩
          case round =>
            obtain ⟨k, hk, rfl, D, G, hD, q0, q1, q2, hbk, harr, hbr⟩ := hrel
            have k0 := cell_of harr 0 (.slice sa c.sent.length sc) rfl
            have k1 := cell_of harr 1 (.slice ga c.held.length gc) rfl
            have harl := lt_of_heap harr
            have harr' := Lib.hid harr
            clear harr
            obtain ⟨da, dc, rfl, _⟩ := RdS.len hD
            have hD' := Lib.hid hD
            have hbk' := Lib.hid hbk
            clear hD hbk
            rcases (by omega : k = 0 ∨ k = 1 ∨ k = 2) with rfl | rfl | rfl
            · have e0 := Lib.hid (q0.out rfl)
              clear q0 q1 q2
              by_cases hs : c.sent = []
              · have t1 := lpos_false hs
                have hn1 : Hid (ownsP c.base c.sent [] = (D, 0)) := Lib.hid (by rw [hs, e0.out, owns_0])
                clear hs e0
                go_wp2
                go_roundw
                case rel => exact ⟨1, by omega, rfl, D, G, hD'.out, Lib.hid (fun h => by omega), Lib.hid (fun _ => hn1.out), Lib.hid (fun h => by omega), hbk'.out, harr'.out, hbr⟩
                case measure => simp [intOf]
              · have t1 := lpos_true hs
                have C := Lib.hid (refApplied_any G F _ _ D c.sent wr hD'.out (ROp.to HS.out (Kp.below hbr)))
                have hw := lt_of_heap hbk'.out
                by_cases he : (applyP D c.sent).2 = 0
                · have hn1 : Hid (ownsP c.base c.sent [] = ((applyP D c.sent).1, 0)) := Lib.hid (by rw [e0.out] at he ⊢; exact owns_s1 hs he)
                  rw [he] at C
                  clear hs e0 he
                  go_wp2_with fail
                  refine C.out.mono ?_
                  rintro e w3 ⟨r3, rfl, hr3, hb3⟩
                  have hr3' := Lib.hid hr3
                  clear hr3
                  go_wp2
                  go_roundw
                  case rel => exact ⟨1, by omega, rfl, _, _, hr3'.out, Lib.hid (fun h => by omega), Lib.hid (fun _ => hn1.out), Lib.hid (fun h => by omega), (hb3.block _ hw).trans hbk'.out, (hb3.block _ harl).trans harr'.out, hbr.trans (hb3.mono hbr.size)⟩
                  case measure => simp [intOf]
                · have hn1 : Hid (ownsP c.base c.sent c.held = ([], (applyP D c.sent).2)) := Lib.hid (by rw [e0.out] at he ⊢; exact owns_e1 hs he)
                  have e2 := hE.out
                  rw [hn1.out, if_pos he] at e2
                  subst e2
                  have he' : ((applyP D c.sent).2 != 0) = true := by simpa using he
                  clear hs e0 he hE
                  go_wp2_with fail
                  refine C.out.mono ?_
                  rintro e w3 ⟨r3, rfl, hr3, hb3⟩
                  clear hr3
                  go_wp2
                  go_ret
                  exact ⟨rfl, hbr.trans (hb3.mono hbr.size)⟩
            · have e0 := Lib.hid (q1.out rfl)
              clear q0 q1 q2
              by_cases hs : c.held = []
              · have t1 := lpos_false hs
                have hn1 : Hid (ownsP c.base c.sent c.held = (D, 0)) := Lib.hid (by rw [hs]; exact e0.out)
                clear hs e0
                go_wp2
                go_roundw
                case rel => exact ⟨2, by omega, rfl, D, G, hD'.out, Lib.hid (fun h => by omega), Lib.hid (fun h => by omega), Lib.hid (fun _ => hn1.out), hbk'.out, harr'.out, hbr⟩
                case measure => simp [intOf]
              · have t1 := lpos_true hs
                have hss : c.sent ≠ [] := fun h => hs (hsh.out h)
                have C := Lib.hid (refApplied_any G F _ _ D c.held wr hD'.out (ROp.to HG.out (Kp.below hbr)))
                have hw := lt_of_heap hbk'.out
                have heq := Lib.hid (owns_s2 hss hs e0.out)
                by_cases he : (applyP D c.held).2 = 0
                · have hn1 : Hid (ownsP c.base c.sent c.held = ((applyP D c.held).1, 0)) := Lib.hid (by rw [heq.out, ← he])
                  rw [he] at C
                  clear hs hss e0 he heq
                  go_wp2_with fail
                  refine C.out.mono ?_
                  rintro e w3 ⟨r3, rfl, hr3, hb3⟩
                  have hr3' := Lib.hid hr3
                  clear hr3
                  go_wp2
                  go_roundw
                  case rel => exact ⟨2, by omega, rfl, _, _, hr3'.out, Lib.hid (fun h => by omega), Lib.hid (fun h => by omega), Lib.hid (fun _ => hn1.out), (hb3.block _ hw).trans hbk'.out, (hb3.block _ harl).trans harr'.out, hbr.trans (hb3.mono hbr.size)⟩
                  case measure => simp [intOf]
                · have e2 := hE.out
                  rw [heq.out, if_pos he] at e2
                  subst e2
                  have he' : ((applyP D c.held).2 != 0) = true := by simpa using he
                  clear hs hss e0 he hE heq
                  go_wp2_with fail
                  refine C.out.mono ?_
                  rintro e w3 ⟨r3, rfl, hr3, hb3⟩
                  clear hr3
                  go_wp2
                  go_ret
                  exact ⟨rfl, hbr.trans (hb3.mono hbr.size)⟩
            · have e0 := Lib.hid (q2.out rfl)
              clear q0 q1 q2
              have e2 := hE.out
              rw [e0.out] at e2
              simp only [ne_eq, not_true_eq_false, if_false] at e2
              obtain ⟨x0, x1, x2, x3, x4, x5, x6⟩ := P7.of hbk'.out
              have C := Lib.hid (eqDoc_any G F _ _ D c.now wr hD'.out (HN.out.to (Kp.below hbr)))
              clear e0 hE
              by_cases he : D = c.now
              · rw [decide_eq_true he] at C
                rw [if_pos he] at e2
                subst e2
                clear he
                go_wp2_with fail
                refine C.out.mono ?_
                rintro e w3 ⟨rfl, hb3⟩
                go_wp2
                go_ret
                exact ⟨rfl, hbr.trans (hb3.mono hbr.size)⟩
              · rw [decide_eq_false he] at C
                rw [if_neg he] at e2
                subst e2
                clear he
                go_wp2_with fail
                refine C.out.mono ?_
                rintro e w3 ⟨rfl, hb3⟩
                go_wp2
                go_ret
                exact ⟨rfl, hbr.trans (hb3.mono hbr.size)⟩
    · have e := hr.out
      rw [chkCl, if_neg h1, if_pos h2] at e
      subst e
      have h2' : (chkDoc c.base != 0) = true := by simpa using h2
      clear h2 hr hrest h1
      go_wp2
      go_ret
      exact ⟨rfl, hB1⟩

set_option maxRecDepth 100000 in
set_option maxHeartbeats 4000000 in
theorem refClSame_any (F G : Nat → Prop) (v u : Value) (c : Cl) (w : World) (h : RCl F w v c) (g : RCl G w u c) :
    Calls Try.prog 69 #[v, u] w fun e w' => e = .returned (.bool true) ∧ Below w.heap.size w w' := by
  obtain ⟨b, n, s, k, rfl, h1, h2, h3, h4⟩ := h
  obtain ⟨b', n', s', k', rfl, g1, g2, g3, g4⟩ := g
  obtain ⟨ba, bc, rfl, _⟩ := RdS.len h1
  obtain ⟨na, nc, rfl, _⟩ := RdS.len h2
  obtain ⟨sa, sc, rfl, _⟩ := RdS.len h3
  obtain ⟨ka, kc, rfl, _⟩ := RdS.len h4
  obtain ⟨bx, by', rfl, _⟩ := RdS.len g1
  obtain ⟨nx, ny, rfl, _⟩ := RdS.len g2
  obtain ⟨sx, sy, rfl, _⟩ := RdS.len g3
  obtain ⟨kx, ky, rfl, _⟩ := RdS.len g4
  have H1 := Lib.hid h1
  have H2 := Lib.hid h2
  have H3 := Lib.hid h3
  have H4 := Lib.hid h4
  have G1 := Lib.hid g1
  have G2 := Lib.hid g2
  have G3 := Lib.hid g3
  have G4 := Lib.hid g4
  clear h1 h2 h3 h4 g1 g2 g3 g4
  have b1 : (c.rev == c.rev) = true := by simp
  have b2 : (c.seq == c.seq) = true := by simp
  have b3 : (c.joined == c.joined) = true := by simp
  obtain ⟨w1, hw1⟩ : ∃ w1, w1 = (w.alloc (.cells #[.int .i64 c.rev, .slice ba c.base.length bc, .slice na c.now.length nc, .int .i64 c.seq, .slice sa c.sent.length sc, .slice ka c.held.length kc, .bool c.joined] 87)).alloc (.cells #[.int .i64 c.rev, .slice bx c.base.length by', .slice nx c.now.length ny, .int .i64 c.seq, .slice sx c.sent.length sy, .slice kx c.held.length ky, .bool c.joined] 87) := ⟨_, rfl⟩
  have hb1 : Below w.heap.size w w1 := by rw [hw1]; exact bal (bal (brf w) _) _
  have P1 := Lib.hid (by rw [hw1]; exact heap_at2 rfl : w1.heap[w.heap.size]? = some (.cells #[.int .i64 c.rev, .slice ba c.base.length bc, .slice na c.now.length nc, .int .i64 c.seq, .slice sa c.sent.length sc, .slice ka c.held.length kc, .bool c.joined] 87 (0, 0)))
  have Q1 := Lib.hid (by rw [hw1]; exact heap_at (by simp) : w1.heap[w.heap.size + 1]? = some (.cells #[.int .i64 c.rev, .slice bx c.base.length by', .slice nx c.now.length ny, .int .i64 c.seq, .slice sx c.sent.length sy, .slice kx c.held.length ky, .bool c.joined] 87 (0, 0)))
  go_enter Try.func69, Try.ntmps69
  go_upto_region 1 with fail
  rw [← hw1]
  clear hw1
  obtain ⟨x0, x1, x2, x3, x4, x5, x6⟩ := P7.of P1.out
  obtain ⟨y0, y1, y2, y3, y4, y5, y6⟩ := P7.of Q1.out
  have C1 := Lib.hid (eqDoc_same _ _ _ _ c.base w1 (H1.out.to (Kp.below hb1)) (G1.out.to (Kp.below hb1)))
  go_wp2_with fail
  refine C1.out.mono ?_
  rintro e w2 ⟨rfl, hc2⟩
  have hb2 := btr hb1 hc2
  have P2 := Lib.hid ((hc2.block _ (lt_of_heap P1.out)).trans P1.out)
  have Q2 := Lib.hid ((hc2.block _ (lt_of_heap Q1.out)).trans Q1.out)
  clear x0 x1 x2 x3 x4 x5 x6 y0 y1 y2 y3 y4 y5 y6 C1 P1 Q1 hc2
  obtain ⟨x0, x1, x2, x3, x4, x5, x6⟩ := P7.of P2.out
  obtain ⟨y0, y1, y2, y3, y4, y5, y6⟩ := P7.of Q2.out
  have C2 := Lib.hid (eqDoc_same _ _ _ _ c.now w2 (H2.out.to (Kp.below hb2)) (G2.out.to (Kp.below hb2)))
  go_wp2_with fail
  refine C2.out.mono ?_
  rintro e w3 ⟨rfl, hc3⟩
  have hb3 := btr hb2 hc3
  have P3 := Lib.hid ((hc3.block _ (lt_of_heap P2.out)).trans P2.out)
  have Q3 := Lib.hid ((hc3.block _ (lt_of_heap Q2.out)).trans Q2.out)
  clear x0 x1 x2 x3 x4 x5 x6 y0 y1 y2 y3 y4 y5 y6 C2 P2 Q2 hc3
  obtain ⟨x0, x1, x2, x3, x4, x5, x6⟩ := P7.of P3.out
  obtain ⟨y0, y1, y2, y3, y4, y5, y6⟩ := P7.of Q3.out
  have C3 := Lib.hid (refSame_any _ _ _ _ c.sent c.sent w3 (ROp.to H3.out (Kp.below hb3)) (ROp.to G3.out (Kp.below hb3)))
  rw [decide_eq_true rfl] at C3
  go_wp2_with fail
  refine C3.out.mono ?_
  rintro e w4 ⟨rfl, hc4⟩
  have hb4 := btr hb3 hc4
  have P4 := Lib.hid ((hc4.block _ (lt_of_heap P3.out)).trans P3.out)
  have Q4 := Lib.hid ((hc4.block _ (lt_of_heap Q3.out)).trans Q3.out)
  clear x0 x1 x2 x3 x4 x5 x6 y0 y1 y2 y3 y4 y5 y6 C3 P3 Q3 hc4
  obtain ⟨x0, x1, x2, x3, x4, x5, x6⟩ := P7.of P4.out
  obtain ⟨y0, y1, y2, y3, y4, y5, y6⟩ := P7.of Q4.out
  have C4 := Lib.hid (refSame_any _ _ _ _ c.held c.held w4 (ROp.to H4.out (Kp.below hb4)) (ROp.to G4.out (Kp.below hb4)))
  rw [decide_eq_true rfl] at C4
  go_wp2_with fail
  refine C4.out.mono ?_
  rintro e w5 ⟨rfl, hc5⟩
  have hb5 := btr hb4 hc5
  have P5 := Lib.hid ((hc5.block _ (lt_of_heap P4.out)).trans P4.out)
  have Q5 := Lib.hid ((hc5.block _ (lt_of_heap Q4.out)).trans Q4.out)
  clear x0 x1 x2 x3 x4 x5 x6 y0 y1 y2 y3 y4 y5 y6 C4 P4 Q4 hc5
  go_wp2
  go_ret
  exact ⟨rfl, hb5⟩

set_option maxRecDepth 100000 in
set_option maxHeartbeats 4000000 in
theorem clSame_any (F G : Nat → Prop) (v u : Value) (c : Cl) (w : World) (h : RCl F w v c) (g : RCl G w u c) :
    Calls Try.prog 68 #[v, u] w fun e w' => e = .returned (.bool true) ∧ Below w.heap.size w w' := by
  obtain ⟨b, n, s, k, rfl, h1, h2, h3, h4⟩ := h
  obtain ⟨b', n', s', k', rfl, g1, g2, g3, g4⟩ := g
  obtain ⟨ba, bc, rfl, _⟩ := RdS.len h1
  obtain ⟨na, nc, rfl, _⟩ := RdS.len h2
  obtain ⟨sa, sc, rfl, _⟩ := RdS.len h3
  obtain ⟨ka, kc, rfl, _⟩ := RdS.len h4
  obtain ⟨bx, by', rfl, _⟩ := RdS.len g1
  obtain ⟨nx, ny, rfl, _⟩ := RdS.len g2
  obtain ⟨sx, sy, rfl, _⟩ := RdS.len g3
  obtain ⟨kx, ky, rfl, _⟩ := RdS.len g4
  have H1 := Lib.hid h1
  have H2 := Lib.hid h2
  have H3 := Lib.hid h3
  have H4 := Lib.hid h4
  have G1 := Lib.hid g1
  have G2 := Lib.hid g2
  have G3 := Lib.hid g3
  have G4 := Lib.hid g4
  clear h1 h2 h3 h4 g1 g2 g3 g4
  have b1 : (c.rev == c.rev) = true := by simp
  have b2 : (c.seq == c.seq) = true := by simp
  have b3 : (c.joined == c.joined) = true := by simp
  obtain ⟨w1, hw1⟩ : ∃ w1, w1 = (w.alloc (.cells #[.int .i64 c.rev, .slice ba c.base.length bc, .slice na c.now.length nc, .int .i64 c.seq, .slice sa c.sent.length sc, .slice ka c.held.length kc, .bool c.joined] 87)).alloc (.cells #[.int .i64 c.rev, .slice bx c.base.length by', .slice nx c.now.length ny, .int .i64 c.seq, .slice sx c.sent.length sy, .slice kx c.held.length ky, .bool c.joined] 87) := ⟨_, rfl⟩
  have hb1 : Below w.heap.size w w1 := by rw [hw1]; exact bal (bal (brf w) _) _
  have P1 := Lib.hid (by rw [hw1]; exact heap_at2 rfl : w1.heap[w.heap.size]? = some (.cells #[.int .i64 c.rev, .slice ba c.base.length bc, .slice na c.now.length nc, .int .i64 c.seq, .slice sa c.sent.length sc, .slice ka c.held.length kc, .bool c.joined] 87 (0, 0)))
  have Q1 := Lib.hid (by rw [hw1]; exact heap_at (by simp) : w1.heap[w.heap.size + 1]? = some (.cells #[.int .i64 c.rev, .slice bx c.base.length by', .slice nx c.now.length ny, .int .i64 c.seq, .slice sx c.sent.length sy, .slice kx c.held.length ky, .bool c.joined] 87 (0, 0)))
  go_enter Try.func68, Try.ntmps68
  go_upto_region 1 with fail
  rw [← hw1]
  clear hw1
  obtain ⟨x0, x1, x2, x3, x4, x5, x6⟩ := P7.of P1.out
  obtain ⟨y0, y1, y2, y3, y4, y5, y6⟩ := P7.of Q1.out
  have C1 := Lib.hid (same_any _ _ _ _ c.base c.base w1 (H1.out.to (Kp.below hb1)) (G1.out.to (Kp.below hb1)))
  rw [decide_eq_true rfl] at C1
  go_wp2_with fail
  refine C1.out.mono ?_
  rintro e w2 ⟨rfl, hc2⟩
  have hb2 := btr hb1 hc2
  have P2 := Lib.hid ((hc2.block _ (lt_of_heap P1.out)).trans P1.out)
  have Q2 := Lib.hid ((hc2.block _ (lt_of_heap Q1.out)).trans Q1.out)
  clear x0 x1 x2 x3 x4 x5 x6 y0 y1 y2 y3 y4 y5 y6 C1 P1 Q1 hc2
  obtain ⟨x0, x1, x2, x3, x4, x5, x6⟩ := P7.of P2.out
  obtain ⟨y0, y1, y2, y3, y4, y5, y6⟩ := P7.of Q2.out
  have C2 := Lib.hid (same_any _ _ _ _ c.now c.now w2 (H2.out.to (Kp.below hb2)) (G2.out.to (Kp.below hb2)))
  rw [decide_eq_true rfl] at C2
  go_wp2_with fail
  refine C2.out.mono ?_
  rintro e w3 ⟨rfl, hc3⟩
  have hb3 := btr hb2 hc3
  have P3 := Lib.hid ((hc3.block _ (lt_of_heap P2.out)).trans P2.out)
  have Q3 := Lib.hid ((hc3.block _ (lt_of_heap Q2.out)).trans Q2.out)
  clear x0 x1 x2 x3 x4 x5 x6 y0 y1 y2 y3 y4 y5 y6 C2 P2 Q2 hc3
  obtain ⟨x0, x1, x2, x3, x4, x5, x6⟩ := P7.of P3.out
  obtain ⟨y0, y1, y2, y3, y4, y5, y6⟩ := P7.of Q3.out
  have C3 := Lib.hid (opSame_any _ _ _ _ c.sent c.sent w3 (ROp.to H3.out (Kp.below hb3)) (ROp.to G3.out (Kp.below hb3)))
  rw [decide_eq_true rfl] at C3
  go_wp2_with fail
  refine C3.out.mono ?_
  rintro e w4 ⟨rfl, hc4⟩
  have hb4 := btr hb3 hc4
  have P4 := Lib.hid ((hc4.block _ (lt_of_heap P3.out)).trans P3.out)
  have Q4 := Lib.hid ((hc4.block _ (lt_of_heap Q3.out)).trans Q3.out)
  clear x0 x1 x2 x3 x4 x5 x6 y0 y1 y2 y3 y4 y5 y6 C3 P3 Q3 hc4
  obtain ⟨x0, x1, x2, x3, x4, x5, x6⟩ := P7.of P4.out
  obtain ⟨y0, y1, y2, y3, y4, y5, y6⟩ := P7.of Q4.out
  have C4 := Lib.hid (opSame_any _ _ _ _ c.held c.held w4 (ROp.to H4.out (Kp.below hb4)) (ROp.to G4.out (Kp.below hb4)))
  rw [decide_eq_true rfl] at C4
  go_wp2_with fail
  refine C4.out.mono ?_
  rintro e w5 ⟨rfl, hc5⟩
  have hb5 := btr hb4 hc5
  have P5 := Lib.hid ((hc5.block _ (lt_of_heap P4.out)).trans P4.out)
  have Q5 := Lib.hid ((hc5.block _ (lt_of_heap Q4.out)).trans Q4.out)
  clear x0 x1 x2 x3 x4 x5 x6 y0 y1 y2 y3 y4 y5 y6 C4 P4 Q4 hc5
  go_wp2
  go_ret
  exact ⟨rfl, hb5⟩

set_option maxRecDepth 100000 in
set_option maxHeartbeats 2000000 in
theorem refGive_any (r q : Int) (ba na sa ka : Option Addr) (bl bc nl nc sl sc kl kc : Nat) (j : Bool) (w : World) :
    Calls Try.prog 120 #[.agg #[.int .i64 r, .slice ba bl bc, .slice na nl nc, .int .i64 q, .slice sa sl sc, .slice ka kl kc, .bool j]] w fun e w' => e = .returned (.agg #[.int .i64 r, .slice ba bl bc, .slice ba bl bc, .int .i64 q, .slice none 0 0, .slice none 0 0, .bool j]) ∧ Below w.heap.size w w' := by
  obtain ⟨w1, hw1⟩ : ∃ w1, w1 = (w.alloc (.cells #[.int .i64 r, .slice ba bl bc, .slice na nl nc, .int .i64 q, .slice sa sl sc, .slice ka kl kc, .bool j] 87)).alloc clZero := ⟨_, rfl⟩
  have hb1 : Below w.heap.size w w1 := by rw [hw1]; exact bal (bal (brf w) _) _
  have P1 := Lib.hid (by rw [hw1]; exact heap_at2 rfl : w1.heap[w.heap.size]? = some (.cells #[.int .i64 r, .slice ba bl bc, .slice na nl nc, .int .i64 q, .slice sa sl sc, .slice ka kl kc, .bool j] 87 (0, 0)))
  have Q1 := Lib.hid (by rw [hw1]; exact heap_at (by simp) : w1.heap[w.heap.size + 1]? = some clZero)
  go_enter Try.func120, Try.ntmps120
  go_upto_region 1 with fail
  rw [← hw1]
  clear hw1
  obtain ⟨x0, x1, x2, x3, x4, x5, x6⟩ := P7.of P1.out
  have hfz : ∀ i, w1.frozen? ⟨w.heap.size, i, none⟩ = false := fun i => Lib.frozen_of_heap P1.out _
  have hgx : w.heap.size < w1.heap.size := lt_of_heap P1.out
  obtain ⟨q1, q2⟩ := set452 P1.out (.slice none 0 0) (.slice none 0 0) (.slice ba bl bc)
  go_upto_region 2 with fail
  refine name_world ?_
  intro w2 hW2
  rw [hW2] at q1 q2
  have Q2 := (q2.same _ (lt_of_heap Q1.out) (by omega)).trans Q1.out
  clear x0 x1 x2 x3 x4 x5 x6 hfz hgx hW2
  obtain ⟨x0, x1, x2, x3, x4, x5, x6⟩ := P7.of q1
  obtain ⟨y0, y1, y2, y3, y4, y5, y6⟩ := P7.of Q2
  have hfz : ∀ i, w2.frozen? ⟨w.heap.size + 1, i, none⟩ = false := fun i => Lib.frozen_of_heap Q2 _
  have hgx : w.heap.size + 1 < w2.heap.size := lt_of_heap Q2
  have hB := hb1.trans q2.bel
  clear q2 q1
  go_wp2
  obtain ⟨q1, q2⟩ := set7z Q2 (.int .i64 r) (.slice ba bl bc) (.slice ba bl bc) (.int .i64 q) (.slice none 0 0) (.slice none 0 0) (.bool j)
  generalize hwz : (((((((w2.setCell ⟨w.heap.size + 1, 0, none⟩ _).setCell ⟨w.heap.size + 1, 1, none⟩ _).setCell ⟨w.heap.size + 1, 2, none⟩ _).setCell ⟨w.heap.size + 1, 3, none⟩ _).setCell ⟨w.heap.size + 1, 4, none⟩ _).setCell ⟨w.heap.size + 1, 5, none⟩ _).setCell ⟨w.heap.size + 1, 6, none⟩ _) = wz at *
  obtain ⟨z0, z1, z2, z3, z4, z5, z6⟩ := P7.of q1
  exact bodyPost_ret (v := .agg #[.int .i64 r, .slice ba bl bc, .slice ba bl bc, .int .i64 q, .slice none 0 0, .slice none 0 0, .bool j]) (by simp [results, Try.results120, go_sem, z0, z1, z2, z3, z4, z5, z6]) rfl ⟨rfl, hB.trans (q2.bel.mono (by omega))⟩
theorem RCl.give {F : Nat → Prop} {w : World} {r b n q s k j : Value} {c : Cl} (h : RCl F w (.agg #[r, b, n, q, s, k, j]) c) : RCl F w (.agg #[r, b, b, q, .slice none 0 0, .slice none 0 0, j]) (giveC c) := by
  obtain ⟨_, _, _, _, e, h1, h2, h3, h4⟩ := h
  simp at e
  obtain ⟨rfl, rfl, rfl, rfl, rfl, rfl, rfl⟩ := e
  exact ⟨_, _, _, _, rfl, h1, h1, RdS.nil, RdS.nil⟩

set_option maxRecDepth 100000 in
set_option maxHeartbeats 2000000 in
theorem refDoFail_any (x : Int) (w : World) :
    Calls Try.prog 119 #[.int .i64 x] w fun e w' => e = .returned (.tuple #[.agg #[.int .i64 0, .slice none 0 0, .slice none 0 0, .int .i64 0, .slice none 0 0, .slice none 0 0, .bool false], .bool false, .int .i64 x]) ∧ Below w.heap.size w w' := by
  obtain ⟨w1, hw1⟩ : ∃ w1, w1 = w.alloc clZero := ⟨_, rfl⟩
  have hb1 : Below w.heap.size w w1 := by rw [hw1]; exact bal (brf w) _
  have P1 : w1.heap[w.heap.size]? = some clZero := by rw [hw1]; exact heap_at rfl
  go_enter Try.func119, Try.ntmps119
  go_upto_region 1 with fail
  rw [← hw1]
  clear hw1
  obtain ⟨x0, x1, x2, x3, x4, x5, x6⟩ := P7.of P1
  have hfz : ∀ i, w1.frozen? ⟨w.heap.size, i, none⟩ = false := fun i => Lib.frozen_of_heap P1 _
  have hgx : w.heap.size < w1.heap.size := lt_of_heap P1
  go_wp2
  obtain ⟨q1, q2⟩ := set7z P1 (.int .i64 0) (.slice none 0 0) (.slice none 0 0) (.int .i64 0) (.slice none 0 0) (.slice none 0 0) (.bool false)
  generalize hwz : (((((((w1.setCell ⟨w.heap.size, 0, none⟩ _).setCell ⟨w.heap.size, 1, none⟩ _).setCell ⟨w.heap.size, 2, none⟩ _).setCell ⟨w.heap.size, 3, none⟩ _).setCell ⟨w.heap.size, 4, none⟩ _).setCell ⟨w.heap.size, 5, none⟩ _).setCell ⟨w.heap.size, 6, none⟩ _) = wz at *
  obtain ⟨z0, z1, z2, z3, z4, z5, z6⟩ := P7.of q1
  exact bodyPost_ret (v := .tuple #[.agg #[.int .i64 0, .slice none 0 0, .slice none 0 0, .int .i64 0, .slice none 0 0, .slice none 0 0, .bool false], .bool false, .int .i64 x]) (by simp [results, Try.results119, go_sem, z0, z1, z2, z3, z4, z5, z6]) rfl ⟨rfl, hb1.trans q2.bel⟩
end Go.Proofs.Ytgodceplajkcdaa
/- The reference ClientDoes, of a right client. -/
namespace Go.Mh
open Go.RowKit
/-- All blocks stay but for the two from B on. -/
structure Off2 (B : Nat) (w w' : World) : Prop where
  size : w.heap.size ≤ w'.heap.size
  same : ∀ k, k < w.heap.size → k ≠ B → k ≠ B + 1 → w'.heap[k]? = w.heap[k]?
theorem Off2.refl (B : Nat) (w : World) : Off2 B w w := ⟨Nat.le_refl _, fun _ _ _ _ => rfl⟩
theorem Off2.below {B : Nat} {w a b : World} (h : Off2 B w a) (hb : Below a.heap.size a b) : Off2 B w b := ⟨Nat.le_trans h.size hb.size, fun k hk h1 h2 => (hb.block k (Nat.lt_of_lt_of_le hk h.size)).trans (h.same k hk h1 h2)⟩
theorem Off2.set {B g i : Nat} {w a : World} {u : Value} (h : Off2 B w a) (hg : g = B ∨ g = B + 1) : Off2 B w (a.setCell ⟨g, i, none⟩ u) :=
  ⟨by simpa using h.size, fun k hk h1 h2 => (heap_setCell_other a ⟨g, i, none⟩ k u (by simp; omega)).trans (h.same k hk h1 h2)⟩
theorem Off2.stays {B g : Nat} {w a b : World} (h : Off2 B w a) (hs : Stays g a b) (hg : g = B ∨ g = B + 1) : Off2 B w b := ⟨Nat.le_trans h.size hs.bel.size, fun k hk h1 h2 => (hs.same k (Nat.lt_of_lt_of_le hk h.size) (by omega)).trans (h.same k hk h1 h2)⟩
theorem Off2.kp {B : Nat} {w a : World} {F : Nat → Prop} (h : Off2 B w a) (hF : ∀ k, F k → k ≠ B ∧ k ≠ B + 1) : Kp F (fun _ => True) w a := fun k hk hl => ⟨trivial, h.same k hl (hF k hk).1 (hF k hk).2⟩
end Go.Mh
namespace Go.Proofs.Ytgodceplajkcdaa
open Go.RowKit Go.Mh

set_option maxRecDepth 100000 in
set_option maxHeartbeats 8000000 in
theorem refDo_any (F G : Nat → Prop) (v u : Value) (c : Cl) (o : List Pt) (w : World) (h : RCl F w v c) (g : ROp G w u o) (hok : ClOk c) :
    Calls Try.prog 70 #[v, u] w fun e w' => ∃ v', e = .returned (.tuple #[v', .bool (doC c o).2.1, .int .i64 (doC c o).2.2]) ∧ RCl (fun _ => True) w' v' (doC c o).1 ∧ Below w.heap.size w w' := by
  have hh := RCl.to h (Kp.lt w)
  have gg := ROp.to g (Kp.lt w)
  clear h g
  obtain ⟨b, n, s, k, rfl, h1, h2, h3, h4⟩ := hh
  obtain ⟨ba, bc, rfl, _⟩ := RdS.len h1
  obtain ⟨na, nc, rfl, _⟩ := RdS.len h2
  obtain ⟨sa, sc, rfl, _⟩ := RdS.len h3
  obtain ⟨ka, kc, rfl, _⟩ := RdS.len h4
  obtain ⟨ua, uc, rfl, _⟩ := RdS.len gg
  have nF : ∀ k, (G k ∧ k < w.heap.size) → k ≠ w.heap.size ∧ k ≠ w.heap.size + 1 := fun k hk => ⟨by omega, by omega⟩
  have nF' : ∀ k, (F k ∧ k < w.heap.size) → k ≠ w.heap.size ∧ k ≠ w.heap.size + 1 := fun k hk => ⟨by omega, by omega⟩
  have H1 := Lib.hid (fun w' (h : Off2 w.heap.size w w') => (RItems.to h1 (h.kp nF') : RItems (fun _ => True) w' _ _))
  have H2 := Lib.hid (fun w' (h : Off2 w.heap.size w w') => (RItems.to h2 (h.kp nF') : RItems (fun _ => True) w' _ _))
  have H3 := Lib.hid (fun w' (h : Off2 w.heap.size w w') => (ROp.to h3 (h.kp nF') : ROp (fun _ => True) w' _ _))
  have H4 := Lib.hid (fun w' (h : Off2 w.heap.size w w') => (ROp.to h4 (h.kp nF') : ROp (fun _ => True) w' _ _))
  have HU := Lib.hid (fun w' (h : Off2 w.heap.size w w') => (ROp.to gg (h.kp nF) : ROp (fun _ => True) w' _ _))
  clear h1 h2 h3 h4 gg nF nF'
  obtain ⟨w1, hw1⟩ : ∃ w1, w1 = (w.alloc (.cells #[.int .i64 c.rev, .slice ba c.base.length bc, .slice na c.now.length nc, .int .i64 c.seq, .slice sa c.sent.length sc, .slice ka c.held.length kc, .bool c.joined] 87)).alloc clZero := ⟨_, rfl⟩
  have hb1 := Lib.hid (by rw [hw1]; exact bal (bal (brf w) _) _ : Below w.heap.size w w1)
  have P1 := Lib.hid (by rw [hw1]; exact heap_at2 rfl : w1.heap[w.heap.size]? = some (.cells #[.int .i64 c.rev, .slice ba c.base.length bc, .slice na c.now.length nc, .int .i64 c.seq, .slice sa c.sent.length sc, .slice ka c.held.length kc, .bool c.joined] 87 (0, 0)))
  have Q1 := Lib.hid (by rw [hw1]; exact heap_at (by simp) : w1.heap[w.heap.size + 1]? = some clZero)
  have O1 := Lib.hid ((Off2.refl w.heap.size w).below hb1.out)
  have hs1 : w.heap.size + 1 < w1.heap.size := lt_of_heap Q1.out
  obtain ⟨⟨R1, R2, R3⟩, hres⟩ : ∃ r, Hid (doC c o = r) := ⟨_, Lib.hid rfl⟩
  rw [hres.out]
  have hck := Lib.hid hok.chk
  have hsq : 0 ≤ c.seq ∧ c.seq ≤ 10000 := ⟨hok.s0, hok.s1⟩
  have hok' := Lib.hid hok
  clear hok
  go_enter Try.func70, Try.ntmps70
  go_upto_region 1 with fail
  rw [← hw1]
  clear hw1
  obtain ⟨x0, x1, x2, x3, x4, x5, x6⟩ := P7.of P1.out
  have C1 := Lib.hid (refApplied_any _ _ _ _ c.now o w1 (H2.out w1 O1.out) (HU.out w1 O1.out))
  obtain ⟨⟨D, E⟩, hD⟩ : ∃ q, applyP c.now o = q := ⟨_, rfl⟩
  have hD' := Lib.hid hD
  rw [hD] at C1
  clear hD
  go_wp2_with fail
  refine C1.out.mono ?_
  rintro e w2 ⟨r2, rfl, hr2, hb2⟩
  obtain ⟨da, dc, rfl, _⟩ := RdS.len hr2
  dsimp only at *
  have P2 := Lib.hid ((hb2.block _ (lt_of_heap P1.out)).trans P1.out)
  have Q2 := Lib.hid ((hb2.block _ (lt_of_heap Q1.out)).trans Q1.out)
  have O2 := Lib.hid (O1.out.below hb2)
  have B2 := Lib.hid (hb1.out.trans (hb2.mono hb1.out.size))
  have HD := Lib.hid (fun w' (h : Off2 w.heap.size w2 w') => (RItems.to hr2 (h.kp (fun k hk => ⟨by omega, by omega⟩)) : RItems (fun _ => True) w' _ _))
  clear hr2 hb2 P1 Q1 O1 hb1 C1 x0 x1 x2 x3 x4 x5 x6
  obtain ⟨x0, x1, x2, x3, x4, x5, x6⟩ := P7.of P2.out
  by_cases he : E = 0
  · subst he
    have he' := Lib.hid (by rw [hD'.out] : (applyP c.now o).2 = 0)
    have hd1 := Lib.hid (by rw [hD'.out] : (applyP c.now o).1 = D)
    have hfz : ∀ i, w2.frozen? ⟨w.heap.size, i, none⟩ = false := fun i => Lib.frozen_of_heap P2.out _
    have hgx : w.heap.size < w2.heap.size := lt_of_heap P2.out
    go_upto_region 6 with fail
    have Q3' := (heap_setCell_other w2 ⟨w.heap.size, 2, none⟩ (w.heap.size + 1) (.slice da D.length dc) (by simp)).trans Q2.out
    have P3' := heap_setCell_same w2 w.heap.size 2 _ _ (.slice da D.length dc) P2.out
    have O23 := (Off2.refl w.heap.size w2).set (i := 2) (u := .slice da D.length dc) (Or.inl rfl : w.heap.size = w.heap.size ∨ _)
    have O3' := O2.out.set (i := 2) (u := .slice da D.length dc) (Or.inl rfl : w.heap.size = w.heap.size ∨ _)
    have B3' := B2.out.setCell (p := ⟨w.heap.size, 2, none⟩) (Nat.le_refl _) (.slice da D.length dc)
    generalize w2.setCell ⟨w.heap.size, 2, none⟩ (.slice da D.length dc) = w3 at *
    have P3 : Hid (w3.heap[w.heap.size]? = some (.cells #[.int .i64 c.rev, .slice ba c.base.length bc, .slice da D.length dc, .int .i64 c.seq, .slice sa c.sent.length sc, .slice ka c.held.length kc, .bool c.joined] 87 (0, 0))) := Lib.hid (by simpa using P3')
    have Q3 := Lib.hid Q3'
    have O3 := Lib.hid O3'
    have B3 := Lib.hid B3'
    have HD3 := Lib.hid (fun w' (h : Off2 w.heap.size w3 w') => HD.out w' ⟨Nat.le_trans O23.size h.size, fun k hk h1 h2 => (h.same k (Nat.lt_of_lt_of_le hk O23.size) h1 h2).trans (O23.same k hk h1 h2)⟩)
    clear x0 x1 x2 x3 x4 x5 x6 hfz hgx P3' Q3' O3' B3' O23 P2 Q2 O2 B2
    obtain ⟨x0, x1, x2, x3, x4, x5, x6⟩ := P7.of P3.out
    have hfz : ∀ i, w3.frozen? ⟨w.heap.size, i, none⟩ = false := fun i => Lib.frozen_of_heap P3.out _
    have hgx : w.heap.size < w3.heap.size := lt_of_heap P3.out
    by_cases hs : c.sent = []
    · have t1 := len0_true hs
      by_cases hq : c.seq = 10000
      · have t2 : (c.seq == 10000) = true := by simpa using hq
        have hr := hres.out
        rw [doC, if_neg (by simpa using hck.out), if_neg (by simpa using he'.out), if_pos hs, if_pos hq] at hr
        cases hr
        clear hs hq hres
        go_wp2_with fail
        refine (refDoFail_any 2 w3).mono ?_
        rintro e wf ⟨rfl, hbf⟩
        have Qf := Lib.hid ((hbf.block _ (lt_of_heap Q3.out)).trans Q3.out)
        have Bf := Lib.hid (B3.out.trans (hbf.mono B3.out.size))
        obtain ⟨y0, y1, y2, y3, y4, y5, y6⟩ := P7.of Qf.out
        have hfz2 : ∀ i, wf.frozen? ⟨w.heap.size + 1, i, none⟩ = false := fun i => Lib.frozen_of_heap Qf.out _
        have hzz := lt_of_heap Qf.out
        go_wp2
        obtain ⟨q1, q2⟩ := set7z Qf.out (.int .i64 0) (.slice none 0 0) (.slice none 0 0) (.int .i64 0) (.slice none 0 0) (.slice none 0 0) (.bool false)
        generalize hwz : (((((((wf.setCell ⟨w.heap.size + 1, 0, none⟩ _).setCell ⟨w.heap.size + 1, 1, none⟩ _).setCell ⟨w.heap.size + 1, 2, none⟩ _).setCell ⟨w.heap.size + 1, 3, none⟩ _).setCell ⟨w.heap.size + 1, 4, none⟩ _).setCell ⟨w.heap.size + 1, 5, none⟩ _).setCell ⟨w.heap.size + 1, 6, none⟩ _) = wz at *
        obtain ⟨z0, z1, z2, z3, z4, z5, z6⟩ := P7.of q1
        exact bodyPost_ret (v := .tuple #[.agg #[.int .i64 0, .slice none 0 0, .slice none 0 0, .int .i64 0, .slice none 0 0, .slice none 0 0, .bool false], .bool false, .int .i64 2]) (by simp [results, Try.results70, go_sem, z0, z1, z2, z3, z4, z5, z6]) rfl ⟨_, rfl, RCl.zero, Bf.out.trans (q2.bel.mono (by omega))⟩
      · have t2 : (c.seq == 10000) = false := by simpa using hq
        have hr := hres.out
        rw [doC, if_neg (by simpa using hck.out), if_neg (by simpa using he'.out), if_pos hs, if_neg hq] at hr
        simp only [Prod.mk.injEq, hd1.out] at hr
        obtain ⟨hr1, rfl, rfl⟩ := hr
        have hR1 := Lib.hid hr1
        have hwr : IntKind.i64.wrap (c.seq + 1) = c.seq + 1 := IntWalk.i64_in _ (by omega)
        clear hr1 hs hq hres
        go_upto_region 11 with fail
        have P4a := heap_setCell_same w3 w.heap.size 4 _ _ (.slice ua o.length uc) P3.out
        have P4' := heap_setCell_same _ w.heap.size 3 _ _ (.int .i64 (c.seq + 1)) P4a
        have Q4' := (heap_setCell_other (w3.setCell ⟨w.heap.size, 4, none⟩ (.slice ua o.length uc)) ⟨w.heap.size, 3, none⟩ (w.heap.size + 1) (.int .i64 (c.seq + 1)) (by simp)).trans ((heap_setCell_other w3 ⟨w.heap.size, 4, none⟩ (w.heap.size + 1) (.slice ua o.length uc) (by simp)).trans Q3.out)
        have O4' := (((Off2.refl w.heap.size w3).set (i := 4) (u := .slice ua o.length uc) (Or.inl rfl : w.heap.size = w.heap.size ∨ _))).set (i := 3) (u := .int .i64 (c.seq + 1)) (Or.inl rfl : w.heap.size = w.heap.size ∨ _)
        have OO' := ((O3.out.set (i := 4) (u := .slice ua o.length uc) (Or.inl rfl : w.heap.size = w.heap.size ∨ _))).set (i := 3) (u := .int .i64 (c.seq + 1)) (Or.inl rfl : w.heap.size = w.heap.size ∨ _)
        have B4' := (B3.out.setCell (p := ⟨w.heap.size, 4, none⟩) (Nat.le_refl _) (.slice ua o.length uc)).setCell (p := ⟨w.heap.size, 3, none⟩) (Nat.le_refl _) (.int .i64 (c.seq + 1))
        generalize (w3.setCell ⟨w.heap.size, 4, none⟩ (.slice ua o.length uc)).setCell ⟨w.heap.size, 3, none⟩ (.int .i64 (c.seq + 1)) = w4 at *
        have P4 : Hid (w4.heap[w.heap.size]? = some (.cells #[.int .i64 c.rev, .slice ba c.base.length bc, .slice da D.length dc, .int .i64 (c.seq + 1), .slice ua o.length uc, .slice ka c.held.length kc, .bool c.joined] 87 (0, 0))) := Lib.hid (by simpa using P4')
        have Q4 := Lib.hid Q4'
        have B4 := Lib.hid B4'
        have O4 := Lib.hid O4'
        have OO := Lib.hid OO'
        clear x0 x1 x2 x3 x4 x5 x6 hfz hgx P4a P4' Q4' O4' OO' B4' P3 Q3 O3 B3
        obtain ⟨x0, x1, x2, x3, x4, x5, x6⟩ := P7.of P4.out
        obtain ⟨y0, y1, y2, y3, y4, y5, y6⟩ := P7.of Q4.out
        have hfz2 : ∀ i, w4.frozen? ⟨w.heap.size + 1, i, none⟩ = false := fun i => Lib.frozen_of_heap Q4.out _
        have hzz := lt_of_heap Q4.out
        go_wp2
        obtain ⟨q1, q2⟩ := set7z Q4.out (.int .i64 c.rev) (.slice ba c.base.length bc) (.slice da D.length dc) (.int .i64 (c.seq + 1)) (.slice ua o.length uc) (.slice ka c.held.length kc) (.bool c.joined)
        generalize hwz : (((((((w4.setCell ⟨w.heap.size + 1, 0, none⟩ _).setCell ⟨w.heap.size + 1, 1, none⟩ _).setCell ⟨w.heap.size + 1, 2, none⟩ _).setCell ⟨w.heap.size + 1, 3, none⟩ _).setCell ⟨w.heap.size + 1, 4, none⟩ _).setCell ⟨w.heap.size + 1, 5, none⟩ _).setCell ⟨w.heap.size + 1, 6, none⟩ _) = wz at *
        obtain ⟨z0, z1, z2, z3, z4, z5, z6⟩ := P7.of q1
        exact bodyPost_ret (v := .tuple #[.agg #[.int .i64 c.rev, .slice ba c.base.length bc, .slice da D.length dc, .int .i64 (c.seq + 1), .slice ua o.length uc, .slice ka c.held.length kc, .bool c.joined], .bool true, .int .i64 0]) (by simp [results, Try.results70, go_sem, z0, z1, z2, z3, z4, z5, z6]) rfl ⟨_, rfl, by rw [← hR1.out]; exact ⟨_, _, _, _, rfl, H1.out _ (OO.out.stays q2 (Or.inr rfl)), HD3.out _ (O4.out.stays q2 (Or.inr rfl)), HU.out _ (OO.out.stays q2 (Or.inr rfl)), H4.out _ (OO.out.stays q2 (Or.inr rfl))⟩, B4.out.trans (q2.bel.mono (by omega))⟩
    · have t1 := len0_false hs
      by_cases hh : c.held = []
      · have t2 := len0_true hh
        have hr := hres.out
        rw [doC, if_neg (by simpa using hck.out), if_neg (by simpa using he'.out), if_neg hs, if_pos hh] at hr
        simp only [Prod.mk.injEq, hd1.out] at hr
        obtain ⟨hr1, rfl, rfl⟩ := hr
        have hR1 := Lib.hid hr1
        clear hr1 hs hh hres
        go_upto_region 14 with fail
        have P4' := heap_setCell_same w3 w.heap.size 5 _ _ (.slice ua o.length uc) P3.out
        have Q4' := (heap_setCell_other w3 ⟨w.heap.size, 5, none⟩ (w.heap.size + 1) (.slice ua o.length uc) (by simp)).trans Q3.out
        have O4' := ((Off2.refl w.heap.size w3).set (i := 5) (u := .slice ua o.length uc) (Or.inl rfl : w.heap.size = w.heap.size ∨ _))
        have OO' := (O3.out.set (i := 5) (u := .slice ua o.length uc) (Or.inl rfl : w.heap.size = w.heap.size ∨ _))
        have B4' := B3.out.setCell (p := ⟨w.heap.size, 5, none⟩) (Nat.le_refl _) (.slice ua o.length uc)
        generalize w3.setCell ⟨w.heap.size, 5, none⟩ (.slice ua o.length uc) = w4 at *
        have P4 : Hid (w4.heap[w.heap.size]? = some (.cells #[.int .i64 c.rev, .slice ba c.base.length bc, .slice da D.length dc, .int .i64 c.seq, .slice sa c.sent.length sc, .slice ua o.length uc, .bool c.joined] 87 (0, 0))) := Lib.hid (by simpa using P4')
        have Q4 := Lib.hid Q4'
        have B4 := Lib.hid B4'
        have O4 := Lib.hid O4'
        have OO := Lib.hid OO'
        clear x0 x1 x2 x3 x4 x5 x6 hfz hgx P4' Q4' O4' OO' B4' P3 Q3 O3 B3
        obtain ⟨x0, x1, x2, x3, x4, x5, x6⟩ := P7.of P4.out
        obtain ⟨y0, y1, y2, y3, y4, y5, y6⟩ := P7.of Q4.out
        have hfz2 : ∀ i, w4.frozen? ⟨w.heap.size + 1, i, none⟩ = false := fun i => Lib.frozen_of_heap Q4.out _
        have hzz := lt_of_heap Q4.out
        go_wp2
        obtain ⟨q1, q2⟩ := set7z Q4.out (.int .i64 c.rev) (.slice ba c.base.length bc) (.slice da D.length dc) (.int .i64 c.seq) (.slice sa c.sent.length sc) (.slice ua o.length uc) (.bool c.joined)
        generalize hwz : (((((((w4.setCell ⟨w.heap.size + 1, 0, none⟩ _).setCell ⟨w.heap.size + 1, 1, none⟩ _).setCell ⟨w.heap.size + 1, 2, none⟩ _).setCell ⟨w.heap.size + 1, 3, none⟩ _).setCell ⟨w.heap.size + 1, 4, none⟩ _).setCell ⟨w.heap.size + 1, 5, none⟩ _).setCell ⟨w.heap.size + 1, 6, none⟩ _) = wz at *
        obtain ⟨z0, z1, z2, z3, z4, z5, z6⟩ := P7.of q1
        exact bodyPost_ret (v := .tuple #[.agg #[.int .i64 c.rev, .slice ba c.base.length bc, .slice da D.length dc, .int .i64 c.seq, .slice sa c.sent.length sc, .slice ua o.length uc, .bool c.joined], .bool false, .int .i64 0]) (by simp [results, Try.results70, go_sem, z0, z1, z2, z3, z4, z5, z6]) rfl ⟨_, rfl, by rw [← hR1.out]; exact ⟨_, _, _, _, rfl, H1.out _ (OO.out.stays q2 (Or.inr rfl)), HD3.out _ (O4.out.stays q2 (Or.inr rfl)), H3.out _ (OO.out.stays q2 (Or.inr rfl)), HU.out _ (OO.out.stays q2 (Or.inr rfl))⟩, B4.out.trans (q2.bel.mono (by omega))⟩
      · have t2 := len0_false hh
        have C2 := Lib.hid (refJoined_any _ _ _ _ c.held o w3 (H4.out w3 O3.out) (HU.out w3 O3.out))
        obtain ⟨⟨J, E2⟩, hJ⟩ : ∃ q, joinP c.held o = q := ⟨_, rfl⟩
        rw [hJ] at C2
        have hr := hres.out
        rw [doC, if_neg (by simpa using hck.out), if_neg (by simpa using he'.out), if_neg hs, if_neg hh, hJ, hd1.out] at hr
        have hr' := Lib.hid hr
        clear hr hs hh hres hJ
        go_wp2_with fail
        refine C2.out.mono ?_
        rintro e w4 ⟨r4, rfl, hr4, hb4⟩
        obtain ⟨ja, jc, rfl, _⟩ := RdS.len hr4
        dsimp only at *
        have P4 := Lib.hid ((hb4.block _ (lt_of_heap P3.out)).trans P3.out)
        have Q4 := Lib.hid ((hb4.block _ (lt_of_heap Q3.out)).trans Q3.out)
        have B4 := Lib.hid (B3.out.trans (hb4.mono B3.out.size))
        have O34 := Lib.hid ((Off2.refl w.heap.size w3).below hb4)
        have OO4 := Lib.hid (O3.out.below hb4)
        have hs3 := lt_of_heap Q3.out
        have HJ := Lib.hid (fun w' (h : Off2 w.heap.size w4 w') => (ROp.to hr4 (h.kp (fun k hk => ⟨by omega, by omega⟩)) : ROp (fun _ => True) w' _ _))
        clear hr4 hb4 C2 x0 x1 x2 x3 x4 x5 x6 hfz hgx P3 Q3 B3 O3
        obtain ⟨x0, x1, x2, x3, x4, x5, x6⟩ := P7.of P4.out
        have hfz : ∀ i, w4.frozen? ⟨w.heap.size, i, none⟩ = false := fun i => Lib.frozen_of_heap P4.out _
        have hgx : w.heap.size < w4.heap.size := lt_of_heap P4.out
        go_upto_region 16 with fail
        have P5' := heap_setCell_same w4 w.heap.size 5 _ _ (.slice ja J.length jc) P4.out
        have Q5' := (heap_setCell_other w4 ⟨w.heap.size, 5, none⟩ (w.heap.size + 1) (.slice ja J.length jc) (by simp)).trans Q4.out
        have O45' := ((Off2.refl w.heap.size w4).set (i := 5) (u := .slice ja J.length jc) (Or.inl rfl : w.heap.size = w.heap.size ∨ _))
        have O35' := (O34.out.set (i := 5) (u := .slice ja J.length jc) (Or.inl rfl : w.heap.size = w.heap.size ∨ _))
        have OO5' := (OO4.out.set (i := 5) (u := .slice ja J.length jc) (Or.inl rfl : w.heap.size = w.heap.size ∨ _))
        have B5' := B4.out.setCell (p := ⟨w.heap.size, 5, none⟩) (Nat.le_refl _) (.slice ja J.length jc)
        generalize w4.setCell ⟨w.heap.size, 5, none⟩ (.slice ja J.length jc) = w5 at *
        have P5 : Hid (w5.heap[w.heap.size]? = some (.cells #[.int .i64 c.rev, .slice ba c.base.length bc, .slice da D.length dc, .int .i64 c.seq, .slice sa c.sent.length sc, .slice ja J.length jc, .bool c.joined] 87 (0, 0))) := Lib.hid (by simpa using P5')
        have Q5 := Lib.hid Q5'
        have B5 := Lib.hid B5'
        have O45 := Lib.hid O45'
        have O35 := Lib.hid O35'
        have OO5 := Lib.hid OO5'
        clear x0 x1 x2 x3 x4 x5 x6 hfz hgx P5' Q5' O45' O35' OO5' B5' P4 Q4 B4 O34 OO4
        obtain ⟨x0, x1, x2, x3, x4, x5, x6⟩ := P7.of P5.out
        by_cases hj : E2 = 0
        · subst hj
          have hr := hr'.out
          rw [if_neg (by simp)] at hr
          simp only [Prod.mk.injEq] at hr
          obtain ⟨hr1, rfl, rfl⟩ := hr
          have hR1 := Lib.hid hr1
          clear hr1 hr'
          obtain ⟨y0, y1, y2, y3, y4, y5, y6⟩ := P7.of Q5.out
          have hfz2 : ∀ i, w5.frozen? ⟨w.heap.size + 1, i, none⟩ = false := fun i => Lib.frozen_of_heap Q5.out _
          have hzz := lt_of_heap Q5.out
          go_wp2
          obtain ⟨q1, q2⟩ := set7z Q5.out (.int .i64 c.rev) (.slice ba c.base.length bc) (.slice da D.length dc) (.int .i64 c.seq) (.slice sa c.sent.length sc) (.slice ja J.length jc) (.bool c.joined)
          generalize hwz : (((((((w5.setCell ⟨w.heap.size + 1, 0, none⟩ _).setCell ⟨w.heap.size + 1, 1, none⟩ _).setCell ⟨w.heap.size + 1, 2, none⟩ _).setCell ⟨w.heap.size + 1, 3, none⟩ _).setCell ⟨w.heap.size + 1, 4, none⟩ _).setCell ⟨w.heap.size + 1, 5, none⟩ _).setCell ⟨w.heap.size + 1, 6, none⟩ _) = wz at *
          obtain ⟨z0, z1, z2, z3, z4, z5, z6⟩ := P7.of q1
          exact bodyPost_ret (v := .tuple #[.agg #[.int .i64 c.rev, .slice ba c.base.length bc, .slice da D.length dc, .int .i64 c.seq, .slice sa c.sent.length sc, .slice ja J.length jc, .bool c.joined], .bool false, .int .i64 0]) (by simp [results, Try.results70, go_sem, z0, z1, z2, z3, z4, z5, z6]) rfl ⟨_, rfl, by rw [← hR1.out]; exact ⟨_, _, _, _, rfl, H1.out _ (OO5.out.stays q2 (Or.inr rfl)), HD3.out _ (O35.out.stays q2 (Or.inr rfl)), H3.out _ (OO5.out.stays q2 (Or.inr rfl)), HJ.out _ (O45.out.stays q2 (Or.inr rfl))⟩, B5.out.trans (q2.bel.mono (by omega))⟩
        · have hj' : (E2 != 0) = true := by simpa using hj
          have hr := hr'.out
          rw [if_pos (by simpa using hj)] at hr
          simp only [Prod.mk.injEq] at hr
          obtain ⟨hr1, hr2, hr3⟩ := hr
          subst hr1
          subst hr2
          subst hr3
          clear hr' hj
          go_wp2_with fail
          refine (refDoFail_any E2 w5).mono ?_
          rintro e wf ⟨rfl, hbf⟩
          have Qf := Lib.hid ((hbf.block _ (lt_of_heap Q5.out)).trans Q5.out)
          have Bf := Lib.hid (B5.out.trans (hbf.mono B5.out.size))
          obtain ⟨y0, y1, y2, y3, y4, y5, y6⟩ := P7.of Qf.out
          have hfz2 : ∀ i, wf.frozen? ⟨w.heap.size + 1, i, none⟩ = false := fun i => Lib.frozen_of_heap Qf.out _
          have hzz := lt_of_heap Qf.out
          go_wp2
          obtain ⟨q1, q2⟩ := set7z Qf.out (.int .i64 0) (.slice none 0 0) (.slice none 0 0) (.int .i64 0) (.slice none 0 0) (.slice none 0 0) (.bool false)
          generalize hwz : (((((((wf.setCell ⟨w.heap.size + 1, 0, none⟩ _).setCell ⟨w.heap.size + 1, 1, none⟩ _).setCell ⟨w.heap.size + 1, 2, none⟩ _).setCell ⟨w.heap.size + 1, 3, none⟩ _).setCell ⟨w.heap.size + 1, 4, none⟩ _).setCell ⟨w.heap.size + 1, 5, none⟩ _).setCell ⟨w.heap.size + 1, 6, none⟩ _) = wz at *
          obtain ⟨z0, z1, z2, z3, z4, z5, z6⟩ := P7.of q1
          exact bodyPost_ret (v := .tuple #[.agg #[.int .i64 0, .slice none 0 0, .slice none 0 0, .int .i64 0, .slice none 0 0, .slice none 0 0, .bool false], .bool false, .int .i64 E2]) (by simp [results, Try.results70, go_sem, z0, z1, z2, z3, z4, z5, z6]) rfl ⟨_, rfl, RCl.zero, Bf.out.trans (q2.bel.mono (by omega))⟩
  · have he2 : (E != 0) = true := by simpa using he
    have hr := hres.out
    rw [doC, if_neg (by simpa using hck.out), hD'.out, if_pos (by simpa using he)] at hr
    cases hr
    clear hres he
    go_wp2_with fail
    refine (refDoFail_any E w2).mono ?_
    rintro e wf ⟨rfl, hbf⟩
    have Qf := Lib.hid ((hbf.block _ (lt_of_heap Q2.out)).trans Q2.out)
    have Bf := Lib.hid (B2.out.trans (hbf.mono B2.out.size))
    obtain ⟨y0, y1, y2, y3, y4, y5, y6⟩ := P7.of Qf.out
    have hfz2 : ∀ i, wf.frozen? ⟨w.heap.size + 1, i, none⟩ = false := fun i => Lib.frozen_of_heap Qf.out _
    have hzz := lt_of_heap Qf.out
    go_wp2
    obtain ⟨q1, q2⟩ := set7z Qf.out (.int .i64 0) (.slice none 0 0) (.slice none 0 0) (.int .i64 0) (.slice none 0 0) (.slice none 0 0) (.bool false)
    generalize hwz : (((((((wf.setCell ⟨w.heap.size + 1, 0, none⟩ _).setCell ⟨w.heap.size + 1, 1, none⟩ _).setCell ⟨w.heap.size + 1, 2, none⟩ _).setCell ⟨w.heap.size + 1, 3, none⟩ _).setCell ⟨w.heap.size + 1, 4, none⟩ _).setCell ⟨w.heap.size + 1, 5, none⟩ _).setCell ⟨w.heap.size + 1, 6, none⟩ _) = wz at *
    obtain ⟨z0, z1, z2, z3, z4, z5, z6⟩ := P7.of q1
    exact bodyPost_ret (v := .tuple #[.agg #[.int .i64 0, .slice none 0 0, .slice none 0 0, .int .i64 0, .slice none 0 0, .slice none 0 0, .bool false], .bool false, .int .i64 E]) (by simp [results, Try.results70, go_sem, z0, z1, z2, z3, z4, z5, z6]) rfl ⟨_, rfl, RCl.zero, Bf.out.trans (q2.bel.mono (by omega))⟩
end Go.Proofs.Ytgodceplajkcdaa
