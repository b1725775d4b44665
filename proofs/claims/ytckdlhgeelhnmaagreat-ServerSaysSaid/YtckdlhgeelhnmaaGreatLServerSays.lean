/- slices.EqualFunc at entries with server.SameEntry; server.Same. -/
import Derived.Test.YtckdlhgeelhnmaaGreatSvB
import Derived.Test.YtckdlhgeelhnmaaGreatSvH
import Derived.Test.YtckdlhgeelhnmaaGreatRefApply
import Derived.Test.YtckdlhgeelhnmaaGreatRefM
import Derived.Test.YtckdlhgeelhnmaaGreatRefV
namespace Go.Mh
theorem take_eq_snoc {α : Type} {l m : List α} {k : Nat} {x y : α} (hx : l[k]? = some x) (hy : m[k]? = some y) (h : l.take k = m.take k) (he : x = y) : l.take (k + 1) = m.take (k + 1) := by
  rw [List.take_add_one, List.take_add_one, hx, hy, h, he]
theorem ne_of_get {α : Type} {l m : List α} {k : Nat} {x y : α} (hx : l[k]? = some x) (hy : m[k]? = some y) (he : x ≠ y) : l ≠ m := fun h => by
  rw [h, hy] at hx
  exact he (Option.some.inj hx).symm
end Go.Mh
namespace Go.Proofs.YtckdlhgeelhnmaaGreat
open Go.RowKit Go.Mh

set_option maxRecDepth 100000 in
set_option maxHeartbeats 4000000 in
theorem svEqFunc_any (F G : Nat → Prop) (v u : Value) (l m : List En) (w : World) (h : RLog F w v l) (g : RLog G w u m) :
    Calls Tryz.prog 52 #[v, u, .func (Fn.func 18) #[] #[]] w fun e w' => e = .returned (.bool (decide (l = m))) ∧ Below w.heap.size w w' := by
  obtain ⟨la, lc, rfl, _⟩ := RdS.len h
  obtain ⟨ma, mc, rfl, _⟩ := RdS.len g
  have HL := Lib.hid h
  have HM := Lib.hid g
  clear h g
  go_enter Tryz.func52, Tryz.ntmps52
  by_cases hn : l.length = m.length
  · have d1 : ((l.length : Int) != (m.length : Int)) = false := by simp [hn]
    have hn' := Lib.hid hn
    clear hn
    go_wp2
    go_loopw [17] (fun i wr => ∃ k : Nat, k ≤ l.length ∧ i = .int .i64 k ∧ Hid (l.take k = m.take k) ∧ Below w.heap.size w wr) (fun i _ => l.length - (intOf i).toNat)
    case atStart => exact ⟨0, Nat.zero_le _, rfl, Lib.hid (by simp), brf _⟩
    case round =>
      obtain ⟨k, hk, rfl, hf, hb⟩ := hrel
      by_cases hlt : k < l.length
      · obtain ⟨x, hx⟩ : ∃ x, l[k]? = some x := ⟨_, List.getElem?_eq_getElem hlt⟩
        have hlt2 : k < m.length := by have := hn'.out; omega
        obtain ⟨y, hy⟩ : ∃ y, m[k]? = some y := ⟨_, List.getElem?_eq_getElem hlt2⟩
        obtain ⟨b, o, ov, e1, hr, c0, c1, c2⟩ := RLog.at HL.out hb hx
        obtain ⟨b', o', ov', e1', hr', c0', c1', c2'⟩ := RLog.at HM.out hb hy
        subst e1 e1'
        obtain ⟨oa, oc, rfl, _⟩ := RdS.len hr
        obtain ⟨pa, pc, rfl, _⟩ := RdS.len hr'
        have hbs : b < wr.heap.size := lt_of_cell c0
        have hbs' : b' < wr.heap.size := lt_of_cell c0'
        have hb0 : Below wr.heap.size wr ((wr.alloc (.cells #[.int .i64 x.client, .int .i64 x.seq, .slice oa x.o.length oc] 41)).alloc (.cells #[.int .i64 y.client, .int .i64 y.seq, .slice pa y.o.length pc] 41)) := bal (bal (brf wr) _) _
        have C := Lib.hid (svSameEntry_any _ _ _ _ x y _ (ROp.to hr (Kp.below (btr hb hb0))) (ROp.to hr' (Kp.below (btr hb hb0))))
        by_cases he : x = y
        · have hnx := Lib.hid (take_eq_snoc hx hy hf.out he)
          rw [decide_eq_true he] at C
          clear hx hy hr hr' he hf
          go_wp2_with fail
          refine C.out.mono ?_
          rintro e w1 ⟨rfl, hb1⟩
          clear c0 c1 c2 c0' c1' c2' C
          go_wp2
          go_roundw
          case rel => exact ⟨k + 1, by omega, by go_num, hnx, btr (btr hb hb0) hb1⟩
          case measure => simp [intOf]; omega
        · have hfin := Lib.hid (decide_eq_false (ne_of_get hx hy he))
          rw [decide_eq_false he] at C
          clear hx hy hr hr' he hf
          go_wp2_with fail
          refine C.out.mono ?_
          rintro e w1 ⟨rfl, hb1⟩
          clear c0 c1 c2 c0' c1' c2' C
          go_wp2
          go_ret
          exact ⟨by rw [hfin.out]; rfl, btr (btr hb hb0) hb1⟩
      · obtain rfl : k = l.length := by omega
        have hfin : Hid (decide (l = m) = true) := Lib.hid (by
          have := hf.out
          rw [List.take_length, hn'.out, List.take_length] at this
          exact decide_eq_true this)
        clear hf
        go_wp2
        go_ret
        exact ⟨by rw [hfin.out]; rfl, hb⟩
  · have d1 : ((l.length : Int) != (m.length : Int)) = true := by simp; omega
    have hfin := Lib.hid (decide_eq_false (fun h : l = m => hn (by rw [h])))
    clear hn
    go_wp2
    go_ret
    exact ⟨by rw [hfin.out]; rfl, brf _⟩

set_option maxRecDepth 100000 in
set_option maxHeartbeats 4000000 in
theorem svSame_any (F G : Nat → Prop) (v u : Value) (s t : Srv) (w : World) (h : RSrv F w v s) (g : RSrv G w u t) :
    Calls Tryz.prog 17 #[v, u] w fun e w' => e = .returned (.bool (decide (s.first = t.first) && decide (s.now = t.now) && decide (s.log = t.log))) ∧ Below w.heap.size w w' := by
  obtain ⟨a, l, n, rfl, h1, h2, h3⟩ := h
  obtain ⟨a', l', n', rfl, g1, g2, g3⟩ := g
  obtain ⟨aa, ac, rfl, _⟩ := RdS.len h1
  obtain ⟨la, lc, rfl, _⟩ := RdS.len h2
  obtain ⟨na, nc, rfl, _⟩ := RdS.len h3
  obtain ⟨ba, bc, rfl, _⟩ := RdS.len g1
  obtain ⟨ma, mc, rfl, _⟩ := RdS.len g2
  obtain ⟨pa, pc, rfl, _⟩ := RdS.len g3
  obtain ⟨w0, hw0⟩ : ∃ w0, w0 = (w.alloc (.cells #[.slice aa s.first.length ac, .slice la s.log.length lc, .slice na s.now.length nc] 37)).alloc (.cells #[.slice ba t.first.length bc, .slice ma t.log.length mc, .slice pa t.now.length pc] 37) := ⟨_, rfl⟩
  have hb0 : Below w.heap.size w w0 := by rw [hw0]; exact bal (bal (brf w) _) _
  have E0 := Lib.hid (by rw [hw0]; exact heap_at2 rfl : w0.heap[w.heap.size]? = some (.cells #[.slice aa s.first.length ac, .slice la s.log.length lc, .slice na s.now.length nc] 37 (0, 0)))
  have E1 := Lib.hid (by rw [hw0]; exact heap_at (by simp) : w0.heap[w.heap.size + 1]? = some (.cells #[.slice ba t.first.length bc, .slice ma t.log.length mc, .slice pa t.now.length pc] 37 (0, 0)))
  have S1 := Lib.hid (same_any F G _ _ s.first t.first w0 (RItems.to h1 (Kp.below hb0)) (RItems.to g1 (Kp.below hb0)))
  have S2 := Lib.hid (fun (w' : World) (hb : Below w0.heap.size w0 w') => same_any F G _ _ s.now t.now w' (RItems.to h3 (Kp.below (btr hb0 hb))) (RItems.to g3 (Kp.below (btr hb0 hb))))
  have S3 := Lib.hid (fun (w' : World) (hb : Below w0.heap.size w0 w') => svEqFunc_any F G _ _ s.log t.log w' (RLog.to h2 (Kp.below (btr hb0 hb))) (RLog.to g2 (Kp.below (btr hb0 hb))))
  clear h1 h2 h3 g1 g2 g3
  go_enter Tryz.func17, Tryz.ntmps17
  go_upto_region 1 with fail
  rw [← hw0]
  clear hw0
  obtain ⟨x0, x1, x2⟩ := P3.of E0.out
  obtain ⟨y0, y1, y2⟩ := P3.of E1.out
  by_cases c1 : s.first = t.first
  · have f1 := Lib.hid (decide_eq_true c1)
    rw [f1.out] at S1
    clear c1
    go_wp2_with fail
    refine S1.out.mono ?_
    rintro e w1 ⟨rfl, hb1⟩
    clear x0 x1 x2 y0 y1 y2
    obtain ⟨x0, x1, x2⟩ := P3.of ((hb1.block _ (lt_of_heap E0.out)).trans E0.out)
    obtain ⟨y0, y1, y2⟩ := P3.of ((hb1.block _ (lt_of_heap E1.out)).trans E1.out)
    by_cases c2 : s.now = t.now
    · have f2 := Lib.hid (decide_eq_true c2)
      rw [f2.out] at S2
      clear c2
      go_wp2_with fail
      refine (S2.out w1 hb1).mono ?_
      rintro e w2 ⟨rfl, hb2⟩
      have hb02 : Below w0.heap.size w0 w2 := btr hb1 hb2
      clear x0 x1 x2 y0 y1 y2
      obtain ⟨x0, x1, x2⟩ := P3.of ((hb02.block _ (lt_of_heap E0.out)).trans E0.out)
      obtain ⟨y0, y1, y2⟩ := P3.of ((hb02.block _ (lt_of_heap E1.out)).trans E1.out)
      go_wp2_with fail
      refine (S3.out w2 hb02).mono ?_
      rintro e w3 ⟨rfl, hb3⟩
      go_wp2
      go_ret
      exact ⟨by rw [f1.out, f2.out]; simp, btr hb0 (btr hb02 hb3)⟩
    · have f2 := Lib.hid (decide_eq_false c2)
      rw [f2.out] at S2
      clear c2
      go_wp2_with fail
      refine (S2.out w1 hb1).mono ?_
      rintro e w2 ⟨rfl, hb2⟩
      go_wp2
      go_ret
      exact ⟨by rw [f1.out, f2.out]; simp, btr hb0 (btr hb1 hb2)⟩
  · have f1 := Lib.hid (decide_eq_false c1)
    rw [f1.out] at S1
    clear c1
    go_wp2_with fail
    refine S1.out.mono ?_
    rintro e w1 ⟨rfl, hb1⟩
    go_wp2
    go_ret
    exact ⟨by rw [f1.out]; simp, btr hb0 hb1⟩
end Go.Proofs.YtckdlhgeelhnmaaGreat
/- The references on servers: checkEntry, Folded, CheckServer, SameEntry, SameServer; what the law itself asks of a log. -/
namespace Go.Proofs.YtckdlhgeelhnmaaGreat
open Go.RowKit Go.Mh

set_option maxRecDepth 100000 in
set_option maxHeartbeats 2000000 in
theorem refEntry_any (F : Nat → Prop) (ov : Value) (x : En) (w : World) (h : ROp F w ov x.o) :
    Calls Tryz.prog 48 #[.agg #[.int .i64 x.client, .int .i64 x.seq, ov]] w fun e w' => e = .returned (.int .i64 (chkEn x)) ∧ Below w.heap.size w w' := by
  obtain ⟨oa, oc, rfl, _⟩ := RdS.len h
  have H := Lib.hid h
  clear h
  obtain ⟨r, hr⟩ : ∃ r, Hid (chkEn x = r) := ⟨_, Lib.hid rfl⟩
  rw [hr.out]
  have hb0 : Below w.heap.size w (w.alloc (.cells #[.int .i64 x.client, .int .i64 x.seq, .slice oa x.o.length oc] 41)) := bal (brf w) _
  go_enter Tryz.func48, Tryz.ntmps48
  by_cases h1 : x.client < 0 ∨ 4 ≤ x.client
  · have e := hr.out
    rw [chkEn, if_pos h1] at e
    subst e
    have way : decide (x.client < 0) = true ∨ (decide (x.client < 0) = false ∧ decide (3 < x.client) = true) := by
      simp only [decide_eq_true_eq, decide_eq_false_iff_not]; omega
    clear hr h1
    rcases way with d1 | ⟨d1, d2⟩
    all_goals
      go_wp2
      go_ret
      exact ⟨rfl, hb0⟩
  · obtain ⟨d1, d2⟩ : decide (x.client < 0) = false ∧ decide (3 < x.client) = false := by simp only [decide_eq_false_iff_not]; omega
    by_cases h2 : x.seq < 1 ∨ 10000 < x.seq
    · have e := hr.out
      rw [chkEn, if_neg h1, if_pos h2] at e
      subst e
      have way : decide (x.seq < 1) = true ∨ (decide (x.seq < 1) = false ∧ decide (10000 < x.seq) = true) := by
        simp only [decide_eq_true_eq, decide_eq_false_iff_not]; omega
      clear hr h1 h2
      rcases way with d3 | ⟨d3, d4⟩
      all_goals
        go_wp2
        go_ret
        exact ⟨rfl, hb0⟩
    · obtain ⟨d3, d4⟩ : decide (x.seq < 1) = false ∧ decide (10000 < x.seq) = false := by simp only [decide_eq_false_iff_not]; omega
      have e := hr.out
      rw [chkEn, if_neg h1, if_neg h2] at e
      subst e
      clear hr h1 h2
      go_wp2_with fail
      refine (checkOp_any _ _ x.o _ (ROp.to H.out (Kp.below hb0))).mono ?_
      rintro e w1 ⟨rfl, hb1⟩
      go_wp2
      go_ret
      exact ⟨rfl, btr hb0 hb1⟩

set_option maxRecDepth 100000 in
set_option maxHeartbeats 4000000 in
theorem refFold_any (F G : Nat → Prop) (v u : Value) (d : List It) (l : List En) (w : World) (h : RItems F w v d) (g : RLog G w u l) :
    Calls Tryz.prog 12 #[v, u] w fun e w' => ∃ r, e = .returned (.tuple #[r, .int .i64 (foldP d l).2]) ∧ RItems (fun _ => True) w' r (foldP d l).1 ∧ Below w.heap.size w w' := by
  obtain ⟨da, dc, rfl, _⟩ := RdS.len h
  obtain ⟨la, lc, rfl, _⟩ := RdS.len g
  have H := Lib.hid h
  have V := Lib.hid g
  clear h g
  have hres : ∃ r, Hid (foldP d l = r) := ⟨_, Lib.hid rfl⟩
  obtain ⟨⟨R1, R2⟩, hres⟩ := hres
  rw [hres.out]
  go_enter Tryz.func12, Tryz.ntmps12
  go_wp2_with fail
  refine (checkDoc_any _ _ d w H.out).mono ?_
  rintro e w1 ⟨rfl, hb1⟩
  by_cases hk : chkDoc d = 0
  · by_cases hl : 60 < l.length
    · have hr := hres.out
      rw [foldP, if_neg (by simpa using hk), if_pos hl] at hr
      cases hr
      have d1 : decide ((60 : Int) < (l.length : Int)) = true := by simp; omega
      rw [hk]
      clear hk hres hl
      go_wp2
      go_ret2
      exact ⟨.slice none 0 0, rfl, RdS.nil, hb1⟩
    · have hr := hres.out
      rw [foldP, if_neg (by simpa using hk), if_neg hl] at hr
      have hF := Lib.hid hr
      have d1 : decide ((60 : Int) < (l.length : Int)) = false := by simp; omega
      have hl60 : l.length ≤ 60 := by omega
      rw [hk]
      clear hk hres hl hr
      have B2 := hb1
      have U2 := Lib.hid (RItems.to H.out (fun i hi hl => ⟨trivial, hb1.block i hl⟩) : RItems (fun _ => True) w1 (.slice da d.length dc) d)
      clear hb1
      go_wp2
      go_loopw [0, 21] (fun dv i wr => ∃ k : Nat, k ≤ l.length ∧ i = .int .i64 k ∧ ∃ D, RItems (fun _ => True) wr dv D ∧ Hid (foldG d l = foldG D (l.drop k)) ∧ Below w.heap.size w wr) (fun _ i _ => l.length - (intOf i).toNat)
      case atStart => exact ⟨0, Nat.zero_le _, rfl, d, U2.out, Lib.hid (by simp), B2⟩
      case round =>
        obtain ⟨k, hk, rfl, D, hD, hf, hb⟩ := hrel
        have hD' := Lib.hid hD
        clear hD
        by_cases hlt : k < l.length
        · obtain ⟨x, hx⟩ : ∃ x, l[k]? = some x := ⟨_, List.getElem?_eq_getElem hlt⟩
          obtain ⟨b, o, ov, e1, hr, c0, c1, c2⟩ := RLog.at V.out hb hx
          subst e1
          obtain ⟨oa, oc, rfl, _⟩ := RdS.len hr
          have hO := Lib.hid hr
          have hst := Lib.hid (foldG_step (d := D) hx)
          have hbs : b < wr.heap.size := lt_of_cell c0
          have hb0 : Below wr.heap.size wr (wr.alloc (.cells #[.int .i64 x.client, .int .i64 x.seq, .slice oa x.o.length oc] 41)) := bal (brf wr) _
          have C := Lib.hid (refApplied_any _ _ _ _ D x.o _ (RItems.to hD'.out (Kp.below hb0)) (ROp.to hO.out (Kp.below (btr hb hb0))))
          clear hx hr
          by_cases he : (applyP D x.o).2 = 0
          · have hnx : Hid (foldG d l = foldG (applyP D x.o).1 (l.drop (k + 1))) := Lib.hid (by rw [hf.out, hst.out, if_neg (by simpa using he)])
            rw [he] at C
            clear he hst hf
            go_wp2_with fail
            refine C.out.mono ?_
            rintro e w3 ⟨r3, rfl, hr3, hb3⟩
            have hr3' := Lib.hid (RItems.to hr3 (Kp.weak w3 fun _ _ => trivial) : RItems (fun _ => True) w3 r3 (applyP D x.o).1)
            clear hr3 C c0 c1 c2
            go_wp2
            go_roundw
            case rel => exact ⟨k + 1, by omega, by go_num, _, hr3'.out, hnx, btr (btr hb hb0) hb3⟩
            case measure => simp [intOf]; omega
          · have hnx : foldG d l = ([], (applyP D x.o).2) := by rw [hf.out, hst.out, if_pos he]
            have hF2 := hF.out
            rw [hnx] at hF2
            cases hF2
            have he' : ((applyP D x.o).2 != 0) = true := by simpa using he
            clear he hst hf hnx hF
            go_wp2_with fail
            refine C.out.mono ?_
            rintro e w3 ⟨r3, rfl, hr3, hb3⟩
            clear hr3 C c0 c1 c2
            go_wp2
            go_ret2
            exact ⟨.slice none 0 0, rfl, RdS.nil, btr (btr hb hb0) hb3⟩
        · obtain rfl : k = l.length := by omega
          have hF2 := hF.out
          rw [hf.out, List.drop_length, foldG] at hF2
          cases hF2
          clear hf hF
          go_wp2
          go_ret2
          exact ⟨_, rfl, hD'.out, hb⟩
  · have hr := hres.out
    rw [foldP, if_pos hk] at hr
    cases hr
    have hk' : (chkDoc d != 0) = true := by simpa using hk
    clear hk hres
    go_wp2
    go_ret2
    exact ⟨.slice none 0 0, rfl, RdS.nil, hb1⟩

set_option maxRecDepth 100000 in
set_option maxHeartbeats 4000000 in
theorem refSvCheck_any (F : Nat → Prop) (v : Value) (s : Srv) (w : World) (h : RSrv F w v s) :
    Calls Tryz.prog 13 #[v] w fun e w' => e = .returned (.int .i64 (chkSrv s)) ∧ Below w.heap.size w w' := by
  obtain ⟨a, l, n, rfl, h1, h2, h3⟩ := h
  obtain ⟨aa, ac, rfl, _⟩ := RdS.len h1
  obtain ⟨la, lc, rfl, _⟩ := RdS.len h2
  obtain ⟨na, nc, rfl, _⟩ := RdS.len h3
  have HA := Lib.hid h1
  have HL := Lib.hid h2
  have HN := Lib.hid h3
  clear h1 h2 h3
  obtain ⟨w0, hw0⟩ : ∃ w0, w0 = w.alloc (.cells #[.slice aa s.first.length ac, .slice la s.log.length lc, .slice na s.now.length nc] 37) := ⟨_, rfl⟩
  have hb0 : Below w.heap.size w w0 := by rw [hw0]; exact bal (brf w) _
  have E0 := Lib.hid (by rw [hw0]; exact heap_at rfl : w0.heap[w.heap.size]? = some (.cells #[.slice aa s.first.length ac, .slice la s.log.length lc, .slice na s.now.length nc] 37 (0, 0)))
  have hl0 := lt_of_heap E0.out
  obtain ⟨r, hr⟩ : ∃ r, Hid (chkSrv s = r) := ⟨_, Lib.hid rfl⟩
  rw [hr.out]
  go_enter Tryz.func13, Tryz.ntmps13
  go_upto_region 1 with fail
  rw [← hw0]
  clear hw0
  obtain ⟨x0, x1, x2⟩ := P3.of E0.out
  by_cases hl : 60 < s.log.length
  · have e := hr.out
    rw [chkSrv, if_pos hl] at e
    subst e
    have d1 : decide ((60 : Int) < (s.log.length : Int)) = true := by simp; omega
    clear hr hl
    go_wp2
    go_ret
    exact ⟨rfl, hb0⟩
  · have e := hr.out
    rw [chkSrv, if_neg hl] at e
    have hR := Lib.hid e
    have d1 : decide ((60 : Int) < (s.log.length : Int)) = false := by simp; omega
    have hl60 : s.log.length ≤ 60 := by omega
    clear hr hl e
    go_wp2
    go_loopw [15] (fun i wr => ∃ k : Nat, k ≤ s.log.length ∧ i = .int .i64 k ∧ Hid (chkEns s.log = chkEns (s.log.drop k)) ∧ Below w0.heap.size w0 wr) (fun i _ => s.log.length - (intOf i).toNat)
    case atStart => exact ⟨0, Nat.zero_le _, rfl, Lib.hid (by simp), brf _⟩
    case round =>
      clear x0 x1 x2
      obtain ⟨k, hk, rfl, hf, hb⟩ := hrel
      have B := hb0.trans (hb.mono hb0.size)
      by_cases hlt : k < s.log.length
      · obtain ⟨x, hx⟩ : ∃ x, s.log[k]? = some x := ⟨_, List.getElem?_eq_getElem hlt⟩
        obtain ⟨b, o, ov, e1, hr, c0, c1, c2⟩ := RLog.at HL.out B hx
        subst e1
        obtain ⟨oa, oc, rfl, _⟩ := RdS.len hr
        have hO := Lib.hid hr
        have hst := Lib.hid (chkEns_step hx)
        have hbs : b < wr.heap.size := lt_of_cell c0
        have hbx : Below wr.heap.size wr (wr.alloc (.cells #[.int .i64 x.client, .int .i64 x.seq, .slice oa x.o.length oc] 41)) := bal (brf wr) _
        have C := Lib.hid (refEntry_any _ _ x _ (ROp.to hO.out (Kp.below (btr B hbx))))
        clear hx hr
        by_cases he : chkEn x = 0
        · have hnx : Hid (chkEns s.log = chkEns (s.log.drop (k + 1))) := Lib.hid (by rw [hf.out, hst.out, if_neg (by simpa using he)])
          rw [he] at C
          clear he hst hf
          go_wp2_with fail
          refine C.out.mono ?_
          rintro e w3 ⟨rfl, hb3⟩
          clear C c0 c1 c2
          go_wp2
          go_roundw
          case rel => exact ⟨k + 1, by omega, by go_num, hnx, btr (btr hb hbx) hb3⟩
          case measure => simp [intOf]; omega
        · have hnx : chkEns s.log = chkEn x := by rw [hf.out, hst.out, if_pos he]
          have hF2 := hR.out
          rw [hnx, if_pos he] at hF2
          subst hF2
          have he' : (chkEn x != 0) = true := by simpa using he
          clear he hst hf hnx hR
          go_wp2_with fail
          refine C.out.mono ?_
          rintro e w3 ⟨rfl, hb3⟩
          clear C c0 c1 c2
          go_wp2
          go_ret
          exact ⟨rfl, btr (btr B hbx) hb3⟩
      · obtain rfl : k = s.log.length := by omega
        have hF2 := hR.out
        rw [hf.out, List.drop_length, chkEns] at hF2
        simp only [ne_eq, not_true_eq_false, if_false] at hF2
        have hR2 := Lib.hid hF2
        clear hf hR hF2
        obtain ⟨x0, x1, x2⟩ := P3.of ((hb.block _ hl0).trans E0.out)
        have C := Lib.hid (refFold_any _ _ _ _ s.first s.log wr (RItems.to HA.out (Kp.below B)) (RLog.to HL.out (Kp.below B)))
        by_cases he : (foldP s.first s.log).2 = 0
        · have hF3 := hR2.out
          rw [if_neg (by simpa using he)] at hF3
          have hR3 := Lib.hid hF3
          rw [he] at C
          clear he hF3 hR2
          go_wp2_with fail
          refine C.out.mono ?_
          rintro e w3 ⟨r3, rfl, hr3, hb3⟩
          have hb03 : Below w0.heap.size w0 w3 := hb.trans (hb3.mono hb.size)
          have B3 := B.trans (hb3.mono B.size)
          have S := Lib.hid (eqDoc_any _ _ r3 _ (foldP s.first s.log).1 s.now w3 hr3 (RItems.to HN.out (Kp.below B3)))
          clear x0 x1 x2 hr3 C
          obtain ⟨x0, x1, x2⟩ := P3.of ((hb03.block _ hl0).trans E0.out)
          by_cases hn : (foldP s.first s.log).1 = s.now
          · have hF4 := hR3.out
            rw [if_pos hn] at hF4
            subst hF4
            rw [decide_eq_true hn] at S
            clear hn hR3
            go_wp2_with fail
            refine S.out.mono ?_
            rintro e w4 ⟨rfl, hb4⟩
            go_wp2
            go_ret
            exact ⟨rfl, B3.trans (hb4.mono B3.size)⟩
          · have hF4 := hR3.out
            rw [if_neg hn] at hF4
            subst hF4
            rw [decide_eq_false hn] at S
            clear hn hR3
            go_wp2_with fail
            refine S.out.mono ?_
            rintro e w4 ⟨rfl, hb4⟩
            go_wp2
            go_ret
            exact ⟨rfl, B3.trans (hb4.mono B3.size)⟩
        · have hF3 := hR2.out
          rw [if_pos he] at hF3
          subst hF3
          have he' : ((foldP s.first s.log).2 != 0) = true := by simpa using he
          clear he hR2
          go_wp2_with fail
          refine C.out.mono ?_
          rintro e w3 ⟨r3, rfl, hr3, hb3⟩
          clear hr3 C
          go_wp2
          go_ret
          exact ⟨rfl, B.trans (hb3.mono B.size)⟩

set_option maxRecDepth 100000 in
set_option maxHeartbeats 2000000 in
theorem refSameEntry_any (F G : Nat → Prop) (ov pv' : Value) (x y : En) (w : World) (h : ROp F w ov x.o) (g : ROp G w pv' y.o) :
    Calls Tryz.prog 19 #[.agg #[.int .i64 x.client, .int .i64 x.seq, ov], .agg #[.int .i64 y.client, .int .i64 y.seq, pv']] w fun e w' => e = .returned (.bool (decide (x = y))) ∧ Below w.heap.size w w' := by
  obtain ⟨oa, oc, rfl, _⟩ := RdS.len h
  obtain ⟨pa, pc, rfl, _⟩ := RdS.len g
  have hb0 : Below w.heap.size w ((w.alloc (.cells #[.int .i64 x.client, .int .i64 x.seq, .slice oa x.o.length oc] 41)).alloc (.cells #[.int .i64 y.client, .int .i64 y.seq, .slice pa y.o.length pc] 41)) := bal (bal (brf w) _) _
  have C := Lib.hid (refSame_any F G _ _ x.o y.o _ (ROp.to h (Kp.below hb0)) (ROp.to g (Kp.below hb0)))
  clear h g
  have hd := Lib.hid (en_eq x y)
  rw [hd.out]
  go_enter Tryz.func19, Tryz.ntmps19
  by_cases h1 : x.client = y.client
  · by_cases h2 : x.seq = y.seq
    · have t1 : (x.client == y.client) = true := by simpa using h1
      have t2 : (x.seq == y.seq) = true := by simpa using h2
      have e1 := Lib.hid (decide_eq_true h1)
      have e2 := Lib.hid (decide_eq_true h2)
      clear h1 h2
      go_wp2_with fail
      refine C.out.mono ?_
      rintro e w1 ⟨rfl, hb1⟩
      go_wp2
      go_ret
      exact ⟨by rw [e1.out, e2.out]; simp, btr hb0 hb1⟩
    · have t1 : (x.client == y.client) = true := by simpa using h1
      have t2 : (x.seq == y.seq) = false := by simpa using h2
      have e1 := Lib.hid (decide_eq_true h1)
      have e2 := Lib.hid (decide_eq_false h2)
      clear h1 h2
      go_wp2
      go_ret
      exact ⟨by rw [e1.out, e2.out]; simp, hb0⟩
  · have t1 : (x.client == y.client) = false := by simpa using h1
    have e1 := Lib.hid (decide_eq_false h1)
    clear h1
    go_wp2
    go_ret
    exact ⟨by rw [e1.out]; simp, hb0⟩

set_option maxRecDepth 100000 in
set_option maxHeartbeats 4000000 in
theorem refEqFunc_any (F G : Nat → Prop) (v u : Value) (l m : List En) (w : World) (h : RLog F w v l) (g : RLog G w u m) :
    Calls Tryz.prog 52 #[v, u, .func (Fn.func 19) #[] #[]] w fun e w' => e = .returned (.bool (decide (l = m))) ∧ Below w.heap.size w w' := by
  obtain ⟨la, lc, rfl, _⟩ := RdS.len h
  obtain ⟨ma, mc, rfl, _⟩ := RdS.len g
  have HL := Lib.hid h
  have HM := Lib.hid g
  clear h g
  go_enter Tryz.func52, Tryz.ntmps52
  by_cases hn : l.length = m.length
  · have d1 : ((l.length : Int) != (m.length : Int)) = false := by simp [hn]
    have hn' := Lib.hid hn
    clear hn
    go_wp2
    go_loopw [17] (fun i wr => ∃ k : Nat, k ≤ l.length ∧ i = .int .i64 k ∧ Hid (l.take k = m.take k) ∧ Below w.heap.size w wr) (fun i _ => l.length - (intOf i).toNat)
    case atStart => exact ⟨0, Nat.zero_le _, rfl, Lib.hid (by simp), brf _⟩
    case round =>
      obtain ⟨k, hk, rfl, hf, hb⟩ := hrel
      by_cases hlt : k < l.length
      · obtain ⟨x, hx⟩ : ∃ x, l[k]? = some x := ⟨_, List.getElem?_eq_getElem hlt⟩
        have hlt2 : k < m.length := by have := hn'.out; omega
        obtain ⟨y, hy⟩ : ∃ y, m[k]? = some y := ⟨_, List.getElem?_eq_getElem hlt2⟩
        obtain ⟨b, o, ov, e1, hr, c0, c1, c2⟩ := RLog.at HL.out hb hx
        obtain ⟨b', o', ov', e1', hr', c0', c1', c2'⟩ := RLog.at HM.out hb hy
        subst e1 e1'
        obtain ⟨oa, oc, rfl, _⟩ := RdS.len hr
        obtain ⟨pa, pc, rfl, _⟩ := RdS.len hr'
        have hbs : b < wr.heap.size := lt_of_cell c0
        have hbs' : b' < wr.heap.size := lt_of_cell c0'
        have hb0 : Below wr.heap.size wr ((wr.alloc (.cells #[.int .i64 x.client, .int .i64 x.seq, .slice oa x.o.length oc] 41)).alloc (.cells #[.int .i64 y.client, .int .i64 y.seq, .slice pa y.o.length pc] 41)) := bal (bal (brf wr) _) _
        have C := Lib.hid (refSameEntry_any _ _ _ _ x y _ (ROp.to hr (Kp.below (btr hb hb0))) (ROp.to hr' (Kp.below (btr hb hb0))))
        by_cases he : x = y
        · have hnx := Lib.hid (take_eq_snoc hx hy hf.out he)
          rw [decide_eq_true he] at C
          clear hx hy hr hr' he hf
          go_wp2_with fail
          refine C.out.mono ?_
          rintro e w1 ⟨rfl, hb1⟩
          clear c0 c1 c2 c0' c1' c2' C
          go_wp2
          go_roundw
          case rel => exact ⟨k + 1, by omega, by go_num, hnx, btr (btr hb hb0) hb1⟩
          case measure => simp [intOf]; omega
        · have hfin := Lib.hid (decide_eq_false (ne_of_get hx hy he))
          rw [decide_eq_false he] at C
          clear hx hy hr hr' he hf
          go_wp2_with fail
          refine C.out.mono ?_
          rintro e w1 ⟨rfl, hb1⟩
          clear c0 c1 c2 c0' c1' c2' C
          go_wp2
          go_ret
          exact ⟨by rw [hfin.out]; rfl, btr (btr hb hb0) hb1⟩
      · obtain rfl : k = l.length := by omega
        have hfin : Hid (decide (l = m) = true) := Lib.hid (by
          have := hf.out
          rw [List.take_length, hn'.out, List.take_length] at this
          exact decide_eq_true this)
        clear hf
        go_wp2
        go_ret
        exact ⟨by rw [hfin.out]; rfl, hb⟩
  · have d1 : ((l.length : Int) != (m.length : Int)) = true := by simp; omega
    have hfin := Lib.hid (decide_eq_false (fun h : l = m => hn (by rw [h])))
    clear hn
    go_wp2
    go_ret
    exact ⟨by rw [hfin.out]; rfl, brf _⟩

set_option maxRecDepth 100000 in
set_option maxHeartbeats 4000000 in
theorem refSvSame_any (F G : Nat → Prop) (v u : Value) (s t : Srv) (w : World) (h : RSrv F w v s) (g : RSrv G w u t) :
    Calls Tryz.prog 21 #[v, u] w fun e w' => e = .returned (.bool (decide (s.first = t.first) && decide (s.now = t.now) && decide (s.log = t.log))) ∧ Below w.heap.size w w' := by
  obtain ⟨a, l, n, rfl, h1, h2, h3⟩ := h
  obtain ⟨a', l', n', rfl, g1, g2, g3⟩ := g
  obtain ⟨aa, ac, rfl, _⟩ := RdS.len h1
  obtain ⟨la, lc, rfl, _⟩ := RdS.len h2
  obtain ⟨na, nc, rfl, _⟩ := RdS.len h3
  obtain ⟨ba, bc, rfl, _⟩ := RdS.len g1
  obtain ⟨ma, mc, rfl, _⟩ := RdS.len g2
  obtain ⟨pa, pc, rfl, _⟩ := RdS.len g3
  obtain ⟨w0, hw0⟩ : ∃ w0, w0 = (w.alloc (.cells #[.slice aa s.first.length ac, .slice la s.log.length lc, .slice na s.now.length nc] 37)).alloc (.cells #[.slice ba t.first.length bc, .slice ma t.log.length mc, .slice pa t.now.length pc] 37) := ⟨_, rfl⟩
  have hb0 : Below w.heap.size w w0 := by rw [hw0]; exact bal (bal (brf w) _) _
  have E0 := Lib.hid (by rw [hw0]; exact heap_at2 rfl : w0.heap[w.heap.size]? = some (.cells #[.slice aa s.first.length ac, .slice la s.log.length lc, .slice na s.now.length nc] 37 (0, 0)))
  have E1 := Lib.hid (by rw [hw0]; exact heap_at (by simp) : w0.heap[w.heap.size + 1]? = some (.cells #[.slice ba t.first.length bc, .slice ma t.log.length mc, .slice pa t.now.length pc] 37 (0, 0)))
  have S1 := Lib.hid (eqDoc_any F G _ _ s.first t.first w0 (RItems.to h1 (Kp.below hb0)) (RItems.to g1 (Kp.below hb0)))
  have S2 := Lib.hid (fun (w' : World) (hb : Below w0.heap.size w0 w') => eqDoc_any F G _ _ s.now t.now w' (RItems.to h3 (Kp.below (btr hb0 hb))) (RItems.to g3 (Kp.below (btr hb0 hb))))
  have S3 := Lib.hid (fun (w' : World) (hb : Below w0.heap.size w0 w') => refEqFunc_any F G _ _ s.log t.log w' (RLog.to h2 (Kp.below (btr hb0 hb))) (RLog.to g2 (Kp.below (btr hb0 hb))))
  clear h1 h2 h3 g1 g2 g3
  go_enter Tryz.func21, Tryz.ntmps21
  go_upto_region 1 with fail
  rw [← hw0]
  clear hw0
  obtain ⟨x0, x1, x2⟩ := P3.of E0.out
  obtain ⟨y0, y1, y2⟩ := P3.of E1.out
  by_cases c1 : s.first = t.first
  · have f1 := Lib.hid (decide_eq_true c1)
    rw [f1.out] at S1
    clear c1
    go_wp2_with fail
    refine S1.out.mono ?_
    rintro e w1 ⟨rfl, hb1⟩
    clear x0 x1 x2 y0 y1 y2
    obtain ⟨x0, x1, x2⟩ := P3.of ((hb1.block _ (lt_of_heap E0.out)).trans E0.out)
    obtain ⟨y0, y1, y2⟩ := P3.of ((hb1.block _ (lt_of_heap E1.out)).trans E1.out)
    by_cases c2 : s.now = t.now
    · have f2 := Lib.hid (decide_eq_true c2)
      rw [f2.out] at S2
      clear c2
      go_wp2_with fail
      refine (S2.out w1 hb1).mono ?_
      rintro e w2 ⟨rfl, hb2⟩
      have hb02 : Below w0.heap.size w0 w2 := btr hb1 hb2
      clear x0 x1 x2 y0 y1 y2
      obtain ⟨x0, x1, x2⟩ := P3.of ((hb02.block _ (lt_of_heap E0.out)).trans E0.out)
      obtain ⟨y0, y1, y2⟩ := P3.of ((hb02.block _ (lt_of_heap E1.out)).trans E1.out)
      go_wp2_with fail
      refine (S3.out w2 hb02).mono ?_
      rintro e w3 ⟨rfl, hb3⟩
      go_wp2
      go_ret
      exact ⟨by rw [f1.out, f2.out]; simp, btr hb0 (btr hb02 hb3)⟩
    · have f2 := Lib.hid (decide_eq_false c2)
      rw [f2.out] at S2
      clear c2
      go_wp2_with fail
      refine (S2.out w1 hb1).mono ?_
      rintro e w2 ⟨rfl, hb2⟩
      go_wp2
      go_ret
      exact ⟨by rw [f1.out, f2.out]; simp, btr hb0 (btr hb1 hb2)⟩
  · have f1 := Lib.hid (decide_eq_false c1)
    rw [f1.out] at S1
    clear c1
    go_wp2_with fail
    refine S1.out.mono ?_
    rintro e w1 ⟨rfl, hb1⟩
    go_wp2
    go_ret
    exact ⟨by rw [f1.out]; simp, btr hb0 hb1⟩

set_option maxRecDepth 100000 in
set_option maxHeartbeats 2000000 in
theorem lwHas1_any (ov : Value) (x : En) (gc gs : Nat) (client seq : Int) (w : World) (hov : ∃ a l c, ov = .slice a l c) (hc : w.cell? ⟨gc, 0, none⟩ = some (.int .i64 client)) (hs : w.cell? ⟨gs, 0, none⟩ = some (.int .i64 seq)) :
    Calls Tryz.prog 24 #[.agg #[.int .i64 x.client, .int .i64 x.seq, ov], .pointer (some ⟨gc, 0, none⟩), .pointer (some ⟨gs, 0, none⟩)] w fun e w' => e = .returned (.bool (x.client == client && x.seq == seq)) ∧ Below w.heap.size w w' := by
  obtain ⟨a, l, c, rfl⟩ := hov
  have hlc := lt_of_cell hc
  have hls := lt_of_cell hs
  go_enter Tryz.func24, Tryz.ntmps24
  cases h1 : x.client == client with
  | true =>
    go_wp2
    go_ret
    exact ⟨by simp, bal (brf w) _⟩
  | false =>
    go_wp2
    go_ret
    exact ⟨by simp, bal (brf w) _⟩

set_option maxRecDepth 100000 in
set_option maxHeartbeats 2000000 in
theorem lwIdx_any (F : Nat → Prop) (v : Value) (l : List En) (gc gs : Nat) (client seq : Int) (w : World) (h : RLog F w v l) (hc : w.cell? ⟨gc, 0, none⟩ = some (.int .i64 client)) (hs : w.cell? ⟨gs, 0, none⟩ = some (.int .i64 seq)) :
    Calls Tryz.prog 57 #[v, .func (Fn.func 24) #[] #[.pointer (some ⟨gc, 0, none⟩), .pointer (some ⟨gs, 0, none⟩)]] w fun e w' => ∃ n : Int, e = .returned (.int .i64 n) ∧ hasP l client seq = decide (0 ≤ n) ∧ Below w.heap.size w w' := by
  obtain ⟨la, lc, rfl, hn⟩ := RdS.len h
  have HL := Lib.hid h
  have HC := Lib.hid hc
  have HS := Lib.hid hs
  clear h hc hs
  go_enter Tryz.func57, Tryz.ntmps57
  go_wp2
  go_loopw [8] (fun i wr => ∃ k : Nat, k ≤ l.length ∧ i = .int .i64 k ∧ Hid (hasP (l.take k) client seq = false) ∧ Below w.heap.size w wr) (fun i _ => l.length - (intOf i).toNat)
  case atStart => exact ⟨0, Nat.zero_le _, rfl, Lib.hid (by simp [hasP]), brf _⟩
  case round =>
    obtain ⟨k, hk, rfl, hf, hb⟩ := hrel
    by_cases hlt : k < l.length
    · obtain ⟨x, hx⟩ : ∃ x, l[k]? = some x := ⟨_, List.getElem?_eq_getElem hlt⟩
      obtain ⟨b, o, ov, e1, hr, c0, c1, c2⟩ := RLog.at HL.out hb hx
      subst e1
      obtain ⟨oa, oc, rfl, _⟩ := RdS.len hr
      have hst := Lib.hid (has_step (client := client) (seq := seq) hx)
      have hof := Lib.hid (has_of (client := client) (seq := seq) hx)
      have C := Lib.hid (lwHas1_any (.slice oa x.o.length oc) x gc gs client seq wr ⟨_, _, _, rfl⟩ ((hb.cell (lt_of_cell HC.out)).trans HC.out) ((hb.cell (lt_of_cell HS.out)).trans HS.out))
      clear hx hr
      by_cases he : (x.client == client && x.seq == seq) = true
      · have hfin := Lib.hid (hof.out he)
        rw [he] at C
        clear he hst hof hf
        go_wp2_with fail
        refine C.out.mono ?_
        rintro e w1 ⟨rfl, hb1⟩
        go_wp2
        go_ret
        exact ⟨_, rfl, by rw [hfin.out]; simp, btr hb hb1⟩
      · have he' : (x.client == client && x.seq == seq) = false := by simpa using he
        have hnx : Hid (hasP (l.take (k + 1)) client seq = false) := Lib.hid (by rw [hst.out, hf.out, he']; rfl)
        rw [he'] at C
        clear he he' hst hof hf
        go_wp2_with fail
        refine C.out.mono ?_
        rintro e w1 ⟨rfl, hb1⟩
        clear c0 c1 c2 C
        go_wp2
        go_roundw
        case rel => exact ⟨k + 1, by omega, by go_num, hnx, btr hb hb1⟩
        case measure => simp [intOf]; omega
    · obtain rfl : k = l.length := by omega
      have hfin : Hid (hasP l client seq = false) := Lib.hid (by have := hf.out; rwa [List.take_length] at this)
      clear hf
      go_wp2
      go_ret
      exact ⟨_, rfl, by rw [hfin.out]; simp, hb⟩

set_option maxRecDepth 100000 in
set_option maxHeartbeats 2000000 in
theorem lwCont_any (F : Nat → Prop) (v : Value) (l : List En) (gc gs : Nat) (client seq : Int) (w : World) (h : RLog F w v l) (hc : w.cell? ⟨gc, 0, none⟩ = some (.int .i64 client)) (hs : w.cell? ⟨gs, 0, none⟩ = some (.int .i64 seq)) :
    Calls Tryz.prog 23 #[v, .func (Fn.func 24) #[] #[.pointer (some ⟨gc, 0, none⟩), .pointer (some ⟨gs, 0, none⟩)]] w fun e w' => e = .returned (.bool (hasP l client seq)) ∧ Below w.heap.size w w' := by
  have C := Lib.hid (lwIdx_any F v l gc gs client seq w h hc hs)
  obtain ⟨la, lc, rfl, hn⟩ := RdS.len h
  clear h hc hs
  go_enter Tryz.func23, Tryz.ntmps23
  go_wp2_with fail
  refine C.out.mono ?_
  rintro e w1 ⟨n, rfl, hh, hb1⟩
  have hh' := Lib.hid hh
  clear hh C
  by_cases hn0 : 0 ≤ n
  · have d : decide (0 ≤ n) = true := by simpa using hn0
    have hfin := Lib.hid (hh'.out.trans d)
    clear hn0 hh'
    go_wp2
    go_ret
    exact ⟨by rw [hfin.out]; rfl, hb1⟩
  · have d : decide (0 ≤ n) = false := by simpa using hn0
    have hfin := Lib.hid (hh'.out.trans d)
    clear hn0 hh'
    go_wp2
    go_ret
    exact ⟨by rw [hfin.out]; rfl, hb1⟩

set_option maxRecDepth 100000 in
set_option maxHeartbeats 2000000 in
theorem refTakesFail_any (x : Int) (w : World) :
    Calls Tryz.prog 58 #[.int .i64 x] w fun e w' => e = .returned (.tuple #[.agg #[.slice none 0 0, .slice none 0 0, .slice none 0 0], .int .i64 x]) ∧ Below w.heap.size w w' := by
  obtain ⟨w1, hw1⟩ : ∃ w1, w1 = w.alloc (.cells #[.slice none 0 0, .slice none 0 0, .slice none 0 0] 37) := ⟨_, rfl⟩
  have hb1 : Below w.heap.size w w1 := by rw [hw1]; exact bal (brf w) _
  have P1 : w1.heap[w.heap.size]? = some (.cells #[.slice none 0 0, .slice none 0 0, .slice none 0 0] 37 (0, 0)) := by rw [hw1]; exact heap_at rfl
  go_enter Tryz.func58, Tryz.ntmps58
  go_upto_region 1 with fail
  rw [← hw1]
  clear hw1
  obtain ⟨x0, x1, x2⟩ := P3.of P1
  have hfz : ∀ i, w1.frozen? ⟨w.heap.size, i, none⟩ = false := fun i => Lib.frozen_of_heap P1 _
  have hgx : w.heap.size < w1.heap.size := lt_of_heap P1
  go_wp2
  obtain ⟨q1, q2⟩ := set012 P1 (.slice none 0 0) (.slice none 0 0) (.slice none 0 0)
  generalize hwz : (((w1.setCell ⟨w.heap.size, 0, none⟩ _).setCell ⟨w.heap.size, 1, none⟩ _).setCell ⟨w.heap.size, 2, none⟩ _) = wz at *
  obtain ⟨z0, z1, z2⟩ := P3.of q1
  exact bodyPost_ret (v := .tuple #[.agg #[.slice none 0 0, .slice none 0 0, .slice none 0 0], .int .i64 x]) (by simp [results, Tryz.results58, go_sem, z0, z1, z2]) rfl ⟨rfl, hb1.trans q2.bel⟩
end Go.Proofs.YtckdlhgeelhnmaaGreat
/- The reference ServerTakes, of a right server. -/
namespace Go.Mh
open Go
section
variable {P : Program} {ops : Array Oper} {Q : Exit → Act → World → Prop} {md : Region.Mode} {S : World → Prop}
/-- An operation carried out: its value and its world meet R. -/
abbrev Stp (P : Program) (ops : Array Oper) (Q : Exit → Act → World → Prop) (S : World → Prop) (o : Oper) (d : Nat) (l : List Value) (df : List Deferred) (w : World) (R : Value → World → Prop) : Prop :=
  ∀ K' : Act → World → Prop, Shut (∀ v w', S w' → R v w' → K' ⟨(l.set d v).toArray, df⟩ w') → if Region.wanted o (yielded ops l.toArray) = true then Oper.wp P o ⟨l.toArray, df⟩ w K' Q else K' ((⟨l.toArray, df⟩ : Act).put o.dst undef) w
/-- i and k may come up; j waits for i alone: what the three leave behind is said once. -/
theorem wpAnyH_tri (i j k di dj dk : Nat) {oi oj ok : Oper} {fuel : Nat} {listed : Array Bool} {l : List Value} {df : List _} {w : World} (hi : ops[i]? = some oi) (hj : ops[j]? = some oj) (hk : ops[k]? = some ok) (nik : di ≠ dk) (njk : dj ≠ dk) (mij : i ≠ j) (mik : i ≠ k) (mjk : j ≠ k)
    (r0 : Region.ready md ops listed = [i, k]) (ri : Region.ready md ops (listed.setIfInBounds i true) = [j, k]) (rk : Region.ready md ops (listed.setIfInBounds k true) = [i])
    (rij : Region.ready md ops ((listed.setIfInBounds i true).setIfInBounds j true) = [k]) (rik : Region.ready md ops ((listed.setIfInBounds i true).setIfInBounds k true) = [j])
    (A C : Value → World → Prop) (D E : Value → Value → World → Prop) (I : Value → Value → Value → World → Prop)
    (i0 : Stp P ops Q S oi di l df w A) (k0 : Stp P ops Q S ok dk l df w C)
    (jA : ∀ v w', A v w' → Stp P ops Q S oj dj (l.set di v) df w' (E v)) (kA : ∀ v w', A v w' → Stp P ops Q S ok dk (l.set di v) df w' (D v))
    (kE : ∀ v v2 w', E v v2 w' → Stp P ops Q S ok dk ((l.set di v).set dj v2) df w' (I v v2)) (jD : ∀ v u w', D v u w' → Stp P ops Q S oj dj ((l.set di v).set dk u) df w' (fun v2 => I v v2 u))
    (iC : ∀ u w', C u w' → Stp P ops Q S oi di (l.set dk u) df w' (fun v => D v u))
    (h : ∀ v v2 u w', I v v2 u w' → S w' → wpAnyH P md ops Q S fuel (((listed.setIfInBounds i true).setIfInBounds j true).setIfInBounds k true) ⟨(((l.set di v).set dj v2).set dk u).toArray, df⟩ w') :
    wpAnyH P md ops Q S (fuel + 3) listed ⟨l.toArray, df⟩ w := by
  have fromD : ∀ v u w', D v u w' → S w' → wpAnyH P md ops Q S (fuel + 1) ((listed.setIfInBounds i true).setIfInBounds k true) ⟨((l.set di v).set dk u).toArray, df⟩ w' := fun v u w' hD _ => by
    refine wpAnyH_step j hj rik fun K' hK => jD v u w' hD K' fun v2 w'' hS hI => hK.out _ _ hS ?_
    have := h v v2 u w'' hI hS
    rwa [Array.setIfInBounds_comm _ _ mjk, List.set_comm _ _ njk] at this
  refine ⟨fun h0 => by (rw [r0] at h0; cases h0), fun q hq => ?_⟩
  rw [r0] at hq
  rcases (by simpa using hq : q = i ∨ q = k) with rfl | rfl
  · refine wpOp_step hi fun K' hK => i0 K' fun v w' hS hA => hK _ w' ⟨hS, ?_⟩
    refine ⟨fun h0 => by (rw [ri] at h0; cases h0), fun p hp => ?_⟩
    rw [ri] at hp
    rcases (by simpa using hp : p = j ∨ p = k) with rfl | rfl
    · refine wpOp_step hj fun K'' hK2 => jA v w' hA K'' fun v2 w'' hS2 hE => hK2 _ w'' ⟨hS2, ?_⟩
      exact wpAnyH_step k hk rij fun K3 hK3 => kE v v2 w'' hE K3 fun u w3 hS3 hI => hK3.out _ _ hS3 (h v v2 u w3 hI hS3)
    · exact wpOp_step hk fun K'' hK2 => kA v w' hA K'' fun u w'' hS2 hD => hK2 _ w'' ⟨hS2, fromD v u w'' hD hS2⟩
  · refine wpOp_step hk fun K' hK => k0 K' fun u w' hS hC => hK _ w' ⟨hS, ?_⟩
    refine wpAnyH_step i hi rk fun K'' hK2 => iC u w' hC K'' fun v w'' hS2 hD => hK2.out _ _ hS2 ?_
    have := fromD v u w'' hD hS2
    rwa [Array.setIfInBounds_comm _ _ mik, List.set_comm _ _ nik] at this
end
open Go.RowKit
/-- All blocks stay but for the three from B on. -/
structure Off3 (B : Nat) (w w' : World) : Prop where
  size : w.heap.size ≤ w'.heap.size
  same : ∀ k, k < w.heap.size → (k < B ∨ B + 3 ≤ k) → w'.heap[k]? = w.heap[k]?
theorem Off3.refl (B : Nat) (w : World) : Off3 B w w := ⟨Nat.le_refl _, fun _ _ _ => rfl⟩
theorem Off3.below {B : Nat} {w a b : World} (h : Off3 B w a) (hb : Below a.heap.size a b) : Off3 B w b := ⟨Nat.le_trans h.size hb.size, fun k hk h1 => (hb.block k (Nat.lt_of_lt_of_le hk h.size)).trans (h.same k hk h1)⟩
theorem Off3.stays {B g : Nat} {w a b : World} (h : Off3 B w a) (hs : Stays g a b) (hg : B ≤ g ∧ g < B + 3) : Off3 B w b := ⟨Nat.le_trans h.size hs.bel.size, fun k hk h1 => (hs.same k (Nat.lt_of_lt_of_le hk h.size) (by omega)).trans (h.same k hk h1)⟩
theorem Off3.kp {B : Nat} {w a : World} {F : Nat → Prop} (h : Off3 B w a) (hF : ∀ k, F k → k < w.heap.size → (k < B ∨ B + 3 ≤ k)) : Kp F (fun _ => True) w a := fun k hk hl => ⟨trivial, h.same k hl (hF k hk hl)⟩
theorem Off3.kp2 {B : Nat} {w a : World} {F : Nat → Prop} (h : Off3 B w a) (hF : ∀ k, F k → k < w.heap.size → (k < B ∨ B + 3 ≤ k)) : Kp F (fun k => k < B ∨ B + 3 ≤ k) w a := fun k hk hl => ⟨hF k hk hl, h.same k hl (hF k hk hl)⟩
theorem takeP_ok {s : Srv} {rev : Int} {x : En} (h : chkSrv s = 0) : takeP s rev x = if chkEn x ≠ 0 then (srv0, chkEn x) else if hasP s.log x.client x.seq = true then (s, 0) else takeQ s rev x := by
  unfold takeP; rw [if_neg (by simpa using h)]
theorem own_row0 {e g B : Nat} {α : Type} {R : World → List Value → α → Prop} {w : World} (h : w.heap[g]? = some (.cells #[] e (0, 0))) (hB : B ≤ g) : OwnS B e 3 R w (.slice (some ⟨g, 0, none⟩) 0 0) ([] : List α) :=
  ⟨[], ⟨rfl, Or.inr ⟨g, 0, #[], by simp, hB, h, by simp, by simp [maxLen], by simp, by simp⟩⟩, rfl, fun i cs x h => by simp at h⟩
end Go.Mh
namespace Go.Proofs.YtckdlhgeelhnmaaGreat
open Go.RowKit Go.Mh

set_option maxRecDepth 100000 in
set_option maxHeartbeats 16000000 in
theorem refTakes_any (F G : Nat → Prop) (v ov : Value) (s : Srv) (rev : Int) (x : En) (w : World) (h : RSrv F w v s) (g : ROp G w ov x.o) (hok : SrvOk s) :
    Calls Tryz.prog 25 #[v, .int .i64 rev, .agg #[.int .i64 x.client, .int .i64 x.seq, ov]] w fun e w' => ∃ v', e = .returned (.tuple #[v', .int .i64 (takeP s rev x).2]) ∧ RSrv (fun _ => True) w' v' (takeP s rev x).1 ∧ Below w.heap.size w w' := by
  obtain ⟨a, l, n, rfl, h1, h2, h3⟩ := h
  obtain ⟨aa, ac, rfl, _⟩ := RdS.len h1
  obtain ⟨la, lc, rfl, _⟩ := RdS.len h2
  obtain ⟨na, nc, rfl, _⟩ := RdS.len h3
  obtain ⟨oa, oac, rfl, _⟩ := RdS.len g
  have nF : ∀ {F : Nat → Prop} k, F k → k < w.heap.size → (k < w.heap.size ∨ w.heap.size + 3 ≤ k) := fun k _ h => Or.inl h
  have H1 := Lib.hid (fun w' (h : Off3 w.heap.size w w') => (RItems.to h1 (h.kp nF) : RItems (fun _ => True) w' _ _))
  have H2 := Lib.hid (fun w' (h : Off3 w.heap.size w w') => (RLog.to h2 (h.kp nF) : RLog (fun _ => True) w' _ _))
  have H3 := Lib.hid (fun w' (h : Off3 w.heap.size w w') => (RItems.to h3 (h.kp nF) : RItems (fun _ => True) w' _ _))
  have HO := Lib.hid (fun w' (h : Off3 w.heap.size w w') => (ROp.to g (h.kp nF) : ROp (fun _ => True) w' _ _))
  have H22 := Lib.hid (fun w' (h : Off3 w.heap.size w w') => (RLog.to h2 (h.kp2 nF) : RLog (fun k => k < w.heap.size ∨ w.heap.size + 3 ≤ k) w' _ _))
  have HO2 := Lib.hid (fun w' (h : Off3 w.heap.size w w') => (ROp.to g (h.kp2 nF) : ROp (fun k => k < w.heap.size ∨ w.heap.size + 3 ≤ k) w' _ _))
  clear h1 h2 h3 g nF
  obtain ⟨w1, hw1⟩ : ∃ w1, w1 = ((w.alloc (.cells #[.slice aa s.first.length ac, .slice la s.log.length lc, .slice na s.now.length nc] 37)).alloc (.cells #[.int .i64 x.client, .int .i64 x.seq, .slice oa x.o.length oac] 41)).alloc (.cells #[.slice none 0 0, .slice none 0 0, .slice none 0 0] 37) := ⟨_, rfl⟩
  have B1 := Lib.hid (by rw [hw1]; exact bal (bal (bal (brf w) _) _) _ : Below w.heap.size w w1)
  have X1 := Lib.hid (by rw [hw1]; exact ((bal (brf _) _).block _ (by simp; omega)).trans (heap_at2 rfl) : w1.heap[w.heap.size]? = some (.cells #[.slice aa s.first.length ac, .slice la s.log.length lc, .slice na s.now.length nc] 37 (0, 0)))
  have E1 := Lib.hid (by rw [hw1]; exact heap_at2 (by simp) : w1.heap[w.heap.size + 1]? = some (.cells #[.int .i64 x.client, .int .i64 x.seq, .slice oa x.o.length oac] 41 (0, 0)))
  have Z1 := Lib.hid (by rw [hw1]; exact heap_at (by simp) : w1.heap[w.heap.size + 2]? = some (.cells #[.slice none 0 0, .slice none 0 0, .slice none 0 0] 37 (0, 0)))
  have O1 := Lib.hid ((Off3.refl w.heap.size w).below B1.out)
  obtain ⟨⟨R1, R2⟩, hres⟩ : ∃ r, Hid (takeP s rev x = r) := ⟨_, Lib.hid rfl⟩
  rw [hres.out]
  have htp := Lib.hid (takeP_ok (rev := rev) (x := x) hok.chk)
  have hl60 : s.log.length ≤ 60 := hok.lens.2.2.1
  clear hok
  go_enter Tryz.func25, Tryz.ntmps25
  go_upto_region 1 with fail
  rw [← hw1]
  clear hw1
  obtain ⟨y0, y1, y2⟩ := P3.of E1.out
  have C := Lib.hid (refEntry_any _ _ x w1 (HO.out w1 O1.out))
  go_wp2_with fail
  refine C.out.mono ?_
  rintro e w2 ⟨rfl, hb2⟩
  have X2 := Lib.hid ((hb2.block _ (lt_of_heap X1.out)).trans X1.out)
  have E2 := Lib.hid ((hb2.block _ (lt_of_heap E1.out)).trans E1.out)
  have Z2 := Lib.hid ((hb2.block _ (lt_of_heap Z1.out)).trans Z1.out)
  have O2 := Lib.hid (O1.out.below hb2)
  have B2 := Lib.hid (btr B1.out hb2)
  clear C hb2 X1 E1 Z1 O1 B1 y0 y1 y2
  by_cases hce' : chkEn x = 0
  · have hce := Lib.hid hce'
    rw [hce']
    clear hce'
    obtain ⟨x0, x1, x2⟩ := P3.of X2.out
    obtain ⟨y0, y1, y2⟩ := P3.of E2.out
    have hx0 := lt_of_heap X2.out
    have hy0 := lt_of_heap E2.out
    go_wp2
    clear x0 x1 x2 y0 y1 y2 hx0 hy0
    go_loopw [30] (fun i wr => ∃ k : Nat, k ≤ s.log.length ∧ i = .int .i64 k ∧ Hid (hasP (s.log.take k) x.client x.seq = false) ∧ Below w2.heap.size w2 wr) (fun i _ => s.log.length - (intOf i).toNat)
    case atStart => exact ⟨0, Nat.zero_le _, rfl, Lib.hid (by simp [hasP]), brf _⟩
    case round =>
      obtain ⟨k, hk, rfl, hf, hb⟩ := hrel
      have X3 := Lib.hid ((hb.block _ (lt_of_heap X2.out)).trans X2.out)
      have E3 := Lib.hid ((hb.block _ (lt_of_heap E2.out)).trans E2.out)
      have Z3 := Lib.hid ((hb.block _ (lt_of_heap Z2.out)).trans Z2.out)
      have O3 := Lib.hid (O2.out.below hb)
      have B3 := Lib.hid (btr B2.out hb)
      obtain ⟨x0, x1, x2⟩ := P3.of X3.out
      obtain ⟨y0, y1, y2⟩ := P3.of E3.out
      have hx0 := lt_of_heap X3.out
      have hy0 := lt_of_heap E3.out
      by_cases hlt : k < s.log.length
      · obtain ⟨t, ht⟩ : ∃ t, s.log[k]? = some t := ⟨_, List.getElem?_eq_getElem hlt⟩
        obtain ⟨b, o, tv, e1, hr, c0, c1, c2⟩ := RLog.at (H2.out w2 O2.out) hb ht
        subst e1
        obtain ⟨ta, tc, rfl, _⟩ := RdS.len hr
        have hst := Lib.hid (has_step (client := x.client) (seq := x.seq) ht)
        have hof := Lib.hid (has_of (client := x.client) (seq := x.seq) ht)
        have hbs : b < wr.heap.size := lt_of_cell c0
        have hbx : Below wr.heap.size wr (wr.alloc (.cells #[.int .i64 t.client, .int .i64 t.seq, .slice ta t.o.length tc] 41)) := bal (brf wr) _
        clear hr ht
        by_cases a1 : t.client = x.client
        · have t1 : (t.client == x.client) = true := by simpa using a1
          by_cases a2 : t.seq = x.seq
          · have t2 : (t.seq == x.seq) = true := by simpa using a2
            have hq := hres.out
            have hz := hof.out (by rw [t1, t2]; rfl)
            rw [htp.out, if_neg (by simpa using hce.out), if_pos hz] at hq
            simp only [Prod.mk.injEq] at hq
            obtain ⟨hq1, rfl⟩ := hq
            have hR1 := Lib.hid hq1
            clear hq1 hz a1 a2 hst hof hf hres htp
            go_upto_region 9 with fail
            refine name_world ?_
            intro w4 hW
            rw [hW] at hbx
            have X4 := Lib.hid ((hbx.block _ (lt_of_heap X3.out)).trans X3.out)
            have Z4 := Lib.hid ((hbx.block _ (lt_of_heap Z3.out)).trans Z3.out)
            have O4 := Lib.hid (O3.out.below hbx)
            have B4 := Lib.hid (btr B3.out hbx)
            clear hW hbx c0 c1 c2 x0 x1 x2 y0 y1 y2 hx0 hy0
            obtain ⟨x0, x1, x2⟩ := P3.of X4.out
            have hx0 := lt_of_heap X4.out
            obtain ⟨z0, z1, z2⟩ := P3.of Z4.out
            have hfz2 : ∀ i, w4.frozen? ⟨w.heap.size + 2, i, none⟩ = false := fun i => Lib.frozen_of_heap Z4.out _
            have hzz := lt_of_heap Z4.out
            go_wp2
            obtain ⟨q1, q2⟩ := set012 Z4.out (.slice aa s.first.length ac) (.slice (some ⟨b, o, none⟩) s.log.length lc) (.slice na s.now.length nc)
            generalize hwz : (((w4.setCell ⟨w.heap.size + 2, 0, none⟩ _).setCell ⟨w.heap.size + 2, 1, none⟩ _).setCell ⟨w.heap.size + 2, 2, none⟩ _) = wz at *
            clear z0 z1 z2
            obtain ⟨z0, z1, z2⟩ := P3.of q1
            exact bodyPost_ret (v := .tuple #[.agg #[.slice aa s.first.length ac, .slice (some ⟨b, o, none⟩) s.log.length lc, .slice na s.now.length nc], .int .i64 0]) (by simp [results, Tryz.results25, go_sem, z0, z1, z2]) rfl ⟨_, rfl, by rw [← hR1.out]; exact ⟨_, _, _, rfl, H1.out _ (O4.out.stays q2 (by omega)), H2.out _ (O4.out.stays q2 (by omega)), H3.out _ (O4.out.stays q2 (by omega))⟩, B4.out.trans (q2.bel.mono (by omega))⟩
          · have t2 : (t.seq == x.seq) = false := by simpa using a2
            clear a1 a2
            have hnx : Hid (hasP (s.log.take (k + 1)) x.client x.seq = false) := Lib.hid (by rw [hst.out, hf.out]; simp [t1, t2])
            clear hst hof hf
            go_wp2
            go_roundw
            case rel => exact ⟨k + 1, by omega, by go_num, hnx, btr hb hbx⟩
            case measure => simp [intOf]; omega
        · have t1 : (t.client == x.client) = false := by simpa using a1
          clear a1
          have hnx : Hid (hasP (s.log.take (k + 1)) x.client x.seq = false) := Lib.hid (by rw [hst.out, hf.out]; simp [t1])
          clear hst hof hf
          go_wp2
          go_roundw
          case rel => exact ⟨k + 1, by omega, by go_num, hnx, btr hb hbx⟩
          case measure => simp [intOf]; omega
      · obtain rfl : k = s.log.length := by omega
        have hno : hasP s.log x.client x.seq = false := by have := hf.out; rwa [List.take_length] at this
        have hq := hres.out
        rw [htp.out, if_neg (by simpa using hce.out), if_neg (by simp [hno])] at hq
        have hQ := Lib.hid hq
        clear hq hno hf hres htp hce X2 E2 Z2 O2 B2 hb
        by_cases hrv : rev < 0 ∨ (s.log.length : Int) < rev
        · have hq := hQ.out
          rw [takeQ, if_pos hrv] at hq
          simp only [Prod.mk.injEq] at hq
          obtain ⟨rfl, rfl⟩ := hq
          have way : decide (rev < 0) = true ∨ (decide (rev < 0) = false ∧ decide ((s.log.length : Int) < rev) = true) := by
            simp only [decide_eq_true_eq, decide_eq_false_iff_not]; omega
          clear hQ hrv
          rcases way with d1 | ⟨d1, d2⟩
          all_goals
            go_wp2_with fail
            refine (refTakesFail_any 6 wr).mono ?_
            rintro e wf ⟨rfl, hbf⟩
            have Zf := Lib.hid ((hbf.block _ (lt_of_heap Z3.out)).trans Z3.out)
            have Bf := Lib.hid (B3.out.trans (hbf.mono B3.out.size))
            obtain ⟨z0, z1, z2⟩ := P3.of Zf.out
            have hfz2 : ∀ i, wf.frozen? ⟨w.heap.size + 2, i, none⟩ = false := fun i => Lib.frozen_of_heap Zf.out _
            have hzz := lt_of_heap Zf.out
            go_wp2
            obtain ⟨q1, q2⟩ := set012 Zf.out (.slice none 0 0) (.slice none 0 0) (.slice none 0 0)
            generalize hwz : (((wf.setCell ⟨w.heap.size + 2, 0, none⟩ _).setCell ⟨w.heap.size + 2, 1, none⟩ _).setCell ⟨w.heap.size + 2, 2, none⟩ _) = wz at *
            clear z0 z1 z2
            obtain ⟨z0, z1, z2⟩ := P3.of q1
            exact bodyPost_ret (v := .tuple #[.agg #[.slice none 0 0, .slice none 0 0, .slice none 0 0], .int .i64 6]) (by simp [results, Tryz.results25, go_sem, z0, z1, z2]) rfl ⟨_, rfl, RSrv.zero, Bf.out.trans (q2.bel.mono (by omega))⟩
        · obtain ⟨d1, d2⟩ : decide (rev < 0) = false ∧ decide ((s.log.length : Int) < rev) = false := by simp only [decide_eq_false_iff_not]; omega
          by_cases h6 : s.log.length = 60
          · have hq := hQ.out
            rw [takeQ, if_neg hrv, if_pos h6] at hq
            simp only [Prod.mk.injEq] at hq
            obtain ⟨rfl, rfl⟩ := hq
            have d3 : ((s.log.length : Int) == 60) = true := by simp [h6]
            clear hQ hrv h6
            go_wp2_with fail
            refine (refTakesFail_any 2 wr).mono ?_
            rintro e wf ⟨rfl, hbf⟩
            have Zf := Lib.hid ((hbf.block _ (lt_of_heap Z3.out)).trans Z3.out)
            have Bf := Lib.hid (B3.out.trans (hbf.mono B3.out.size))
            obtain ⟨z0, z1, z2⟩ := P3.of Zf.out
            have hfz2 : ∀ i, wf.frozen? ⟨w.heap.size + 2, i, none⟩ = false := fun i => Lib.frozen_of_heap Zf.out _
            have hzz := lt_of_heap Zf.out
            go_wp2
            obtain ⟨q1, q2⟩ := set012 Zf.out (.slice none 0 0) (.slice none 0 0) (.slice none 0 0)
            generalize hwz : (((wf.setCell ⟨w.heap.size + 2, 0, none⟩ _).setCell ⟨w.heap.size + 2, 1, none⟩ _).setCell ⟨w.heap.size + 2, 2, none⟩ _) = wz at *
            clear z0 z1 z2
            obtain ⟨z0, z1, z2⟩ := P3.of q1
            exact bodyPost_ret (v := .tuple #[.agg #[.slice none 0 0, .slice none 0 0, .slice none 0 0], .int .i64 2]) (by simp [results, Tryz.results25, go_sem, z0, z1, z2]) rfl ⟨_, rfl, RSrv.zero, Bf.out.trans (q2.bel.mono (by omega))⟩
          · have hq := hQ.out
            rw [takeQ, if_neg hrv, if_neg h6] at hq
            have hQ2 := Lib.hid hq
            have d3 : ((s.log.length : Int) == 60) = false := by simp; omega
            obtain ⟨r0, rfl⟩ : ∃ r0 : Nat, rev = (r0 : Int) := ⟨rev.toNat, by omega⟩
            have hr0 : r0 ≤ s.log.length := by omega
            rw [Int.toNat_natCast] at hQ2
            clear hq hQ hrv h6
            have d4 : decide (s.log.length < r0) = false := by simp; omega
            go_wp2
            clear d1 d2 d3 d4 x0 x1 x2 y0 y1 y2 hx0 hy0
            go_loopw [12] (fun i wr => ∃ k : Nat, k ≤ s.log.length ∧ i = .int .i64 k ∧ ∃ (O : List Pt) (va : Option Addr) (vac : Nat), wr.heap[w.heap.size]? = some (.cells #[.slice aa s.first.length ac, .slice la s.log.length lc, .slice na s.now.length nc] 37 (0, 0)) ∧ wr.heap[w.heap.size + 1]? = some (.cells #[.int .i64 x.client, .int .i64 x.seq, .slice va O.length vac] 41 (0, 0)) ∧ wr.heap[w.heap.size + 2]? = some (.cells #[.slice none 0 0, .slice none 0 0, .slice none 0 0] 37 (0, 0)) ∧ ROp (fun k => k < w.heap.size ∨ w.heap.size + 3 ≤ k) wr (.slice va O.length vac) O ∧ Hid (rebase x.o (s.log.drop r0) = rebase O (s.log.drop k)) ∧ Off3 w.heap.size w wr ∧ Below w.heap.size w wr) (fun i _ => s.log.length - (intOf i).toNat)
            case atStart => exact ⟨r0, hr0, rfl, x.o, oa, oac, X3.out, E3.out, Z3.out, HO2.out _ O3.out, Lib.hid rfl, O3.out, B3.out⟩
            case round =>
              obtain ⟨k, hk, rfl, O, va, vac, hX, hE, hZ, hO, hrb, hoff, hb⟩ := hrel
              have X3 := Lib.hid hX
              have E3 := Lib.hid hE
              have Z3 := Lib.hid hZ
              have V3 := Lib.hid hO
              have O3 := Lib.hid hoff
              have B3 := Lib.hid hb
              clear hX hE hZ hO hoff hb
              obtain ⟨x0, x1, x2⟩ := P3.of X3.out
              obtain ⟨y0, y1, y2⟩ := P3.of E3.out
              have hx0 := lt_of_heap X3.out
              have hy0 := lt_of_heap E3.out
              by_cases hlt : k < s.log.length
              · obtain ⟨t, ht⟩ : ∃ t, s.log[k]? = some t := ⟨_, List.getElem?_eq_getElem hlt⟩
                obtain ⟨b, o, tv, e1, hr, c0, c1, c2⟩ := RLog.at (H2.out wr O3.out) (brf wr) ht
                subst e1
                obtain ⟨ta, tc, rfl, _⟩ := RdS.len hr
                have hst := Lib.hid (rebase_step (o := O) ht)
                have hbs : b < wr.heap.size := lt_of_cell c0
                have hbd : Below wr.heap.size wr wr.drew := (brf wr).drew
                have C := Lib.hid (refTurned_any _ _ _ _ t.o O wr.drew (ROp.to hr (Kp.below hbd)) (ROp.to V3.out (Kp.below hbd)))
                obtain ⟨⟨T1, T2, te⟩, hT⟩ : ∃ q, turnP t.o O = q := ⟨_, rfl⟩
                rw [hT] at C
                have hst2 : Hid (rebase O (s.log.drop k) = if te ≠ 0 then ([], te) else rebase T2 (s.log.drop (k + 1))) := Lib.hid (by rw [hst.out, hT])
                clear hr ht hst hT
                go_upto_region 18 with fail
                refine wp_region_held (S := fun w' => w'.heap[w.heap.size]? = wr.heap[w.heap.size]? ∧ w'.heap[w.heap.size + 1]? = wr.heap[w.heap.size + 1]? ∧ w'.heap[b]? = wr.heap[b]?) (by kernel_rfl) ?_
                have SD : wr.drew.heap[w.heap.size]? = wr.heap[w.heap.size]? ∧ wr.drew.heap[w.heap.size + 1]? = wr.heap[w.heap.size + 1]? ∧ wr.drew.heap[b]? = wr.heap[b]? := ⟨rfl, rfl, rfl⟩
                refine wpAnyH_takeD 0 78 (v := ?_) rfl rfl (by kernel_rfl) (by kernel_rfl) (by kernel_rfl) (fun _ _ _ h => h) (Or.inl ⟨by rfl, ?_⟩) SD ?_
                rotate_left
                · (intro w' hw'; (try dsimp only at hw'); go_simp; try with_reducible rfl)
                simp only [List.set_cons_zero, List.set_cons_succ]
                refine wpAnyH_takeD 1 79 (v := ?_) rfl rfl (by kernel_rfl) (by kernel_rfl) (by kernel_rfl) (fun _ _ _ h => h) (Or.inl ⟨by rfl, ?_⟩) SD ?_
                rotate_left
                · (intro w' hw'; have j1 := (World.cell?_of_block hw'.1).trans x1; (try dsimp only at hw'); go_simp; try with_reducible rfl)
                simp only [List.set_cons_zero, List.set_cons_succ]
                refine wpAnyH_takeD 2 80 (v := ?_) rfl rfl (by kernel_rfl) (by kernel_rfl) (by kernel_rfl) (fun _ _ _ h => h) (Or.inl ⟨by rfl, ?_⟩) SD ?_
                rotate_left
                · (intro w' hw'; (try dsimp only at hw'); go_simp; try with_reducible rfl)
                simp only [List.set_cons_zero, List.set_cons_succ]
                refine wpAnyH_takeD 3 81 (v := ?_) rfl rfl (by kernel_rfl) (by kernel_rfl) (by kernel_rfl) (fun _ _ _ h => h) (Or.inl ⟨by rfl, ?_⟩) SD ?_
                rotate_left
                · (intro w' hw'; (try dsimp only at hw'); go_simp; try with_reducible rfl)
                simp only [List.set_cons_zero, List.set_cons_succ]
                refine wpAnyH_takeD 4 82 (v := ?_) rfl rfl (by kernel_rfl) (by kernel_rfl) (by kernel_rfl) (fun _ _ _ h => h) (Or.inl ⟨by rfl, ?_⟩) SD ?_
                rotate_left
                · (intro w' hw'; (try dsimp only at hw'); go_simp; try with_reducible rfl)
                simp only [List.set_cons_zero, List.set_cons_succ]
                refine wpAnyH_takeD 5 83 (v := ?_) rfl rfl (by kernel_rfl) (by kernel_rfl) (by kernel_rfl) (fun _ _ _ h => h) (Or.inl ⟨by rfl, ?_⟩) SD ?_
                rotate_left
                · (intro w' hw'; have j1 := (World.cell?_of_block hw'.2.2).trans c2; (try dsimp only at hw'); go_simp; try with_reducible rfl)
                simp only [List.set_cons_zero, List.set_cons_succ]
                refine wpAnyH_takeD 6 84 (v := ?_) rfl rfl (by kernel_rfl) (by kernel_rfl) (by kernel_rfl) (fun _ _ _ h => h) (Or.inl ⟨by rfl, ?_⟩) SD ?_
                rotate_left
                · (intro w' hw'; (try dsimp only at hw'); go_simp; try with_reducible rfl)
                simp only [List.set_cons_zero, List.set_cons_succ]
                refine wpAnyH_takeD 7 85 (v := ?_) rfl rfl (by kernel_rfl) (by kernel_rfl) (by kernel_rfl) (fun _ _ _ h => h) (Or.inl ⟨by rfl, ?_⟩) SD ?_
                rotate_left
                · (intro w' hw'; have j1 := (World.cell?_of_block hw'.2.1).trans y2; (try dsimp only at hw'); go_simp; try with_reducible rfl)
                simp only [List.set_cons_zero, List.set_cons_succ]
                refine wpAnyH_step 8 rfl (by kernel_rfl) (fun K' hK' => ?_)
                refine Eq.mpr (if_pos rfl) ?_
                go_simp
                go_at_call 59
                refine C.out.mono ?_
                rintro e w5 ⟨r5, s5, rfl, hr5, hs5, hb5⟩
                dsimp only at *
                obtain ⟨ra5, rc5, rfl, _⟩ := RdS.len hr5
                obtain ⟨sa5, sc5, rfl, _⟩ := RdS.len hs5
                have hb5' : Below wr.heap.size wr w5 := btr hbd hb5
                have S5 := And.intro (hb5'.block _ hx0) (And.intro (hb5'.block _ hy0) (hb5'.block _ hbs))
                have X5 := Lib.hid ((hb5'.block _ hx0).trans X3.out)
                have E5 := Lib.hid ((hb5'.block _ hy0).trans E3.out)
                have Z5 := Lib.hid ((hb5'.block _ (lt_of_heap Z3.out)).trans Z3.out)
                have O5 := Lib.hid (O3.out.below hb5')
                have B5 := Lib.hid (btr B3.out hb5')
                have hzz0 := lt_of_heap Z3.out
                have V5 : Hid (ROp (fun k => k < w.heap.size ∨ w.heap.size + 3 ≤ k) w5 (.slice sa5 T2.length sc5) T2) := Lib.hid (ROp.to hs5 (fun i hi hl => ⟨Or.inr (by have : wr.heap.size ≤ i := hi; omega), rfl⟩))
                clear C hr5 hs5 hb5 SD
                go_wp2_with fail
                refine hK'.out _ _ S5 ?_
                clear hK' K'
                refine wpAnyH_takeD 9 77 (v := ?_) rfl rfl (by kernel_rfl) (by kernel_rfl) (by kernel_rfl) (fun _ _ _ h => h) (Or.inl ⟨by rfl, ?_⟩) S5 ?_
                rotate_left
                · (intro w' hw'; (try dsimp only at hw'); go_simp; try with_reducible rfl)
                simp only [List.set_cons_zero, List.set_cons_succ]
                refine wpAnyH_takeD 10 87 (v := ?_) rfl rfl (by kernel_rfl) (by kernel_rfl) (by kernel_rfl) (fun _ _ _ h => h) (Or.inl ⟨by rfl, ?_⟩) S5 ?_
                rotate_left
                · (intro w' hw'; (try dsimp only at hw'); go_simp; try with_reducible rfl)
                simp only [List.set_cons_zero, List.set_cons_succ]
                refine wpAnyH_takeD 11 88 (v := ?_) rfl rfl (by kernel_rfl) (by kernel_rfl) (by kernel_rfl) (fun _ _ _ h => h) (Or.inl ⟨by rfl, ?_⟩) S5 ?_
                rotate_left
                · (intro w' hw'; (try dsimp only at hw'); go_simp; try with_reducible rfl)
                simp only [List.set_cons_zero, List.set_cons_succ]
                refine wpAnyH_takeD 12 89 (v := ?_) rfl rfl (by kernel_rfl) (by kernel_rfl) (by kernel_rfl) (fun _ _ _ h => h) (Or.inl ⟨by rfl, ?_⟩) S5 ?_
                rotate_left
                · (intro w' hw'; (try dsimp only at hw'); go_simp; try with_reducible rfl)
                simp only [List.set_cons_zero, List.set_cons_succ]
                refine wpAnyH_takeD 13 13 (v := ?_) rfl rfl (by kernel_rfl) (by kernel_rfl) (by kernel_rfl) (fun _ _ _ h => h) (Or.inl ⟨by rfl, ?_⟩) S5 ?_
                rotate_left
                · (intro w' hw'; (try dsimp only at hw'); go_simp; try with_reducible rfl)
                simp only [List.set_cons_zero, List.set_cons_succ]
                refine wpAnyH_takeD 14 14 (v := ?_) rfl rfl (by kernel_rfl) (by kernel_rfl) (by kernel_rfl) (fun _ _ _ h => h) (Or.inl ⟨by rfl, ?_⟩) S5 ?_
                rotate_left
                · (intro w' hw'; (try dsimp only at hw'); go_simp; try with_reducible rfl)
                simp only [List.set_cons_zero, List.set_cons_succ]
                refine wpAnyH_takeD 15 15 (v := ?_) rfl rfl (by kernel_rfl) (by kernel_rfl) (by kernel_rfl) (fun _ _ _ h => h) (Or.inl ⟨by rfl, ?_⟩) S5 ?_
                rotate_left
                · (intro w' hw'; (try dsimp only at hw'); go_simp; try with_reducible rfl)
                simp only [List.set_cons_zero, List.set_cons_succ]
                refine wpAnyH_done (by kernel_rfl) ?_ _
                clear S5 c0 c1 c2 X3 E3 Z3 V3 O3 B3 x0 x1 x2 y0 y1 y2 hx0 hy0
                by_cases he : te = 0
                · subst he
                  have hnx : Hid (rebase x.o (s.log.drop r0) = rebase T2 (s.log.drop (k + 1))) := Lib.hid (by rw [hrb.out, hst2.out, if_neg (by simp)])
                  clear hrb hst2
                  obtain ⟨x0, x1, x2⟩ := P3.of X5.out
                  obtain ⟨y0, y1, y2⟩ := P3.of E5.out
                  have hx0 := lt_of_heap X5.out
                  have hy0 := lt_of_heap E5.out
                  have hfz : ∀ i, w5.frozen? ⟨w.heap.size + 1, i, none⟩ = false := fun i => Lib.frozen_of_heap E5.out _
                  go_upto_region 17 with fail
                  have hq := heap_setCell_same w5 (w.heap.size + 1) 2 _ _ (.slice sa5 T2.length sc5) E5.out
                  have hs6 : Stays (w.heap.size + 1) w5 (w5.setCell ⟨w.heap.size + 1, 2, none⟩ (.slice sa5 T2.length sc5)) := Stays.set
                  generalize w5.setCell ⟨w.heap.size + 1, 2, none⟩ (.slice sa5 T2.length sc5) = w6 at *
                  have E6 : Hid (w6.heap[w.heap.size + 1]? = some (.cells #[.int .i64 x.client, .int .i64 x.seq, .slice sa5 T2.length sc5] 41 (0, 0))) := Lib.hid (by simpa using hq)
                  have X6 := Lib.hid ((hs6.same _ (lt_of_heap X5.out) (by omega)).trans X5.out)
                  have Z6 := Lib.hid ((hs6.same _ (lt_of_heap Z5.out) (by omega)).trans Z5.out)
                  have O6 := Lib.hid (O5.out.stays hs6 (by omega))
                  have B6 := Lib.hid (B5.out.trans (hs6.bel.mono (by omega)))
                  have V6 : Hid (ROp (fun k => k < w.heap.size ∨ w.heap.size + 3 ≤ k) w6 (.slice sa5 T2.length sc5) T2) := Lib.hid (ROp.to V5.out (fun i hi hl => ⟨hi, hs6.same i hl (by omega)⟩))
                  clear hq hs6 X5 E5 Z5 O5 B5 V5 hfz x0 x1 x2 y0 y1 y2 hx0 hy0
                  go_wp2
                  go_roundw
                  case rel =>
                    exact ⟨k + 1, by omega, by go_num, T2, sa5, sc5, X6.out, E6.out, Z6.out, V6.out, hnx, O6.out, B6.out⟩
                  case measure => simp [intOf]; omega
                · have he2 : (te != 0) = true := by simpa using he
                  have hq := hQ2.out
                  rw [hrb.out, hst2.out, if_pos he] at hq
                  rw [if_pos (by simpa using he)] at hq
                  simp only [Prod.mk.injEq] at hq
                  obtain ⟨hq1, hq2⟩ := hq
                  subst hq1
                  subst hq2
                  clear hrb hst2 hQ2 he
                  go_wp2_with fail
                  refine (refTakesFail_any te w5).mono ?_
                  rintro e wf ⟨rfl, hbf⟩
                  have Zf := Lib.hid ((hbf.block _ (lt_of_heap Z5.out)).trans Z5.out)
                  have Bf := Lib.hid (B5.out.trans (hbf.mono B5.out.size))
                  obtain ⟨z0, z1, z2⟩ := P3.of Zf.out
                  have hfz2 : ∀ i, wf.frozen? ⟨w.heap.size + 2, i, none⟩ = false := fun i => Lib.frozen_of_heap Zf.out _
                  have hzz := lt_of_heap Zf.out
                  go_wp2
                  obtain ⟨q1, q2⟩ := set012 Zf.out (.slice none 0 0) (.slice none 0 0) (.slice none 0 0)
                  generalize hwz : (((wf.setCell ⟨w.heap.size + 2, 0, none⟩ _).setCell ⟨w.heap.size + 2, 1, none⟩ _).setCell ⟨w.heap.size + 2, 2, none⟩ _) = wz at *
                  clear z0 z1 z2
                  obtain ⟨z0, z1, z2⟩ := P3.of q1
                  exact bodyPost_ret (v := .tuple #[.agg #[.slice none 0 0, .slice none 0 0, .slice none 0 0], .int .i64 te]) (by simp [results, Tryz.results25, go_sem, z0, z1, z2]) rfl ⟨_, rfl, RSrv.zero, Bf.out.trans (q2.bel.mono (by omega))⟩
              · obtain rfl : k = s.log.length := by omega
                have hq := hQ2.out
                rw [hrb.out, List.drop_length] at hq
                rw [show rebase O [] = (O, 0) from rfl, if_neg (by simp)] at hq
                have hQ3 := Lib.hid hq
                obtain ⟨⟨D, De⟩, hD⟩ : ∃ q, applyP s.now O = q := ⟨_, rfl⟩
                have C := Lib.hid (refApplied_any _ _ _ _ s.now O wr (H3.out wr O3.out) V3.out)
                rw [hD] at C
                have hD' := Lib.hid hD
                clear hq hrb hQ2 hD
                go_wp2_with fail
                refine C.out.mono ?_
                rintro e w5 ⟨r5, rfl, hr5, hb5⟩
                dsimp only at *
                obtain ⟨da, dc, rfl, _⟩ := RdS.len hr5
                have X5 := Lib.hid ((hb5.block _ hx0).trans X3.out)
                have E5 := Lib.hid ((hb5.block _ hy0).trans E3.out)
                have Z5 := Lib.hid ((hb5.block _ (lt_of_heap Z3.out)).trans Z3.out)
                have O5 := Lib.hid (O3.out.below hb5)
                have B5 := Lib.hid (btr B3.out hb5)
                have hzz0 := lt_of_heap Z3.out
                have hsz := hb5.size
                have V5 := Lib.hid (ROp.to V3.out (Kp.below hb5))
                have D5 : Hid (RItems (fun k => w.heap.size + 3 ≤ k) w5 (.slice da D.length dc) D) := Lib.hid (RItems.to hr5 (fun i hi hl => ⟨by have : wr.heap.size ≤ i := hi; omega, rfl⟩))
                clear C hr5 hb5 X3 E3 Z3 V3 O3 B3 x0 x1 x2 y0 y1 y2 hx0 hy0
                by_cases he : De = 0
                · subst he
                  have hR : Hid (({ first := s.first, log := s.log ++ [⟨x.client, x.seq, O⟩], now := D } : Srv) = R1 ∧ (0 : Int) = R2) := Lib.hid (by
                    have hq := hQ3.out
                    rw [hD'.out, if_neg (by simp)] at hq
                    simpa using hq)
                  obtain ⟨hR1, hR2⟩ := hR.out
                  subst hR2
                  have hR1' := Lib.hid hR1
                  clear hR1 hR hQ3 hD'
                  obtain ⟨x0, x1, x2⟩ := P3.of X5.out
                  obtain ⟨y0, y1, y2⟩ := P3.of E5.out
                  have hx0 := lt_of_heap X5.out
                  have hy0 := lt_of_heap E5.out
                  have hl5 := lt_of_heap Z5.out
                  have L5 : Hid (RLog (fun k => (k < w.heap.size ∨ w.heap.size + 3 ≤ k) ∧ k < w5.heap.size) w5 (.slice la s.log.length lc) s.log) := Lib.hid (RLog.to (H22.out w5 O5.out) (fun i hi hl => ⟨⟨hi, hl⟩, rfl⟩))
                  have Y5 : Hid (ROp (fun k => (k < w.heap.size ∨ w.heap.size + 3 ≤ k) ∧ k < w5.heap.size) w5 (.slice va O.length vac) O) := Lib.hid (ROp.to V5.out (fun i hi hl => ⟨⟨hi, hl⟩, rfl⟩))
                  have srcY : Hid (∀ w', Below w5.heap.size w5 w' → ∀ g, w5.heap.size ≤ g → w'.heap[g]? = some (.cells #[.int .i64 x.client, .int .i64 x.seq, .slice va O.length vac] 41 (0, 0)) → RdS 3 (REn (fun k => (k < w.heap.size ∨ w.heap.size + 3 ≤ k) ∧ k < w5.heap.size)) (fun _ => True) w' (.slice (some ⟨g, 0, none⟩) 1 1) [(⟨x.client, x.seq, O⟩ : En)]) := Lib.hid (fun w' hb g hg hh => RE_src hh (ROp.to Y5.out (fun i hi hl => ⟨hi, hb.block i hl⟩)))
                  have srcL : Hid (∀ w', Below w5.heap.size w5 w' → RdS 3 (REn (fun k => (k < w.heap.size ∨ w.heap.size + 3 ≤ k) ∧ k < w5.heap.size)) (fun _ => True) w' (.slice la s.log.length lc) s.log) := Lib.hid (fun w' hb => RdS.to (RLog.to L5.out (Kp.below hb)) (by decide) (fun k _ _ => ⟨trivial, rfl⟩) (fun cs y _ r => r))
                  go_upto_region 25 with fail
                  refine wp_region_held (S := fun w' => w'.heap[w.heap.size]? = w5.heap[w.heap.size]? ∧ w'.heap[w.heap.size + 1]? = w5.heap[w.heap.size + 1]?) (by kernel_rfl) ?_
                  have hbd : Below w5.heap.size w5 w5.drew := (brf w5).drew
                  have hSB : ∀ w', Below w5.heap.size w5 w' → w'.heap[w.heap.size]? = w5.heap[w.heap.size]? ∧ w'.heap[w.heap.size + 1]? = w5.heap[w.heap.size + 1]? := fun w' hb => ⟨hb.block _ hx0, hb.block _ hy0⟩
                  have SD := hSB _ hbd
                  show wpAnyH _ _ _ _ _ _ _ _ w5.drew
                  have hds0 : w5.drew.heap.size = w5.heap.size := rfl
                  have hds := Lib.hid hds0
                  clear hds0
                  generalize w5.drew = wd at *
                  refine wpAnyH_takeD 0 114 (v := ?_) rfl rfl (by kernel_rfl) (by kernel_rfl) (by kernel_rfl) (fun _ _ _ h => h) (Or.inl ⟨by rfl, ?_⟩) SD ?_
                  rotate_left
                  · (intro w' hw'; (try dsimp only at hw'); go_simp; try with_reducible rfl)
                  simp only [List.set_cons_zero, List.set_cons_succ]
                  refine wpAnyH_takeD 1 115 (v := ?_) rfl rfl (by kernel_rfl) (by kernel_rfl) (by kernel_rfl) (fun _ _ _ h => h) (Or.inl ⟨by rfl, ?_⟩) SD ?_
                  rotate_left
                  · (intro w' hw'; have j1 := (World.cell?_of_block hw'.1).trans x0; (try dsimp only at hw'); go_simp; try with_reducible rfl)
                  simp only [List.set_cons_zero, List.set_cons_succ]
                  refine wpAnyH_takeD 3 117 (v := ?_) rfl rfl (by kernel_rfl) (by kernel_rfl) (by kernel_rfl) (fun _ _ _ h => h) (Or.inl ⟨by rfl, ?_⟩) SD ?_
                  rotate_left
                  · (intro w' hw'; (try dsimp only at hw'); go_simp; try with_reducible rfl)
                  simp only [List.set_cons_zero, List.set_cons_succ]
                  refine wpAnyH_takeD 4 118 (v := ?_) rfl rfl (by kernel_rfl) (by kernel_rfl) (by kernel_rfl) (fun _ _ _ h => h) (Or.inl ⟨by rfl, ?_⟩) SD ?_
                  rotate_left
                  · (intro w' hw'; have j1 := (World.cell?_of_block hw'.1).trans x1; (try dsimp only at hw'); go_simp; try with_reducible rfl)
                  simp only [List.set_cons_zero, List.set_cons_succ]
                  refine wpAnyH_takeD 6 120 (v := ?_) rfl rfl (by kernel_rfl) (by kernel_rfl) (by kernel_rfl) (fun _ _ _ h => h) (Or.inl ⟨by rfl, ?_⟩) SD ?_
                  rotate_left
                  · (intro w' hw'; have j0 := (World.cell?_of_block hw'.2).trans y0; have j1 := (World.cell?_of_block hw'.2).trans y1; have j2 := (World.cell?_of_block hw'.2).trans y2; (try dsimp only at hw'); go_simp; try with_reducible rfl)
                  simp only [List.set_cons_zero, List.set_cons_succ]
                  refine wpAnyH_takeD 9 123 (v := ?_) rfl rfl (by kernel_rfl) (by kernel_rfl) (by kernel_rfl) (fun _ _ _ h => h) (Or.inl ⟨by rfl, ?_⟩) SD ?_
                  rotate_left
                  · (intro w' hw'; (try dsimp only at hw'); go_simp; try with_reducible rfl)
                  simp only [List.set_cons_zero, List.set_cons_succ]
                  refine wpAnyH_tri 2 5 7 116 119 121 rfl rfl rfl (by decide) (by decide) (by decide) (by decide) (by decide) (by kernel_rfl) (by kernel_rfl) (by kernel_rfl) (by kernel_rfl) (by kernel_rfl) (fun v w' => OwnS w5.heap.size 41 3 (REn (fun k => (k < w.heap.size ∨ w.heap.size + 3 ≤ k) ∧ k < w5.heap.size)) w' v  [] ∧ Below w5.heap.size w5 w') (fun u w' => (∃ g, u = .slice (some ⟨g, 0, none⟩) 1 1 ∧ w5.heap.size ≤ g ∧ w'.heap[g]? = some (.cells #[.int .i64 x.client, .int .i64 x.seq, .slice va O.length vac] 41 (0, 0))) ∧ Below w5.heap.size w5 w') (fun v u w' => OwnS w5.heap.size 41 3 (REn (fun k => (k < w.heap.size ∨ w.heap.size + 3 ≤ k) ∧ k < w5.heap.size)) w' v  [] ∧ (∃ g, u = .slice (some ⟨g, 0, none⟩) 1 1 ∧ w5.heap.size ≤ g ∧ w'.heap[g]? = some (.cells #[.int .i64 x.client, .int .i64 x.seq, .slice va O.length vac] 41 (0, 0)) ∧ v.ownBlock ≠ some g) ∧ Below w5.heap.size w5 w') (fun v v2 w' => OwnS w5.heap.size 41 3 (REn (fun k => (k < w.heap.size ∨ w.heap.size + 3 ≤ k) ∧ k < w5.heap.size)) w' v2  s.log ∧ Below w5.heap.size w5 w') (fun v v2 u w' => OwnS w5.heap.size 41 3 (REn (fun k => (k < w.heap.size ∨ w.heap.size + 3 ≤ k) ∧ k < w5.heap.size)) w' v2  s.log ∧ (∃ g, u = .slice (some ⟨g, 0, none⟩) 1 1 ∧ w5.heap.size ≤ g ∧ w'.heap[g]? = some (.cells #[.int .i64 x.client, .int .i64 x.seq, .slice va O.length vac] 41 (0, 0))) ∧ Below w5.heap.size w5 w') ?_ ?_ ?_ ?_ ?_ ?_ ?_ ?_
                  · intro K' hK'
                    simp only [List.set_cons_zero, List.set_cons_succ] at hK'
                    refine Eq.mpr (if_pos rfl) ?_
                    go_simp
                    have hb1 : Below w5.heap.size w5 (wd.alloc (.cells #[] 41)) := bal hbd _
                    exact hK'.out _ _ (hSB _ hb1) ⟨own_row0 (heap_new wd _) (Nat.le_of_eq hds.out.symm), hb1⟩
                  · intro K' hK'
                    simp only [List.set_cons_zero, List.set_cons_succ] at hK'
                    refine Eq.mpr (if_pos rfl) ?_
                    go_simp
                    have hb1 : Below w5.heap.size w5 (wd.alloc (.cells #[.int .i64 x.client, .int .i64 x.seq, .slice va O.length vac] 41)) := bal hbd _
                    exact hK'.out _ _ (hSB _ hb1) ⟨⟨_, rfl, Nat.le_of_eq hds.out.symm, heap_new wd _⟩, hb1⟩
                  · rintro v w' ⟨hv, hb⟩ K' hK'
                    obtain ⟨v0, vc0, rfl⟩ := len_nil hv
                    simp only [List.set_cons_zero, List.set_cons_succ] at hK' ⊢
                    refine step_app (a := ⟨_, _⟩) ?_ (.tmp 116) (.tmp 118) 35 ?_ w5.heap.size 41 3 40 _ elLog (REn (fun k => (k < w.heap.size ∨ w.heap.size + 3 ≤ k) ∧ k < w5.heap.size)) _ [] s.log ?_ hv (fun _ => True) _ ?_ (srcL.out w' hb) (REn_one _) (by unfold maxLen; simp; omega) (by simp; omega) hb.size (fun w' hg cs y _ r => REn.to r (fun i hi hl => ⟨hi, hg.block i hl (fun e => by have := (own_ge hv e.symm).1; have := hi.2; omega)⟩)) ?_
                    · rfl
                    · rfl
                    · rfl
                    · rfl
                    intro v2 w'' ho hg hbl
                    rw [List.nil_append] at ho
                    have hb2 : Below w5.heap.size w5 w'' := hb.trans hbl
                    exact hK'.out _ _ (hSB _ hb2) ⟨ho, hb2⟩
                  · rintro v w' ⟨hv, hb⟩ K' hK'
                    obtain ⟨v0, vc0, rfl⟩ := len_nil hv
                    simp only [List.set_cons_zero, List.set_cons_succ] at hK' ⊢
                    refine Eq.mpr (if_pos rfl) ?_
                    go_simp
                    have hb1 : Below w'.heap.size w' (w'.alloc (.cells #[.int .i64 x.client, .int .i64 x.seq, .slice va O.length vac] 41)) := bal (brf w') _
                    have hB : Below w5.heap.size w5 (w'.alloc (.cells #[.int .i64 x.client, .int .i64 x.seq, .slice va O.length vac] 41)) := bal hb _
                    exact hK'.out _ _ (hSB _ hB) ⟨hv.below hb1 (fun cs y _ r => REn.to r (Kp.below hb1)), ⟨_, rfl, hb.size, heap_new w' _, fun e => by have := (own_ge hv e).2.1; omega⟩, hB⟩
                  · rintro v v2 w' ⟨hv, hb⟩ K' hK'
                    obtain ⟨v0, vc0, rfl⟩ := len_nil hv
                    simp only [List.set_cons_zero, List.set_cons_succ] at hK' ⊢
                    refine Eq.mpr (if_pos rfl) ?_
                    go_simp
                    have hb1 : Below w'.heap.size w' (w'.alloc (.cells #[.int .i64 x.client, .int .i64 x.seq, .slice va O.length vac] 41)) := bal (brf w') _
                    have hB : Below w5.heap.size w5 (w'.alloc (.cells #[.int .i64 x.client, .int .i64 x.seq, .slice va O.length vac] 41)) := bal hb _
                    exact hK'.out _ _ (hSB _ hB) ⟨hv.below hb1 (fun cs y _ r => REn.to r (Kp.below hb1)), ⟨_, rfl, hb.size, heap_new w' _⟩, hB⟩
                  · rintro v u w' ⟨hv, ⟨g, rfl, hge, hgg, hne⟩, hb⟩ K' hK'
                    obtain ⟨v0, vc0, rfl⟩ := len_nil hv
                    simp only [List.set_cons_zero, List.set_cons_succ] at hK' ⊢
                    refine step_app (a := ⟨_, _⟩) ?_ (.tmp 116) (.tmp 118) 35 ?_ w5.heap.size 41 3 40 _ elLog (REn (fun k => (k < w.heap.size ∨ w.heap.size + 3 ≤ k) ∧ k < w5.heap.size)) _ [] s.log ?_ hv (fun _ => True) _ ?_ (srcL.out w' hb) (REn_one _) (by unfold maxLen; simp; omega) (by simp; omega) hb.size (fun w' hg cs y _ r => REn.to r (fun i hi hl => ⟨hi, hg.block i hl (fun e => by have := (own_ge hv e.symm).1; have := hi.2; omega)⟩)) ?_
                    · rfl
                    · rfl
                    · rfl
                    · rfl
                    intro v2 w'' ho hg hbl
                    rw [List.nil_append] at ho
                    have hb2 : Below w5.heap.size w5 w'' := hb.trans hbl
                    exact hK'.out _ _ (hSB _ hb2) ⟨ho, ⟨g, rfl, hge, (hg.block g (lt_of_heap hgg) (fun e => hne e.symm)).trans hgg⟩, hb2⟩
                  · rintro u w' ⟨⟨g, rfl, hge, hgg⟩, hb⟩ K' hK'
                    simp only [List.set_cons_zero, List.set_cons_succ] at hK' ⊢
                    refine Eq.mpr (if_pos rfl) ?_
                    go_simp
                    have hb1 : Below w'.heap.size w' (w'.alloc (.cells #[] 41)) := bal (brf w') _
                    have hB : Below w5.heap.size w5 (w'.alloc (.cells #[] 41)) := bal hb _
                    exact hK'.out _ _ (hSB _ hB) ⟨own_row0 (heap_new w' _) hb.size, ⟨g, rfl, hge, (hb1.block g (lt_of_heap hgg)).trans hgg, fun e => by have h1 : w'.heap.size = g := Option.some.inj e; have := lt_of_heap hgg; omega⟩, hB⟩
                  rintro v v2 u w6 ⟨hv2, ⟨g, rfl, hge, hgg⟩, hb6⟩ hS6
                  obtain ⟨na6, nc6, rfl⟩ := len_nil hv2
                  simp only [List.set_cons_zero, List.set_cons_succ]
                  obtain ⟨Lx, qL⟩ : ∃ L, s.log ++ [(⟨x.client, x.seq, O⟩ : En)] = L := ⟨_, rfl⟩
                  refine wpAnyH_step 8 rfl (by kernel_rfl) (fun K' hK' => ?_)
                  refine step_app (a := ⟨_, _⟩) ?_ (.tmp 119) (.tmp 121) 35 ?_ w5.heap.size 41 3 40 _ elLog (REn (fun k => (k < w.heap.size ∨ w.heap.size + 3 ≤ k) ∧ k < w5.heap.size)) _ s.log [(⟨x.client, x.seq, O⟩ : En)] ?_ hv2 (fun _ => True) _ ?_ (srcY.out w6 hb6 g hge hgg) (REn_one _) (by unfold maxLen; simp; omega) (by simp; omega) hb6.size (fun w' hg cs y _ r => REn.to r (fun i hi hl => ⟨hi, hg.block i hl (fun e => by have := (own_ge hv2 e.symm).1; have := hi.2; omega)⟩)) ?_
                  · rfl
                  · rfl
                  · rfl
                  · rfl
                  intro v7 w7 ho7 hg7 hbl7
                  rw [qL] at ho7
                  obtain ⟨na7, nc7, rfl⟩ := len_nil ho7
                  have hb7 : Below w5.heap.size w5 w7 := hb6.trans hbl7
                  have S7 := hSB _ hb7
                  refine hK'.out _ _ S7 ?_
                  clear hK' K' hg7 hbl7 hv2 hgg
                  refine wpAnyH_takeD 10 124 (v := ?_) rfl rfl (by kernel_rfl) (by kernel_rfl) (by kernel_rfl) (fun _ _ _ h => h) (Or.inl ⟨by rfl, ?_⟩) S7 ?_
                  rotate_left
                  · (intro w' hw'; (try dsimp only at hw'); go_simp; try with_reducible rfl)
                  simp only [List.set_cons_zero, List.set_cons_succ]
                  have hZ7 := (hb7.block _ hl5).trans Z5.out
                  refine wpAnyH_step 11 rfl (by kernel_rfl) (fun K' hK' => ?_)
                  refine Eq.mpr (if_pos rfl) ?_
                  refine wp_store_row 37 (.tmp 6) (.tmp 124) rfl (w.heap.size + 2) #[.slice aa s.first.length ac, .slice na7 Lx.length nc7, .slice da D.length dc] rfl rfl 37 _ hZ7 (by kernel_rfl) rfl (by simp [Value.oneCell']) ?_
                  have q1 := setRow_heap w7 (w.heap.size + 2) _ #[.slice aa s.first.length ac, .slice na7 Lx.length nc7, .slice da D.length dc] 37 _ hZ7
                  have qo := fun k (h : k ≠ w.heap.size + 2) => setRow_other w7 (w.heap.size + 2) k #[.slice aa s.first.length ac, .slice na7 Lx.length nc7, .slice da D.length dc] h
                  have qb : Below w.heap.size w (w7.setRow (w.heap.size + 2) #[.slice aa s.first.length ac, .slice na7 Lx.length nc7, .slice da D.length dc]) := below_setRow (B5.out.trans (hb7.mono B5.out.size)) (by omega) _
                  have S8 := And.intro ((qo w.heap.size (by omega)).trans S7.1) ((qo (w.heap.size + 1) (by omega)).trans S7.2)
                  have qsz : (w7.setRow (w.heap.size + 2) #[.slice aa s.first.length ac, .slice na7 Lx.length nc7, .slice da D.length dc]).heap.size = w7.heap.size := by simp [World.setRow]
                  refine hK'.out _ _ S8 ?_
                  clear hK' K'
                  generalize w7.setRow (w.heap.size + 2) #[.slice aa s.first.length ac, .slice na7 Lx.length nc7, .slice da D.length dc] = w8 at *
                  refine wpAnyH_takeD 12 7 (v := ?_) rfl rfl (by kernel_rfl) (by kernel_rfl) (by kernel_rfl) (fun _ _ _ h => h) (Or.inl ⟨by rfl, ?_⟩) S8 ?_
                  rotate_left
                  · (intro w' hw'; (try dsimp only at hw'); go_simp; try with_reducible rfl)
                  simp only [List.set_cons_zero, List.set_cons_succ]
                  refine wpAnyH_done (by kernel_rfl) ?_ _
                  have O8 : Off3 w.heap.size w w8 := ⟨by rw [qsz]; exact Nat.le_trans O5.out.size hb7.size, fun k hk h1 => (qo k (by omega)).trans ((hb7.block k (Nat.lt_of_lt_of_le hk O5.out.size)).trans (O5.out.same k hk h1))⟩
                  have L8 : RLog (fun _ => True) w8 (.slice na7 Lx.length nc7) Lx := RdS.to ho7.rd (by decide) (fun k hk _ => ⟨trivial, qo k (by have : w5.heap.size ≤ k := hk; omega)⟩) (fun cs y _ r => REn.to r (fun i hi _ => ⟨trivial, qo i (by have := hi.1; omega)⟩))
                  have D8 : RItems (fun _ => True) w8 (.slice da D.length dc) D := RItems.to D5.out (fun i hi hl => ⟨trivial, (qo i (by have : w.heap.size + 3 ≤ i := hi; omega)).trans (hb7.block i hl)⟩)
                  have fin8 := Lib.hid (And.intro O8 (And.intro L8 (And.intro D8 qb)))
                  have q1' := Lib.hid q1
                  have qL' := Lib.hid qL
                  clear O8 L8 D8 qb q1 qL qo S7 S8 ho7 hb7 hZ7 qsz SD hSB srcY srcL
                  go_wp2
                  obtain ⟨z0, z1, z2⟩ := P3.of q1'.out
                  exact bodyPost_ret (v := .tuple #[.agg #[.slice aa s.first.length ac, .slice na7 Lx.length nc7, .slice da D.length dc], .int .i64 0]) (by simp [results, Tryz.results25, go_sem, z0, z1, z2]) rfl ⟨_, rfl, by rw [← hR1'.out, qL'.out]; exact ⟨_, _, _, rfl, H1.out _ fin8.out.1, fin8.out.2.1, fin8.out.2.2.1⟩, fin8.out.2.2.2⟩
                · have he2 : (De != 0) = true := by simpa using he
                  have hq := hQ3.out
                  rw [hD'.out, if_pos (by simpa using he)] at hq
                  simp only [Prod.mk.injEq] at hq
                  obtain ⟨hq1, hq2⟩ := hq
                  subst hq1
                  subst hq2
                  clear hQ3 hD' he
                  go_wp2_with fail
                  refine (refTakesFail_any De w5).mono ?_
                  rintro e wf ⟨rfl, hbf⟩
                  have Zf := Lib.hid ((hbf.block _ (lt_of_heap Z5.out)).trans Z5.out)
                  have Bf := Lib.hid (B5.out.trans (hbf.mono B5.out.size))
                  obtain ⟨z0, z1, z2⟩ := P3.of Zf.out
                  have hfz2 : ∀ i, wf.frozen? ⟨w.heap.size + 2, i, none⟩ = false := fun i => Lib.frozen_of_heap Zf.out _
                  have hzz := lt_of_heap Zf.out
                  go_wp2
                  obtain ⟨q1, q2⟩ := set012 Zf.out (.slice none 0 0) (.slice none 0 0) (.slice none 0 0)
                  generalize hwz : (((wf.setCell ⟨w.heap.size + 2, 0, none⟩ _).setCell ⟨w.heap.size + 2, 1, none⟩ _).setCell ⟨w.heap.size + 2, 2, none⟩ _) = wz at *
                  clear z0 z1 z2
                  obtain ⟨z0, z1, z2⟩ := P3.of q1
                  exact bodyPost_ret (v := .tuple #[.agg #[.slice none 0 0, .slice none 0 0, .slice none 0 0], .int .i64 De]) (by simp [results, Tryz.results25, go_sem, z0, z1, z2]) rfl ⟨_, rfl, RSrv.zero, Bf.out.trans (q2.bel.mono (by omega))⟩
  · have hne : (chkEn x != 0) = true := by simpa using hce'
    have hq := hres.out
    rw [htp.out, if_pos hce'] at hq
    simp only [Prod.mk.injEq] at hq
    obtain ⟨hq1, hq2⟩ := hq
    subst hq1
    subst hq2
    clear hres htp hce'
    go_wp2_with fail
    refine (refTakesFail_any (chkEn x) w2).mono ?_
    rintro e wf ⟨rfl, hbf⟩
    have Zf := Lib.hid ((hbf.block _ (lt_of_heap Z2.out)).trans Z2.out)
    have Bf := Lib.hid (B2.out.trans (hbf.mono B2.out.size))
    obtain ⟨z0, z1, z2⟩ := P3.of Zf.out
    have hfz2 : ∀ i, wf.frozen? ⟨w.heap.size + 2, i, none⟩ = false := fun i => Lib.frozen_of_heap Zf.out _
    have hzz := lt_of_heap Zf.out
    go_wp2
    obtain ⟨q1, q2⟩ := set012 Zf.out (.slice none 0 0) (.slice none 0 0) (.slice none 0 0)
    generalize hwz : (((wf.setCell ⟨w.heap.size + 2, 0, none⟩ _).setCell ⟨w.heap.size + 2, 1, none⟩ _).setCell ⟨w.heap.size + 2, 2, none⟩ _) = wz at *
    clear z0 z1 z2
    obtain ⟨z0, z1, z2⟩ := P3.of q1
    exact bodyPost_ret (v := .tuple #[.agg #[.slice none 0 0, .slice none 0 0, .slice none 0 0], .int .i64 (chkEn x)]) (by simp [results, Tryz.results25, go_sem, z0, z1, z2]) rfl ⟨_, rfl, RSrv.zero, Bf.out.trans (q2.bel.mono (by omega))⟩
end Go.Proofs.YtckdlhgeelhnmaaGreat
/- The law ServerSays, walked. -/
namespace Go.Mh
open Go.RowKit
/-- A server in a block of its own, as it may be read. -/
structure Bsv (e : TypeId) (w : World) (g : Nat) (cells : Array Value) (s : Srv) : Prop where
  h : w.heap[g]? = some (.cells cells e (0, 0))
  r : RSrv (fun _ => True) w (.agg cells) s
theorem Bsv.below {e : TypeId} {w w' : World} {g : Nat} {cells : Array Value} {s : Srv} (b : Bsv e w g cells s) (hb : Below w.heap.size w w') : Bsv e w' g cells s := ⟨(hb.block g (lt_of_heap b.h)).trans b.h, RSrv.to b.r (Kp.below hb)⟩
theorem Bsv.mk' {e : TypeId} {w w' : World} {cells : Array Value} {s : Srv} {F : Nat → Prop} (h : RSrv F w (.agg cells) s) (hW : w.alloc (.cells cells e) = w') : Bsv e w' w.heap.size cells s ∧ Below w.heap.size w w' := by
  subst hW
  exact ⟨⟨heap_new w _, RSrv.to h (fun k _ hl => ⟨trivial, (bal (brf w) _).block k hl⟩)⟩, bal (brf w) _⟩
theorem takeP_bad {s : Srv} {rev : Int} {x : En} (h : chkSrv s ≠ 0) : takeP s rev x = (srv0, chkSrv s) := by unfold takeP; rw [if_pos h]
theorem same_true (s : Srv) : (decide (s.first = s.first) && decide (s.now = s.now) && decide (s.log = s.log)) = true := by simp
theorem RSrv.logR {F : Nat → Prop} {w : World} {a l n : Value} {s : Srv} (h : RSrv F w (.agg #[a, l, n]) s) : RLog F w l s.log := by
  obtain ⟨_, _, _, e, _, h2, _⟩ := h; simp at e; obtain ⟨_, rfl, _⟩ := e; exact h2
end Go.Mh
namespace Go.Proofs.YtckdlhgeelhnmaaGreat
open Go.RowKit Go.Mh

set_option maxRecDepth 100000 in
set_option maxHeartbeats 16000000 in
theorem serverSays_walk (FD FS FO : Nat → Prop) (dv v ov : Value) (d : List It) (s : Srv) (rev : Int) (x : En) (client seq : Int) (w : World) (hd : RItems FD w dv d) (h : RSrv FS w v s) (ho : ROp FO w ov x.o) :
    Calls Tryz.prog 4 #[dv, v, .int .i64 rev, .agg #[.int .i64 x.client, .int .i64 x.seq, ov], .int .i64 client, .int .i64 seq] w fun e w' => e = .returned (.bool true) ∧ Below w.heap.size w w' := by
  have HD := Lib.hid (fun w' (hb : Below w.heap.size w w') => RItems.to hd (Kp.below hb))
  have HO := Lib.hid (fun w' (hb : Below w.heap.size w w') => ROp.to ho (Kp.below hb))
  obtain ⟨da, dc, rfl, _⟩ := RdS.len hd
  obtain ⟨oa, oc, rfl, _⟩ := RdS.len ho
  have hT : RSrv (fun _ => True) w v s := RSrv.to h (Kp.weak w fun _ _ => trivial)
  obtain ⟨a, l, n, rfl, _⟩ := id hT
  obtain ⟨p1, p2, p3, p4, p5, p6, rfl, rfl, rfl⟩ := rsrv_shape hT
  clear h hd ho
  obtain ⟨w1, hw1⟩ : ∃ w1, w1 = (((w.alloc (.cells #[.slice p1 s.first.length p2, .slice p3 s.log.length p4, .slice p5 s.now.length p6] 37)).alloc (.cells #[.int .i64 x.client, .int .i64 x.seq, .slice oa x.o.length oc] 41)).alloc (.cells #[.int .i64 client] 3)).alloc (.cells #[.int .i64 seq] 3) := ⟨_, rfl⟩
  have BB := Lib.hid (by rw [hw1]; exact bal (bal (bal (bal (brf w) _) _) _) _ : Below w.heap.size w w1)
  have hbx : Below w.heap.size w (((w.alloc (.cells #[.slice p1 s.first.length p2, .slice p3 s.log.length p4, .slice p5 s.now.length p6] 37)).alloc (.cells #[.int .i64 x.client, .int .i64 x.seq, .slice oa x.o.length oc] 41))) := bal (bal (brf w) _) _
  have BS : Hid (Bsv 37 w1 w.heap.size #[.slice p1 s.first.length p2, .slice p3 s.log.length p4, .slice p5 s.now.length p6] s) := Lib.hid ⟨by rw [hw1]; exact ((bal (bal (brf _) _) _).block _ (by simp; omega)).trans (heap_at2 rfl), RSrv.to hT (Kp.below BB.out)⟩
  have BE := Lib.hid (by rw [hw1]; exact ((bal (bal (brf _) _) _).block _ (by simp)).trans (heap_at (by simp)) : w1.heap[w.heap.size + 1]? = some (.cells #[.int .i64 x.client, .int .i64 x.seq, .slice oa x.o.length oc] 41 (0, 0)))
  have BI := Lib.hid (by rw [hw1]; exact heap_at2 (by simp) : w1.heap[w.heap.size + 2]? = some (.cells #[.int .i64 client] 3 (0, 0)))
  have BJ := Lib.hid (by rw [hw1]; exact heap_at (by simp) : w1.heap[w.heap.size + 3]? = some (.cells #[.int .i64 seq] 3 (0, 0)))
  clear hT hbx
  obtain ⟨⟨ns, ne⟩, hN⟩ : ∃ q, newS d = q := ⟨_, rfl⟩
  obtain ⟨⟨t, f⟩, hTk⟩ : ∃ q, takeP s rev x = q := ⟨_, rfl⟩
  obtain ⟨⟨fd, fe⟩, hFo⟩ : ∃ q, foldP d s.log = q := ⟨_, rfl⟩
  obtain ⟨bad, hbad⟩ : ∃ q, chkSrv s = q := ⟨_, rfl⟩
  obtain ⟨has, hhas⟩ : ∃ q, hasP s.log client seq = q := ⟨_, rfl⟩
  have hN' := Lib.hid hN
  have hTk' := Lib.hid hTk
  have hFo' := Lib.hid hFo
  have hbad' := Lib.hid hbad
  have hhas' := Lib.hid hhas
  clear hN hTk hFo hbad hhas
  have bf : (f == f) = true := by simp
  have bfe : (fe != fe) = false := by simp
  have bbad : (bad != bad) = false := by simp
  have bne : (ne != ne) = false := by simp
  have bhas : (has != has) = false := by simp
  go_enter Tryz.func4, Tryz.ntmps4
  go_upto_region 1 with fail
  rw [← hw1]
  clear hw1
  have C := Lib.hid (svNew_any FD _ d w1 (HD.out w1 BB.out))
  rw [hN'.out] at C
  go_wp2_with fail
  refine C.out.mono ?_
  rintro e w2 ⟨vn, rfl, hr, hb⟩
  have BS := Lib.hid (BS.out.below hb)
  have BE := Lib.hid ((hb.block _ (lt_of_heap BE.out)).trans BE.out)
  have BI := Lib.hid ((hb.block _ (lt_of_heap BI.out)).trans BI.out)
  have BJ := Lib.hid ((hb.block _ (lt_of_heap BJ.out)).trans BJ.out)
  have BB := Lib.hid (btr BB.out hb)
  clear C hb
  obtain ⟨bq, nq, sq, rfl, _⟩ := id hr
  obtain ⟨n1, n2, n3, n4, n5, n6, rfl, rfl, rfl⟩ := rsrv_shape hr
  have hr' := Lib.hid hr
  clear hr
  go_upto_region 2 with fail
  refine name_world ?_
  intro w3 hW
  obtain ⟨hBx, hb⟩ := Bsv.mk' (e := 37) hr'.out hW
  obtain ⟨gBN, hgBN⟩ : ∃ g, g = w2.heap.size := ⟨_, rfl⟩
  rw [← hgBN] at hBx ⊢
  have BS := Lib.hid (BS.out.below hb)
  have BE := Lib.hid ((hb.block _ (lt_of_heap BE.out)).trans BE.out)
  have BI := Lib.hid ((hb.block _ (lt_of_heap BI.out)).trans BI.out)
  have BJ := Lib.hid ((hb.block _ (lt_of_heap BJ.out)).trans BJ.out)
  have BB := Lib.hid (btr BB.out hb)
  have BN := Lib.hid hBx
  clear hW hBx hb hr' hgBN
  obtain ⟨x0, x1, x2⟩ := P3.of BS.out.h
  obtain ⟨y0, y1, y2⟩ := P3.of BE.out
  have C := Lib.hid (svTake_any _ FO _ _ s rev x w3 BS.out.r (HO.out w3 BB.out))
  rw [hTk'.out] at C
  go_wp2_with fail
  refine C.out.mono ?_
  rintro e w4 ⟨vt, rfl, hr, hb⟩
  have BS := Lib.hid (BS.out.below hb)
  have BN := Lib.hid (BN.out.below hb)
  have BE := Lib.hid ((hb.block _ (lt_of_heap BE.out)).trans BE.out)
  have BI := Lib.hid ((hb.block _ (lt_of_heap BI.out)).trans BI.out)
  have BJ := Lib.hid ((hb.block _ (lt_of_heap BJ.out)).trans BJ.out)
  have BB := Lib.hid (btr BB.out hb)
  clear C hb x0 x1 x2 y0 y1 y2
  obtain ⟨bq, nq, sq, rfl, _⟩ := id hr
  obtain ⟨a1, a2, a3, a4, a5, a6, rfl, rfl, rfl⟩ := rsrv_shape hr
  have hr' := Lib.hid hr
  clear hr
  go_upto_region 3 with fail
  refine name_world ?_
  intro w5 hW
  obtain ⟨hBx, hb⟩ := Bsv.mk' (e := 37) hr'.out hW
  obtain ⟨gBT, hgBT⟩ : ∃ g, g = w4.heap.size := ⟨_, rfl⟩
  rw [← hgBT] at hBx ⊢
  have BS := Lib.hid (BS.out.below hb)
  have BN := Lib.hid (BN.out.below hb)
  have BE := Lib.hid ((hb.block _ (lt_of_heap BE.out)).trans BE.out)
  have BI := Lib.hid ((hb.block _ (lt_of_heap BI.out)).trans BI.out)
  have BJ := Lib.hid ((hb.block _ (lt_of_heap BJ.out)).trans BJ.out)
  have BB := Lib.hid (btr BB.out hb)
  have BT := Lib.hid hBx
  clear hW hBx hb hr' hgBT
  obtain ⟨x0, x1, x2⟩ := P3.of BS.out.h
  have C := Lib.hid (svFold_any FD _ _ _ d s.log w5 (HD.out w5 BB.out) BS.out.r.logR)
  rw [hFo'.out] at C
  go_wp2_with fail
  refine C.out.mono ?_
  rintro e w6 ⟨vf, rfl, hr, hb⟩
  have BS := Lib.hid (BS.out.below hb)
  have BN := Lib.hid (BN.out.below hb)
  have BT := Lib.hid (BT.out.below hb)
  have BE := Lib.hid ((hb.block _ (lt_of_heap BE.out)).trans BE.out)
  have BI := Lib.hid ((hb.block _ (lt_of_heap BI.out)).trans BI.out)
  have BJ := Lib.hid ((hb.block _ (lt_of_heap BJ.out)).trans BJ.out)
  have BB := Lib.hid (btr BB.out hb)
  obtain ⟨Q1a, Q1c, rfl, _⟩ := RdS.len hr
  have Q1 : Hid (RItems (fun _ => True) w6 (.slice Q1a fd.length Q1c) fd) := Lib.hid (RItems.to hr (Kp.weak _ fun _ _ => trivial))
  clear hr
  clear C hb x0 x1 x2
  obtain ⟨x0, x1, x2⟩ := P3.of BS.out.h
  have C := Lib.hid (refFold_any FD _ _ _ d s.log w6 (HD.out w6 BB.out) BS.out.r.logR)
  rw [hFo'.out] at C
  go_wp2_with fail
  refine C.out.mono ?_
  rintro e w7 ⟨vf, rfl, hr, hb⟩
  have BS := Lib.hid (BS.out.below hb)
  have BN := Lib.hid (BN.out.below hb)
  have BT := Lib.hid (BT.out.below hb)
  have BE := Lib.hid ((hb.block _ (lt_of_heap BE.out)).trans BE.out)
  have BI := Lib.hid ((hb.block _ (lt_of_heap BI.out)).trans BI.out)
  have BJ := Lib.hid ((hb.block _ (lt_of_heap BJ.out)).trans BJ.out)
  have Q1 := Lib.hid (RItems.to Q1.out (Kp.below hb))
  have BB := Lib.hid (btr BB.out hb)
  obtain ⟨Q2a, Q2c, rfl, _⟩ := RdS.len hr
  have Q2 : Hid (RItems (fun _ => True) w7 (.slice Q2a fd.length Q2c) fd) := Lib.hid (RItems.to hr (Kp.weak _ fun _ _ => trivial))
  clear hr
  clear C hb x0 x1 x2
  obtain ⟨x0, x1, x2⟩ := P3.of BS.out.h
  have C := Lib.hid (refSvCheck_any _ _ s w7 BS.out.r)
  rw [hbad'.out] at C
  go_wp2_with fail
  refine C.out.mono ?_
  rintro e w8 ⟨rfl, hb⟩
  have BS := Lib.hid (BS.out.below hb)
  have BN := Lib.hid (BN.out.below hb)
  have BT := Lib.hid (BT.out.below hb)
  have BE := Lib.hid ((hb.block _ (lt_of_heap BE.out)).trans BE.out)
  have BI := Lib.hid ((hb.block _ (lt_of_heap BI.out)).trans BI.out)
  have BJ := Lib.hid ((hb.block _ (lt_of_heap BJ.out)).trans BJ.out)
  have Q1 := Lib.hid (RItems.to Q1.out (Kp.below hb))
  have Q2 := Lib.hid (RItems.to Q2.out (Kp.below hb))
  have BB := Lib.hid (btr BB.out hb)
  clear C hb x0 x1 x2
  obtain ⟨x0, x1, x2⟩ := P3.of BS.out.h
  obtain ⟨y0, y1, y2⟩ := P3.of BE.out
  have hx0 := lt_of_heap BS.out.h
  have hy0 := lt_of_heap BE.out
  go_upto_region 6 with fail
  refine wp_region_held (S := fun w' => Below w8.heap.size w8 w') (by kernel_rfl) ?_
  have S0 : Below w8.heap.size w8 w8.drew := (brf w8).drew
  refine wpAnyH_step 0 rfl (by kernel_rfl) (fun K' hK' => ?_)
  refine Eq.mpr (if_pos rfl) ?_
  go_simp
  go_at_call 14
  refine (served_any w8.drew).mono ?_
  rintro e wc0 ⟨rfl, hbc0⟩
  have S1 : Below w8.heap.size w8 wc0 := btr S0 hbc0
  go_wp2_with fail
  refine hK'.out _ _ S1 ?_
  clear hK' K'
  refine wpAnyH_takeD 1 54 (v := ?_) rfl rfl (by kernel_rfl) (by kernel_rfl) (by kernel_rfl) (fun _ _ _ h => h) (Or.inl ⟨by rfl, ?_⟩) S1 ?_
  rotate_left
  · (intro w' hw'; (try dsimp only at hw'); go_simp; try with_reducible rfl)
  simp only [List.set_cons_zero, List.set_cons_succ]
  refine wpAnyH_takeD 2 55 (v := ?_) rfl rfl (by kernel_rfl) (by kernel_rfl) (by kernel_rfl) (fun _ _ _ h => h) (Or.inl ⟨by rfl, ?_⟩) S1 ?_
  rotate_left
  · (intro w' hw'; (try dsimp only at hw'); go_simp; try with_reducible rfl)
  simp only [List.set_cons_zero, List.set_cons_succ]
  refine wpAnyH_takeD 3 56 (v := ?_) rfl rfl (by kernel_rfl) (by kernel_rfl) (by kernel_rfl) (fun _ _ _ h => h) (Or.inl ⟨by rfl, ?_⟩) S1 ?_
  rotate_left
  · (intro w' hw'; have j0 := (Below.cell hw' hx0).trans x0; have j1 := (Below.cell hw' hx0).trans x1; have j2 := (Below.cell hw' hx0).trans x2; (try dsimp only at hw'); go_simp; try with_reducible rfl)
  simp only [List.set_cons_zero, List.set_cons_succ]
  refine wpAnyH_takeD 5 58 (v := ?_) rfl rfl (by kernel_rfl) (by kernel_rfl) (by kernel_rfl) (fun _ _ _ h => h) (Or.inl ⟨by rfl, ?_⟩) S1 ?_
  rotate_left
  · (intro w' hw'; (try dsimp only at hw'); go_simp; try with_reducible rfl)
  simp only [List.set_cons_zero, List.set_cons_succ]
  refine wpAnyH_step 4 rfl (by kernel_rfl) (fun K' hK' => ?_)
  refine Eq.mpr (if_pos rfl) ?_
  go_simp
  go_at_call 15
  refine (svCheck_any _ _ s _ (RSrv.to BS.out.r (Kp.below S1))).mono ?_
  rintro e wc4 ⟨rfl, hbc4⟩
  rw [hbad'.out]
  have S2 : Below w8.heap.size w8 wc4 := btr S1 hbc4
  go_wp2_with fail
  refine hK'.out _ _ S2 ?_
  clear hK' K'
  refine wpAnyH_takeD 6 59 (v := ?_) rfl rfl (by kernel_rfl) (by kernel_rfl) (by kernel_rfl) (fun _ _ _ h => h) (Or.inl ⟨by rfl, ?_⟩) S2 ?_
  rotate_left
  · (intro w' hw'; (try dsimp only at hw'); go_simp; try with_reducible rfl)
  simp only [List.set_cons_zero, List.set_cons_succ]
  refine wpAnyH_takeD 7 60 (v := ?_) rfl rfl (by kernel_rfl) (by kernel_rfl) (by kernel_rfl) (fun _ _ _ h => h) (Or.inl ⟨by rfl, ?_⟩) S2 ?_
  rotate_left
  · (intro w' hw'; (try dsimp only at hw'); go_simp; try with_reducible rfl)
  simp only [List.set_cons_zero, List.set_cons_succ]
  refine wpAnyH_takeD 8 61 (v := ?_) rfl rfl (by kernel_rfl) (by kernel_rfl) (by kernel_rfl) (fun _ _ _ h => h) (Or.inl ⟨by rfl, ?_⟩) S2 ?_
  rotate_left
  · (intro w' hw'; (try dsimp only at hw'); go_simp; try with_reducible rfl)
  simp only [List.set_cons_zero, List.set_cons_succ]
  refine wpAnyH_takeD 9 62 (v := ?_) rfl rfl (by kernel_rfl) (by kernel_rfl) (by kernel_rfl) (fun _ _ _ h => h) (Or.inl ⟨by rfl, ?_⟩) S2 ?_
  rotate_left
  · (intro w' hw'; (try dsimp only at hw'); go_simp; try with_reducible rfl)
  simp only [List.set_cons_zero, List.set_cons_succ]
  refine wpAnyH_takeD 10 63 (v := ?_) rfl rfl (by kernel_rfl) (by kernel_rfl) (by kernel_rfl) (fun _ _ _ h => h) (Or.inl ⟨by rfl, ?_⟩) S2 ?_
  rotate_left
  · (intro w' hw'; (try dsimp only at hw'); go_simp; try with_reducible rfl)
  simp only [List.set_cons_zero, List.set_cons_succ]
  refine wpAnyH_takeD 11 64 (v := ?_) rfl rfl (by kernel_rfl) (by kernel_rfl) (by kernel_rfl) (fun _ _ _ h => h) (Or.inl ⟨by rfl, ?_⟩) S2 ?_
  rotate_left
  · (intro w' hw'; (try dsimp only at hw'); go_simp; try with_reducible rfl)
  simp only [List.set_cons_zero, List.set_cons_succ]
  refine wpAnyH_takeD 12 65 (v := ?_) rfl rfl (by kernel_rfl) (by kernel_rfl) (by kernel_rfl) (fun _ _ _ h => h) (Or.inl ⟨by rfl, ?_⟩) S2 ?_
  rotate_left
  · (intro w' hw'; (try dsimp only at hw'); go_simp; try with_reducible rfl)
  simp only [List.set_cons_zero, List.set_cons_succ]
  refine wpAnyH_takeD 13 66 (v := ?_) rfl rfl (by kernel_rfl) (by kernel_rfl) (by kernel_rfl) (fun _ _ _ h => h) (Or.inl ⟨by rfl, ?_⟩) S2 ?_
  rotate_left
  · (intro w' hw'; (try dsimp only at hw'); go_simp; try with_reducible rfl)
  simp only [List.set_cons_zero, List.set_cons_succ]
  refine wpAnyH_takeD 14 67 (v := ?_) rfl rfl (by kernel_rfl) (by kernel_rfl) (by kernel_rfl) (fun _ _ _ h => h) (Or.inl ⟨by rfl, ?_⟩) S2 ?_
  rotate_left
  · (intro w' hw'; (try dsimp only at hw'); go_simp; try with_reducible rfl)
  simp only [List.set_cons_zero, List.set_cons_succ]
  refine wpAnyH_takeD 15 68 (v := ?_) rfl rfl (by kernel_rfl) (by kernel_rfl) (by kernel_rfl) (fun _ _ _ h => h) (Or.inl ⟨by rfl, ?_⟩) S2 ?_
  rotate_left
  · (intro w' hw'; (try dsimp only at hw'); go_simp; try with_reducible rfl)
  simp only [List.set_cons_zero, List.set_cons_succ]
  refine wpAnyH_step 16 rfl (by kernel_rfl) (fun K' hK' => ?_)
  refine Eq.mpr (if_pos rfl) ?_
  go_simp
  go_at_call 16
  refine (eqDoc_same _ _ _ _ fd _ (RItems.to Q1.out (Kp.below S2)) (RItems.to Q2.out (Kp.below S2))).mono ?_
  rintro e wc16 ⟨rfl, hbc16⟩
  have S3 : Below w8.heap.size w8 wc16 := btr S2 hbc16
  go_wp2_with fail
  refine hK'.out _ _ S3 ?_
  clear hK' K'
  refine wpAnyH_takeD 17 70 (v := ?_) rfl rfl (by kernel_rfl) (by kernel_rfl) (by kernel_rfl) (fun _ _ _ h => h) (Or.inl ⟨by rfl, ?_⟩) S3 ?_
  rotate_left
  · (intro w' hw'; (try dsimp only at hw'); go_simp; try with_reducible rfl)
  simp only [List.set_cons_zero, List.set_cons_succ]
  refine wpAnyH_takeD 18 71 (v := ?_) rfl rfl (by kernel_rfl) (by kernel_rfl) (by kernel_rfl) (fun _ _ _ h => h) (Or.inl ⟨by rfl, ?_⟩) S3 ?_
  rotate_left
  · (intro w' hw'; (try dsimp only at hw'); go_simp; try with_reducible rfl)
  simp only [List.set_cons_zero, List.set_cons_succ]
  refine wpAnyH_takeD 19 72 (v := ?_) rfl rfl (by kernel_rfl) (by kernel_rfl) (by kernel_rfl) (fun _ _ _ h => h) (Or.inl ⟨by rfl, ?_⟩) S3 ?_
  rotate_left
  · (intro w' hw'; (try dsimp only at hw'); go_simp; try with_reducible rfl)
  simp only [List.set_cons_zero, List.set_cons_succ]
  refine wpAnyH_takeD 20 73 (v := ?_) rfl rfl (by kernel_rfl) (by kernel_rfl) (by kernel_rfl) (fun _ _ _ h => h) (Or.inl ⟨by rfl, ?_⟩) S3 ?_
  rotate_left
  · (intro w' hw'; have j0 := (Below.cell hw' hx0).trans x0; have j1 := (Below.cell hw' hx0).trans x1; have j2 := (Below.cell hw' hx0).trans x2; (try dsimp only at hw'); go_simp; try with_reducible rfl)
  simp only [List.set_cons_zero, List.set_cons_succ]
  refine wpAnyH_takeD 21 74 (v := ?_) rfl rfl (by kernel_rfl) (by kernel_rfl) (by kernel_rfl) (fun _ _ _ h => h) (Or.inl ⟨by rfl, ?_⟩) S3 ?_
  rotate_left
  · (intro w' hw'; have j0 := (Below.cell hw' hx0).trans x0; have j1 := (Below.cell hw' hx0).trans x1; have j2 := (Below.cell hw' hx0).trans x2; (try dsimp only at hw'); go_simp; try with_reducible rfl)
  simp only [List.set_cons_zero, List.set_cons_succ]
  refine wpAnyH_step 22 rfl (by kernel_rfl) (fun K' hK' => ?_)
  refine Eq.mpr (if_pos rfl) ?_
  go_simp
  go_at_call 17
  refine (svSame_any _ _ _ _ s s _ (RSrv.to BS.out.r (Kp.below S3)) (RSrv.to BS.out.r (Kp.below S3))).mono ?_
  rintro e wc22 ⟨rfl, hbc22⟩
  rw [same_true]
  have S4 : Below w8.heap.size w8 wc22 := btr S3 hbc22
  go_wp2_with fail
  refine hK'.out _ _ S4 ?_
  clear hK' K'
  refine wpAnyH_takeD 23 76 (v := ?_) rfl rfl (by kernel_rfl) (by kernel_rfl) (by kernel_rfl) (fun _ _ _ h => h) (Or.inl ⟨by rfl, ?_⟩) S4 ?_
  rotate_left
  · (intro w' hw'; (try dsimp only at hw'); go_simp; try with_reducible rfl)
  simp only [List.set_cons_zero, List.set_cons_succ]
  refine wpAnyH_takeD 24 77 (v := ?_) rfl rfl (by kernel_rfl) (by kernel_rfl) (by kernel_rfl) (fun _ _ _ h => h) (Or.inl ⟨by rfl, ?_⟩) S4 ?_
  rotate_left
  · (intro w' hw'; (try dsimp only at hw'); go_simp; try with_reducible rfl)
  simp only [List.set_cons_zero, List.set_cons_succ]
  refine wpAnyH_takeD 25 78 (v := ?_) rfl rfl (by kernel_rfl) (by kernel_rfl) (by kernel_rfl) (fun _ _ _ h => h) (Or.inl ⟨by rfl, ?_⟩) S4 ?_
  rotate_left
  · (intro w' hw'; (try dsimp only at hw'); go_simp; try with_reducible rfl)
  simp only [List.set_cons_zero, List.set_cons_succ]
  refine wpAnyH_takeD 26 79 (v := ?_) rfl rfl (by kernel_rfl) (by kernel_rfl) (by kernel_rfl) (fun _ _ _ h => h) (Or.inl ⟨by rfl, ?_⟩) S4 ?_
  rotate_left
  · (intro w' hw'; have j0 := (Below.cell hw' hy0).trans y0; have j1 := (Below.cell hw' hy0).trans y1; have j2 := (Below.cell hw' hy0).trans y2; (try dsimp only at hw'); go_simp; try with_reducible rfl)
  simp only [List.set_cons_zero, List.set_cons_succ]
  refine wpAnyH_takeD 27 80 (v := ?_) rfl rfl (by kernel_rfl) (by kernel_rfl) (by kernel_rfl) (fun _ _ _ h => h) (Or.inl ⟨by rfl, ?_⟩) S4 ?_
  rotate_left
  · (intro w' hw'; have j0 := (Below.cell hw' hy0).trans y0; have j1 := (Below.cell hw' hy0).trans y1; have j2 := (Below.cell hw' hy0).trans y2; (try dsimp only at hw'); go_simp; try with_reducible rfl)
  simp only [List.set_cons_zero, List.set_cons_succ]
  refine wpAnyH_takeD 29 82 (v := ?_) rfl rfl (by kernel_rfl) (by kernel_rfl) (by kernel_rfl) (fun _ _ _ h => h) (Or.inl ⟨by rfl, ?_⟩) S4 ?_
  rotate_left
  · (intro w' hw'; have j0 := (Below.cell hw' hy0).trans y0; have j1 := (Below.cell hw' hy0).trans y1; have j2 := (Below.cell hw' hy0).trans y2; (try dsimp only at hw'); go_simp; try with_reducible rfl)
  simp only [List.set_cons_zero, List.set_cons_succ]
  refine wpAnyH_takeD 30 83 (v := ?_) rfl rfl (by kernel_rfl) (by kernel_rfl) (by kernel_rfl) (fun _ _ _ h => h) (Or.inl ⟨by rfl, ?_⟩) S4 ?_
  rotate_left
  · (intro w' hw'; have j0 := (Below.cell hw' hy0).trans y0; have j1 := (Below.cell hw' hy0).trans y1; have j2 := (Below.cell hw' hy0).trans y2; (try dsimp only at hw'); go_simp; try with_reducible rfl)
  simp only [List.set_cons_zero, List.set_cons_succ]
  refine wpAnyH_step 28 rfl (by kernel_rfl) (fun K' hK' => ?_)
  refine Eq.mpr (if_pos rfl) ?_
  go_simp
  go_at_call 18
  refine (svSameEntry_any _ _ _ _ x x _ (HO.out _ (btr BB.out S4)) (HO.out _ (btr BB.out S4))).mono ?_
  rintro e wc28 ⟨rfl, hbc28⟩
  rw [decide_eq_true (rfl : x = x)]
  have S5 : Below w8.heap.size w8 wc28 := btr S4 hbc28
  go_wp2_with fail
  refine hK'.out _ _ S5 ?_
  clear hK' K'
  refine wpAnyH_step 31 rfl (by kernel_rfl) (fun K' hK' => ?_)
  refine Eq.mpr (if_pos rfl) ?_
  go_simp
  go_at_call 19
  refine (refSameEntry_any _ _ _ _ x x _ (HO.out _ (btr BB.out S5)) (HO.out _ (btr BB.out S5))).mono ?_
  rintro e wc31 ⟨rfl, hbc31⟩
  rw [decide_eq_true (rfl : x = x)]
  have S6 : Below w8.heap.size w8 wc31 := btr S5 hbc31
  go_wp2_with fail
  refine hK'.out _ _ S6 ?_
  clear hK' K'
  refine wpAnyH_takeD 32 85 (v := ?_) rfl rfl (by kernel_rfl) (by kernel_rfl) (by kernel_rfl) (fun _ _ _ h => h) (Or.inl ⟨by rfl, ?_⟩) S6 ?_
  rotate_left
  · (intro w' hw'; (try dsimp only at hw'); go_simp; try with_reducible rfl)
  simp only [List.set_cons_zero, List.set_cons_succ]
  refine wpAnyH_takeD 33 86 (v := ?_) rfl rfl (by kernel_rfl) (by kernel_rfl) (by kernel_rfl) (fun _ _ _ h => h) (Or.inl ⟨by rfl, ?_⟩) S6 ?_
  rotate_left
  · (intro w' hw'; (try dsimp only at hw'); go_simp; try with_reducible rfl)
  simp only [List.set_cons_zero, List.set_cons_succ]
  refine wpAnyH_done (by kernel_rfl) ?_ _
  generalize hwq : wc31 = w9 at *
  clear hwq S0 S1 S2 S3 S4 S5 hbc0 hbc4 hbc16 hbc22 hbc28 hbc31 x0 x1 x2 y0 y1 y2 hx0 hy0
  have BS := Lib.hid (BS.out.below S6)
  have BN := Lib.hid (BN.out.below S6)
  have BT := Lib.hid (BT.out.below S6)
  have BE := Lib.hid ((S6.block _ (lt_of_heap BE.out)).trans BE.out)
  have BI := Lib.hid ((S6.block _ (lt_of_heap BI.out)).trans BI.out)
  have BJ := Lib.hid ((S6.block _ (lt_of_heap BJ.out)).trans BJ.out)
  have Q1 := Lib.hid (RItems.to Q1.out (Kp.below S6))
  have Q2 := Lib.hid (RItems.to Q2.out (Kp.below S6))
  have BB := Lib.hid (btr BB.out S6)
  clear S6
  have hnd : Hid ((ne = 0 ∧ ns = ⟨d, [], d⟩ ∧ chkDoc d = ne) ∨ (ne ≠ 0 ∧ ns = srv0 ∧ chkDoc d = ne)) := Lib.hid (by
    have hq := hN'.out
    unfold newS at hq
    by_cases hz : chkDoc d = 0
    · rw [if_neg (by simpa using hz)] at hq
      cases hq
      exact Or.inl ⟨rfl, rfl, hz⟩
    · rw [if_pos hz] at hq
      cases hq
      exact Or.inr ⟨hz, rfl, rfl⟩)
  have hcd : Hid (chkDoc d = ne) := Lib.hid (by rcases hnd.out with ⟨_, _, e⟩ | ⟨_, _, e⟩ <;> exact e)
  have C := Lib.hid (checkDoc_any FD _ d w9 (HD.out w9 BB.out))
  rw [hcd.out] at C
  go_wp2_with fail
  refine C.out.mono ?_
  rintro e w10 ⟨rfl, hb⟩
  have BS := Lib.hid (BS.out.below hb)
  have BN := Lib.hid (BN.out.below hb)
  have BT := Lib.hid (BT.out.below hb)
  have BE := Lib.hid ((hb.block _ (lt_of_heap BE.out)).trans BE.out)
  have BI := Lib.hid ((hb.block _ (lt_of_heap BI.out)).trans BI.out)
  have BJ := Lib.hid ((hb.block _ (lt_of_heap BJ.out)).trans BJ.out)
  have Q1 := Lib.hid (RItems.to Q1.out (Kp.below hb))
  have Q2 := Lib.hid (RItems.to Q2.out (Kp.below hb))
  have BB := Lib.hid (btr BB.out hb)
  clear C hb
  rcases hnd.out with ⟨e0, e1, _⟩ | ⟨e0, e1, _⟩
  · subst e0
    have BN0 : Hid (RSrv (fun _ => True) w10 (.agg #[.slice n1 ns.first.length n2, .slice n3 ns.log.length n4, .slice n5 ns.now.length n6]) ⟨d, [], d⟩) := Lib.hid (by have := BN.out.r; rw [e1] at this ⊢; exact this)
    have BN9 : Hid (RSrv (fun _ => True) w10 (.agg #[.slice da d.length dc, .slice none 0 0, .slice da d.length dc]) ⟨d, [], d⟩) := Lib.hid ⟨_, _, _, rfl, RItems.to (HD.out w10 BB.out) (Kp.weak _ fun _ _ => trivial), RdS.nil, RItems.to (HD.out w10 BB.out) (Kp.weak _ fun _ _ => trivial)⟩
    clear e1 hnd hcd
    obtain ⟨x0, x1, x2⟩ := P3.of BN.out.h
    have C := Lib.hid (refSvSame_any _ _ _ _ ⟨d, [], d⟩ ⟨d, [], d⟩ w10 BN0.out BN9.out)
    rw [same_true] at C
    go_wp2_with fail
    refine C.out.mono ?_
    rintro e w11 ⟨rfl, hb⟩
    have BS := Lib.hid (BS.out.below hb)
    have BN := Lib.hid (BN.out.below hb)
    have BT := Lib.hid (BT.out.below hb)
    have BE := Lib.hid ((hb.block _ (lt_of_heap BE.out)).trans BE.out)
    have BI := Lib.hid ((hb.block _ (lt_of_heap BI.out)).trans BI.out)
    have BJ := Lib.hid ((hb.block _ (lt_of_heap BJ.out)).trans BJ.out)
    have Q1 := Lib.hid (RItems.to Q1.out (Kp.below hb))
    have Q2 := Lib.hid (RItems.to Q2.out (Kp.below hb))
    have BB := Lib.hid (btr BB.out hb)
    clear C hb x0 x1 x2
    clear BN0 BN9
    obtain ⟨x0, x1, x2⟩ := P3.of BS.out.h
    have i0 := cell_of BI.out 0 (.int .i64 client) rfl
    have i1 := cell_of BJ.out 0 (.int .i64 seq) rfl
    have hx0 := lt_of_heap BS.out.h
    have hi0 := lt_of_heap BI.out
    have hj0 := lt_of_heap BJ.out
    go_upto_region 11 with fail
    refine wp_region_held (S := fun w' => Below w11.heap.size w11 w') (by kernel_rfl) ?_
    have S0 : Below w11.heap.size w11 w11.drew := (brf w11).drew
    refine wpAnyH_takeD 0 114 (v := ?_) rfl rfl (by kernel_rfl) (by kernel_rfl) (by kernel_rfl) (fun _ _ _ h => h) (Or.inl ⟨by rfl, ?_⟩) S0 ?_
    rotate_left
    · (intro w' hw'; have j0 := (Below.cell hw' hx0).trans x0; have j1 := (Below.cell hw' hx0).trans x1; have j2 := (Below.cell hw' hx0).trans x2; (try dsimp only at hw'); go_simp; try with_reducible rfl)
    simp only [List.set_cons_zero, List.set_cons_succ]
    refine wpAnyH_takeD 1 115 (v := ?_) rfl rfl (by kernel_rfl) (by kernel_rfl) (by kernel_rfl) (fun _ _ _ h => h) (Or.inl ⟨by rfl, ?_⟩) S0 ?_
    rotate_left
    · (intro w' hw'; have j0 := (Below.cell hw' hi0).trans i0; (try dsimp only at hw'); go_simp; try with_reducible rfl)
    simp only [List.set_cons_zero, List.set_cons_succ]
    refine wpAnyH_takeD 2 116 (v := ?_) rfl rfl (by kernel_rfl) (by kernel_rfl) (by kernel_rfl) (fun _ _ _ h => h) (Or.inl ⟨by rfl, ?_⟩) S0 ?_
    rotate_left
    · (intro w' hw'; have j0 := (Below.cell hw' hj0).trans i1; (try dsimp only at hw'); go_simp; try with_reducible rfl)
    simp only [List.set_cons_zero, List.set_cons_succ]
    refine wpAnyH_takeD 4 118 (v := ?_) rfl rfl (by kernel_rfl) (by kernel_rfl) (by kernel_rfl) (fun _ _ _ h => h) (Or.inl ⟨by rfl, ?_⟩) S0 ?_
    rotate_left
    · (intro w' hw'; (try dsimp only at hw'); go_simp; try with_reducible rfl)
    simp only [List.set_cons_zero, List.set_cons_succ]
    refine wpAnyH_takeD 5 119 (v := ?_) rfl rfl (by kernel_rfl) (by kernel_rfl) (by kernel_rfl) (fun _ _ _ h => h) (Or.inl ⟨by rfl, ?_⟩) S0 ?_
    rotate_left
    · (intro w' hw'; have j0 := (Below.cell hw' hx0).trans x0; have j1 := (Below.cell hw' hx0).trans x1; have j2 := (Below.cell hw' hx0).trans x2; (try dsimp only at hw'); go_simp; try with_reducible rfl)
    simp only [List.set_cons_zero, List.set_cons_succ]
    refine wpAnyH_takeD 6 120 (v := ?_) rfl rfl (by kernel_rfl) (by kernel_rfl) (by kernel_rfl) (fun _ _ _ h => h) (Or.inl ⟨by rfl, ?_⟩) S0 ?_
    rotate_left
    · (intro w' hw'; (try dsimp only at hw'); go_simp; try with_reducible rfl)
    simp only [List.set_cons_zero, List.set_cons_succ]
    refine wpAnyH_step 3 rfl (by kernel_rfl) (fun K' hK' => ?_)
    refine Eq.mpr (if_pos rfl) ?_
    go_simp
    go_at_call 22
    refine (svHas_any _ _ s client seq _ (RSrv.to BS.out.r (Kp.below S0))).mono ?_
    rintro e wc3 ⟨rfl, hbc3⟩
    rw [hhas'.out]
    have S1 : Below w11.heap.size w11 wc3 := btr S0 hbc3
    go_wp2_with fail
    refine hK'.out _ _ S1 ?_
    clear hK' K'
    refine wpAnyH_step 7 rfl (by kernel_rfl) (fun K' hK' => ?_)
    refine Eq.mpr (if_pos rfl) ?_
    go_simp
    go_at_call 23
    refine (lwCont_any _ _ s.log (w.heap.size + 1 + 1) (w.heap.size + 1 + 1 + 1) client seq _ (RLog.to BS.out.r.logR (Kp.below S1)) ((Below.cell S1 hi0).trans i0) ((Below.cell S1 hj0).trans i1)).mono ?_
    rintro e wc7 ⟨rfl, hbc7⟩
    rw [hhas'.out]
    have S2 : Below w11.heap.size w11 wc7 := btr S1 hbc7
    go_wp2_with fail
    refine hK'.out _ _ S2 ?_
    clear hK' K'
    refine wpAnyH_takeD 8 122 (v := ?_) rfl rfl (by kernel_rfl) (by kernel_rfl) (by kernel_rfl) (fun _ _ _ h => h) (Or.inl ⟨by rfl, ?_⟩) S2 ?_
    rotate_left
    · (intro w' hw'; (try dsimp only at hw'); go_simp; try with_reducible rfl)
    simp only [List.set_cons_zero, List.set_cons_succ]
    refine wpAnyH_done (by kernel_rfl) ?_ _
    generalize hwq : wc7 = w12 at *
    clear hwq S0 S1 hbc3 hbc7 x0 x1 x2 i0 i1 hx0 hi0 hj0
    have BS := Lib.hid (BS.out.below S2)
    have BN := Lib.hid (BN.out.below S2)
    have BT := Lib.hid (BT.out.below S2)
    have BE := Lib.hid ((S2.block _ (lt_of_heap BE.out)).trans BE.out)
    have BI := Lib.hid ((S2.block _ (lt_of_heap BI.out)).trans BI.out)
    have BJ := Lib.hid ((S2.block _ (lt_of_heap BJ.out)).trans BJ.out)
    have Q1 := Lib.hid (RItems.to Q1.out (Kp.below S2))
    have Q2 := Lib.hid (RItems.to Q2.out (Kp.below S2))
    have BB := Lib.hid (btr BB.out S2)
    clear S2
    by_cases hz : bad = 0
    · subst hz
      have hok := Lib.hid (SrvOk.of hbad'.out)
      obtain ⟨x0, x1, x2⟩ := P3.of BS.out.h
      obtain ⟨y0, y1, y2⟩ := P3.of BE.out
      have C := Lib.hid (refTakes_any _ FO _ _ s rev x w12 BS.out.r (HO.out w12 BB.out) hok.out)
      rw [hTk'.out] at C
      go_wp2_with fail
      refine C.out.mono ?_
      rintro e w13 ⟨vt2, rfl, hr, hb⟩
      have BS := Lib.hid (BS.out.below hb)
      have BN := Lib.hid (BN.out.below hb)
      have BT := Lib.hid (BT.out.below hb)
      have BE := Lib.hid ((hb.block _ (lt_of_heap BE.out)).trans BE.out)
      have BI := Lib.hid ((hb.block _ (lt_of_heap BI.out)).trans BI.out)
      have BJ := Lib.hid ((hb.block _ (lt_of_heap BJ.out)).trans BJ.out)
      have Q1 := Lib.hid (RItems.to Q1.out (Kp.below hb))
      have Q2 := Lib.hid (RItems.to Q2.out (Kp.below hb))
      have BB := Lib.hid (btr BB.out hb)
      clear C hb x0 x1 x2 y0 y1 y2
      obtain ⟨bq, nq, sq, rfl, _⟩ := id hr
      obtain ⟨e1, e2, e3, e4, e5, e6, rfl, rfl, rfl⟩ := rsrv_shape hr
      have hr' := Lib.hid hr
      clear hr
      go_upto_region 16 with fail
      refine name_world ?_
      intro w14 hW
      obtain ⟨hBx, hb⟩ := Bsv.mk' (e := 37) hr'.out hW
      obtain ⟨gBT2, hgBT2⟩ : ∃ g, g = w13.heap.size := ⟨_, rfl⟩
      rw [← hgBT2] at hBx ⊢
      have BS := Lib.hid (BS.out.below hb)
      have BN := Lib.hid (BN.out.below hb)
      have BT := Lib.hid (BT.out.below hb)
      have BE := Lib.hid ((hb.block _ (lt_of_heap BE.out)).trans BE.out)
      have BI := Lib.hid ((hb.block _ (lt_of_heap BI.out)).trans BI.out)
      have BJ := Lib.hid ((hb.block _ (lt_of_heap BJ.out)).trans BJ.out)
      have Q1 := Lib.hid (RItems.to Q1.out (Kp.below hb))
      have Q2 := Lib.hid (RItems.to Q2.out (Kp.below hb))
      have BB := Lib.hid (btr BB.out hb)
      have BT2 := Lib.hid hBx
      clear hW hBx hb hr' hgBT2
      obtain ⟨x0, x1, x2⟩ := P3.of BT.out.h
      obtain ⟨y0, y1, y2⟩ := P3.of BT2.out.h
      have C := Lib.hid (refSvSame_any _ _ _ _ t t w14 BT.out.r BT2.out.r)
      rw [same_true] at C
      go_wp2_with fail
      refine C.out.mono ?_
      rintro e w15 ⟨rfl, hb⟩
      have BS := Lib.hid (BS.out.below hb)
      have BN := Lib.hid (BN.out.below hb)
      have BT := Lib.hid (BT.out.below hb)
      have BT2 := Lib.hid (BT2.out.below hb)
      have BE := Lib.hid ((hb.block _ (lt_of_heap BE.out)).trans BE.out)
      have BI := Lib.hid ((hb.block _ (lt_of_heap BI.out)).trans BI.out)
      have BJ := Lib.hid ((hb.block _ (lt_of_heap BJ.out)).trans BJ.out)
      have Q1 := Lib.hid (RItems.to Q1.out (Kp.below hb))
      have Q2 := Lib.hid (RItems.to Q2.out (Kp.below hb))
      have BB := Lib.hid (btr BB.out hb)
      clear C hb x0 x1 x2 y0 y1 y2
      go_wp2
      go_ret
      exact ⟨rfl, BB.out⟩
    · have hz1 : (bad != 0) = true := by simpa using hz
      have hT0 := hTk'.out
      rw [takeP_bad (by rw [hbad'.out]; exact hz), hbad'.out] at hT0
      simp only [Prod.mk.injEq] at hT0
      obtain ⟨ex, rfl⟩ := hT0
      have BT0 : Hid (RSrv (fun _ => True) w12 (.agg #[.slice a1 t.first.length a2, .slice a3 t.log.length a4, .slice a5 t.now.length a6]) srv0) := Lib.hid (by rw [ex]; exact BT.out.r)
      clear hz ex
      obtain ⟨x0, x1, x2⟩ := P3.of BT.out.h
      have C := Lib.hid (refSvSame_any _ _ _ _ srv0 srv0 w12 BT0.out (RSrv.zero (F := fun _ => True)))
      rw [same_true] at C
      go_wp2_with fail
      refine C.out.mono ?_
      rintro e w13 ⟨rfl, hb⟩
      have BS := Lib.hid (BS.out.below hb)
      have BN := Lib.hid (BN.out.below hb)
      have BT := Lib.hid (BT.out.below hb)
      have BE := Lib.hid ((hb.block _ (lt_of_heap BE.out)).trans BE.out)
      have BI := Lib.hid ((hb.block _ (lt_of_heap BI.out)).trans BI.out)
      have BJ := Lib.hid ((hb.block _ (lt_of_heap BJ.out)).trans BJ.out)
      have Q1 := Lib.hid (RItems.to Q1.out (Kp.below hb))
      have Q2 := Lib.hid (RItems.to Q2.out (Kp.below hb))
      have BB := Lib.hid (btr BB.out hb)
      clear C hb x0 x1 x2
      go_wp2
      go_ret
      exact ⟨rfl, BB.out⟩
  · have hne1 : (ne != 0) = true := by simpa using e0
    have hne2 : (ne == 0) = false := by simpa using e0
    have BN0 : Hid (RSrv (fun _ => True) w10 (.agg #[.slice n1 ns.first.length n2, .slice n3 ns.log.length n4, .slice n5 ns.now.length n6]) srv0) := Lib.hid (by have := BN.out.r; rw [e1] at this ⊢; exact this)
    clear e0 e1 hnd hcd
    obtain ⟨x0, x1, x2⟩ := P3.of BN.out.h
    have C := Lib.hid (refSvSame_any _ _ _ _ srv0 srv0 w10 BN0.out (RSrv.zero (F := fun _ => True)))
    rw [same_true] at C
    go_wp2_with fail
    refine C.out.mono ?_
    rintro e w11 ⟨rfl, hb⟩
    have BS := Lib.hid (BS.out.below hb)
    have BN := Lib.hid (BN.out.below hb)
    have BT := Lib.hid (BT.out.below hb)
    have BE := Lib.hid ((hb.block _ (lt_of_heap BE.out)).trans BE.out)
    have BI := Lib.hid ((hb.block _ (lt_of_heap BI.out)).trans BI.out)
    have BJ := Lib.hid ((hb.block _ (lt_of_heap BJ.out)).trans BJ.out)
    have Q1 := Lib.hid (RItems.to Q1.out (Kp.below hb))
    have Q2 := Lib.hid (RItems.to Q2.out (Kp.below hb))
    have BB := Lib.hid (btr BB.out hb)
    clear C hb x0 x1 x2
    clear BN0
    obtain ⟨x0, x1, x2⟩ := P3.of BS.out.h
    have i0 := cell_of BI.out 0 (.int .i64 client) rfl
    have i1 := cell_of BJ.out 0 (.int .i64 seq) rfl
    have hx0 := lt_of_heap BS.out.h
    have hi0 := lt_of_heap BI.out
    have hj0 := lt_of_heap BJ.out
    go_upto_region 11 with fail
    refine wp_region_held (S := fun w' => Below w11.heap.size w11 w') (by kernel_rfl) ?_
    have S0 : Below w11.heap.size w11 w11.drew := (brf w11).drew
    refine wpAnyH_takeD 0 114 (v := ?_) rfl rfl (by kernel_rfl) (by kernel_rfl) (by kernel_rfl) (fun _ _ _ h => h) (Or.inl ⟨by rfl, ?_⟩) S0 ?_
    rotate_left
    · (intro w' hw'; have j0 := (Below.cell hw' hx0).trans x0; have j1 := (Below.cell hw' hx0).trans x1; have j2 := (Below.cell hw' hx0).trans x2; (try dsimp only at hw'); go_simp; try with_reducible rfl)
    simp only [List.set_cons_zero, List.set_cons_succ]
    refine wpAnyH_takeD 1 115 (v := ?_) rfl rfl (by kernel_rfl) (by kernel_rfl) (by kernel_rfl) (fun _ _ _ h => h) (Or.inl ⟨by rfl, ?_⟩) S0 ?_
    rotate_left
    · (intro w' hw'; have j0 := (Below.cell hw' hi0).trans i0; (try dsimp only at hw'); go_simp; try with_reducible rfl)
    simp only [List.set_cons_zero, List.set_cons_succ]
    refine wpAnyH_takeD 2 116 (v := ?_) rfl rfl (by kernel_rfl) (by kernel_rfl) (by kernel_rfl) (fun _ _ _ h => h) (Or.inl ⟨by rfl, ?_⟩) S0 ?_
    rotate_left
    · (intro w' hw'; have j0 := (Below.cell hw' hj0).trans i1; (try dsimp only at hw'); go_simp; try with_reducible rfl)
    simp only [List.set_cons_zero, List.set_cons_succ]
    refine wpAnyH_takeD 4 118 (v := ?_) rfl rfl (by kernel_rfl) (by kernel_rfl) (by kernel_rfl) (fun _ _ _ h => h) (Or.inl ⟨by rfl, ?_⟩) S0 ?_
    rotate_left
    · (intro w' hw'; (try dsimp only at hw'); go_simp; try with_reducible rfl)
    simp only [List.set_cons_zero, List.set_cons_succ]
    refine wpAnyH_takeD 5 119 (v := ?_) rfl rfl (by kernel_rfl) (by kernel_rfl) (by kernel_rfl) (fun _ _ _ h => h) (Or.inl ⟨by rfl, ?_⟩) S0 ?_
    rotate_left
    · (intro w' hw'; have j0 := (Below.cell hw' hx0).trans x0; have j1 := (Below.cell hw' hx0).trans x1; have j2 := (Below.cell hw' hx0).trans x2; (try dsimp only at hw'); go_simp; try with_reducible rfl)
    simp only [List.set_cons_zero, List.set_cons_succ]
    refine wpAnyH_takeD 6 120 (v := ?_) rfl rfl (by kernel_rfl) (by kernel_rfl) (by kernel_rfl) (fun _ _ _ h => h) (Or.inl ⟨by rfl, ?_⟩) S0 ?_
    rotate_left
    · (intro w' hw'; (try dsimp only at hw'); go_simp; try with_reducible rfl)
    simp only [List.set_cons_zero, List.set_cons_succ]
    refine wpAnyH_step 3 rfl (by kernel_rfl) (fun K' hK' => ?_)
    refine Eq.mpr (if_pos rfl) ?_
    go_simp
    go_at_call 22
    refine (svHas_any _ _ s client seq _ (RSrv.to BS.out.r (Kp.below S0))).mono ?_
    rintro e wc3 ⟨rfl, hbc3⟩
    rw [hhas'.out]
    have S1 : Below w11.heap.size w11 wc3 := btr S0 hbc3
    go_wp2_with fail
    refine hK'.out _ _ S1 ?_
    clear hK' K'
    refine wpAnyH_step 7 rfl (by kernel_rfl) (fun K' hK' => ?_)
    refine Eq.mpr (if_pos rfl) ?_
    go_simp
    go_at_call 23
    refine (lwCont_any _ _ s.log (w.heap.size + 1 + 1) (w.heap.size + 1 + 1 + 1) client seq _ (RLog.to BS.out.r.logR (Kp.below S1)) ((Below.cell S1 hi0).trans i0) ((Below.cell S1 hj0).trans i1)).mono ?_
    rintro e wc7 ⟨rfl, hbc7⟩
    rw [hhas'.out]
    have S2 : Below w11.heap.size w11 wc7 := btr S1 hbc7
    go_wp2_with fail
    refine hK'.out _ _ S2 ?_
    clear hK' K'
    refine wpAnyH_takeD 8 122 (v := ?_) rfl rfl (by kernel_rfl) (by kernel_rfl) (by kernel_rfl) (fun _ _ _ h => h) (Or.inl ⟨by rfl, ?_⟩) S2 ?_
    rotate_left
    · (intro w' hw'; (try dsimp only at hw'); go_simp; try with_reducible rfl)
    simp only [List.set_cons_zero, List.set_cons_succ]
    refine wpAnyH_done (by kernel_rfl) ?_ _
    generalize hwq : wc7 = w12 at *
    clear hwq S0 S1 hbc3 hbc7 x0 x1 x2 i0 i1 hx0 hi0 hj0
    have BS := Lib.hid (BS.out.below S2)
    have BN := Lib.hid (BN.out.below S2)
    have BT := Lib.hid (BT.out.below S2)
    have BE := Lib.hid ((S2.block _ (lt_of_heap BE.out)).trans BE.out)
    have BI := Lib.hid ((S2.block _ (lt_of_heap BI.out)).trans BI.out)
    have BJ := Lib.hid ((S2.block _ (lt_of_heap BJ.out)).trans BJ.out)
    have Q1 := Lib.hid (RItems.to Q1.out (Kp.below S2))
    have Q2 := Lib.hid (RItems.to Q2.out (Kp.below S2))
    have BB := Lib.hid (btr BB.out S2)
    clear S2
    by_cases hz : bad = 0
    · subst hz
      have hok := Lib.hid (SrvOk.of hbad'.out)
      obtain ⟨x0, x1, x2⟩ := P3.of BS.out.h
      obtain ⟨y0, y1, y2⟩ := P3.of BE.out
      have C := Lib.hid (refTakes_any _ FO _ _ s rev x w12 BS.out.r (HO.out w12 BB.out) hok.out)
      rw [hTk'.out] at C
      go_wp2_with fail
      refine C.out.mono ?_
      rintro e w13 ⟨vt2, rfl, hr, hb⟩
      have BS := Lib.hid (BS.out.below hb)
      have BN := Lib.hid (BN.out.below hb)
      have BT := Lib.hid (BT.out.below hb)
      have BE := Lib.hid ((hb.block _ (lt_of_heap BE.out)).trans BE.out)
      have BI := Lib.hid ((hb.block _ (lt_of_heap BI.out)).trans BI.out)
      have BJ := Lib.hid ((hb.block _ (lt_of_heap BJ.out)).trans BJ.out)
      have Q1 := Lib.hid (RItems.to Q1.out (Kp.below hb))
      have Q2 := Lib.hid (RItems.to Q2.out (Kp.below hb))
      have BB := Lib.hid (btr BB.out hb)
      clear C hb x0 x1 x2 y0 y1 y2
      obtain ⟨bq, nq, sq, rfl, _⟩ := id hr
      obtain ⟨e1, e2, e3, e4, e5, e6, rfl, rfl, rfl⟩ := rsrv_shape hr
      have hr' := Lib.hid hr
      clear hr
      go_upto_region 16 with fail
      refine name_world ?_
      intro w14 hW
      obtain ⟨hBx, hb⟩ := Bsv.mk' (e := 37) hr'.out hW
      obtain ⟨gBT2, hgBT2⟩ : ∃ g, g = w13.heap.size := ⟨_, rfl⟩
      rw [← hgBT2] at hBx ⊢
      have BS := Lib.hid (BS.out.below hb)
      have BN := Lib.hid (BN.out.below hb)
      have BT := Lib.hid (BT.out.below hb)
      have BE := Lib.hid ((hb.block _ (lt_of_heap BE.out)).trans BE.out)
      have BI := Lib.hid ((hb.block _ (lt_of_heap BI.out)).trans BI.out)
      have BJ := Lib.hid ((hb.block _ (lt_of_heap BJ.out)).trans BJ.out)
      have Q1 := Lib.hid (RItems.to Q1.out (Kp.below hb))
      have Q2 := Lib.hid (RItems.to Q2.out (Kp.below hb))
      have BB := Lib.hid (btr BB.out hb)
      have BT2 := Lib.hid hBx
      clear hW hBx hb hr' hgBT2
      obtain ⟨x0, x1, x2⟩ := P3.of BT.out.h
      obtain ⟨y0, y1, y2⟩ := P3.of BT2.out.h
      have C := Lib.hid (refSvSame_any _ _ _ _ t t w14 BT.out.r BT2.out.r)
      rw [same_true] at C
      go_wp2_with fail
      refine C.out.mono ?_
      rintro e w15 ⟨rfl, hb⟩
      have BS := Lib.hid (BS.out.below hb)
      have BN := Lib.hid (BN.out.below hb)
      have BT := Lib.hid (BT.out.below hb)
      have BT2 := Lib.hid (BT2.out.below hb)
      have BE := Lib.hid ((hb.block _ (lt_of_heap BE.out)).trans BE.out)
      have BI := Lib.hid ((hb.block _ (lt_of_heap BI.out)).trans BI.out)
      have BJ := Lib.hid ((hb.block _ (lt_of_heap BJ.out)).trans BJ.out)
      have Q1 := Lib.hid (RItems.to Q1.out (Kp.below hb))
      have Q2 := Lib.hid (RItems.to Q2.out (Kp.below hb))
      have BB := Lib.hid (btr BB.out hb)
      clear C hb x0 x1 x2 y0 y1 y2
      go_wp2
      go_ret
      exact ⟨rfl, BB.out⟩
    · have hz1 : (bad != 0) = true := by simpa using hz
      have hT0 := hTk'.out
      rw [takeP_bad (by rw [hbad'.out]; exact hz), hbad'.out] at hT0
      simp only [Prod.mk.injEq] at hT0
      obtain ⟨ex, rfl⟩ := hT0
      have BT0 : Hid (RSrv (fun _ => True) w12 (.agg #[.slice a1 t.first.length a2, .slice a3 t.log.length a4, .slice a5 t.now.length a6]) srv0) := Lib.hid (by rw [ex]; exact BT.out.r)
      clear hz ex
      obtain ⟨x0, x1, x2⟩ := P3.of BT.out.h
      have C := Lib.hid (refSvSame_any _ _ _ _ srv0 srv0 w12 BT0.out (RSrv.zero (F := fun _ => True)))
      rw [same_true] at C
      go_wp2_with fail
      refine C.out.mono ?_
      rintro e w13 ⟨rfl, hb⟩
      have BS := Lib.hid (BS.out.below hb)
      have BN := Lib.hid (BN.out.below hb)
      have BT := Lib.hid (BT.out.below hb)
      have BE := Lib.hid ((hb.block _ (lt_of_heap BE.out)).trans BE.out)
      have BI := Lib.hid ((hb.block _ (lt_of_heap BI.out)).trans BI.out)
      have BJ := Lib.hid ((hb.block _ (lt_of_heap BJ.out)).trans BJ.out)
      have Q1 := Lib.hid (RItems.to Q1.out (Kp.below hb))
      have Q2 := Lib.hid (RItems.to Q2.out (Kp.below hb))
      have BB := Lib.hid (btr BB.out hb)
      clear C hb x0 x1 x2
      go_wp2
      go_ret
      exact ⟨rfl, BB.out⟩
end Go.Proofs.YtckdlhgeelhnmaaGreat
