/- Package op: part, of a part that keeps. -/
import Derived.Test.YtckdlhgeelhnmaaGreatRefD
import Derived.Test.YtckdlhgeelhnmaaGreatPl
import Derived.Test.YtckdlhgeelhnmaaGreatTac
import Derived.Test.YtckdlhgeelhnmaaGreatMemA
import Derived.BigRegion
import Derived.RegionTactic
import Derived.ChangeAlike
namespace Go.Proofs.YtckdlhgeelhnmaaGreat
open Go.RowKit Go.Mh

set_option maxRecDepth 100000 in
set_option maxHeartbeats 2000000 in
theorem part_keep (F : Nat → Prop) (sv : Value) (n : Int) (its : List It) (set clr : Int) (to : Bool) (l : Bs) (w : World) (h : RItems F w sv its) :
    Calls Tryz.prog 110 #[pv ⟨1, n, its, set, clr, to, l⟩ sv] w fun e w' => e = .returned (.int .i64 (chkPt ⟨1, n, its, set, clr, to, l⟩)) ∧ Below w.heap.size w w' := by
  obtain ⟨a, cap, rfl, hn⟩ := RdS.len h
  have H := Lib.hid h; clear h
  · skip
    go_enter Tryz.func110, Tryz.ntmps110
    go_wp2
    go_region
    refine name_world ?_
    intro w3 hW3
    have hB3 : Below w.heap.size w w3 := by rw [← hW3]; exact (bal (bal (brf _) _) _).drew
    have hq0 : P7 w3 w.heap.size (.int .i64 1) (.int .i64 n) (.slice a its.length cap) (.int .i64 set) (.int .i64 clr) (.bool to) (str l) := by rw [← hW3]; refine ⟨?_, ?_, ?_, ?_, ?_, ?_, ?_⟩ <;> simp
    have hq1 : P7 w3 (w.heap.size + 1) (.int .i64 1) (.int .i64 n) (.slice none 0 0) (.int .i64 set) (.int .i64 clr) (.bool to) (str l) := by rw [← hW3]; refine ⟨?_, ?_, ?_, ?_, ?_, ?_, ?_⟩ <;> simp
    clear hW3
    have hp0 := Lib.hid hq0
    have hp1 := Lib.hid hq1
    obtain ⟨a0, a1, a2, a3, a4, a5, a6⟩ := hq0
    obtain ⟨b0, b1, b2, b3, b4, b5, b6⟩ := hq1
    go_wp2_with (go_at_call 128; refine (may_any _ _).mono ?_; rintro e w1 ⟨rfl, hb⟩; obtain ⟨a0, a1, a2, a3, a4, a5, a6⟩ := hp0.out.below hb; obtain ⟨b0, b1, b2, b3, b4, b5, b6⟩ := hp1.out.below hb)
    all_goals
      go_ret
      go_light
      refine ⟨congrArg (fun n => Ending.returned (Value.int IntKind.i64 n)) ?_, ?_⟩
      · rw [chkPt1]
        clear hp0 hp1 H
        clear a0 a1 a2 a3 a4 a5 a6 b0 b1 b2 b3 b4 b5 b6
        first | (simp_all [List.length_pos_iff]; done) | (simp_all [List.length_pos_iff]; omega) | grind
      · first | exact hB3 | exact btr hB3 (by assumption)
end Go.Proofs.YtckdlhgeelhnmaaGreat
/- Package op: part, of whatever part. -/
namespace Go.Proofs.YtckdlhgeelhnmaaGreat
open Go.RowKit Go.Mh

set_option maxRecDepth 100000 in
set_option maxHeartbeats 2000000 in
theorem part_cut (F : Nat → Prop) (sv : Value) (n : Int) (its : List It) (set clr : Int) (to : Bool) (l : Bs) (w : World) (h : RItems F w sv its) :
    Calls Tryz.prog 110 #[pv ⟨3, n, its, set, clr, to, l⟩ sv] w fun e w' => e = .returned (.int .i64 (chkPt ⟨3, n, its, set, clr, to, l⟩)) ∧ Below w.heap.size w w' := by
  obtain ⟨a, cap, rfl, hn⟩ := RdS.len h
  clear h
  go_enter Tryz.func110, Tryz.ntmps110
  go_wp2
  all_goals
    go_ret
    go_light
    refine ⟨congrArg (fun n => Ending.returned (Value.int IntKind.i64 n)) ?_, bal (bal (brf _) _) _⟩
    rw [chkPt3]
    first | (simp_all [List.length_pos_iff]; done) | (simp_all [List.length_pos_iff]; omega) | grind

set_option maxRecDepth 100000 in
set_option maxHeartbeats 2000000 in
theorem part_other (F : Nat → Prop) (sv : Value) (k n : Int) (its : List It) (set clr : Int) (to : Bool) (l : Bs) (w : World) (_h : RItems F w sv its) (h1 : ¬k = 1) (h2 : ¬k = 2) (h3 : ¬k = 3) :
    Calls Tryz.prog 110 #[pv ⟨k, n, its, set, clr, to, l⟩ sv] w fun e w' => e = .returned (.int .i64 (chkPt ⟨k, n, its, set, clr, to, l⟩)) ∧ Below w.heap.size w w' := by
  rw [chkPt4 k n its set clr to l h1 h2 h3]
  go_enter Tryz.func110, Tryz.ntmps110
  go_wp2
  all_goals go_ret
  all_goals first | exact ⟨rfl, bal (bal (brf _) _) _⟩ | (exfalso; simp_all; done)

set_option maxRecDepth 100000 in
set_option maxHeartbeats 2000000 in
theorem part_put (F : Nat → Prop) (sv : Value) (n : Int) (its : List It) (set clr : Int) (to : Bool) (l : Bs) (w : World) (h : RItems F w sv its) :
    Calls Tryz.prog 110 #[pv ⟨2, n, its, set, clr, to, l⟩ sv] w fun e w' => e = .returned (.int .i64 (chkPt ⟨2, n, its, set, clr, to, l⟩)) ∧ Below w.heap.size w w' := by
  obtain ⟨a, cap, rfl, hn⟩ := RdS.len h
  have H := Lib.hid h; clear h
  by_cases hbad : its = [] ∨ 80 < its.length
  · have hv : chkPt ⟨2, n, its, set, clr, to, l⟩ = 2 := by rw [chkPt2, if_pos hbad]
    rw [hv]
    rcases hbad with rfl | h80
    · go_enter Tryz.func110, Tryz.ntmps110
      go_wp2
      go_ret
      exact ⟨rfl, bal (bal (brf _) _) _⟩
    · have hz : ((its.length : Int) == 0) = false := by simp; intro e; subst e; simp at h80
      have hz2 : decide ((80 : Int) < its.length) = true := by simp; omega
      go_enter Tryz.func110, Tryz.ntmps110
      go_wp2
      go_ret
      exact ⟨rfl, bal (bal (brf _) _) _⟩
  · have hz : ((its.length : Int) == 0) = false := by simp; intro e; simp [e] at hbad
    have hz2 : decide ((80 : Int) < its.length) = false := by simp; omega
    rw [chkPt2, if_neg hbad]
    clear hbad
    go_enter Tryz.func110, Tryz.ntmps110
    go_wp2_with fail
    refine (items_any F _ its _ (H.out.to (Kp.below (bal (bal (brf _) _) _)))).mono ?_
    rintro e w1 ⟨rfl, hb⟩
    have hB1 : Below w.heap.size w w1 := (bal (bal (brf _) _) _).trans (hb.mono (by simp; omega))
    obtain ⟨a0, a1, a2, a3, a4, a5, a6⟩ : P7 w1 w.heap.size (.int .i64 2) (.int .i64 n) (.slice a its.length cap) (.int .i64 set) (.int .i64 clr) (.bool to) (str l) := by
      refine ⟨?_, ?_, ?_, ?_, ?_, ?_, ?_⟩ <;> (rw [hb.cell (by first | (simp; done) | (simp; omega))]; simp)
    obtain ⟨b0, b1, b2, b3, b4, b5, b6⟩ : P7 w1 (w.heap.size + 1) (.int .i64 2) (.int .i64 0) (.slice none 0 0) (.int .i64 0) (.int .i64 0) (.bool false) (str []) := by
      refine ⟨?_, ?_, ?_, ?_, ?_, ?_, ?_⟩ <;> (rw [hb.cell (by first | (simp; done) | (simp; omega))]; simp)
    clear hb
    go_wp2
    all_goals
      go_ret
      go_light
      refine ⟨congrArg (fun n => Ending.returned (Value.int IntKind.i64 n)) ?_, hB1⟩
      clear H a0 a1 a2 a3 a4 a5 a6 b0 b1 b2 b3 b4 b5 b6
      first | (simp_all; done) | grind

theorem part_any (F : Nat → Prop) (sv : Value) (p : Pt) (w : World) (h : RItems F w sv p.its) :
    Calls Tryz.prog 110 #[pv p sv] w fun e w' => e = .returned (.int .i64 (chkPt p)) ∧ Below w.heap.size w w' := by
  obtain ⟨k, n, its, set, clr, to, l⟩ := p
  by_cases h1 : k = 1
  · subst h1; exact part_keep F sv n its set clr to l w h
  by_cases h2 : k = 2
  · subst h2; exact part_put F sv n its set clr to l w h
  by_cases h3 : k = 3
  · subst h3; exact part_cut F sv n its set clr to l w h
  exact part_other F sv k n its set clr to l w h h1 h2 h3
end Go.Proofs.YtckdlhgeelhnmaaGreat
/- Package op: Check: any operation is checked. -/
namespace Go.Proofs.YtckdlhgeelhnmaaGreat
open Go.RowKit Go.Mh

set_option maxRecDepth 100000 in
set_option maxHeartbeats 2000000 in
theorem opCheck_any (F : Nat → Prop) (v : Value) (L : List Pt) (w : World) (h : ROp F w v L) :
    Calls Tryz.prog 79 #[v] w fun e w' => e = .returned (.int .i64 (chkOp L)) ∧ Below w.heap.size w w' := by
  obtain ⟨a, cap, rfl, hn⟩ := RdS.len h
  have H := Lib.hid h; clear h
  by_cases hmany : L = [] ∨ 40 < L.length
  · rw [chkOp_many hmany]
    rcases hmany with rfl | h40
    · go_enter Tryz.func79, Tryz.ntmps79
      go_wp2
      go_ret
      exact ⟨rfl, brf _⟩
    · have hz : ((L.length : Int) == 0) = false := by simp; intro e; subst e; simp at h40
      have hz2 : decide ((40 : Int) < L.length) = true := by simp; omega
      go_enter Tryz.func79, Tryz.ntmps79
      go_wp2
      go_ret
      exact ⟨rfl, brf _⟩
  · have hbad := Lib.hid (fun hb => chkOp_bad hmany hb)
    have hlast := Lib.hid (fun p hb hp => @chkOp_last L p hmany hb hp)
    have hpos : 0 < L.length := by cases L with | nil => simp at hmany | cons => simp
    have hz : ((L.length : Int) == 0) = false := by simp; intro e; subst e; simp at hpos
    have hz2 : decide ((40 : Int) < L.length) = false := by simp; omega
    clear hmany
    have hpos' := Lib.hid hpos; clear hpos
    go_enter Tryz.func79, Tryz.ntmps79
    go_wp2
    go_loopw [3, 17] (fun n i wr => ∃ (k : Nat) (N : Int), k ≤ L.length ∧ i = .int .i64 k ∧ n = .int .i64 N ∧ 0 ≤ N ∧ N ≤ 80 ∧ Hid (chkPts 0 L = chkPts N (L.drop k)) ∧ Below w.heap.size w wr) (fun _ i _ => L.length - (intOf i).toNat)
    case atStart => exact ⟨0, 0, Nat.zero_le _, rfl, rfl, by omega, by omega, Lib.hid rfl, Below.refl _ _⟩
    case round =>
      obtain ⟨k, N, hk, rfl, rfl, hN0, hN80, hst, hb⟩ := hrel
      by_cases hlt : k < L.length
      · obtain ⟨x, hx⟩ : ∃ x, L[k]? = some x := ⟨_, List.getElem?_eq_getElem hlt⟩
        obtain ⟨b, o, sv, rfl, hits, c0, c1, c2, c3, c4, c5, c6⟩ := ROp.at H.out hb hx
        have hx' := Lib.hid (chkPts_step N hx); clear hx
        obtain ⟨sa, sc, rfl, hsn⟩ := RdS.len hits
        have hI := Lib.hid hits; clear hits
        have hxn := Lib.hid (@chkPt_n x)
        obtain ⟨xk, xn, xits, xset, xclr, xto, xl⟩ := x
        go_wp2_with fail
        refine (part_any F _ ⟨xk, xn, xits, xset, xclr, xto, xl⟩ _ (hI.out.to (Kp.below (bal (brf _) _)))).mono ?_
        rintro e w1 ⟨rfl, hb1⟩
        have hB1 : Below w.heap.size w w1 := (bal hb _).trans (hb1.mono (by have := hb.size; simp; omega))
        have d1 : w1.cell? ⟨wr.heap.size, 1, none⟩ = some (.int .i64 xn) := by rw [hb1.cell (by simp)]; simp
        clear hb1
        by_cases he : chkPt ⟨xk, xn, xits, xset, xclr, xto, xl⟩ = 0
        · obtain ⟨hx0, hx80⟩ := hxn.out he
          rw [he]
          simp only [he, ne_eq, not_true_eq_false, if_false] at hx'
          by_cases h80 : 80 < N + xn
          · have hfin := Lib.hid (hbad.out (by rw [hst.out, hx'.out, if_pos h80]; decide))
            have hfin2 : Hid (chkPts 0 L = 2) := Lib.hid (by rw [hst.out, hx'.out, if_pos h80])
            clear he
            go_wp2
            go_ret
            exact ⟨by rw [hfin.out, hfin2.out]; rfl, hB1⟩
          · have hst' : Hid (chkPts 0 L = chkPts (N + xn) (L.drop (k + 1))) := Lib.hid (by rw [hst.out, hx'.out, if_neg h80])
            clear he
            go_wp2
            go_roundw
            case rel => exact ⟨k + 1, N + xn, by omega, by go_num, rfl, by omega, by omega, hst', hB1⟩
            case measure => simp [intOf]; omega
        · have hne : (chkPt ⟨xk, xn, xits, xset, xclr, xto, xl⟩ != 0) = true := by simpa using he
          have hfin2 : Hid (chkPts 0 L = chkPt ⟨xk, xn, xits, xset, xclr, xto, xl⟩) := Lib.hid (by rw [hst.out, hx'.out, if_pos he])
          have hfin := Lib.hid (hbad.out (by rw [hfin2.out]; exact he))
          clear he
          go_wp2
          go_ret
          exact ⟨by rw [hfin.out, hfin2.out]; rfl, hB1⟩
      · obtain rfl : k = L.length := by omega
        have h0 : Hid (chkPts 0 L = 0) := Lib.hid (by rw [hst.out, List.drop_length]; rfl)
        obtain ⟨x, hx⟩ : ∃ x, L[L.length - 1]? = some x := ⟨_, List.getElem?_eq_getElem (by have := hpos'.out; omega)⟩
        have hfin := Lib.hid (hlast.out x h0.out hx)
        obtain ⟨b, o, sv, rfl, hits, c0, c1, c2, c3, c4, c5, c6⟩ := ROp.at H.out hb hx
        obtain ⟨j, hj⟩ : ∃ j, L.length = j + 1 := ⟨L.length - 1, by have := hpos'.out; omega⟩
        obtain ⟨xk, xn, xits, xset, xclr, xto, xl⟩ := x
        have hj1 : L.length - 1 = j := by omega
        rw [hj1] at c0
        clear hits c1 c2 c3 c4 c5 c6 hst hlast hbad hpos' hx hj1 h0
        have H2 : True := trivial
        clear H
        generalize L.length = n at *
        subst hj
        by_cases hxk : xk = 1
        · have hb1 : (xk != 1) = false := by simpa using hxk
          simp only [hxk, if_true] at hfin
          clear hxk
          go_wp2
          go_ret
          exact ⟨by rw [hfin.out]; rfl, hb⟩
        · have hb1 : (xk != 1) = true := by simpa using hxk
          simp only [hxk, if_false] at hfin
          clear hxk
          go_wp2
          go_ret
          exact ⟨by rw [hfin.out]; rfl, hb⟩
end Go.Proofs.YtckdlhgeelhnmaaGreat
