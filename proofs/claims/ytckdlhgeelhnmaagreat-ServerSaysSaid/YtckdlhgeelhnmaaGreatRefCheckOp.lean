/- The references on operations: CheckOp: any operation is checked. -/
import Derived.Test.YtckdlhgeelhnmaaGreatMemA
import Derived.Test.YtckdlhgeelhnmaaGreatRefO
namespace Go.Proofs.YtckdlhgeelhnmaaGreat
open Go.RowKit Go.Mh

set_option maxRecDepth 100000 in
set_option maxHeartbeats 2000000 in
theorem checkOp_any (F : Nat → Prop) (v : Value) (L : List Pt) (w : World) (h : ROp F w v L) :
    Calls Tryz.prog 85 #[v] w fun e w' => e = .returned (.int .i64 (chkOp L)) ∧ Below w.heap.size w w' := by
  obtain ⟨a, cap, rfl, hn⟩ := RdS.len h
  have H := Lib.hid h; clear h
  by_cases hmany : L = [] ∨ 40 < L.length
  · rw [chkOp_many hmany]
    rcases hmany with rfl | h40
    · go_enter Tryz.func85, Tryz.ntmps85
      go_wp2
      go_ret
      exact ⟨rfl, brf _⟩
    · have hz : decide ((L.length : Int) < 1) = false := by simp; omega
      have hz2 : decide ((40 : Int) < L.length) = true := by simp; omega
      go_enter Tryz.func85, Tryz.ntmps85
      go_wp2
      go_ret
      exact ⟨rfl, brf _⟩
  · have hbad := Lib.hid (fun hb => chkOp_bad hmany hb)
    have hlast := Lib.hid (fun p hb hp => @chkOp_last L p hmany hb hp)
    have hpos : 0 < L.length := by cases L with | nil => simp at hmany | cons => simp
    have hz : decide ((L.length : Int) < 1) = false := by simp; omega
    have hz2 : decide ((40 : Int) < L.length) = false := by simp; omega
    clear hmany
    have hpos' := Lib.hid hpos; clear hpos
    go_enter Tryz.func85, Tryz.ntmps85
    go_wp2
    go_loopw [3, 17] (fun n i wr => ∃ (k : Nat) (N : Int), k ≤ L.length ∧ i = .int .i64 k ∧ n = .int .i64 N ∧ 0 ≤ N ∧ N ≤ 80 ∧ Hid (chkPts 0 L = chkPts N (L.drop k)) ∧ Below w.heap.size w wr) (fun _ i _ => L.length - (intOf i).toNat)
    case atStart => exact ⟨0, 0, Nat.zero_le _, rfl, rfl, by omega, by omega, Lib.hid rfl, Below.refl _ _⟩
    case round =>
      obtain ⟨k, N, hk, rfl, rfl, hN0, hN80, hst, hb⟩ := hrel
      by_cases hlt : k < L.length
      · obtain ⟨x, hx⟩ : ∃ x, L[k]? = some x := ⟨_, List.getElem?_eq_getElem hlt⟩
        obtain ⟨b, o, sv, rfl, hits, c0, c1, c2, c3, c4, c5, c6⟩ := ROp.at H.out hb hx
        have hx' := Lib.hid (chkPts_step N hx); clear hx
        obtain ⟨sa, sc, rfl, hsn⟩ := RdS.len hits
        have hI := Lib.hid hits; clear hits
        have hxn := Lib.hid (@chkPt_n x)
        obtain ⟨xk, xn, xits, xset, xclr, xto, xl⟩ := x
        go_wp2_with fail
        refine (checkPart_any F _ ⟨xk, xn, xits, xset, xclr, xto, xl⟩ _ (hI.out.to (Kp.below (bal (brf _) _)))).mono ?_
        rintro e w1 ⟨rfl, hb1⟩
        have hB1 : Below w.heap.size w w1 := (bal hb _).trans (hb1.mono (by have := hb.size; simp; omega))
        have d1 : w1.cell? ⟨wr.heap.size, 1, none⟩ = some (.int .i64 xn) := by rw [hb1.cell (by simp)]; simp
        clear hb1
        by_cases he : chkPt ⟨xk, xn, xits, xset, xclr, xto, xl⟩ = 0
        · obtain ⟨hx0, hx80⟩ := hxn.out he
          rw [he]
          simp only [he, ne_eq, not_true_eq_false, if_false] at hx'
          by_cases h80 : 80 < N + xn
          · have hfin := Lib.hid (hbad.out (by rw [hst.out, hx'.out, if_pos h80]; decide))
            have hfin2 : Hid (chkPts 0 L = 2) := Lib.hid (by rw [hst.out, hx'.out, if_pos h80])
            clear he
            go_wp2
            go_ret
            exact ⟨by rw [hfin.out, hfin2.out]; rfl, hB1⟩
          · have hst' : Hid (chkPts 0 L = chkPts (N + xn) (L.drop (k + 1))) := Lib.hid (by rw [hst.out, hx'.out, if_neg h80])
            clear he
            go_wp2
            go_roundw
            case rel => exact ⟨k + 1, N + xn, by omega, by go_num, rfl, by omega, by omega, hst', hB1⟩
            case measure => simp [intOf]; omega
        · have hne : (chkPt ⟨xk, xn, xits, xset, xclr, xto, xl⟩ != 0) = true := by simpa using he
          have hfin2 : Hid (chkPts 0 L = chkPt ⟨xk, xn, xits, xset, xclr, xto, xl⟩) := Lib.hid (by rw [hst.out, hx'.out, if_pos he])
          have hfin := Lib.hid (hbad.out (by rw [hfin2.out]; exact he))
          clear he
          go_wp2
          go_ret
          exact ⟨by rw [hfin.out, hfin2.out]; rfl, hB1⟩
      · obtain rfl : k = L.length := by omega
        have h0 : Hid (chkPts 0 L = 0) := Lib.hid (by rw [hst.out, List.drop_length]; rfl)
        obtain ⟨x, hx⟩ : ∃ x, L[L.length - 1]? = some x := ⟨_, List.getElem?_eq_getElem (by have := hpos'.out; omega)⟩
        have hfin := Lib.hid (hlast.out x h0.out hx)
        obtain ⟨b, o, sv, rfl, hits, c0, c1, c2, c3, c4, c5, c6⟩ := ROp.at H.out hb hx
        obtain ⟨j, hj⟩ : ∃ j, L.length = j + 1 := ⟨L.length - 1, by have := hpos'.out; omega⟩
        obtain ⟨xk, xn, xits, xset, xclr, xto, xl⟩ := x
        have hj1 : L.length - 1 = j := by omega
        rw [hj1] at c0
        clear hits c1 c2 c3 c4 c5 c6 hst hlast hbad hpos' hx hj1 h0
        have H2 : True := trivial
        clear H
        generalize L.length = n at *
        subst hj
        by_cases hxk : xk = 1
        · have hb1 : (xk != 1) = false := by simpa using hxk
          simp only [hxk, if_true] at hfin
          clear hxk
          go_wp2
          go_ret
          exact ⟨by rw [hfin.out]; rfl, hb⟩
        · have hb1 : (xk != 1) = true := by simpa using hxk
          simp only [hxk, if_false] at hfin
          clear hxk
          go_wp2
          go_ret
          exact ⟨by rw [hfin.out]; rfl, hb⟩
end Go.Proofs.YtckdlhgeelhnmaaGreat
