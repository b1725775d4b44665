/- The law SanitizeBack, walked. -/
import Derived.Test.YtjbidchdjpmonaaDoorBy
namespace Go.Proofs.YtjbidchdjpmonaaDoor
open Go.RowKit Go.Mh

set_option maxRecDepth 1000000 in
set_option maxHeartbeats 8000000 in
theorem sanitizeBack_walk (F G : Nat → Prop) (v u : Value) (B : Bs) (L : List It) (w : World) (hm : ∃ m, w.cell? ⟨0, 0, none⟩ = some (.int .i64 m)) (h : RBytes F w v B) (_z : B.length ≤ 140737488351232) (g : RItems G w u L) :
    Calls Tryd.prog 13 #[v, u] w fun e w' => e = .returned (.bool true) ∧ Below w.heap.size w w' := by
  have hM := Lib.hid (fun w' (hb : Below w.heap.size w w') => somec hm hb)
  have H1 := Lib.hid (fun w' (hb : Below w.heap.size w w') => RBytes.to (F' := fun _ => True) h (fun k hk hlt => ⟨trivial, hb.block k hlt⟩))
  have H2 := Lib.hid (fun w' (hb : Below w.heap.size w w') => RItems.to (F' := fun _ => True) g (fun k hk hlt => ⟨trivial, hb.block k hlt⟩))
  obtain ⟨a, ac, rfl, _⟩ := RdS.len h
  obtain ⟨b, bc, rfl, _⟩ := RdS.len g
  clear h g hm
  have E := Lib.hid (fun w' hb => exportPage_any (fun _ => True) _ L w' (H2.out w' hb) (hM.out w' hb))
  have SB := Lib.hid (fun w' hb => sanPage_any (fun _ => True) _ B w' (H1.out w' hb) (hM.out w' hb))
  have hB1 := sanP_err B
  have hB2 := law_sane B
  obtain ⟨P, hP⟩ : ∃ P, sanP B = P := ⟨_, rfl⟩
  rw [hP] at hB1 hB2 SB
  obtain ⟨D, q⟩ := P
  simp only at hB1 hB2
  have hB1' := Lib.hid hB1
  have hB2' := Lib.hid hB2
  clear hP hB1 hB2 H1
  obtain ⟨ce, hce⟩ : ∃ c, chkDoc L = c := ⟨_, rfl⟩
  obtain ⟨X, hX⟩ : ∃ X, exportP L = X := ⟨_, rfl⟩
  have hX1 := Lib.hid (show ce = 0 → X = (pageX L, 0) ∧ sanP (pageX L) = (L, 0) ∧ (pageX L).length ≤ 20000 from fun e => by
    rw [← hce] at e
    exact ⟨by rw [← hX]; unfold exportP; rw [if_pos e], law_backP e, by have := pageX_len e; omega⟩)
  have hX2 := Lib.hid (show ce ≠ 0 → X.2 ≠ 0 from fun e => by
    rw [← hce] at e
    rw [← hX]; unfold exportP; rw [if_neg e]; exact e)
  rw [hX] at E
  clear hX hce
  obtain ⟨X, xe⟩ := X
  go_enter Tryd.func13, Tryd.ntmps13
  go_wp2_with fail
  refine (E.out _ (brf _)).mono ?_
  rintro e w1 ⟨rfl, hb1⟩
  clear E
  have hb1' := Lib.hid hb1
  clear hb1
  go_upto_if 20 with fail
  go_cut [20] (fun v wx => v = v ∧ Below w.heap.size w wx)
  case first =>
    by_cases h0 : ce = 0
    · obtain ⟨e1, e2, e3⟩ := hX1.out h0
      simp only [Prod.mk.injEq] at e1
      obtain ⟨rfl, rfl⟩ := e1
      have e2' := Lib.hid e2
      generalize pageX L = X at *
      clear hX1 hX2 h0 e2
      go_wp2_with (refine wpList_bytes_rd _ rfl 9 47 _ rfl 5 Tryd.underlying9 Tryd.underlying47 Tryd.underlying5 X (by simp [maxLen]; omega) rfl ?_; intro w2 cap hx2 hb2)
      have hB2 := btr hb1'.out hb2
      have C := Lib.hid (sanPage_p (L, 0) e2'.out hx2 (hM.out _ hB2))
      clear hx2 hb2
      go_wp2_with fail
      refine C.out.mono ?_
      rintro e w3 ⟨r, rfl, hr, hb3⟩
      obtain ⟨ra, rc, rfl, _⟩ := RdS.len hr
      have hB3 := btr hB2 hb3
      have hr' := Lib.hid hr
      clear C hr hb3 hB2
      go_wp2_with fail
      refine (same_any _ (fun _ => True) _ _ L L w3 hr'.out (H2.out _ hB3)).mono ?_
      rintro e w4 ⟨rfl, hb4⟩
      rw [decide_eq_true rfl]
      go_wp2
      go_meet
      exact ⟨trivial, btr hB3 hb4⟩
    · have hne : (xe == 0) = false := by simpa using hX2.out h0
      clear hX1 hX2 h0
      go_wp2
      go_meet
      exact ⟨trivial, hb1'.out⟩
  case rest =>
    obtain ⟨_, hb2⟩ := hcut
    clear hX1 hX2 H2 hb1'
    go_wp2_with fail
    refine (SB.out _ hb2).mono ?_
    rintro e w3 ⟨r, rfl, hr, hb3⟩
    obtain ⟨ra, rc, rfl, _⟩ := RdS.len hr
    have hB3 := btr hb2 hb3
    have HR := Lib.hid (fun w' (hb : Below w3.heap.size w3 w') => RItems.to (F' := fun _ => True) hr (fun k hk hlt => ⟨trivial, hb.block k hlt⟩))
    clear hr hb3 hb2 SB
    go_wp2_with fail
    refine (paged_any _ (hM.out _ hB3)).mono ?_
    rintro e w4 ⟨rfl, hb4⟩
    have hB4 := btr hB3 hb4
    by_cases hq : q = 0
    · have hc := hB2'.out hq
      subst hq
      have E2 := Lib.hid (fun w' hb => exportPage_p (pageX D, 0) (show exportP D = _ from if_pos hc) (HR.out w' hb) (hM.out w' (btr hB3 hb)))
      have S2 := Lib.hid (law_backP hc)
      have hpl := pageX_len hc
      have hc' := Lib.hid hc
      generalize pageX D = Y at *
      clear hc hB1' hB2'
      go_wp2_with fail
      refine (E2.out _ hb4).mono ?_
      rintro e w5 ⟨rfl, hb5⟩
      have hq5 := btr hb4 hb5
      clear hb4 hb5 hB4 E2
      go_wp2_with (refine wpList_bytes_rd _ rfl 9 47 _ rfl 5 Tryd.underlying9 Tryd.underlying47 Tryd.underlying5 Y (by simp [maxLen]; omega) rfl ?_; intro w6 cap hx6 hb6)
      have hq6 := btr hq5 hb6
      have C := Lib.hid (sanPage_p (D, 0) S2.out hx6 (hM.out _ (btr hB3 hq6)))
      clear hx6 hb6 hq5
      go_wp2_with fail
      refine C.out.mono ?_
      rintro e w7 ⟨r, rfl, hr, hb7⟩
      obtain ⟨sa, sc, rfl, _⟩ := RdS.len hr
      have hq7 := btr hq6 hb7
      have hr' := Lib.hid (fun w' (hb : Below w7.heap.size w7 w') => RItems.to (F' := fun _ => True) hr (fun k hk hlt => ⟨trivial, hb.block k hlt⟩))
      clear C hr hb7 hq6
      go_wp2_with fail
      refine (check_any _ _ D w7 (HR.out _ hq7)).mono ?_
      rintro e w8 ⟨rfl, hb8⟩
      rw [hc'.out]
      go_wp2_with fail
      refine (same_any _ _ _ _ D D w8 (hr'.out _ hb8) (HR.out _ (btr hq7 hb8))).mono ?_
      rintro e w9 ⟨rfl, hb9⟩
      rw [decide_eq_true rfl]
      go_wp2
      go_ret
      exact ⟨rfl, btr hB3 (btr (btr hq7 hb8) hb9)⟩
    · have hq' : (q != 0) = true := by simpa using hq
      clear hq hB1' hB2' HR
      go_wp2_with fail
      refine (paged_any _ (hM.out _ hB4)).mono ?_
      rintro e w5 ⟨rfl, hb5⟩
      go_wp2
      go_ret
      exact ⟨rfl, btr hB4 hb5⟩
end Go.Proofs.YtjbidchdjpmonaaDoor
