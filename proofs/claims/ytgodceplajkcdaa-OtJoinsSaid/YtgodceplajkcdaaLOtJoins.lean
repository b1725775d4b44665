/- The law OtJoins, walked. -/
import Derived.Test.YtgodceplajkcdaaTurned
import Derived.Test.YtgodceplajkcdaaLDocSays
import Derived.Test.YtgodceplajkcdaaOpSame
namespace Go.Proofs.Ytgodceplajkcdaa
open Go.RowKit Go.Mh

set_option maxRecDepth 100000 in
set_option maxHeartbeats 4000000 in
theorem otJoins_walk (F G K M : Nat → Prop) (v u s t : Value) (D : List It) (a b c : List Pt) (w : World) (h : RItems F w v D) (g : ROp G w u a) (k : ROp K w s b) (m : ROp M w t c) :
    Calls Try.prog 11 #[v, u, s, t] w fun e w' => e = .returned (.bool true) ∧ Below w.heap.size w w' := by
  have C1 := Lib.hid (opApply_any F G v u D a w h g)
  have H := Lib.hid h
  have G' := Lib.hid g
  have K' := Lib.hid k
  have M' := Lib.hid m
  clear h g k m
  have hoa := Lib.hid (fun h => Applies.of (d := D) (o := a) h)
  have hea := Lib.hid (fun h => Applies.eq (d := D) (o := a) h)
  go_enter Try.func11, Try.ntmps11
  go_wp2_with fail
  refine C1.out.mono ?_
  rintro e w1 ⟨r1, rfl, hr1, hb1⟩
  have C2 := Lib.hid (opApply_any _ K r1 s (applyP D a).1 b w1 hr1 (ROp.to K'.out (Kp.below hb1)))
  clear hr1 C1
  go_wp2_with fail
  refine C2.out.mono ?_
  rintro e w2 ⟨r2, rfl, hr2, hb2⟩
  have hQ := Lib.hid hr2
  have hB2 := hb1.trans (hb2.mono hb1.size)
  clear hr2 C2 hb1 hb2
  by_cases hap : (applyP D a).2 = 0 ∧ (applyP (applyP D a).1 b).2 = 0
  · have haa := Lib.hid (hoa.out hap.1)
    have e1 : (applyP D a).1 = doA D (acts a) := by rw [hea.out haa.out]
    rw [hap.1, hap.2]
    obtain ⟨_, h2⟩ := hap
    rw [e1] at h2 hQ
    have hab := Lib.hid (Applies.of h2)
    rw [hab.out.eq] at hQ
    simp only at hQ
    have hl := Lib.hid (law_joins haa.out hab.out)
    clear h2 e1 hea hoa
    go_wp2_with fail
    refine (turned_any w2).mono ?_
    rintro e w3 ⟨rfl, hb3⟩
    have hB3 := hB2.trans (hb3.mono hB2.size)
    go_wp2_with fail
    refine (otJoin_any _ _ u s a b w3 (ROp.to G'.out (Kp.below hB3)) (ROp.to K'.out (Kp.below hB3))).mono ?_
    rintro e w4 ⟨r4, rfl, hr4, hb4⟩
    have hJ := Lib.hid hr4
    have hB4 := hB3.trans (hb4.mono hB3.size)
    have hQ4 := Lib.hid (hQ.out.to (Kp.below (hb3.trans (hb4.mono hb3.size))))
    clear hr4 hb3 hb4 hB3 hB2 hQ
    by_cases h0 : (joinP a b).2 = 0
    · obtain ⟨j1, j2, j3⟩ : Joins a b ∧ Applies D (joinP a b).1 ∧ doA D (acts (joinP a b).1) = doA (doA D (acts a)) (acts b) := by
        rcases hl.out with h | h
        · rw [h0] at h; exact absurd h (by decide)
        · exact h
      rw [h0]
      have hj1 := Lib.hid j1
      have C5 := Lib.hid (opApply_any F _ v r4 D (joinP a b).1 w4 (H.out.to (Kp.below hB4)) hJ.out)
      rw [j2.eq, j3] at C5
      simp only at C5
      have hj2 := Lib.hid j2
      have hj3 := Lib.hid j3
      clear hl h0 j1 j2 j3
      generalize doA (doA D (acts a)) (acts b) = Q at *
      go_wp2_with fail
      refine C5.out.mono ?_
      rintro e w5 ⟨r5, rfl, hr5, hb5⟩
      have hB5 := hB4.trans (hb5.mono hB4.size)
      have hQ5 := Lib.hid (hQ4.out.to (Kp.below hb5))
      have hJ5 := Lib.hid (ROp.to hJ.out (Kp.below hb5))
      have C6 := Lib.hid (same_any _ _ r5 r2 Q Q w5 hr5 hQ5.out)
      rw [decide_eq_true rfl] at C6
      clear hr5 C5 hB4 hQ4 hb5 hJ
      go_wp2_with fail
      refine C6.out.mono ?_
      rintro e w6 ⟨rfl, hb6⟩
      have hB6 := hB5.trans (hb6.mono hB5.size)
      have hQ6 := Lib.hid (hQ5.out.to (Kp.below hb6))
      have hJ6 := Lib.hid (ROp.to hJ5.out (Kp.below hb6))
      clear C6 hB5 hQ5 hb6 hJ5
      go_wp2_with fail
      refine (opApply_any _ M r2 t Q c w6 hQ6.out (ROp.to M'.out (Kp.below hB6))).mono ?_
      rintro e w7 ⟨r7, rfl, hr7, hb7⟩
      have hB7 := hB6.trans (hb7.mono hB6.size)
      have hU := Lib.hid hr7
      have hJ7 := Lib.hid (ROp.to hJ6.out (Kp.below hb7))
      clear hr7 hB6 hQ6 hb7 hJ6
      by_cases hc : (applyP Q c).2 = 0
      · rw [hc]
        have hqc := Lib.hid (Applies.of hc)
        rw [hqc.out.eq] at hU
        simp only at hU
        clear hc
        go_wp2_with fail
        refine (otJoin_any _ _ s t b c w7 (ROp.to K'.out (Kp.below hB7)) (ROp.to M'.out (Kp.below hB7))).mono ?_
        rintro e w8 ⟨r8, rfl, hr8, hb8⟩
        have hB8 := hB7.trans (hb8.mono hB7.size)
        have hBC := Lib.hid hr8
        have hJ8 := Lib.hid (ROp.to hJ7.out (Kp.below hb8))
        have hU8 := Lib.hid (hU.out.to (Kp.below hb8))
        clear hr8 hB7 hb8 hJ7 hU
        go_wp2_with fail
        refine (otJoin_any _ _ r4 t (joinP a b).1 c w8 hJ8.out (ROp.to M'.out (Kp.below hB8))).mono ?_
        rintro e w9 ⟨r9, rfl, hr9, hb9⟩
        have hB9 := hB8.trans (hb9.mono hB8.size)
        have hJC := Lib.hid hr9
        have hBC9 := Lib.hid (ROp.to hBC.out (Kp.below hb9))
        have hU9 := Lib.hid (hU8.out.to (Kp.below hb9))
        clear hr9 hB8 hb9 hJ8 hU8 hBC
        by_cases hk : (joinP b c).2 = 0 ∧ (joinP (joinP a b).1 c).2 = 0
        · have hjb := Joins.of hk.1
          have hjm := Joins.of hk.2
          have h3 := law_joins3 hj1.out hjb hjm
          have C10 := Lib.hid (otJoin_any _ _ u r8 a (joinP b c).1 w9 (ROp.to G'.out (Kp.below hB9)) hBC9.out)
          rw [h3] at C10
          obtain ⟨x, hx⟩ : ∃ x, (joinP (joinP a b).1 c).1 = x := ⟨_, rfl⟩
          rcases law_joins (d := D) (a := (joinP a b).1) (b := c) hj2.out (by rw [hj3.out]; exact hqc.out) with h2 | ⟨_, l2, l3⟩
          · rw [hk.2] at h2; exact absurd h2 (by decide)
          have C11 := Lib.hid (fun (w' : World) (hb : Below w9.heap.size w9 w') => opApply_any F _ v r9 D (joinP (joinP a b).1 c).1 w' (H.out.to (Kp.below (hB9.trans (hb.mono hB9.size)))) (ROp.to hJC.out (Kp.below hb)))
          rw [l2.eq, l3, hj3.out] at C11
          simp only at C11
          rw [hk.2] at C10
          rw [hk.1, hk.2]
          rw [hx] at C10 hJC
          clear hk hjb hjm h3 hx l2 l3 hj1 hj2 hj3 hqc haa hab hBC9
          generalize doA Q (acts c) = U at *
          go_wp2_with fail
          refine C10.out.mono ?_
          rintro e w10 ⟨r10, rfl, hr10, hb10⟩
          have hB10 := hB9.trans (hb10.mono hB9.size)
          have hN := Lib.hid hr10
          clear hr10 C10
          go_wp2_with fail
          refine (C11.out w10 hb10).mono ?_
          rintro e w11 ⟨r11, rfl, hr11, hb11⟩
          have hB11 := hB10.trans (hb11.mono hB10.size)
          have hb911 : Below w9.heap.size w9 w11 := hb10.trans (hb11.mono hb10.size)
          have C12 := Lib.hid (opSame_any _ _ r10 r9 x x w11 (ROp.to hN.out (Kp.below hb11)) (ROp.to hJC.out (Kp.below hb911)))
          have C13 := Lib.hid (fun (w' : World) (hb : Below w11.heap.size w11 w') => same_any _ _ r11 r7 U U w' (hr11.to (Kp.below hb)) (hU9.out.to (Kp.below (hb911.trans (hb.mono hb911.size)))))
          rw [decide_eq_true rfl] at C12 C13
          clear hr11 C11 hB10 hB9 hb10 hb11 hb911
          go_wp2_with fail
          refine C12.out.mono ?_
          rintro e w12 ⟨rfl, hb12⟩
          have hB12 := hB11.trans (hb12.mono hB11.size)
          go_wp2_with fail
          refine (C13.out w12 hb12).mono ?_
          rintro e w13 ⟨rfl, hb13⟩
          go_wp2
          go_ret
          exact ⟨rfl, hB12.trans (hb13.mono hB12.size)⟩
        · have hbad : ((joinP b c).2 != 0) = true ∨ ((joinP b c).2 != 0) = false ∧ ((joinP (joinP a b).1 c).2 != 0) = true := by
            by_cases h1 : (joinP b c).2 = 0
            · right; simp [h1] at hk ⊢; exact hk
            · left; simpa using h1
          clear hk hj1 hj2 hj3 hqc haa hab hBC9 hJC
          generalize (joinP b c).2 = x at *
          generalize (joinP (joinP a b).1 c).2 = y at *
          rcases hbad with hc | ⟨hc, hd⟩
          all_goals
            go_wp2
            go_ret
            exact ⟨rfl, hB9⟩
      · have hc' : ((applyP Q c).2 != 0) = true := by simpa using hc
        clear hc hU
        generalize (applyP Q c).2 = x at *
        go_wp2
        go_ret
        exact ⟨rfl, hB7⟩
    · have h2 : (joinP a b).2 = 2 := by
        rcases hl.out with h | ⟨h, _⟩
        · exact h
        · rw [h.eq] at h0; exact absurd rfl h0
      rw [h2]
      clear hl h0 haa hab h2
      go_wp2
      go_ret
      exact ⟨rfl, hB4⟩
  · have hbad : ((applyP D a).2 != 0) = true ∨ ((applyP D a).2 != 0) = false ∧ ((applyP (applyP D a).1 b).2 != 0) = true := by
      by_cases h1 : (applyP D a).2 = 0
      · right; simp [h1] at hap ⊢; exact hap
      · left; simpa using h1
    clear hap hea hoa hQ
    generalize (applyP (applyP D a).1 b).2 = d at *
    generalize (applyP D a).2 = c at *
    rcases hbad with hc | ⟨hc, hd⟩
    all_goals
      go_wp2_with fail
      refine (turned_any w2).mono ?_
      rintro e w3 ⟨rfl, hb3⟩
      have hB3 := hB2.trans (hb3.mono hB2.size)
      go_wp2_with fail
      refine (turned_any w3).mono ?_
      rintro e w4 ⟨rfl, hb4⟩
      go_wp2
      go_ret
      exact ⟨rfl, hB3.trans (hb4.mono hB3.size)⟩
end Go.Proofs.Ytgodceplajkcdaa
