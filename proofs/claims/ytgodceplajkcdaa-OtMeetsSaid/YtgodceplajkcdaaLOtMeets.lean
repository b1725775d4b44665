/- The law OtMeets, walked. -/
import Derived.Test.YtgodceplajkcdaaTurned
import Derived.Test.YtgodceplajkcdaaLDocSays
namespace Go.Proofs.Ytgodceplajkcdaa
open Go.RowKit Go.Mh

set_option maxRecDepth 100000 in
set_option maxHeartbeats 4000000 in
theorem otMeets_walk (F G K : Nat → Prop) (v u s : Value) (D : List It) (a b : List Pt) (w : World) (h : RItems F w v D) (g : ROp G w u a) (k : ROp K w s b) :
    Calls Try.prog 10 #[v, u, s] w fun e w' => e = .returned (.bool true) ∧ Below w.heap.size w w' := by
  have C1 := Lib.hid (opApply_any F G v u D a w h g)
  have C2 := Lib.hid (fun (w' : World) (hb : Below w.heap.size w w') => opApply_any F K v s D b w' (h.to (Kp.below hb)) (ROp.to k (Kp.below hb)))
  have hlaw := Lib.hid (law_meets (d := D) (a := a) (b := b))
  have G' := Lib.hid g
  have K' := Lib.hid k
  clear h g k
  have hoa := Lib.hid (fun h => Applies.of (d := D) (o := a) h)
  have hob := Lib.hid (fun h => Applies.of (d := D) (o := b) h)
  have hea : Hid (Applies D a → (applyP D a).1 = doA D (acts a)) := Lib.hid fun h => by rw [h.eq]
  have heb : Hid (Applies D b → (applyP D b).1 = doA D (acts b)) := Lib.hid fun h => by rw [h.eq]
  go_enter Try.func10, Try.ntmps10
  go_wp2_with fail
  refine C1.out.mono ?_
  rintro e w1 ⟨r1, rfl, hr1, hb1⟩
  have hP := Lib.hid hr1
  clear hr1 C1
  go_wp2_with fail
  refine (C2.out w1 hb1).mono ?_
  rintro e w2 ⟨r2, rfl, hr2, hb2⟩
  have hQ := Lib.hid hr2
  have hP2 := Lib.hid (hP.out.to (Kp.below hb2))
  have hB2 := hb1.trans (hb2.mono hb1.size)
  clear hr2 C2 hP hb1 hb2
  by_cases hap : (applyP D a).2 = 0 ∧ (applyP D b).2 = 0
  · have haa := Lib.hid (hoa.out hap.1)
    have hab := Lib.hid (hob.out hap.2)
    have hl := Lib.hid (hlaw.out haa.out hab.out)
    have ea := hea.out haa.out
    have eb := heb.out hab.out
    rw [ea] at hP2
    rw [eb] at hQ
    rw [hap.1, hap.2]
    clear hap hlaw hea heb hoa hob ea eb
    go_wp2_with fail
    refine (turned_any w2).mono ?_
    rintro e w3 ⟨rfl, hb3⟩
    have hB3 := hB2.trans (hb3.mono hB2.size)
    go_wp2_with fail
    refine (otTurn_any _ _ u s a b w3 (ROp.to G'.out (Kp.below hB3)) (ROp.to K'.out (Kp.below hB3))).mono ?_
    rintro e w4 ⟨r4, s4, rfl, hr4, hs4, hb4⟩
    have hX := Lib.hid hr4
    have hY := Lib.hid hs4
    have hB4 := hB3.trans (hb4.mono hB3.size)
    have hb24 : Below w2.heap.size w2 w4 := hb3.trans (hb4.mono hb3.size)
    clear hr4 hs4 hb3 hb4 hB3 hB2
    by_cases h0 : (turnP a b).2.2 = 0
    · have hl2 : Hid ((applyP (doA D (acts a)) (turnP a b).2.1).2 = (applyP (doA D (acts b)) (turnP a b).1).2 ∧ ((applyP (doA D (acts a)) (turnP a b).2.1).2 = 0 ∨ (applyP (doA D (acts a)) (turnP a b).2.1).2 = 2) ∧ (applyP (doA D (acts a)) (turnP a b).2.1).1 = (applyP (doA D (acts b)) (turnP a b).1).1) := Lib.hid (by
        rcases hl.out with h | ⟨_, h⟩
        · rw [h0] at h; exact absurd h (by decide)
        · exact h)
      rw [h0]
      clear hl h0 haa hab
      generalize (turnP a b).2.1 = Y at *
      generalize (turnP a b).1 = X at *
      generalize doA D (acts a) = P at *
      generalize doA D (acts b) = Q at *
      have C5 := Lib.hid (opApply_any _ _ r1 s4 P Y w4 (hP2.out.to (Kp.below hb24)) hY.out)
      have C6 := Lib.hid (fun (w' : World) (hb : Below w4.heap.size w4 w') => opApply_any _ _ r2 r4 Q X w' (hQ.out.to (Kp.below (hb24.trans (hb.mono hb24.size)))) (ROp.to hX.out (Kp.below hb)))
      obtain ⟨l1, l2, l3⟩ := hl2.out
      rw [l1, l3] at C5
      rw [l1] at l2
      have hl2' := Lib.hid l2
      clear hl2 l1 l2 l3 hP2 hQ hX hY hb24
      generalize applyP Q X = R at *
      obtain ⟨R1, R2⟩ := R
      go_wp2_with fail
      refine C5.out.mono ?_
      rintro e w5 ⟨r5, rfl, hr5, hb5⟩
      have hB5 := hB4.trans (hb5.mono hB4.size)
      have h5 := Lib.hid hr5
      clear hr5 C5
      go_wp2_with fail
      refine (C6.out w5 hb5).mono ?_
      rintro e w6 ⟨r6, rfl, hr6, hb6⟩
      have hB6 := hB5.trans (hb6.mono hB5.size)
      have C7 := Lib.hid (same_any _ _ r5 r6 R1 R1 w6 (h5.out.to (Kp.below hb6)) hr6)
      rw [decide_eq_true rfl] at C7
      clear hr6 h5 C6 hB5 hB4 hb5 hb6
      have hway := hl2'.out
      clear hl2'
      rcases hway with rfl | rfl
      all_goals
        go_wp2_with fail
        refine C7.out.mono ?_
        rintro e w7 ⟨rfl, hb7⟩
        go_wp2
        go_ret
        exact ⟨rfl, hB6.trans (hb7.mono hB6.size)⟩
    · have h2 : (turnP a b).2.2 = 2 := by
        rcases hl.out with h | ⟨h, _⟩
        · exact h
        · rw [h.eq] at h0; exact absurd rfl h0
      rw [h2]
      clear hl h0 haa hab h2
      go_wp2
      go_ret
      exact ⟨rfl, hB4⟩
  · have hbad : ((applyP D a).2 != 0) = true ∨ ((applyP D a).2 != 0) = false ∧ ((applyP D b).2 != 0) = true := by
      by_cases h1 : (applyP D a).2 = 0
      · right; simp [h1] at hap ⊢; exact hap
      · left; simpa using h1
    clear hap hlaw hea heb hoa hob
    generalize (applyP D a).2 = c at *
    generalize (applyP D b).2 = d at *
    rcases hbad with hc | ⟨hc, hd⟩
    all_goals
      go_wp2_with fail
      refine (turned_any w2).mono ?_
      rintro e w3 ⟨rfl, hb3⟩
      have hB3 := hB2.trans (hb3.mono hB2.size)
      go_wp2_with fail
      refine (turned_any w3).mono ?_
      rintro e w4 ⟨rfl, hb4⟩
      go_wp2
      go_ret
      exact ⟨rfl, hB3.trans (hb4.mono hB3.size)⟩
end Go.Proofs.Ytgodceplajkcdaa
