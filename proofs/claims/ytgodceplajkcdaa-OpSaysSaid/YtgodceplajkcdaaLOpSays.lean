/- The law OpSays, walked. -/
import Derived.Test.YtgodceplajkcdaaOpApply
import Derived.Test.YtgodceplajkcdaaOpTidy
import Derived.Test.YtgodceplajkcdaaOpened
import Derived.Test.YtgodceplajkcdaaEqDoc
import Derived.Test.YtgodceplajkcdaaRefApply
namespace Go.Proofs.Ytgodceplajkcdaa
open Go.RowKit Go.Mh

set_option maxRecDepth 100000 in
set_option maxHeartbeats 8000000 in
theorem opSays_walk (F G K : Nat → Prop) (v u x : Value) (D : List It) (O P : List Pt) (w : World) (h : RItems F w v D) (g : ROp G w u O) (k : ROp K w x P) :
    Calls Try.prog 9 #[v, u, x] w fun e w' => e = .returned (.bool true) ∧ Below w.heap.size w w' := by
  have HD := Lib.hid (fun w' (hb : Below w.heap.size w w') => h.to (Kp.below hb))
  have HO := Lib.hid (fun w' (hb : Below w.heap.size w w') => ROp.to g (Kp.below hb))
  have HP := Lib.hid (fun w' (hb : Below w.heap.size w w') => ROp.to k (Kp.below hb))
  obtain ⟨va, vc, rfl, _⟩ := RdS.len h
  obtain ⟨ua, uc, rfl, _⟩ := RdS.len g
  obtain ⟨xa, xc, rfl, _⟩ := RdS.len k
  clear h g k
  obtain ⟨⟨A1, A2⟩, hA⟩ : ∃ q, applyP D O = q := ⟨_, rfl⟩
  obtain ⟨⟨T1, T2⟩, hT⟩ : ∃ q, tidyP O = q := ⟨_, rfl⟩
  obtain ⟨⟨n1, n2⟩, hN⟩ : ∃ q, longs 0 0 O = q := ⟨_, rfl⟩
  obtain ⟨bad, hbad⟩ : ∃ b, chkOp O = b := ⟨_, rfl⟩
  have hT' := Lib.hid hT
  have hbad' := Lib.hid hbad
  have hB0 : Below w.heap.size w w := brf w
  have C1 := Lib.hid (opApply_any F G _ _ D O w (HD.out w hB0) (HO.out w hB0))
  have C2 := Lib.hid (fun w' hb => opTidy_any G _ O w' (HO.out w' hb))
  have C3 := Lib.hid (fun w' hb => opLong_any G _ O w' (HO.out w' hb))
  have C4 := Lib.hid (fun w' hb => refLong_any G _ O w' (HO.out w' hb))
  have C5 := Lib.hid (fun w' hb => refApplied_any F G _ _ D O w' (HD.out w' hb) (HO.out w' hb))
  have C6 := Lib.hid (fun w' hb => checkOp_any G _ O w' (HO.out w' hb))
  have C8 := Lib.hid (fun w' hb => opCheck_any G _ O w' (HO.out w' hb))
  have C9 := Lib.hid (fun w' hb => opSame_any G K _ _ O P w' (HO.out w' hb) (HP.out w' hb))
  have C10 := Lib.hid (fun w' hb => refSame_any G K _ _ O P w' (HO.out w' hb) (HP.out w' hb))
  simp only [hA, hT, hN, hbad] at C1 C2 C3 C4 C5 C6 C8
  clear hA hN hT hbad
  obtain ⟨same, hsm⟩ : ∃ b : Bool, decide (O = P) = b := ⟨_, rfl⟩
  rw [hsm] at C9 C10
  clear hsm
  go_enter Try.func9, Try.ntmps9
  go_wp2_with fail
  refine C1.out.mono ?_
  rintro e w1 ⟨r1, rfl, hr1, hb1⟩
  obtain ⟨a1, c1, rfl, _⟩ := RdS.len hr1
  have hB1 := hb1
  have H1 := Lib.hid (fun w' (hb : Below w1.heap.size w1 w') => RItems.to hr1 (Kp.below hb))
  clear hr1 C1 hb1
  go_wp2_with fail
  refine (C2.out w1 hB1).mono ?_
  rintro e w2 ⟨r2, rfl, hr2, hb2⟩
  have hr2r : ROp (fun _ => True) w2 r2 T1 := hr2.readT
  obtain ⟨a2, c2, rfl, _⟩ := RdS.len hr2r
  have hB2 := btr hB1 hb2
  have H2 := Lib.hid (fun w' (hb : Below w2.heap.size w2 w') => ROp.to hr2r (Kp.below hb))
  have H1 := Lib.hid (fun w' (hb : Below w2.heap.size w2 w') => H1.out w' (btr hb2 hb))
  clear hr2 hr2r hb2 C2
  go_wp2_with fail
  refine (C3.out w2 hB2).mono ?_
  rintro e w3 ⟨rfl, hb3⟩
  have hB3 := btr hB2 hb3
  clear C3
  go_wp2_with fail
  refine (C4.out w3 hB3).mono ?_
  rintro e w4 ⟨rfl, hb4⟩
  have hB4 := btr hB3 hb4
  have hb24 := btr hb3 hb4
  clear C4 hb3 hb4
  go_wp2_with fail
  refine (C5.out w4 hB4).mono ?_
  rintro e w5 ⟨r5, rfl, hr5, hb5⟩
  obtain ⟨a5, c5, rfl, _⟩ := RdS.len hr5
  have hB5 := btr hB4 hb5
  have hb25 := btr hb24 hb5
  have H5 := Lib.hid (fun w' (hb : Below w5.heap.size w5 w') => RItems.to hr5 (Kp.below hb))
  clear hr5 C5 hb24 hb5
  go_wp2_with fail
  refine (C6.out w5 hB5).mono ?_
  rintro e w6 ⟨rfl, hb6⟩
  have hB6 := btr hB5 hb6
  clear C6
  go_wp2_with fail
  refine (opened_any w6).mono ?_
  rintro e w7 ⟨rfl, hb7⟩
  have hB7 := btr hB6 hb7
  have hb57 := btr hb6 hb7
  clear hb6 hb7
  go_wp2_with fail
  refine (C8.out w7 hB7).mono ?_
  rintro e w8 ⟨rfl, hb8⟩
  have hB8 := btr hB7 hb8
  have hb58 := btr hb57 hb8
  clear C8 hb57 hb8
  go_wp2_with fail
  refine (C9.out w8 hB8).mono ?_
  rintro e w9 ⟨rfl, hb9⟩
  have hB9 := btr hB8 hb9
  have hb59 := btr hb58 hb9
  clear C9 hb58 hb9
  go_wp2_with fail
  refine (C10.out w9 hB9).mono ?_
  rintro e w10 ⟨rfl, hb10⟩
  have hB10 := btr hB9 hb10
  have hb510 := btr hb59 hb10
  clear C10 hb59 hb10
  have hb210 := btr hb25 hb510
  have C11 := Lib.hid (eqDoc_same _ _ _ _ A1 w10 (H1.out w10 hb210) (H5.out w10 hb510))
  have hbb : (same != same) = false := by cases same <;> rfl
  go_wp2_with fail
  refine C11.out.mono ?_
  rintro e w11 ⟨rfl, hb11⟩
  have hB11 := btr hB10 hb11
  have hb211 := btr hb210 hb11
  clear C11 H1 H5 hb11 hb210 hb510 hb25
  by_cases hz : bad = 0
  · subst hz
    have hok := Lib.hid (chkOp_ok hbad'.out)
    have hTe : tidyA (acts O) = T1 ∧ T2 = 0 := by
      have := hT'.out
      unfold tidyP at this
      rw [if_neg (by simpa using hbad'.out), hok.out.made] at this
      simp at this
      exact ⟨this.1, this.2.symm⟩
    obtain ⟨ht1, rfl⟩ := hTe
    have C12 := Lib.hid (refTidyOf_any G _ O w11 (HO.out w11 hB11) hok.out)
    rw [ht1] at C12
    clear ht1 hT'
    go_wp2_with fail
    refine C12.out.mono ?_
    rintro e w12 ⟨r12, rfl, hr12, hb12⟩
    have hB12 := btr hB11 hb12
    have C13 := Lib.hid (refSame_any _ _ _ _ T1 T1 w12 (H2.out w12 (btr hb211 hb12)) hr12)
    rw [decide_eq_true rfl] at C13
    clear C12 hr12
    go_wp2_with fail
    refine C13.out.mono ?_
    rintro e w13 ⟨rfl, hb13⟩
    go_wp2
    go_ret
    exact ⟨rfl, btr hB12 hb13⟩
  · have hTe : T1 = [] ∧ T2 = bad := by
      have := hT'.out
      unfold tidyP at this
      rw [if_pos (by rw [hbad'.out]; exact hz), hbad'.out] at this
      simp at this
      exact ⟨this.1, this.2.symm⟩
    obtain ⟨rfl, rfl⟩ := hTe
    have hz1 : (T2 != 0) = true := by simpa using hz
    clear hz hT' hbad' H2
    go_wp2
    go_ret
    exact ⟨rfl, hB11⟩
end Go.Proofs.Ytgodceplajkcdaa
