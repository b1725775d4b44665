/- The law OtNothing, walked. -/
import Derived.Test.YtgodceplajkcdaaTurned
import Derived.Test.YtgodceplajkcdaaLOpNothing
import Derived.Test.YtgodceplajkcdaaOpSame
namespace Go.Proofs.Ytgodceplajkcdaa
open Go.RowKit Go.Mh

set_option maxRecDepth 100000 in
set_option maxHeartbeats 4000000 in
theorem otNothing_walk (F : Nat → Prop) (v : Value) (o : List Pt) (w : World) (h : ROp F w v o) :
    Calls Try.prog 12 #[v] w fun e w' => e = .returned (.bool true) ∧ Below w.heap.size w w' := by
  have C1 := Lib.hid (opTidy_any F v o w h)
  have H := Lib.hid h
  clear h
  go_enter Try.func12, Try.ntmps12
  go_wp2_with fail
  refine C1.out.mono ?_
  rintro e w1 ⟨r1, rfl, hr1, hb1⟩
  obtain ⟨a1, c1, rfl, _⟩ := RdS.len hr1.rd
  have hT := Lib.hid hr1.readT
  clear hr1 C1
  by_cases hc : chkOp o = 0
  · have et : tidyP o = (madeP o, 0) := by simp [tidyP, hc]
    rw [et] at hT ⊢
    have hc' := Lib.hid hc
    have hlaw := Lib.hid (law_ot_nothing hc)
    have hL := Lib.hid (chkOp_ok hc)
    have elong := Lib.hid (hL.out.longs)
    have hf1 := hL.out.fin.frm
    have hf80 := hL.out.frm
    clear hc et
    generalize hM : madeP o = M at *
    clear hM
    simp only at hT ⊢
    go_wp2_with fail
    refine (turned_any w1).mono ?_
    rintro e w2 ⟨rfl, hb2⟩
    have hB2 := hb1.trans (hb2.mono hb1.size)
    have hT2 := Lib.hid (ROp.to hT.out (Kp.below hb2))
    clear hT hb1 hb2
    go_wp2_with fail
    refine (opCheck_any _ _ M w2 hT2.out).mono ?_
    rintro e w3 ⟨rfl, hb3⟩
    have hB3 := hB2.trans (hb3.mono hB2.size)
    have hT3 := Lib.hid (ROp.to hT2.out (Kp.below hb3))
    clear hT2 hB2 hb3
    by_cases hm : chkOp M = 0
    · have hm' := Lib.hid hm
      rw [hm]
      clear hm
      go_wp2_with fail
      refine (opLong_any F _ o w3 (ROp.to H.out (Kp.below hB3))).mono ?_
      rintro e w4 ⟨rfl, hb4⟩
      rw [elong.out]
      have hB4 := hB3.trans (hb4.mono hB3.size)
      have hT4 := Lib.hid (ROp.to hT3.out (Kp.below hb4))
      clear hT3 hB3 hb4 elong hL
      generalize frm (acts o) = n at *
      generalize too (acts o) = m at *
      have b1 : decide ((n : Int) < 1) = false := by simp; omega
      by_cases h80 : m ≤ 80
      · have b2 : decide ((80 : Int) < (m : Int)) = false := by simp; omega
        obtain ⟨l1, l2, l3⟩ := hlaw.out hm'.out h80
        have hl1 := Lib.hid l1
        have hl2 := Lib.hid l2
        have hl3 := Lib.hid l3
        clear h80 hlaw l1 l2 l3
        go_wp2_with fail
        have hk5 : Below w4.heap.size w4 (w4.alloc (.cells #[.int .i64 1, .int .i64 n, .slice none 0 0, .int .i64 0, .int .i64 0, .bool false, .string ⟨#[]⟩] 57)) := bal (brf w4) _
        have hB5 := hB4.trans (hk5.mono hB4.size)
        have C5 := Lib.hid (otTurn_any F _ v _ o (keepAll n) _ (ROp.to H.out (Kp.below hB5)) (rop_keep n w4))
        rw [hl1.out] at C5
        refine C5.out.mono ?_
        rintro e w6 ⟨x6, y6, rfl, hx6, hy6, hb6⟩
        obtain ⟨xa, xc, rfl, _⟩ := RdS.len hx6
        obtain ⟨ya, yc, rfl, _⟩ := RdS.len hy6
        have hb46 := hk5.trans (hb6.mono hk5.size)
        have hB6 := hB4.trans (hb46.mono hB4.size)
        have hX6 := Lib.hid hx6
        have hY6 := Lib.hid hy6
        have hT6 := Lib.hid (ROp.to hT4.out (Kp.below hb46))
        clear hx6 hy6 C5 hb6 hk5 hb46 hB5 hB4 hT4 hl1
        go_wp2_with fail
        have hk7 : Below w6.heap.size w6 (w6.alloc (.cells #[.int .i64 1, .int .i64 m, .slice none 0 0, .int .i64 0, .int .i64 0, .bool false, .string ⟨#[]⟩] 57)) := bal (brf w6) _
        have hB7 := hB6.trans (hk7.mono hB6.size)
        have C7 := Lib.hid (otJoin_any F _ v _ o (keepAll m) _ (ROp.to H.out (Kp.below hB7)) (rop_keep m w6))
        rw [hl2.out] at C7
        refine C7.out.mono ?_
        rintro e w8 ⟨x8, rfl, hx8, hb8⟩
        obtain ⟨za, zc, rfl, _⟩ := RdS.len hx8
        have hb68 := hk7.trans (hb8.mono hk7.size)
        have hB8 := hB6.trans (hb68.mono hB6.size)
        have hJ8 := Lib.hid hx8
        have hX8 := Lib.hid (ROp.to hX6.out (Kp.below hb68))
        have hY8 := Lib.hid (ROp.to hY6.out (Kp.below hb68))
        have hT8 := Lib.hid (ROp.to hT6.out (Kp.below hb68))
        clear hx8 C7 hb8 hk7 hb68 hB7 hB6 hT6 hX6 hY6 hl2
        go_wp2_with fail
        have hk9 : Below w8.heap.size w8 (w8.alloc (.cells #[.int .i64 1, .int .i64 n, .slice none 0 0, .int .i64 0, .int .i64 0, .bool false, .string ⟨#[]⟩] 57)) := bal (brf w8) _
        have hB9 := hB8.trans (hk9.mono hB8.size)
        have C9 := Lib.hid (otJoin_any _ F _ v (keepAll n) o _ (rop_keep n w8) (ROp.to H.out (Kp.below hB9)))
        rw [hl3.out] at C9
        refine C9.out.mono ?_
        rintro e w10 ⟨x10, rfl, hx10, hb10⟩
        obtain ⟨ka, kc, rfl, _⟩ := RdS.len hx10
        have hb810 := hk9.trans (hb10.mono hk9.size)
        have hB10 := hB8.trans (hb810.mono hB8.size)
        have hK10 := Lib.hid hx10
        have hX10 := Lib.hid (ROp.to hX8.out (Kp.below hb810))
        have hY10 := Lib.hid (ROp.to hY8.out (Kp.below hb810))
        have hJ10 := Lib.hid (ROp.to hJ8.out (Kp.below hb810))
        have hT10 := Lib.hid (ROp.to hT8.out (Kp.below hb810))
        clear hx10 C9 hb10 hk9 hb810 hB9 hB8 hT8 hX8 hY8 hJ8 hl3
        have S1 := Lib.hid (fun (w' : World) (hb : Below w10.heap.size w10 w') => opSame_any _ _ _ _ M M w' (ROp.to hX10.out (Kp.below hb)) (ROp.to hT10.out (Kp.below hb)))
        have S2 := Lib.hid (fun (w' : World) (hb : Below w10.heap.size w10 w') => opSame_any _ _ _ _ M M w' (ROp.to hJ10.out (Kp.below hb)) (ROp.to hT10.out (Kp.below hb)))
        have S3 := Lib.hid (fun (w' : World) (hb : Below w10.heap.size w10 w') => opSame_any _ _ _ _ M M w' (ROp.to hK10.out (Kp.below hb)) (ROp.to hT10.out (Kp.below hb)))
        rw [decide_eq_true rfl] at S1 S2 S3
        go_wp2_with fail
        refine (S1.out w10 (Below.refl _ _)).mono ?_
        rintro e w11 ⟨rfl, hb11⟩
        go_wp2_with fail
        refine (S2.out w11 hb11).mono ?_
        rintro e w12 ⟨rfl, hb12⟩
        have hE12 : Below w10.heap.size w10 w12 := hb11.trans (hb12.mono hb11.size)
        go_wp2_with fail
        refine (S3.out w12 hE12).mono ?_
        rintro e w13 ⟨rfl, hb13⟩
        have hE13 : Below w10.heap.size w10 w13 := hE12.trans (hb13.mono hE12.size)
        have hB13 := hB10.trans (hE13.mono hB10.size)
        obtain ⟨by', oy, sy, ey, _, y0, y1, y2, y3, y4, y5, y6⟩ := ROp.at hY10.out hE13 (show (keepAll m)[0]? = some (keepP kd0 m) from rfl)
        subst ey
        have y1' : w13.cell? ⟨by', oy + 1, none⟩ = some (.int .i64 m) := by simpa [keepP] using y1
        have hlen : (keepAll m).length = 1 := rfl
        rw [hlen]
        clear y0 y1 y2 y3 y4 y5 y6 S1 S2 S3 hX10 hY10 hJ10 hK10 hT10 hE12 hE13 hb11 hb12 hb13 hB10
        go_wp2
        go_ret
        exact ⟨rfl, hB13⟩
      · have b2 : decide ((80 : Int) < (m : Int)) = true := by simp; omega
        clear h80 hlaw
        go_wp2
        go_ret
        exact ⟨rfl, hB4⟩
    · have hm' : (chkOp M != 0) = true := by simpa using hm
      clear hm hlaw
      generalize chkOp M = x at *
      go_wp2_with fail
      refine (turned_any w3).mono ?_
      rintro e w4 ⟨rfl, hb4⟩
      go_wp2
      go_ret
      exact ⟨rfl, hB3.trans (hb4.mono hB3.size)⟩
  · have et : tidyP o = ([], chkOp o) := by simp [tidyP, hc]
    rw [et] at hT ⊢
    have hc' : (chkOp o != 0) = true := by simpa using hc
    clear hc et hT
    simp only
    generalize chkOp o = x at *
    go_wp2_with fail
    refine (turned_any w1).mono ?_
    rintro e w2 ⟨rfl, hb2⟩
    have hB2 := hb1.trans (hb2.mono hb1.size)
    go_wp2_with fail
    refine (turned_any w2).mono ?_
    rintro e w3 ⟨rfl, hb3⟩
    go_wp2
    go_ret
    exact ⟨rfl, hB2.trans (hb3.mono hB2.size)⟩
end Go.Proofs.Ytgodceplajkcdaa
