/- Package op: Apply. -/
import Derived.Test.YtckdlhgeelhnmaaGreatOpDo
import Derived.Test.YtckdlhgeelhnmaaGreatOpLong
import Derived.Test.YtckdlhgeelhnmaaGreatOpC
import Derived.Test.YtckdlhgeelhnmaaGreatDoc
namespace Go.Proofs.YtckdlhgeelhnmaaGreat
open Go.RowKit Go.Mh

set_option maxRecDepth 100000 in
set_option maxHeartbeats 2000000 in
theorem opApply_any (F G : Nat → Prop) (v u : Value) (D : List It) (L : List Pt) (w : World) (h : RItems F w v D) (g : ROp G w u L) :
    Calls Tryz.prog 46 #[v, u] w fun e w' => ∃ r, e = .returned (.tuple #[r, .int .i64 (applyP D L).2]) ∧ RItems (w.heap.size ≤ ·) w' r (applyP D L).1 ∧ Below w.heap.size w w' := by
  obtain ⟨a, cap, rfl, hn⟩ := RdS.len h
  obtain ⟨a', cap', rfl, hn'⟩ := RdS.len g
  have H := Lib.hid h; clear h
  have G' := Lib.hid g; clear g
  have hres : ∃ r, Hid (applyP D L = r) := ⟨_, Lib.hid rfl⟩
  obtain ⟨res, hres⟩ := hres
  rw [hres.out]
  unfold applyP at hres
  go_enter Tryz.func46, Tryz.ntmps46
  go_wp2_with fail
  refine (check_any F _ D w H.out).mono ?_
  rintro e w1 ⟨rfl, hb1⟩
  by_cases h1 : chkDoc D = 0
  · have hres1 := hres.out
    rw [if_neg (by simpa using h1)] at hres1
    have H1 := Lib.hid (H.out.to (Kp.below hb1))
    have G1 := Lib.hid (ROp.to G'.out (Kp.below hb1))
    have hr1 := Lib.hid hres1
    clear hres1 hres
    rw [h1]
    clear h1
    go_wp2_with fail
    refine (opCheck_any G _ L w1 G1.out).mono ?_
    rintro e w2 ⟨rfl, hb2⟩
    by_cases h2 : chkOp L = 0
    · have hres2 := hr1.out
      rw [if_neg (by simpa using h2)] at hres2
      have hok := Lib.hid (chkOp_ok h2)
      have H2 := Lib.hid (H1.out.to (Kp.below hb2))
      have G2 := Lib.hid (ROp.to G1.out (Kp.below hb2))
      have hr2 := Lib.hid hres2
      clear hres2 hr1
      rw [h2]
      clear h2
      go_wp2_with fail
      refine (opLong_any G _ L w2 G2.out).mono ?_
      rintro e w3 ⟨rfl, hb3⟩
      rw [hok.out.longs]
      have hB3 : Below w.heap.size w w3 := (hb1.trans (hb2.mono hb1.size)).trans (hb3.mono (Nat.le_trans hb1.size hb2.size))
      by_cases h3 : frm (acts L) = D.length
      · by_cases h4 : 80 < too (acts L)
        · have hres3 := hr2.out
          rw [if_neg (by simpa using h3), if_pos h4] at hres3
          subst hres3
          have h3' : ((frm (acts L) : Int) != (D.length : Int)) = false := by simp; omega
          clear h3 hr2
          generalize frm (acts L) = fr at *
          generalize too (acts L) = tt at *
          go_wp2
          go_ret2
          exact ⟨.slice none 0 0, rfl, RdS.nil, hB3⟩
        · have hres3 := hr2.out
          rw [if_neg (by simpa using h3), if_neg h4] at hres3
          subst hres3
          have H3 := Lib.hid (H2.out.to (Kp.below hb3))
          have G3 := Lib.hid (ROp.to G2.out (Kp.below hb3))
          have C := Lib.hid (opDo_any F G _ _ D L w3 H3.out G3.out hok.out h3 (by omega))
          have h3' : ((frm (acts L) : Int) != (D.length : Int)) = false := by simp; omega
          clear h3 hr2 hok
          generalize frm (acts L) = fr at *
          generalize too (acts L) = tt at *
          go_wp2_with fail
          refine C.out.mono ?_
          rintro e w4 ⟨r, rfl, hr, hb4⟩
          have hr' := Lib.hid hr
          clear hr
          go_wp2
          go_ret2
          exact ⟨r, rfl, RItems.to (F := (w3.heap.size ≤ ·)) hr'.out fun k hk _ => ⟨Nat.le_trans hB3.size hk, rfl⟩, hB3.trans (hb4.mono hB3.size)⟩
      · have hres3 := hr2.out
        rw [if_pos (by simpa using h3)] at hres3
        subst hres3
        have h3' : ((frm (acts L) : Int) != (D.length : Int)) = true := by simp; omega
        clear h3 hr2
        generalize frm (acts L) = fr at *
        generalize too (acts L) = tt at *
        go_wp2
        go_ret2
        exact ⟨.slice none 0 0, rfl, RdS.nil, hB3⟩
    · have hres2 := hr1.out
      rw [if_pos (by simpa using h2)] at hres2
      subst hres2
      have h2' : (chkOp L != 0) = true := by simpa using h2
      clear hr1 h2
      go_wp2
      go_ret2
      exact ⟨.slice none 0 0, rfl, RdS.nil, hb1.trans (hb2.mono hb1.size)⟩
  · have hres1 := hres.out
    rw [if_pos (by simpa using h1)] at hres1
    subst hres1
    have h1' : (chkDoc D != 0) = true := by simpa using h1
    clear hres h1
    go_wp2
    go_ret2
    exact ⟨.slice none 0 0, rfl, RdS.nil, hb1⟩
end Go.Proofs.YtckdlhgeelhnmaaGreat
