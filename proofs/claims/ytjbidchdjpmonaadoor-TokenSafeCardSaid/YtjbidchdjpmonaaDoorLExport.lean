/- The closed fact exported; the laws ExportOne and ExportBlocks, walked. -/
import Derived.Test.YtjbidchdjpmonaaDoorExpP
import Derived.Test.YtjbidchdjpmonaaDoorConcatD
import Derived.Test.YtjbidchdjpmonaaDoorSmall
import Derived.Test.YtjbidchdjpmonaaDoorPlH
import Derived.Test.YtjbidchdjpmonaaDoorEqDoc
namespace Go.Mh
def smallP : Bs := [60, 104, 49, 62, 97, 60, 98, 62, 98, 60, 47, 98, 62, 60, 47, 104, 49, 62, 60, 117, 108, 62, 60, 108, 105, 62, 60, 97, 32, 104, 114, 101, 102, 61, 34, 104, 116, 116, 112, 58, 38, 97, 109, 112, 59, 34, 62, 38, 108, 116, 59, 60, 47, 97, 62, 60, 47, 108, 105, 62, 60, 47, 117, 108, 62]
end Go.Mh
namespace Go.Proofs.YtjbidchdjpmonaaDoor
open Go.RowKit Go.Mh

theorem smallP_eq : exportP smallL = (smallP, 0) := by decide +kernel
theorem exportPage_p {F : Nat → Prop} {v : Value} {L : List It} (p : Bs × Int) (hp : exportP L = p) {w : World} (h : RItems F w v L) (hm : ∃ m, w.cell? ⟨0, 0, none⟩ = some (.int .i64 m)) :
    Calls Tryd.prog 29 #[v] w fun e w' => e = .returned (.tuple #[str p.1, .int .i64 p.2]) ∧ Below w.heap.size w w' := by
  subst hp; exact exportPage_any F v L w h hm

set_option maxHeartbeats 1000000 in
theorem exported_any (w : World) (hm : ∃ m, w.cell? ⟨0, 0, none⟩ = some (.int .i64 m)) :
    Calls Tryd.prog 31 #[] w fun e w' => e = .returned (.bool true) ∧ Below w.heap.size w w' := by
  have hM := Lib.hid (fun w' (hb : Below w.heap.size w w') => somec hm hb)
  clear hm
  go_enter Tryd.func31, Tryd.ntmps31
  go_wp2_with fail
  refine (small_any w).mono ?_
  rintro e w1 ⟨v, rfl, hv, hb1⟩
  have C := Lib.hid (exportPage_p (smallP, 0) smallP_eq hv (hM.out _ hb1))
  clear hv
  go_wp2_with fail
  refine C.out.mono ?_
  rintro e w2 ⟨rfl, hb2⟩
  go_wp2
  go_ret
  exact ⟨rfl, btr hb1 hb2⟩

set_option maxRecDepth 100000 in
set_option maxHeartbeats 4000000 in
theorem exportOne_walk (F G : Nat → Prop) (v u : Value) (L M : List It) (w : World) (hm : ∃ m, w.cell? ⟨0, 0, none⟩ = some (.int .i64 m)) (h : RItems F w v L) (g : RItems G w u M) :
    Calls Tryd.prog 8 #[v, u] w fun e w' => e = .returned (.bool true) ∧ Below w.heap.size w w' := by
  have hM := Lib.hid (fun w' (hb : Below w.heap.size w w') => somec hm hb)
  have H1 := Lib.hid (fun w' (hb : Below w.heap.size w w') => RItems.to (F' := F) h (fun k hk hlt => ⟨hk, hb.block k hlt⟩))
  have H2 := Lib.hid (fun w' (hb : Below w.heap.size w w') => RItems.to (F' := G) g (fun k hk hlt => ⟨hk, hb.block k hlt⟩))
  obtain ⟨a, ac, rfl, _⟩ := RdS.len h
  obtain ⟨b, bc, rfl, _⟩ := RdS.len g
  clear h g hm
  by_cases h1 : chkDoc L = 0
  · have e1 : exportP L = (pageX L, 0) := if_pos h1
    by_cases h2 : chkDoc M = 0
    · have e2 : exportP M = (pageX M, 0) := if_pos h2
      have hone := law_one h1 h2
      have C1 := Lib.hid (fun w' hb => exportPage_p _ e1 (H1.out w' hb) (hM.out w' hb))
      have C2 := Lib.hid (fun w' hb => exportPage_p _ e2 (H2.out w' hb) (hM.out w' hb))
      have E := Lib.hid (fun w' hb => eqDoc_any F G _ _ L M w' (H1.out w' hb) (H2.out w' hb))
      have hq : (pageX L == pageX M) = decide (L = M) := by
        rw [Bool.eq_iff_iff]; simp [hone]
      generalize pageX L = X at *
      generalize pageX M = Y at *
      have hq' := Lib.hid hq
      clear h1 h2 e1 e2 hone hq
      go_enter Tryd.func8, Tryd.ntmps8
      go_wp2_with fail
      refine (C1.out _ (brf _)).mono ?_
      rintro e w1 ⟨rfl, hb1⟩
      go_wp2_with fail
      refine (C2.out _ hb1).mono ?_
      rintro e w2 ⟨rfl, hb2⟩
      have hB2 := btr hb1 hb2
      go_wp2_with fail
      refine (exported_any _ (hM.out _ hB2)).mono ?_
      rintro e w3 ⟨rfl, hb3⟩
      have hB3 := btr hB2 hb3
      go_wp2_with fail
      refine (E.out _ hB3).mono ?_
      rintro e w4 ⟨rfl, hb4⟩
      rw [← hq'.out]
      go_wp2
      go_ret
      exact ⟨by simp, btr hB3 hb4⟩
    · have e2 : exportP M = ([], chkDoc M) := if_neg h2
      have C1 := Lib.hid (fun w' hb => exportPage_p _ e1 (H1.out w' hb) (hM.out w' hb))
      have C2 := Lib.hid (fun w' hb => exportPage_p _ e2 (H2.out w' hb) (hM.out w' hb))
      have h2' : (chkDoc M != 0) = true := by simpa using h2
      generalize pageX L = X at *
      clear h1 h2 e1 e2
      go_enter Tryd.func8, Tryd.ntmps8
      go_wp2_with fail
      refine (C1.out _ (brf _)).mono ?_
      rintro e w1 ⟨rfl, hb1⟩
      go_wp2_with fail
      refine (C2.out _ hb1).mono ?_
      rintro e w2 ⟨rfl, hb2⟩
      have hB2 := btr hb1 hb2
      go_wp2_with fail
      refine (exported_any _ (hM.out _ hB2)).mono ?_
      rintro e w3 ⟨rfl, hb3⟩
      go_wp2
      go_ret
      exact ⟨rfl, btr hB2 hb3⟩
  · have e1 : exportP L = ([], chkDoc L) := if_neg h1
    have C1 := Lib.hid (fun w' hb => exportPage_p _ e1 (H1.out w' hb) (hM.out w' hb))
    have C2 := Lib.hid (fun w' hb => exportPage_any G _ M w' (H2.out w' hb) (hM.out w' hb))
    have h1' : (chkDoc L != 0) = true := by simpa using h1
    clear h1 e1
    go_enter Tryd.func8, Tryd.ntmps8
    go_wp2_with fail
    refine (C1.out _ (brf _)).mono ?_
    rintro e w1 ⟨rfl, hb1⟩
    go_wp2_with fail
    refine (C2.out _ hb1).mono ?_
    rintro e w2 ⟨rfl, hb2⟩
    have hB2 := btr hb1 hb2
    go_wp2_with fail
    refine (exported_any _ (hM.out _ hB2)).mono ?_
    rintro e w3 ⟨rfl, hb3⟩
    go_wp2
    go_ret
    exact ⟨rfl, btr hB2 hb3⟩
end Go.Proofs.YtjbidchdjpmonaaDoor
