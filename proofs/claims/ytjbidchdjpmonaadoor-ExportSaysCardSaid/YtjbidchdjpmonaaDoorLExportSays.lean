/- ExportSays: any document is written as a page as the document says; walked. -/
import Derived.Test.YtjbidchdjpmonaaDoorRefP
import Derived.Test.YtjbidchdjpmonaaDoorRefDc
import Derived.Test.YtjbidchdjpmonaaDoorSmall
namespace Go.Proofs.YtjbidchdjpmonaaDoor
open Go.RowKit Go.Mh

def smallP : Bs := [60, 104, 49, 62, 97, 60, 98, 62, 98, 60, 47, 98, 62, 60, 47, 104, 49, 62, 60, 117, 108, 62, 60, 108, 105, 62, 60, 97, 32, 104, 114, 101, 102, 61, 34, 104, 116, 116, 112, 58, 38, 97, 109, 112, 59, 34, 62, 38, 108, 116, 59, 60, 47, 97, 62, 60, 47, 108, 105, 62, 60, 47, 117, 108, 62]
theorem smallP_eq : exportP smallL = (smallP, 0) := by decide +kernel
theorem exportPage_p {F : Nat → Prop} {v : Value} {L : List It} (p : Bs × Int) (hp : exportP L = p) {w : World} (h : RItems F w v L) (hm : ∃ m, w.cell? ⟨0, 0, none⟩ = some (.int .i64 m)) :
    Calls Tryd.prog 29 #[v] w fun e w' => e = .returned (.tuple #[str p.1, .int .i64 p.2]) ∧ Below w.heap.size w w' := by
  subst hp; exact exportPage_any F v L w h hm

set_option maxHeartbeats 1000000 in
theorem exported_any (w : World) (hm : ∃ m, w.cell? ⟨0, 0, none⟩ = some (.int .i64 m)) :
    Calls Tryd.prog 31 #[] w fun e w' => e = .returned (.bool true) ∧ Below w.heap.size w w' := by
  have hM := Lib.hid (fun w' (hb : Below w.heap.size w w') => somec hm hb)
  clear hm
  go_enter Tryd.func31, Tryd.ntmps31
  go_wp2_with fail
  refine (small_any w).mono ?_
  rintro e w1 ⟨v, rfl, hv, hb1⟩
  have C := Lib.hid (exportPage_p (smallP, 0) smallP_eq hv (hM.out _ hb1))
  clear hv
  go_wp2_with fail
  refine C.out.mono ?_
  rintro e w2 ⟨rfl, hb2⟩
  go_wp2
  go_ret
  exact ⟨rfl, btr hb1 hb2⟩

set_option maxRecDepth 100000 in
set_option maxHeartbeats 4000000 in
theorem exportSays_walk (F : Nat → Prop) (v : Value) (L : List It) (w : World) (hm : ∃ m, w.cell? ⟨0, 0, none⟩ = some (.int .i64 m)) (h : RItems F w v L) :
    Calls Tryd.prog 7 #[v] w fun e w' => e = .returned (.bool true) ∧ Below w.heap.size w w' := by
  have hM := Lib.hid (fun w' (hb : Below w.heap.size w w') => somec hm hb)
  have H1 := Lib.hid (fun w' (hb : Below w.heap.size w w') => RItems.to (F' := F) h (fun k hk hlt => ⟨hk, hb.block k hlt⟩))
  obtain ⟨a, ac, rfl, _⟩ := RdS.len h
  clear h hm
  have D := Lib.hid (fun w' hb => checkDoc_any F _ L w' (H1.out w' hb))
  by_cases h1 : chkDoc L = 0
  · have e1 : exportP L = (pageX L, 0) := if_pos h1
    have C1 := Lib.hid (fun w' hb => exportPage_p _ e1 (H1.out w' hb) (hM.out w' hb))
    have P := Lib.hid (fun w' hb => pageOf_any F _ L w' (H1.out w' hb) h1)
    rw [h1] at D
    generalize pageX L = X at C1 P
    clear h1 e1
    go_enter Tryd.func7, Tryd.ntmps7
    go_wp2_with fail
    refine (C1.out _ (brf _)).mono ?_
    rintro e w1 ⟨rfl, hb1⟩
    go_wp2_with fail
    refine (D.out _ hb1).mono ?_
    rintro e w2 ⟨rfl, hb2⟩
    have hB2 := btr hb1 hb2
    go_wp2_with fail
    refine (exported_any _ (hM.out _ hB2)).mono ?_
    rintro e w3 ⟨rfl, hb3⟩
    have hB3 := btr hB2 hb3
    go_wp2_with fail
    refine (P.out _ hB3).mono ?_
    rintro e w4 ⟨rfl, hb4⟩
    go_wp2
    go_ret
    exact ⟨by simp, btr hB3 hb4⟩
  · have e1 : exportP L = ([], chkDoc L) := if_neg h1
    have C1 := Lib.hid (fun w' hb => exportPage_p _ e1 (H1.out w' hb) (hM.out w' hb))
    have h1' : (chkDoc L != 0) = true := by simpa using h1
    clear h1 e1
    go_enter Tryd.func7, Tryd.ntmps7
    go_wp2_with fail
    refine (C1.out _ (brf _)).mono ?_
    rintro e w1 ⟨rfl, hb1⟩
    go_wp2_with fail
    refine (D.out _ hb1).mono ?_
    rintro e w2 ⟨rfl, hb2⟩
    have hB2 := btr hb1 hb2
    go_wp2_with fail
    refine (exported_any _ (hM.out _ hB2)).mono ?_
    rintro e w3 ⟨rfl, hb3⟩
    have hB3 := btr hB2 hb3
    go_wp2_with fail
    refine (exported_any _ (hM.out _ hB3)).mono ?_
    rintro e w4 ⟨rfl, hb4⟩
    go_wp2
    go_ret
    exact ⟨by simp, btr hB3 hb4⟩
end Go.Proofs.YtjbidchdjpmonaaDoor
