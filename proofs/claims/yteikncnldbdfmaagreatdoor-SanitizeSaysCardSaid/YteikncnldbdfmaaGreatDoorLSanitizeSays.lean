/- The law SanitizeSays, walked: it answers true at every page. -/
import Derived.Test.YteikncnldbdfmaaGreatDoorRdC
import Derived.Test.YteikncnldbdfmaaGreatDoorPaged
namespace Go.Proofs.YteikncnldbdfmaaGreatDoor
open Go.RowKit Go.Mh
set_option maxRecDepth 100000 in
set_option maxHeartbeats 1600000 in
theorem sanitizeSays_walk (F : Nat → Prop) (v : Value) (A : Bs) (w : World) (hm : ∃ m, w.cell? ⟨2, 0, none⟩ = some (.int .i64 m)) (h : RBytes F w v A) (_ : A.length ≤ 140737488351232) (htab : Tab w) :
    Calls Tryz.prog 5 #[v] w fun e w' => e = .returned (.bool true) ∧ Below w.heap.size w w' := by
  have HA := Lib.hid (fun w' (hb : Below w.heap.size w w') => h.to (F' := fun _ => True) (fun k _ hk => ⟨trivial, hb.block k hk⟩))
  obtain ⟨a, ac, rfl, hla⟩ := RdS.len h
  have hM := Lib.hid (fun w' (hb : Below w.heap.size w w') => somec hm hb)
  have htl : (0 : Nat) < w.heap.size := by
    have hgn : Tryz.prog.globalNamed "strings.asciiSpace" = some 0 := by kernel_rfl
    exact lt_of_cell (htab.cell hgn 0 (by rw [Lib.asciiSpaceTab_length]; decide))
  have hT := Lib.hid (fun w' (hb : Below w.heap.size w w') => htab.to (hb.block _ htl))
  by_cases hlong : 20000 < A.length
  · have C := Lib.hid (sanPage_p (F := F) (v := .slice a A.length ac) (l := A) (w := w) ([], 2) (by unfold sanP; rw [if_pos hlong]) h hm)
    clear h hm htab htl
    go_enter Tryz.func5, Tryz.ntmps5
    go_wp2_with fail
    refine C.out.mono ?_
    rintro e w1 ⟨r1, rfl, hr1, hb1⟩
    obtain ⟨a1, c1, rfl, _⟩ := RdS.len hr1
    clear C hr1
    go_wp2_with fail
    refine (paged_any _ (hM.out _ hb1)).mono ?_
    rintro e w2 ⟨rfl, hb2⟩
    have hB2 := btr hb1 hb2
    go_wp2_with fail
    refine (paged_any _ (hM.out _ hB2)).mono ?_
    rintro e w3 ⟨rfl, hb3⟩
    go_wp2
    go_ret
    exact ⟨rfl, btr hB2 hb3⟩
  · obtain ⟨D, e0, hP⟩ : ∃ D e0, sanL dk0 (pageT A) = (D, e0) := ⟨_, _, rfl⟩
    have C := Lib.hid (sanPage_p (F := F) (v := .slice a A.length ac) (l := A) (w := w) (D, e0) (by unfold sanP; rw [if_neg hlong, hP]) h hm)
    clear h hm htab htl
    go_enter Tryz.func5, Tryz.ntmps5
    go_wp2_with fail
    refine C.out.mono ?_
    rintro e w1 ⟨r1, rfl, hr1, hb1⟩
    obtain ⟨a1, c1, rfl, _⟩ := RdS.len hr1
    have hR := Lib.hid (fun w' (hb : Below w1.heap.size w1 w') => (show RItems _ w1 _ _ from hr1).to (F' := fun _ => True) (fun k _ hk => ⟨trivial, hb.block k hk⟩))
    clear C hr1
    go_wp2_with fail
    refine (paged_any _ (hM.out _ hb1)).mono ?_
    rintro e w2 ⟨rfl, hb2⟩
    have hB2 := btr hb1 hb2
    have RR := Lib.hid (refRead_any (fun _ => True) _ A _ (HA.out _ hB2) (hM.out _ hB2) (hT.out _ hB2) (by omega))
    rw [hP] at RR
    have HP := Lib.hid hP
    clear hP
    go_wp2_with fail
    refine RR.out.mono ?_
    rintro e w3 ⟨r3, rfl, hr3, hb3⟩
    have hB3 := btr hB2 hb3
    obtain ⟨a3, c3, rfl, _⟩ := RdS.len hr3
    have hR3 := Lib.hid hr3
    clear hr3 RR
    go_wp2_with fail
    refine (eqDoc_same (fun _ => True) _ _ _ D _ (hR.out _ (btr hb2 hb3)) hR3.out).mono ?_
    rintro e w4 ⟨rfl, hb4⟩
    go_wp2
    go_ret
    exact ⟨rfl, btr hB3 hb4⟩
end Go.Proofs.YteikncnldbdfmaaGreatDoor
