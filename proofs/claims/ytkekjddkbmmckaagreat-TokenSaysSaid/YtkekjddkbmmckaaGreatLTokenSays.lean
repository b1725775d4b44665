/- The law TokenSays, walked: it answers true at every page. -/
import Derived.Test.YtkekjddkbmmckaaGreatRefTc
import Derived.Test.YtkekjddkbmmckaaGreatLTokenParts
import Derived.Test.YtkekjddkbmmckaaGreatEqToks
namespace Go.Proofs.YtkekjddkbmmckaaGreat
open Go.RowKit Go.Mh
set_option maxRecDepth 100000 in
set_option maxHeartbeats 1600000 in
theorem tokenSays_walk (F : Nat → Prop) (v : Value) (A : Bs) (w : World) (h : RBytes F w v A) (hm : ∃ m, w.cell? ⟨0, 0, none⟩ = some (.int .i64 m)) (_ : A.length ≤ 140737488351232) :
    Calls Tryz.prog 3 #[v] w fun e w' => e = .returned (.bool true) ∧ Below w.heap.size w w' := by
  have HA := Lib.hid (fun w' (hb : Below w.heap.size w w') => h.to (F' := fun _ => True) (fun k _ hk => ⟨trivial, hb.block k hk⟩))
  obtain ⟨a, ac, rfl, hla⟩ := RdS.len h
  have hM := Lib.hid (fun w' (hb : Below w.heap.size w w') => somec hm hb)
  by_cases hlong : 20000 < A.length
  · have C := Lib.hid (tokPage_p (F := F) (v := .slice a A.length ac) (l := A) (w := w) ([], 2) (by unfold pageP; rw [if_pos hlong]) h hm)
    clear h hm
    go_enter Tryz.func3, Tryz.ntmps3
    go_wp2_with fail
    refine C.out.mono ?_
    rintro e w1 ⟨r1, rfl, hr1, hb1⟩
    obtain ⟨a1, c1, rfl, _⟩ := RdS.len hr1
    clear C hr1
    go_wp2_with fail
    refine (torn_any _ (hM.out _ hb1)).mono ?_
    rintro e w2 ⟨rfl, hb2⟩
    have hB2 := btr hb1 hb2
    go_wp2_with fail
    refine (torn_any _ (hM.out _ hB2)).mono ?_
    rintro e w3 ⟨rfl, hb3⟩
    go_wp2
    go_ret
    exact ⟨rfl, btr hB2 hb3⟩
  · have C := Lib.hid (tokPage_p (F := F) (v := .slice a A.length ac) (l := A) (w := w) (pageT A, 0) (by unfold pageP; rw [if_neg hlong]) h hm)
    clear h hm
    go_enter Tryz.func3, Tryz.ntmps3
    go_wp2_with fail
    refine C.out.mono ?_
    rintro e w1 ⟨r1, rfl, hr1, hb1⟩
    obtain ⟨a1, c1, rfl, _⟩ := RdS.len hr1
    have hR := Lib.hid (fun w' (hb : Below w1.heap.size w1 w') => hr1.to (F' := fun _ => True) (fun k _ hk => ⟨trivial, hb.block k hk⟩))
    clear C hr1
    go_wp2_with fail
    refine (torn_any _ (hM.out _ hb1)).mono ?_
    rintro e w2 ⟨rfl, hb2⟩
    have hB2 := btr hb1 hb2
    go_wp2_with fail
    refine (refTokens_any (fun _ => True) _ A _ (HA.out _ hB2) (hM.out _ hB2) (by omega)).mono ?_
    rintro e w3 ⟨r3, rfl, hr3, hb3⟩
    have hB3 := btr hB2 hb3
    obtain ⟨a3, c3, rfl, _⟩ := RdS.len hr3
    have hR3 := Lib.hid hr3
    clear hr3
    go_wp2_with fail
    refine (eqToks_same (fun _ => True) _ _ _ (pageT A) _ (hR.out _ (btr hb2 hb3)) hR3.out).mono ?_
    rintro e w4 ⟨rfl, hb4⟩
    go_wp2
    go_ret
    exact ⟨rfl, btr hB3 hb4⟩
end Go.Proofs.YtkekjddkbmmckaaGreat
