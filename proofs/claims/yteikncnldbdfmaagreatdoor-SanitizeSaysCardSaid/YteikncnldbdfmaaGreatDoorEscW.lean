/- Package escape: Text and Write. -/
import Derived.Test.YteikncnldbdfmaaGreatDoorEsc
import Derived.Test.YteikncnldbdfmaaGreatDoorAnyP
namespace Go.Mh
end Go.Mh
namespace Go.Proofs.YteikncnldbdfmaaGreatDoor
open Go.RowKit Go.Mh

theorem rep_call (c : UInt8) (r l : Bs) (w : World) (hm : ∃ m, w.cell? ⟨2, 0, none⟩ = some (.int .i64 m)) (hr : r ≠ [c]) (hl : l.length < 4294967281) (hr2 : r.length ≤ 6) :
    Calls Tryz.prog 212 #[str l, .string ⟨#[c]⟩, str r] w fun e w' => e = .returned (str (rep1 c r l)) ∧ Below w.heap.size w w' := by
  obtain ⟨m, hm⟩ := hm
  have hc := countB_one l c
  have hmul : Lib.countB ⟨l.toArray⟩ ⟨#[c]⟩ * (⟨r.toArray⟩ : ByteArray).size ≤ l.length * 6 := Nat.mul_le_mul hc hr2
  refine (Tryz.strings_ReplaceAll ⟨l.toArray⟩ ⟨#[c]⟩ ⟨r.toArray⟩ m w hl hm (Nat.le_refl 1) ?_).mono ?_
  · show l.length + _ ≤ _
    omega
  · rintro e w' ⟨rfl, hb⟩
    refine ⟨?_, hb⟩
    show Ending.returned (.string ⟨(Lib.replaceAll l [c] r).toArray⟩) = _
    rw [replaceAll_one c r l hr]

theorem somec {w w' : World} (h : ∃ m, w.cell? ⟨2, 0, none⟩ = some (.int .i64 m)) (hb : Below w.heap.size w w') : ∃ m, w'.cell? ⟨2, 0, none⟩ = some (.int .i64 m) := by
  obtain ⟨m, hm⟩ := h
  exact ⟨m, (hb.cell (lt_of_cell hm)).trans hm⟩

set_option maxRecDepth 100000 in
set_option maxHeartbeats 4000000 in
theorem escText_any (l : Bs) (w : World) (hl : l.length ≤ 1000000) (hm : ∃ m, w.cell? ⟨2, 0, none⟩ = some (.int .i64 m)) :
    Calls Tryz.prog 185 #[str l] w fun e w' => e = .returned (str (writeE l)) ∧ Below w.heap.size w w' := by
  rw [← write_rep l]
  have l1 := rep1_len (c := 38) (r := eAmp) (by decide) l
  obtain ⟨s1, e1⟩ : ∃ s, rep1 38 eAmp l = s := ⟨_, rfl⟩
  rw [e1] at l1 ⊢
  have l2 := rep1_len (c := 60) (r := eLt) (by decide) s1
  obtain ⟨s2, e2⟩ : ∃ s, rep1 60 eLt s1 = s := ⟨_, rfl⟩
  rw [e2] at l2 ⊢
  have l3 := rep1_len (c := 62) (r := eGt) (by decide) s2
  obtain ⟨s3, e3⟩ : ∃ s, rep1 62 eGt s2 = s := ⟨_, rfl⟩
  rw [e3] at l3 ⊢
  have k1 : eAmp.length = 5 := rfl
  have k2 : eLt.length = 4 := rfl
  have k3 : eGt.length = 4 := rfl
  rw [k1] at l1
  rw [k2] at l2
  rw [k3] at l3
  have h1 : s1.length < 4294967281 := by omega
  have h2 : s2.length < 4294967281 := by omega
  have h3 : s3.length < 4294967281 := by omega
  have h0 : l.length < 4294967281 := by omega
  have E1 := Lib.hid e1
  have E2 := Lib.hid e2
  have E3 := Lib.hid e3
  have hM := Lib.hid (fun w' (hb : Below w.heap.size w w') => somec hm hb)
  clear l1 l2 l3 k1 k2 k3 e1 e2 e3 hl hm
  have i0 := pairs_at0
  have i1 := pairs_at1
  have i2 := pairs_at2
  have i3 := pairs_at3
  go_enter Tryz.func185, Tryz.ntmps185
  go_wp2_with fail
  refine (pairs_any w).mono ?_
  rintro e w1 ⟨rfl, hb1⟩
  go_wp2
  refine wp_loop_rounds 5 ?_
  rw [rounds_succ]
  go_wp2_with fail
  refine (rep_call 38 eAmp l _ (hM.out _ (bal hb1 _)) (by decide) h0 (by decide)).mono ?_
  rintro e w2 ⟨rfl, hb2⟩
  have hB2 := btr (bal hb1 _) hb2
  rw [E1.out]
  clear hb1 hb2
  go_wp2
  rw [rounds_succ]
  go_wp2_with fail
  refine (rep_call 60 eLt s1 _ (hM.out _ (bal hB2 _)) (by decide) h1 (by decide)).mono ?_
  rintro e w3 ⟨rfl, hb3⟩
  have hB3 := btr (bal hB2 _) hb3
  rw [E2.out]
  clear hB2 hb3
  go_wp2
  rw [rounds_succ]
  go_wp2_with fail
  refine (rep_call 62 eGt s2 _ (hM.out _ (bal hB3 _)) (by decide) h2 (by decide)).mono ?_
  rintro e w4 ⟨rfl, hb4⟩
  have hB4 := btr (bal hB3 _) hb4
  rw [E3.out]
  clear hB3 hb4
  go_wp2
  rw [rounds_succ]
  go_wp2_with fail
  refine (rep_call 34 eQuot s3 _ (hM.out _ (bal hB4 _)) (by decide) h3 (by decide)).mono ?_
  rintro e w5 ⟨rfl, hb5⟩
  have hB5 := btr (bal hB4 _) hb5
  clear hB4 hb5
  go_wp2
  rw [rounds_succ]
  go_wp2
  go_ret
  exact ⟨rfl, hB5⟩

end Go.Proofs.YteikncnldbdfmaaGreatDoor
