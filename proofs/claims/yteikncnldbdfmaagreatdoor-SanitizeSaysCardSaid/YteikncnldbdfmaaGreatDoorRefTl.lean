/- The reference isLetter. -/
import Derived.Test.YteikncnldbdfmaaGreatDoorRefTk
namespace Go.Mh
theorem isLt_eq (c : UInt8) : isLt c = ((lower [c] != [c]) || (decide ((c.toNat : Int) ≥ 97) && decide ((c.toNat : Int) ≤ 122))) := by
  suffices H : ∀ n : Fin 256, isLt (UInt8.ofNat n.val) = ((lower [UInt8.ofNat n.val] != [UInt8.ofNat n.val]) || (decide (((UInt8.ofNat n.val).toNat : Int) ≥ 97) && decide (((UInt8.ofNat n.val).toNat : Int) ≤ 122))) by
    have := H ⟨c.toNat, c.toNat_lt⟩
    simpa using this
  decide +kernel
section
variable {P : Program} {md : Region.Mode} {ops : Array Oper} {Q : Exit → Act → World → Prop} {S : World → Prop}
theorem wpAnyH_br (i j : Nat) {oi oj : Oper} {fuel : Nat} {listed : Array Bool} {a : Act} {w : World} (hi : ops[i]? = some oi) (hj : ops[j]? = some oj) (hr : Region.ready md ops listed = [i, j])
    (h : ∀ K' : Act → World → Prop, Shut (∀ a w, S w → wpAnyH P md ops Q S fuel (listed.setIfInBounds i true) a w → K' a w) → if Region.wanted oi (yielded ops a.tmps) = true then Oper.wp P oi a w K' Q else K' (a.put oi.dst undef) w)
    (k : ∀ K' : Act → World → Prop, Shut (∀ a w, S w → wpAnyH P md ops Q S fuel (listed.setIfInBounds j true) a w → K' a w) → if Region.wanted oj (yielded ops a.tmps) = true then Oper.wp P oj a w K' Q else K' (a.put oj.dst undef) w) :
    wpAnyH P md ops Q S (fuel + 1) listed a w :=
  ⟨fun h0 => by (rw [hr] at h0; cases h0), fun n hn => by
    rw [hr] at hn
    rcases (by simpa using hn : n = i ∨ n = j) with rfl | rfl
    · exact wpOp_step hi fun K' hK => h K' fun a w hC hW => hK a w ⟨hC, hW⟩
    · exact wpOp_step hj fun K' hK => k K' fun a w hC hW => hK a w ⟨hC, hW⟩⟩
theorem wpAnyH_name {fuel : Nat} {listed : Array Bool} {a : Act} {w : World} (h : ∀ w0, w = w0 → wpAnyH P md ops Q S fuel listed a w0) : wpAnyH P md ops Q S fuel listed a w := h w rfl
end
end Go.Mh
namespace Go.Proofs.YteikncnldbdfmaaGreatDoor
open Go.RowKit Go.Mh
set_option maxRecDepth 100000 in
set_option maxHeartbeats 16000000 in
theorem refLetter_any (c : UInt8) (w : World) :
    Calls Tryz.prog 135 #[.int .u8 c.toNat] w fun e w' => e = .returned (.bool (isLt c)) ∧ Below w.heap.size w w' := by
  obtain ⟨x, hx⟩ : ∃ x, lower [c] = x := ⟨_, rfl⟩
  rw [isLt_eq, hx]
  have SM := Lib.hid (fun w' => by have := small_walk [c] w' (by unfold maxLen; simp); rw [hx] at this; exact this)
  clear hx
  have cv : ∀ (g : Nat) (w' : World), w'.cell? ⟨g, 0, none⟩ = some (.int .u8 c.toNat) → (convert 41 9 (.slice (some ⟨g, 0, none⟩) 1 1)).run Tryz.prog w' = .ok (str [c]) w' := fun g w' h =>
    run_convert_bytes_back w' 41 9 5 ⟨g, 0, none⟩ 1 [c] Tryz.underlying41 Tryz.underlying5 Tryz.underlying9 fun j hj => by
      have : j = 0 := by simp at hj; omega
      subst this
      simpa [Addr.add_lit] using h
  cases hne : (x == [c]) with
  | false =>
    have hv : (x != [c]) = true := by simp [bne, hne]
    rw [hv]
    go_enter Tryz.func135, Tryz.ntmps135
    go_upto_region 1 with fail
    refine wp_region_held (S := fun _ => True) (by kernel_rfl) ?_
    have b_w := brf w
    refine wpAnyH_takeD 0 3 (v := ?_) rfl rfl (by kernel_rfl) (by kernel_rfl) (by kernel_rfl) (fun _ _ _ h => h) (Or.inl ⟨by rfl, ?_⟩) trivial ?_
    rotate_left
    · (intro w' hw'; (try dsimp only at hw'); go_simp; try with_reducible rfl)
    simp only [List.set_cons_zero, List.set_cons_succ]
    refine wpAnyH_takeD 4 7 (v := ?_) rfl rfl (by kernel_rfl) (by kernel_rfl) (by kernel_rfl) (fun _ _ _ h => h) (Or.inl ⟨by rfl, ?_⟩) trivial ?_
    rotate_left
    · (intro w' hw'; (try dsimp only at hw'); go_simp; try with_reducible rfl)
    simp only [List.set_cons_zero, List.set_cons_succ]
    refine wpAnyH_br 1 5 rfl rfl (by kernel_rfl) (fun K' hK' => ?_) (fun K' hK' => ?_)
    · rw [if_pos (by rfl)]
      go_simp
      refine hK'.out _ _ trivial ?_
      clear hK' K'
      refine wpAnyH_name (fun w1 e1 => ?_)
      have q1 : w1.cell? ⟨w.heap.size, 0, none⟩ = some (.int .u8 c.toNat) := by rw [← e1]; exact cellAt' (heap_new _ _) rfl
      have b_w1 : Below w.heap.size w w1 := by rw [← e1]; first | exact bal b_w _ | exact bal (Below.drew b_w) _ | exact Below.drew (bal b_w _) | exact Below.drew (bal (Below.drew b_w) _) | exact b_w | exact Below.drew b_w
      refine wpAnyH_br 2 5 rfl rfl (by kernel_rfl) (fun K' hK' => ?_) (fun K' hK' => ?_)
      · rw [if_pos (by rfl)]
        have cv2 := cv _ w1.drew q1
        have cw2 := cv _ w1 q1
        go_simp
        refine hK'.out _ _ trivial ?_
        clear hK' K'
        refine wpAnyH_name (fun w2 e2 => ?_)
        have b_w2 : Below w.heap.size w w2 := by rw [← e2]; first | exact bal b_w1 _ | exact bal (Below.drew b_w1) _ | exact Below.drew (bal b_w1 _) | exact Below.drew (bal (Below.drew b_w1) _) | exact b_w1 | exact Below.drew b_w1
        have q1_2 : w2.cell? ⟨w.heap.size, 0, none⟩ = some (.int .u8 c.toNat) := by rw [← e2]; first | exact q1 | exact ((bal (brf w1) _).cell (lt_of_cell q1)).trans q1 | exact ((bal (brf w1.drew) _).cell (lt_of_cell q1)).trans q1
        refine wpAnyH_br 3 5 rfl rfl (by kernel_rfl) (fun K' hK' => ?_) (fun K' hK' => ?_)
        · rw [if_pos (by rfl)]
          go_simp
          go_at_call 137
          refine (SM.out _).mono ?_
          rintro e w3 ⟨rfl, h3⟩
          dsimp only
          refine hK'.out _ _ trivial ?_
          clear hK' K'
          have b_w3 : Below w.heap.size w w3 := by first | exact btr b_w2 h3 | exact btr (Below.drew b_w2) h3
          have q1_2_3 : w3.cell? ⟨w.heap.size, 0, none⟩ = some (.int .u8 c.toNat) := by exact (h3.cell (lt_of_cell q1_2)).trans q1_2
          refine wpAnyH_step 5 rfl (by kernel_rfl) (fun K' hK' => ?_)
          rw [if_pos (by rfl)]
          go_simp
          refine hK'.out _ _ trivial ?_
          clear hK' K'
          refine wpAnyH_name (fun w4 e4 => ?_)
          have q4 : w4.cell? ⟨w3.heap.size, 0, none⟩ = some (.int .u8 c.toNat) := by rw [← e4]; exact cellAt' (heap_new _ _) rfl
          have b_w4 : Below w.heap.size w w4 := by rw [← e4]; first | exact bal b_w3 _ | exact bal (Below.drew b_w3) _ | exact Below.drew (bal b_w3 _) | exact Below.drew (bal (Below.drew b_w3) _) | exact b_w3 | exact Below.drew b_w3
          have q1_2_3_4 : w4.cell? ⟨w.heap.size, 0, none⟩ = some (.int .u8 c.toNat) := by rw [← e4]; first | exact q1_2_3 | exact ((bal (brf w3) _).cell (lt_of_cell q1_2_3)).trans q1_2_3 | exact ((bal (brf w3.drew) _).cell (lt_of_cell q1_2_3)).trans q1_2_3
          refine wpAnyH_step 6 rfl (by kernel_rfl) (fun K' hK' => ?_)
          rw [if_pos (by rfl)]
          have cv5 := cv _ w4.drew q4
          have cw5 := cv _ w4 q4
          go_simp
          refine hK'.out _ _ trivial ?_
          clear hK' K'
          refine wpAnyH_name (fun w5 e5 => ?_)
          have b_w5 : Below w.heap.size w w5 := by rw [← e5]; first | exact bal b_w4 _ | exact bal (Below.drew b_w4) _ | exact Below.drew (bal b_w4 _) | exact Below.drew (bal (Below.drew b_w4) _) | exact b_w4 | exact Below.drew b_w4
          have q1_2_3_4_5 : w5.cell? ⟨w.heap.size, 0, none⟩ = some (.int .u8 c.toNat) := by rw [← e5]; first | exact q1_2_3_4 | exact ((bal (brf w4) _).cell (lt_of_cell q1_2_3_4)).trans q1_2_3_4 | exact ((bal (brf w4.drew) _).cell (lt_of_cell q1_2_3_4)).trans q1_2_3_4
          have q4_5 : w5.cell? ⟨w3.heap.size, 0, none⟩ = some (.int .u8 c.toNat) := by rw [← e5]; first | exact q4 | exact ((bal (brf w4) _).cell (lt_of_cell q4)).trans q4 | exact ((bal (brf w4.drew) _).cell (lt_of_cell q4)).trans q4
          refine wpAnyH_takeD 7 10 (v := ?_) rfl rfl (by kernel_rfl) (by kernel_rfl) (by kernel_rfl) (fun _ _ _ h => h) (Or.inl ⟨by rfl, ?_⟩) trivial ?_
          rotate_left
          · (intro w' hw'; (try dsimp only at hw'); go_simp; try with_reducible rfl)
          simp only [List.set_cons_zero, List.set_cons_succ]
          refine wpAnyH_takeD 8 11 (v := ?_) rfl rfl (by kernel_rfl) (by kernel_rfl) (by kernel_rfl) (fun _ _ _ h => h) (Or.inl ⟨by rfl, ?_⟩) trivial ?_
          rotate_left
          · (intro w' hw'; (try dsimp only at hw'); go_simp; try with_reducible rfl)
          simp only [List.set_cons_zero, List.set_cons_succ]
          refine wpAnyH_skipD 9 12 rfl rfl (by kernel_rfl) trivial (by rfl) ?_
          simp only [List.set_cons_zero, List.set_cons_succ]
          refine wpAnyH_skipD 10 13 rfl rfl (by kernel_rfl) trivial (by rfl) ?_
          simp only [List.set_cons_zero, List.set_cons_succ]
          refine wpAnyH_skipD 11 14 rfl rfl (by kernel_rfl) trivial (by rfl) ?_
          simp only [List.set_cons_zero, List.set_cons_succ]
          refine wpAnyH_skipD 12 15 rfl rfl (by kernel_rfl) trivial (by rfl) ?_
          simp only [List.set_cons_zero, List.set_cons_succ]
          refine wpAnyH_skipD 13 16 rfl rfl (by kernel_rfl) trivial (by rfl) ?_
          simp only [List.set_cons_zero, List.set_cons_succ]
          refine wpAnyH_skipD 14 17 rfl rfl (by kernel_rfl) trivial (by rfl) ?_
          simp only [List.set_cons_zero, List.set_cons_succ]
          refine wpAnyH_takeD 15 18 (v := ?_) rfl rfl (by kernel_rfl) (by kernel_rfl) (by kernel_rfl) (fun _ _ _ h => h) (Or.inl ⟨by rfl, ?_⟩) trivial ?_
          rotate_left
          · (intro w' hw'; (try dsimp only at hw'); go_simp; try with_reducible rfl)
          simp only [List.set_cons_zero, List.set_cons_succ]
          refine wpAnyH_takeD 16 2 (v := ?_) rfl rfl (by kernel_rfl) (by kernel_rfl) (by kernel_rfl) (fun _ _ _ h => h) (Or.inl ⟨by rfl, ?_⟩) trivial ?_
          rotate_left
          · (intro w' hw'; (try dsimp only at hw'); go_simp; try with_reducible rfl)
          simp only [List.set_cons_zero, List.set_cons_succ]
          refine wpAnyH_done (by kernel_rfl) ?_ _
          go_wp2
          go_ret
          exact ⟨by first | rfl | simp, by first | exact b_w5 | exact Below.drew b_w5⟩
        · rw [if_pos (by rfl)]
          go_simp
          refine hK'.out _ _ trivial ?_
          clear hK' K'
          refine wpAnyH_name (fun w6 e6 => ?_)
          have q6 : w6.cell? ⟨w2.heap.size, 0, none⟩ = some (.int .u8 c.toNat) := by rw [← e6]; exact cellAt' (heap_new _ _) rfl
          have b_w6 : Below w.heap.size w w6 := by rw [← e6]; first | exact bal b_w2 _ | exact bal (Below.drew b_w2) _ | exact Below.drew (bal b_w2 _) | exact Below.drew (bal (Below.drew b_w2) _) | exact b_w2 | exact Below.drew b_w2
          have q1_2_6 : w6.cell? ⟨w.heap.size, 0, none⟩ = some (.int .u8 c.toNat) := by rw [← e6]; first | exact q1_2 | exact ((bal (brf w2) _).cell (lt_of_cell q1_2)).trans q1_2 | exact ((bal (brf w2.drew) _).cell (lt_of_cell q1_2)).trans q1_2
          refine wpAnyH_br 3 6 rfl rfl (by kernel_rfl) (fun K' hK' => ?_) (fun K' hK' => ?_)
          · rw [if_pos (by rfl)]
            go_simp
            go_at_call 137
            refine (SM.out _).mono ?_
            rintro e w7 ⟨rfl, h7⟩
            dsimp only
            refine hK'.out _ _ trivial ?_
            clear hK' K'
            have b_w7 : Below w.heap.size w w7 := by first | exact btr b_w6 h7 | exact btr (Below.drew b_w6) h7
            have q1_2_6_7 : w7.cell? ⟨w.heap.size, 0, none⟩ = some (.int .u8 c.toNat) := by exact (h7.cell (lt_of_cell q1_2_6)).trans q1_2_6
            have q6_7 : w7.cell? ⟨w2.heap.size, 0, none⟩ = some (.int .u8 c.toNat) := by exact (h7.cell (lt_of_cell q6)).trans q6
            refine wpAnyH_step 6 rfl (by kernel_rfl) (fun K' hK' => ?_)
            rw [if_pos (by rfl)]
            have cv8 := cv _ w7.drew q6_7
            have cw8 := cv _ w7 q6_7
            go_simp
            refine hK'.out _ _ trivial ?_
            clear hK' K'
            refine wpAnyH_name (fun w8 e8 => ?_)
            have b_w8 : Below w.heap.size w w8 := by rw [← e8]; first | exact bal b_w7 _ | exact bal (Below.drew b_w7) _ | exact Below.drew (bal b_w7 _) | exact Below.drew (bal (Below.drew b_w7) _) | exact b_w7 | exact Below.drew b_w7
            have q1_2_6_7_8 : w8.cell? ⟨w.heap.size, 0, none⟩ = some (.int .u8 c.toNat) := by rw [← e8]; first | exact q1_2_6_7 | exact ((bal (brf w7) _).cell (lt_of_cell q1_2_6_7)).trans q1_2_6_7 | exact ((bal (brf w7.drew) _).cell (lt_of_cell q1_2_6_7)).trans q1_2_6_7
            have q6_7_8 : w8.cell? ⟨w2.heap.size, 0, none⟩ = some (.int .u8 c.toNat) := by rw [← e8]; first | exact q6_7 | exact ((bal (brf w7) _).cell (lt_of_cell q6_7)).trans q6_7 | exact ((bal (brf w7.drew) _).cell (lt_of_cell q6_7)).trans q6_7
            refine wpAnyH_takeD 7 10 (v := ?_) rfl rfl (by kernel_rfl) (by kernel_rfl) (by kernel_rfl) (fun _ _ _ h => h) (Or.inl ⟨by rfl, ?_⟩) trivial ?_
            rotate_left
            · (intro w' hw'; (try dsimp only at hw'); go_simp; try with_reducible rfl)
            simp only [List.set_cons_zero, List.set_cons_succ]
            refine wpAnyH_takeD 8 11 (v := ?_) rfl rfl (by kernel_rfl) (by kernel_rfl) (by kernel_rfl) (fun _ _ _ h => h) (Or.inl ⟨by rfl, ?_⟩) trivial ?_
            rotate_left
            · (intro w' hw'; (try dsimp only at hw'); go_simp; try with_reducible rfl)
            simp only [List.set_cons_zero, List.set_cons_succ]
            refine wpAnyH_skipD 9 12 rfl rfl (by kernel_rfl) trivial (by rfl) ?_
            simp only [List.set_cons_zero, List.set_cons_succ]
            refine wpAnyH_skipD 10 13 rfl rfl (by kernel_rfl) trivial (by rfl) ?_
            simp only [List.set_cons_zero, List.set_cons_succ]
            refine wpAnyH_skipD 11 14 rfl rfl (by kernel_rfl) trivial (by rfl) ?_
            simp only [List.set_cons_zero, List.set_cons_succ]
            refine wpAnyH_skipD 12 15 rfl rfl (by kernel_rfl) trivial (by rfl) ?_
            simp only [List.set_cons_zero, List.set_cons_succ]
            refine wpAnyH_skipD 13 16 rfl rfl (by kernel_rfl) trivial (by rfl) ?_
            simp only [List.set_cons_zero, List.set_cons_succ]
            refine wpAnyH_skipD 14 17 rfl rfl (by kernel_rfl) trivial (by rfl) ?_
            simp only [List.set_cons_zero, List.set_cons_succ]
            refine wpAnyH_takeD 15 18 (v := ?_) rfl rfl (by kernel_rfl) (by kernel_rfl) (by kernel_rfl) (fun _ _ _ h => h) (Or.inl ⟨by rfl, ?_⟩) trivial ?_
            rotate_left
            · (intro w' hw'; (try dsimp only at hw'); go_simp; try with_reducible rfl)
            simp only [List.set_cons_zero, List.set_cons_succ]
            refine wpAnyH_takeD 16 2 (v := ?_) rfl rfl (by kernel_rfl) (by kernel_rfl) (by kernel_rfl) (fun _ _ _ h => h) (Or.inl ⟨by rfl, ?_⟩) trivial ?_
            rotate_left
            · (intro w' hw'; (try dsimp only at hw'); go_simp; try with_reducible rfl)
            simp only [List.set_cons_zero, List.set_cons_succ]
            refine wpAnyH_done (by kernel_rfl) ?_ _
            go_wp2
            go_ret
            exact ⟨by first | rfl | simp, by first | exact b_w8 | exact Below.drew b_w8⟩
          · rw [if_pos (by rfl)]
            have cv9 := cv _ w6.drew q6
            have cw9 := cv _ w6 q6
            go_simp
            refine hK'.out _ _ trivial ?_
            clear hK' K'
            refine wpAnyH_name (fun w9 e9 => ?_)
            have b_w9 : Below w.heap.size w w9 := by rw [← e9]; first | exact bal b_w6 _ | exact bal (Below.drew b_w6) _ | exact Below.drew (bal b_w6 _) | exact Below.drew (bal (Below.drew b_w6) _) | exact b_w6 | exact Below.drew b_w6
            have q1_2_6_9 : w9.cell? ⟨w.heap.size, 0, none⟩ = some (.int .u8 c.toNat) := by rw [← e9]; first | exact q1_2_6 | exact ((bal (brf w6) _).cell (lt_of_cell q1_2_6)).trans q1_2_6 | exact ((bal (brf w6.drew) _).cell (lt_of_cell q1_2_6)).trans q1_2_6
            have q6_9 : w9.cell? ⟨w2.heap.size, 0, none⟩ = some (.int .u8 c.toNat) := by rw [← e9]; first | exact q6 | exact ((bal (brf w6) _).cell (lt_of_cell q6)).trans q6 | exact ((bal (brf w6.drew) _).cell (lt_of_cell q6)).trans q6
            refine wpAnyH_step 3 rfl (by kernel_rfl) (fun K' hK' => ?_)
            rw [if_pos (by rfl)]
            go_simp
            go_at_call 137
            refine (SM.out _).mono ?_
            rintro e w10 ⟨rfl, h10⟩
            dsimp only
            refine hK'.out _ _ trivial ?_
            clear hK' K'
            have b_w10 : Below w.heap.size w w10 := by first | exact btr b_w9 h10 | exact btr (Below.drew b_w9) h10
            have q1_2_6_9_10 : w10.cell? ⟨w.heap.size, 0, none⟩ = some (.int .u8 c.toNat) := by exact (h10.cell (lt_of_cell q1_2_6_9)).trans q1_2_6_9
            have q6_9_10 : w10.cell? ⟨w2.heap.size, 0, none⟩ = some (.int .u8 c.toNat) := by exact (h10.cell (lt_of_cell q6_9)).trans q6_9
            refine wpAnyH_takeD 7 10 (v := ?_) rfl rfl (by kernel_rfl) (by kernel_rfl) (by kernel_rfl) (fun _ _ _ h => h) (Or.inl ⟨by rfl, ?_⟩) trivial ?_
            rotate_left
            · (intro w' hw'; (try dsimp only at hw'); go_simp; try with_reducible rfl)
            simp only [List.set_cons_zero, List.set_cons_succ]
            refine wpAnyH_takeD 8 11 (v := ?_) rfl rfl (by kernel_rfl) (by kernel_rfl) (by kernel_rfl) (fun _ _ _ h => h) (Or.inl ⟨by rfl, ?_⟩) trivial ?_
            rotate_left
            · (intro w' hw'; (try dsimp only at hw'); go_simp; try with_reducible rfl)
            simp only [List.set_cons_zero, List.set_cons_succ]
            refine wpAnyH_skipD 9 12 rfl rfl (by kernel_rfl) trivial (by rfl) ?_
            simp only [List.set_cons_zero, List.set_cons_succ]
            refine wpAnyH_skipD 10 13 rfl rfl (by kernel_rfl) trivial (by rfl) ?_
            simp only [List.set_cons_zero, List.set_cons_succ]
            refine wpAnyH_skipD 11 14 rfl rfl (by kernel_rfl) trivial (by rfl) ?_
            simp only [List.set_cons_zero, List.set_cons_succ]
            refine wpAnyH_skipD 12 15 rfl rfl (by kernel_rfl) trivial (by rfl) ?_
            simp only [List.set_cons_zero, List.set_cons_succ]
            refine wpAnyH_skipD 13 16 rfl rfl (by kernel_rfl) trivial (by rfl) ?_
            simp only [List.set_cons_zero, List.set_cons_succ]
            refine wpAnyH_skipD 14 17 rfl rfl (by kernel_rfl) trivial (by rfl) ?_
            simp only [List.set_cons_zero, List.set_cons_succ]
            refine wpAnyH_takeD 15 18 (v := ?_) rfl rfl (by kernel_rfl) (by kernel_rfl) (by kernel_rfl) (fun _ _ _ h => h) (Or.inl ⟨by rfl, ?_⟩) trivial ?_
            rotate_left
            · (intro w' hw'; (try dsimp only at hw'); go_simp; try with_reducible rfl)
            simp only [List.set_cons_zero, List.set_cons_succ]
            refine wpAnyH_takeD 16 2 (v := ?_) rfl rfl (by kernel_rfl) (by kernel_rfl) (by kernel_rfl) (fun _ _ _ h => h) (Or.inl ⟨by rfl, ?_⟩) trivial ?_
            rotate_left
            · (intro w' hw'; (try dsimp only at hw'); go_simp; try with_reducible rfl)
            simp only [List.set_cons_zero, List.set_cons_succ]
            refine wpAnyH_done (by kernel_rfl) ?_ _
            go_wp2
            go_ret
            exact ⟨by first | rfl | simp, by first | exact b_w10 | exact Below.drew b_w10⟩
      · rw [if_pos (by rfl)]
        go_simp
        refine hK'.out _ _ trivial ?_
        clear hK' K'
        refine wpAnyH_name (fun w11 e11 => ?_)
        have q11 : w11.cell? ⟨w1.heap.size, 0, none⟩ = some (.int .u8 c.toNat) := by rw [← e11]; exact cellAt' (heap_new _ _) rfl
        have b_w11 : Below w.heap.size w w11 := by rw [← e11]; first | exact bal b_w1 _ | exact bal (Below.drew b_w1) _ | exact Below.drew (bal b_w1 _) | exact Below.drew (bal (Below.drew b_w1) _) | exact b_w1 | exact Below.drew b_w1
        have q1_11 : w11.cell? ⟨w.heap.size, 0, none⟩ = some (.int .u8 c.toNat) := by rw [← e11]; first | exact q1 | exact ((bal (brf w1) _).cell (lt_of_cell q1)).trans q1 | exact ((bal (brf w1.drew) _).cell (lt_of_cell q1)).trans q1
        refine wpAnyH_br 2 6 rfl rfl (by kernel_rfl) (fun K' hK' => ?_) (fun K' hK' => ?_)
        · rw [if_pos (by rfl)]
          have cv12 := cv _ w11.drew q1_11
          have cw12 := cv _ w11 q1_11
          go_simp
          refine hK'.out _ _ trivial ?_
          clear hK' K'
          refine wpAnyH_name (fun w12 e12 => ?_)
          have b_w12 : Below w.heap.size w w12 := by rw [← e12]; first | exact bal b_w11 _ | exact bal (Below.drew b_w11) _ | exact Below.drew (bal b_w11 _) | exact Below.drew (bal (Below.drew b_w11) _) | exact b_w11 | exact Below.drew b_w11
          have q1_11_12 : w12.cell? ⟨w.heap.size, 0, none⟩ = some (.int .u8 c.toNat) := by rw [← e12]; first | exact q1_11 | exact ((bal (brf w11) _).cell (lt_of_cell q1_11)).trans q1_11 | exact ((bal (brf w11.drew) _).cell (lt_of_cell q1_11)).trans q1_11
          have q11_12 : w12.cell? ⟨w1.heap.size, 0, none⟩ = some (.int .u8 c.toNat) := by rw [← e12]; first | exact q11 | exact ((bal (brf w11) _).cell (lt_of_cell q11)).trans q11 | exact ((bal (brf w11.drew) _).cell (lt_of_cell q11)).trans q11
          refine wpAnyH_br 3 6 rfl rfl (by kernel_rfl) (fun K' hK' => ?_) (fun K' hK' => ?_)
          · rw [if_pos (by rfl)]
            go_simp
            go_at_call 137
            refine (SM.out _).mono ?_
            rintro e w13 ⟨rfl, h13⟩
            dsimp only
            refine hK'.out _ _ trivial ?_
            clear hK' K'
            have b_w13 : Below w.heap.size w w13 := by first | exact btr b_w12 h13 | exact btr (Below.drew b_w12) h13
            have q1_11_12_13 : w13.cell? ⟨w.heap.size, 0, none⟩ = some (.int .u8 c.toNat) := by exact (h13.cell (lt_of_cell q1_11_12)).trans q1_11_12
            have q11_12_13 : w13.cell? ⟨w1.heap.size, 0, none⟩ = some (.int .u8 c.toNat) := by exact (h13.cell (lt_of_cell q11_12)).trans q11_12
            refine wpAnyH_step 6 rfl (by kernel_rfl) (fun K' hK' => ?_)
            rw [if_pos (by rfl)]
            have cv14 := cv _ w13.drew q11_12_13
            have cw14 := cv _ w13 q11_12_13
            go_simp
            refine hK'.out _ _ trivial ?_
            clear hK' K'
            refine wpAnyH_name (fun w14 e14 => ?_)
            have b_w14 : Below w.heap.size w w14 := by rw [← e14]; first | exact bal b_w13 _ | exact bal (Below.drew b_w13) _ | exact Below.drew (bal b_w13 _) | exact Below.drew (bal (Below.drew b_w13) _) | exact b_w13 | exact Below.drew b_w13
            have q1_11_12_13_14 : w14.cell? ⟨w.heap.size, 0, none⟩ = some (.int .u8 c.toNat) := by rw [← e14]; first | exact q1_11_12_13 | exact ((bal (brf w13) _).cell (lt_of_cell q1_11_12_13)).trans q1_11_12_13 | exact ((bal (brf w13.drew) _).cell (lt_of_cell q1_11_12_13)).trans q1_11_12_13
            have q11_12_13_14 : w14.cell? ⟨w1.heap.size, 0, none⟩ = some (.int .u8 c.toNat) := by rw [← e14]; first | exact q11_12_13 | exact ((bal (brf w13) _).cell (lt_of_cell q11_12_13)).trans q11_12_13 | exact ((bal (brf w13.drew) _).cell (lt_of_cell q11_12_13)).trans q11_12_13
            refine wpAnyH_takeD 7 10 (v := ?_) rfl rfl (by kernel_rfl) (by kernel_rfl) (by kernel_rfl) (fun _ _ _ h => h) (Or.inl ⟨by rfl, ?_⟩) trivial ?_
            rotate_left
            · (intro w' hw'; (try dsimp only at hw'); go_simp; try with_reducible rfl)
            simp only [List.set_cons_zero, List.set_cons_succ]
            refine wpAnyH_takeD 8 11 (v := ?_) rfl rfl (by kernel_rfl) (by kernel_rfl) (by kernel_rfl) (fun _ _ _ h => h) (Or.inl ⟨by rfl, ?_⟩) trivial ?_
            rotate_left
            · (intro w' hw'; (try dsimp only at hw'); go_simp; try with_reducible rfl)
            simp only [List.set_cons_zero, List.set_cons_succ]
            refine wpAnyH_skipD 9 12 rfl rfl (by kernel_rfl) trivial (by rfl) ?_
            simp only [List.set_cons_zero, List.set_cons_succ]
            refine wpAnyH_skipD 10 13 rfl rfl (by kernel_rfl) trivial (by rfl) ?_
            simp only [List.set_cons_zero, List.set_cons_succ]
            refine wpAnyH_skipD 11 14 rfl rfl (by kernel_rfl) trivial (by rfl) ?_
            simp only [List.set_cons_zero, List.set_cons_succ]
            refine wpAnyH_skipD 12 15 rfl rfl (by kernel_rfl) trivial (by rfl) ?_
            simp only [List.set_cons_zero, List.set_cons_succ]
            refine wpAnyH_skipD 13 16 rfl rfl (by kernel_rfl) trivial (by rfl) ?_
            simp only [List.set_cons_zero, List.set_cons_succ]
            refine wpAnyH_skipD 14 17 rfl rfl (by kernel_rfl) trivial (by rfl) ?_
            simp only [List.set_cons_zero, List.set_cons_succ]
            refine wpAnyH_takeD 15 18 (v := ?_) rfl rfl (by kernel_rfl) (by kernel_rfl) (by kernel_rfl) (fun _ _ _ h => h) (Or.inl ⟨by rfl, ?_⟩) trivial ?_
            rotate_left
            · (intro w' hw'; (try dsimp only at hw'); go_simp; try with_reducible rfl)
            simp only [List.set_cons_zero, List.set_cons_succ]
            refine wpAnyH_takeD 16 2 (v := ?_) rfl rfl (by kernel_rfl) (by kernel_rfl) (by kernel_rfl) (fun _ _ _ h => h) (Or.inl ⟨by rfl, ?_⟩) trivial ?_
            rotate_left
            · (intro w' hw'; (try dsimp only at hw'); go_simp; try with_reducible rfl)
            simp only [List.set_cons_zero, List.set_cons_succ]
            refine wpAnyH_done (by kernel_rfl) ?_ _
            go_wp2
            go_ret
            exact ⟨by first | rfl | simp, by first | exact b_w14 | exact Below.drew b_w14⟩
          · rw [if_pos (by rfl)]
            have cv15 := cv _ w12.drew q11_12
            have cw15 := cv _ w12 q11_12
            go_simp
            refine hK'.out _ _ trivial ?_
            clear hK' K'
            refine wpAnyH_name (fun w15 e15 => ?_)
            have b_w15 : Below w.heap.size w w15 := by rw [← e15]; first | exact bal b_w12 _ | exact bal (Below.drew b_w12) _ | exact Below.drew (bal b_w12 _) | exact Below.drew (bal (Below.drew b_w12) _) | exact b_w12 | exact Below.drew b_w12
            have q1_11_12_15 : w15.cell? ⟨w.heap.size, 0, none⟩ = some (.int .u8 c.toNat) := by rw [← e15]; first | exact q1_11_12 | exact ((bal (brf w12) _).cell (lt_of_cell q1_11_12)).trans q1_11_12 | exact ((bal (brf w12.drew) _).cell (lt_of_cell q1_11_12)).trans q1_11_12
            have q11_12_15 : w15.cell? ⟨w1.heap.size, 0, none⟩ = some (.int .u8 c.toNat) := by rw [← e15]; first | exact q11_12 | exact ((bal (brf w12) _).cell (lt_of_cell q11_12)).trans q11_12 | exact ((bal (brf w12.drew) _).cell (lt_of_cell q11_12)).trans q11_12
            refine wpAnyH_step 3 rfl (by kernel_rfl) (fun K' hK' => ?_)
            rw [if_pos (by rfl)]
            go_simp
            go_at_call 137
            refine (SM.out _).mono ?_
            rintro e w16 ⟨rfl, h16⟩
            dsimp only
            refine hK'.out _ _ trivial ?_
            clear hK' K'
            have b_w16 : Below w.heap.size w w16 := by first | exact btr b_w15 h16 | exact btr (Below.drew b_w15) h16
            have q1_11_12_15_16 : w16.cell? ⟨w.heap.size, 0, none⟩ = some (.int .u8 c.toNat) := by exact (h16.cell (lt_of_cell q1_11_12_15)).trans q1_11_12_15
            have q11_12_15_16 : w16.cell? ⟨w1.heap.size, 0, none⟩ = some (.int .u8 c.toNat) := by exact (h16.cell (lt_of_cell q11_12_15)).trans q11_12_15
            refine wpAnyH_takeD 7 10 (v := ?_) rfl rfl (by kernel_rfl) (by kernel_rfl) (by kernel_rfl) (fun _ _ _ h => h) (Or.inl ⟨by rfl, ?_⟩) trivial ?_
            rotate_left
            · (intro w' hw'; (try dsimp only at hw'); go_simp; try with_reducible rfl)
            simp only [List.set_cons_zero, List.set_cons_succ]
            refine wpAnyH_takeD 8 11 (v := ?_) rfl rfl (by kernel_rfl) (by kernel_rfl) (by kernel_rfl) (fun _ _ _ h => h) (Or.inl ⟨by rfl, ?_⟩) trivial ?_
            rotate_left
            · (intro w' hw'; (try dsimp only at hw'); go_simp; try with_reducible rfl)
            simp only [List.set_cons_zero, List.set_cons_succ]
            refine wpAnyH_skipD 9 12 rfl rfl (by kernel_rfl) trivial (by rfl) ?_
            simp only [List.set_cons_zero, List.set_cons_succ]
            refine wpAnyH_skipD 10 13 rfl rfl (by kernel_rfl) trivial (by rfl) ?_
            simp only [List.set_cons_zero, List.set_cons_succ]
            refine wpAnyH_skipD 11 14 rfl rfl (by kernel_rfl) trivial (by rfl) ?_
            simp only [List.set_cons_zero, List.set_cons_succ]
            refine wpAnyH_skipD 12 15 rfl rfl (by kernel_rfl) trivial (by rfl) ?_
            simp only [List.set_cons_zero, List.set_cons_succ]
            refine wpAnyH_skipD 13 16 rfl rfl (by kernel_rfl) trivial (by rfl) ?_
            simp only [List.set_cons_zero, List.set_cons_succ]
            refine wpAnyH_skipD 14 17 rfl rfl (by kernel_rfl) trivial (by rfl) ?_
            simp only [List.set_cons_zero, List.set_cons_succ]
            refine wpAnyH_takeD 15 18 (v := ?_) rfl rfl (by kernel_rfl) (by kernel_rfl) (by kernel_rfl) (fun _ _ _ h => h) (Or.inl ⟨by rfl, ?_⟩) trivial ?_
            rotate_left
            · (intro w' hw'; (try dsimp only at hw'); go_simp; try with_reducible rfl)
            simp only [List.set_cons_zero, List.set_cons_succ]
            refine wpAnyH_takeD 16 2 (v := ?_) rfl rfl (by kernel_rfl) (by kernel_rfl) (by kernel_rfl) (fun _ _ _ h => h) (Or.inl ⟨by rfl, ?_⟩) trivial ?_
            rotate_left
            · (intro w' hw'; (try dsimp only at hw'); go_simp; try with_reducible rfl)
            simp only [List.set_cons_zero, List.set_cons_succ]
            refine wpAnyH_done (by kernel_rfl) ?_ _
            go_wp2
            go_ret
            exact ⟨by first | rfl | simp, by first | exact b_w16 | exact Below.drew b_w16⟩
        · rw [if_pos (by rfl)]
          have cv17 := cv _ w11.drew q11
          have cw17 := cv _ w11 q11
          go_simp
          refine hK'.out _ _ trivial ?_
          clear hK' K'
          refine wpAnyH_name (fun w17 e17 => ?_)
          have b_w17 : Below w.heap.size w w17 := by rw [← e17]; first | exact bal b_w11 _ | exact bal (Below.drew b_w11) _ | exact Below.drew (bal b_w11 _) | exact Below.drew (bal (Below.drew b_w11) _) | exact b_w11 | exact Below.drew b_w11
          have q1_11_17 : w17.cell? ⟨w.heap.size, 0, none⟩ = some (.int .u8 c.toNat) := by rw [← e17]; first | exact q1_11 | exact ((bal (brf w11) _).cell (lt_of_cell q1_11)).trans q1_11 | exact ((bal (brf w11.drew) _).cell (lt_of_cell q1_11)).trans q1_11
          have q11_17 : w17.cell? ⟨w1.heap.size, 0, none⟩ = some (.int .u8 c.toNat) := by rw [← e17]; first | exact q11 | exact ((bal (brf w11) _).cell (lt_of_cell q11)).trans q11 | exact ((bal (brf w11.drew) _).cell (lt_of_cell q11)).trans q11
          refine wpAnyH_step 2 rfl (by kernel_rfl) (fun K' hK' => ?_)
          rw [if_pos (by rfl)]
          have cv18 := cv _ w17.drew q1_11_17
          have cw18 := cv _ w17 q1_11_17
          go_simp
          refine hK'.out _ _ trivial ?_
          clear hK' K'
          refine wpAnyH_name (fun w18 e18 => ?_)
          have b_w18 : Below w.heap.size w w18 := by rw [← e18]; first | exact bal b_w17 _ | exact bal (Below.drew b_w17) _ | exact Below.drew (bal b_w17 _) | exact Below.drew (bal (Below.drew b_w17) _) | exact b_w17 | exact Below.drew b_w17
          have q1_11_17_18 : w18.cell? ⟨w.heap.size, 0, none⟩ = some (.int .u8 c.toNat) := by rw [← e18]; first | exact q1_11_17 | exact ((bal (brf w17) _).cell (lt_of_cell q1_11_17)).trans q1_11_17 | exact ((bal (brf w17.drew) _).cell (lt_of_cell q1_11_17)).trans q1_11_17
          have q11_17_18 : w18.cell? ⟨w1.heap.size, 0, none⟩ = some (.int .u8 c.toNat) := by rw [← e18]; first | exact q11_17 | exact ((bal (brf w17) _).cell (lt_of_cell q11_17)).trans q11_17 | exact ((bal (brf w17.drew) _).cell (lt_of_cell q11_17)).trans q11_17
          refine wpAnyH_step 3 rfl (by kernel_rfl) (fun K' hK' => ?_)
          rw [if_pos (by rfl)]
          go_simp
          go_at_call 137
          refine (SM.out _).mono ?_
          rintro e w19 ⟨rfl, h19⟩
          dsimp only
          refine hK'.out _ _ trivial ?_
          clear hK' K'
          have b_w19 : Below w.heap.size w w19 := by first | exact btr b_w18 h19 | exact btr (Below.drew b_w18) h19
          have q1_11_17_18_19 : w19.cell? ⟨w.heap.size, 0, none⟩ = some (.int .u8 c.toNat) := by exact (h19.cell (lt_of_cell q1_11_17_18)).trans q1_11_17_18
          have q11_17_18_19 : w19.cell? ⟨w1.heap.size, 0, none⟩ = some (.int .u8 c.toNat) := by exact (h19.cell (lt_of_cell q11_17_18)).trans q11_17_18
          refine wpAnyH_takeD 7 10 (v := ?_) rfl rfl (by kernel_rfl) (by kernel_rfl) (by kernel_rfl) (fun _ _ _ h => h) (Or.inl ⟨by rfl, ?_⟩) trivial ?_
          rotate_left
          · (intro w' hw'; (try dsimp only at hw'); go_simp; try with_reducible rfl)
          simp only [List.set_cons_zero, List.set_cons_succ]
          refine wpAnyH_takeD 8 11 (v := ?_) rfl rfl (by kernel_rfl) (by kernel_rfl) (by kernel_rfl) (fun _ _ _ h => h) (Or.inl ⟨by rfl, ?_⟩) trivial ?_
          rotate_left
          · (intro w' hw'; (try dsimp only at hw'); go_simp; try with_reducible rfl)
          simp only [List.set_cons_zero, List.set_cons_succ]
          refine wpAnyH_skipD 9 12 rfl rfl (by kernel_rfl) trivial (by rfl) ?_
          simp only [List.set_cons_zero, List.set_cons_succ]
          refine wpAnyH_skipD 10 13 rfl rfl (by kernel_rfl) trivial (by rfl) ?_
          simp only [List.set_cons_zero, List.set_cons_succ]
          refine wpAnyH_skipD 11 14 rfl rfl (by kernel_rfl) trivial (by rfl) ?_
          simp only [List.set_cons_zero, List.set_cons_succ]
          refine wpAnyH_skipD 12 15 rfl rfl (by kernel_rfl) trivial (by rfl) ?_
          simp only [List.set_cons_zero, List.set_cons_succ]
          refine wpAnyH_skipD 13 16 rfl rfl (by kernel_rfl) trivial (by rfl) ?_
          simp only [List.set_cons_zero, List.set_cons_succ]
          refine wpAnyH_skipD 14 17 rfl rfl (by kernel_rfl) trivial (by rfl) ?_
          simp only [List.set_cons_zero, List.set_cons_succ]
          refine wpAnyH_takeD 15 18 (v := ?_) rfl rfl (by kernel_rfl) (by kernel_rfl) (by kernel_rfl) (fun _ _ _ h => h) (Or.inl ⟨by rfl, ?_⟩) trivial ?_
          rotate_left
          · (intro w' hw'; (try dsimp only at hw'); go_simp; try with_reducible rfl)
          simp only [List.set_cons_zero, List.set_cons_succ]
          refine wpAnyH_takeD 16 2 (v := ?_) rfl rfl (by kernel_rfl) (by kernel_rfl) (by kernel_rfl) (fun _ _ _ h => h) (Or.inl ⟨by rfl, ?_⟩) trivial ?_
          rotate_left
          · (intro w' hw'; (try dsimp only at hw'); go_simp; try with_reducible rfl)
          simp only [List.set_cons_zero, List.set_cons_succ]
          refine wpAnyH_done (by kernel_rfl) ?_ _
          go_wp2
          go_ret
          exact ⟨by first | rfl | simp, by first | exact b_w19 | exact Below.drew b_w19⟩
    · rw [if_pos (by rfl)]
      go_simp
      refine hK'.out _ _ trivial ?_
      clear hK' K'
      refine wpAnyH_name (fun w20 e20 => ?_)
      have q20 : w20.cell? ⟨w.heap.size, 0, none⟩ = some (.int .u8 c.toNat) := by rw [← e20]; exact cellAt' (heap_new _ _) rfl
      have b_w20 : Below w.heap.size w w20 := by rw [← e20]; first | exact bal b_w _ | exact bal (Below.drew b_w) _ | exact Below.drew (bal b_w _) | exact Below.drew (bal (Below.drew b_w) _) | exact b_w | exact Below.drew b_w
      refine wpAnyH_br 1 6 rfl rfl (by kernel_rfl) (fun K' hK' => ?_) (fun K' hK' => ?_)
      · rw [if_pos (by rfl)]
        go_simp
        refine hK'.out _ _ trivial ?_
        clear hK' K'
        refine wpAnyH_name (fun w21 e21 => ?_)
        have q21 : w21.cell? ⟨w20.heap.size, 0, none⟩ = some (.int .u8 c.toNat) := by rw [← e21]; exact cellAt' (heap_new _ _) rfl
        have b_w21 : Below w.heap.size w w21 := by rw [← e21]; first | exact bal b_w20 _ | exact bal (Below.drew b_w20) _ | exact Below.drew (bal b_w20 _) | exact Below.drew (bal (Below.drew b_w20) _) | exact b_w20 | exact Below.drew b_w20
        have q20_21 : w21.cell? ⟨w.heap.size, 0, none⟩ = some (.int .u8 c.toNat) := by rw [← e21]; first | exact q20 | exact ((bal (brf w20) _).cell (lt_of_cell q20)).trans q20 | exact ((bal (brf w20.drew) _).cell (lt_of_cell q20)).trans q20
        refine wpAnyH_br 2 6 rfl rfl (by kernel_rfl) (fun K' hK' => ?_) (fun K' hK' => ?_)
        · rw [if_pos (by rfl)]
          have cv22 := cv _ w21.drew q21
          have cw22 := cv _ w21 q21
          go_simp
          refine hK'.out _ _ trivial ?_
          clear hK' K'
          refine wpAnyH_name (fun w22 e22 => ?_)
          have b_w22 : Below w.heap.size w w22 := by rw [← e22]; first | exact bal b_w21 _ | exact bal (Below.drew b_w21) _ | exact Below.drew (bal b_w21 _) | exact Below.drew (bal (Below.drew b_w21) _) | exact b_w21 | exact Below.drew b_w21
          have q20_21_22 : w22.cell? ⟨w.heap.size, 0, none⟩ = some (.int .u8 c.toNat) := by rw [← e22]; first | exact q20_21 | exact ((bal (brf w21) _).cell (lt_of_cell q20_21)).trans q20_21 | exact ((bal (brf w21.drew) _).cell (lt_of_cell q20_21)).trans q20_21
          have q21_22 : w22.cell? ⟨w20.heap.size, 0, none⟩ = some (.int .u8 c.toNat) := by rw [← e22]; first | exact q21 | exact ((bal (brf w21) _).cell (lt_of_cell q21)).trans q21 | exact ((bal (brf w21.drew) _).cell (lt_of_cell q21)).trans q21
          refine wpAnyH_br 3 6 rfl rfl (by kernel_rfl) (fun K' hK' => ?_) (fun K' hK' => ?_)
          · rw [if_pos (by rfl)]
            go_simp
            go_at_call 137
            refine (SM.out _).mono ?_
            rintro e w23 ⟨rfl, h23⟩
            dsimp only
            refine hK'.out _ _ trivial ?_
            clear hK' K'
            have b_w23 : Below w.heap.size w w23 := by first | exact btr b_w22 h23 | exact btr (Below.drew b_w22) h23
            have q20_21_22_23 : w23.cell? ⟨w.heap.size, 0, none⟩ = some (.int .u8 c.toNat) := by exact (h23.cell (lt_of_cell q20_21_22)).trans q20_21_22
            have q21_22_23 : w23.cell? ⟨w20.heap.size, 0, none⟩ = some (.int .u8 c.toNat) := by exact (h23.cell (lt_of_cell q21_22)).trans q21_22
            refine wpAnyH_step 6 rfl (by kernel_rfl) (fun K' hK' => ?_)
            rw [if_pos (by rfl)]
            have cv24 := cv _ w23.drew q20_21_22_23
            have cw24 := cv _ w23 q20_21_22_23
            go_simp
            refine hK'.out _ _ trivial ?_
            clear hK' K'
            refine wpAnyH_name (fun w24 e24 => ?_)
            have b_w24 : Below w.heap.size w w24 := by rw [← e24]; first | exact bal b_w23 _ | exact bal (Below.drew b_w23) _ | exact Below.drew (bal b_w23 _) | exact Below.drew (bal (Below.drew b_w23) _) | exact b_w23 | exact Below.drew b_w23
            have q20_21_22_23_24 : w24.cell? ⟨w.heap.size, 0, none⟩ = some (.int .u8 c.toNat) := by rw [← e24]; first | exact q20_21_22_23 | exact ((bal (brf w23) _).cell (lt_of_cell q20_21_22_23)).trans q20_21_22_23 | exact ((bal (brf w23.drew) _).cell (lt_of_cell q20_21_22_23)).trans q20_21_22_23
            have q21_22_23_24 : w24.cell? ⟨w20.heap.size, 0, none⟩ = some (.int .u8 c.toNat) := by rw [← e24]; first | exact q21_22_23 | exact ((bal (brf w23) _).cell (lt_of_cell q21_22_23)).trans q21_22_23 | exact ((bal (brf w23.drew) _).cell (lt_of_cell q21_22_23)).trans q21_22_23
            refine wpAnyH_takeD 7 10 (v := ?_) rfl rfl (by kernel_rfl) (by kernel_rfl) (by kernel_rfl) (fun _ _ _ h => h) (Or.inl ⟨by rfl, ?_⟩) trivial ?_
            rotate_left
            · (intro w' hw'; (try dsimp only at hw'); go_simp; try with_reducible rfl)
            simp only [List.set_cons_zero, List.set_cons_succ]
            refine wpAnyH_takeD 8 11 (v := ?_) rfl rfl (by kernel_rfl) (by kernel_rfl) (by kernel_rfl) (fun _ _ _ h => h) (Or.inl ⟨by rfl, ?_⟩) trivial ?_
            rotate_left
            · (intro w' hw'; (try dsimp only at hw'); go_simp; try with_reducible rfl)
            simp only [List.set_cons_zero, List.set_cons_succ]
            refine wpAnyH_skipD 9 12 rfl rfl (by kernel_rfl) trivial (by rfl) ?_
            simp only [List.set_cons_zero, List.set_cons_succ]
            refine wpAnyH_skipD 10 13 rfl rfl (by kernel_rfl) trivial (by rfl) ?_
            simp only [List.set_cons_zero, List.set_cons_succ]
            refine wpAnyH_skipD 11 14 rfl rfl (by kernel_rfl) trivial (by rfl) ?_
            simp only [List.set_cons_zero, List.set_cons_succ]
            refine wpAnyH_skipD 12 15 rfl rfl (by kernel_rfl) trivial (by rfl) ?_
            simp only [List.set_cons_zero, List.set_cons_succ]
            refine wpAnyH_skipD 13 16 rfl rfl (by kernel_rfl) trivial (by rfl) ?_
            simp only [List.set_cons_zero, List.set_cons_succ]
            refine wpAnyH_skipD 14 17 rfl rfl (by kernel_rfl) trivial (by rfl) ?_
            simp only [List.set_cons_zero, List.set_cons_succ]
            refine wpAnyH_takeD 15 18 (v := ?_) rfl rfl (by kernel_rfl) (by kernel_rfl) (by kernel_rfl) (fun _ _ _ h => h) (Or.inl ⟨by rfl, ?_⟩) trivial ?_
            rotate_left
            · (intro w' hw'; (try dsimp only at hw'); go_simp; try with_reducible rfl)
            simp only [List.set_cons_zero, List.set_cons_succ]
            refine wpAnyH_takeD 16 2 (v := ?_) rfl rfl (by kernel_rfl) (by kernel_rfl) (by kernel_rfl) (fun _ _ _ h => h) (Or.inl ⟨by rfl, ?_⟩) trivial ?_
            rotate_left
            · (intro w' hw'; (try dsimp only at hw'); go_simp; try with_reducible rfl)
            simp only [List.set_cons_zero, List.set_cons_succ]
            refine wpAnyH_done (by kernel_rfl) ?_ _
            go_wp2
            go_ret
            exact ⟨by first | rfl | simp, by first | exact b_w24 | exact Below.drew b_w24⟩
          · rw [if_pos (by rfl)]
            have cv25 := cv _ w22.drew q20_21_22
            have cw25 := cv _ w22 q20_21_22
            go_simp
            refine hK'.out _ _ trivial ?_
            clear hK' K'
            refine wpAnyH_name (fun w25 e25 => ?_)
            have b_w25 : Below w.heap.size w w25 := by rw [← e25]; first | exact bal b_w22 _ | exact bal (Below.drew b_w22) _ | exact Below.drew (bal b_w22 _) | exact Below.drew (bal (Below.drew b_w22) _) | exact b_w22 | exact Below.drew b_w22
            have q20_21_22_25 : w25.cell? ⟨w.heap.size, 0, none⟩ = some (.int .u8 c.toNat) := by rw [← e25]; first | exact q20_21_22 | exact ((bal (brf w22) _).cell (lt_of_cell q20_21_22)).trans q20_21_22 | exact ((bal (brf w22.drew) _).cell (lt_of_cell q20_21_22)).trans q20_21_22
            have q21_22_25 : w25.cell? ⟨w20.heap.size, 0, none⟩ = some (.int .u8 c.toNat) := by rw [← e25]; first | exact q21_22 | exact ((bal (brf w22) _).cell (lt_of_cell q21_22)).trans q21_22 | exact ((bal (brf w22.drew) _).cell (lt_of_cell q21_22)).trans q21_22
            refine wpAnyH_step 3 rfl (by kernel_rfl) (fun K' hK' => ?_)
            rw [if_pos (by rfl)]
            go_simp
            go_at_call 137
            refine (SM.out _).mono ?_
            rintro e w26 ⟨rfl, h26⟩
            dsimp only
            refine hK'.out _ _ trivial ?_
            clear hK' K'
            have b_w26 : Below w.heap.size w w26 := by first | exact btr b_w25 h26 | exact btr (Below.drew b_w25) h26
            have q20_21_22_25_26 : w26.cell? ⟨w.heap.size, 0, none⟩ = some (.int .u8 c.toNat) := by exact (h26.cell (lt_of_cell q20_21_22_25)).trans q20_21_22_25
            have q21_22_25_26 : w26.cell? ⟨w20.heap.size, 0, none⟩ = some (.int .u8 c.toNat) := by exact (h26.cell (lt_of_cell q21_22_25)).trans q21_22_25
            refine wpAnyH_takeD 7 10 (v := ?_) rfl rfl (by kernel_rfl) (by kernel_rfl) (by kernel_rfl) (fun _ _ _ h => h) (Or.inl ⟨by rfl, ?_⟩) trivial ?_
            rotate_left
            · (intro w' hw'; (try dsimp only at hw'); go_simp; try with_reducible rfl)
            simp only [List.set_cons_zero, List.set_cons_succ]
            refine wpAnyH_takeD 8 11 (v := ?_) rfl rfl (by kernel_rfl) (by kernel_rfl) (by kernel_rfl) (fun _ _ _ h => h) (Or.inl ⟨by rfl, ?_⟩) trivial ?_
            rotate_left
            · (intro w' hw'; (try dsimp only at hw'); go_simp; try with_reducible rfl)
            simp only [List.set_cons_zero, List.set_cons_succ]
            refine wpAnyH_skipD 9 12 rfl rfl (by kernel_rfl) trivial (by rfl) ?_
            simp only [List.set_cons_zero, List.set_cons_succ]
            refine wpAnyH_skipD 10 13 rfl rfl (by kernel_rfl) trivial (by rfl) ?_
            simp only [List.set_cons_zero, List.set_cons_succ]
            refine wpAnyH_skipD 11 14 rfl rfl (by kernel_rfl) trivial (by rfl) ?_
            simp only [List.set_cons_zero, List.set_cons_succ]
            refine wpAnyH_skipD 12 15 rfl rfl (by kernel_rfl) trivial (by rfl) ?_
            simp only [List.set_cons_zero, List.set_cons_succ]
            refine wpAnyH_skipD 13 16 rfl rfl (by kernel_rfl) trivial (by rfl) ?_
            simp only [List.set_cons_zero, List.set_cons_succ]
            refine wpAnyH_skipD 14 17 rfl rfl (by kernel_rfl) trivial (by rfl) ?_
            simp only [List.set_cons_zero, List.set_cons_succ]
            refine wpAnyH_takeD 15 18 (v := ?_) rfl rfl (by kernel_rfl) (by kernel_rfl) (by kernel_rfl) (fun _ _ _ h => h) (Or.inl ⟨by rfl, ?_⟩) trivial ?_
            rotate_left
            · (intro w' hw'; (try dsimp only at hw'); go_simp; try with_reducible rfl)
            simp only [List.set_cons_zero, List.set_cons_succ]
            refine wpAnyH_takeD 16 2 (v := ?_) rfl rfl (by kernel_rfl) (by kernel_rfl) (by kernel_rfl) (fun _ _ _ h => h) (Or.inl ⟨by rfl, ?_⟩) trivial ?_
            rotate_left
            · (intro w' hw'; (try dsimp only at hw'); go_simp; try with_reducible rfl)
            simp only [List.set_cons_zero, List.set_cons_succ]
            refine wpAnyH_done (by kernel_rfl) ?_ _
            go_wp2
            go_ret
            exact ⟨by first | rfl | simp, by first | exact b_w26 | exact Below.drew b_w26⟩
        · rw [if_pos (by rfl)]
          have cv27 := cv _ w21.drew q20_21
          have cw27 := cv _ w21 q20_21
          go_simp
          refine hK'.out _ _ trivial ?_
          clear hK' K'
          refine wpAnyH_name (fun w27 e27 => ?_)
          have b_w27 : Below w.heap.size w w27 := by rw [← e27]; first | exact bal b_w21 _ | exact bal (Below.drew b_w21) _ | exact Below.drew (bal b_w21 _) | exact Below.drew (bal (Below.drew b_w21) _) | exact b_w21 | exact Below.drew b_w21
          have q20_21_27 : w27.cell? ⟨w.heap.size, 0, none⟩ = some (.int .u8 c.toNat) := by rw [← e27]; first | exact q20_21 | exact ((bal (brf w21) _).cell (lt_of_cell q20_21)).trans q20_21 | exact ((bal (brf w21.drew) _).cell (lt_of_cell q20_21)).trans q20_21
          have q21_27 : w27.cell? ⟨w20.heap.size, 0, none⟩ = some (.int .u8 c.toNat) := by rw [← e27]; first | exact q21 | exact ((bal (brf w21) _).cell (lt_of_cell q21)).trans q21 | exact ((bal (brf w21.drew) _).cell (lt_of_cell q21)).trans q21
          refine wpAnyH_step 2 rfl (by kernel_rfl) (fun K' hK' => ?_)
          rw [if_pos (by rfl)]
          have cv28 := cv _ w27.drew q21_27
          have cw28 := cv _ w27 q21_27
          go_simp
          refine hK'.out _ _ trivial ?_
          clear hK' K'
          refine wpAnyH_name (fun w28 e28 => ?_)
          have b_w28 : Below w.heap.size w w28 := by rw [← e28]; first | exact bal b_w27 _ | exact bal (Below.drew b_w27) _ | exact Below.drew (bal b_w27 _) | exact Below.drew (bal (Below.drew b_w27) _) | exact b_w27 | exact Below.drew b_w27
          have q20_21_27_28 : w28.cell? ⟨w.heap.size, 0, none⟩ = some (.int .u8 c.toNat) := by rw [← e28]; first | exact q20_21_27 | exact ((bal (brf w27) _).cell (lt_of_cell q20_21_27)).trans q20_21_27 | exact ((bal (brf w27.drew) _).cell (lt_of_cell q20_21_27)).trans q20_21_27
          have q21_27_28 : w28.cell? ⟨w20.heap.size, 0, none⟩ = some (.int .u8 c.toNat) := by rw [← e28]; first | exact q21_27 | exact ((bal (brf w27) _).cell (lt_of_cell q21_27)).trans q21_27 | exact ((bal (brf w27.drew) _).cell (lt_of_cell q21_27)).trans q21_27
          refine wpAnyH_step 3 rfl (by kernel_rfl) (fun K' hK' => ?_)
          rw [if_pos (by rfl)]
          go_simp
          go_at_call 137
          refine (SM.out _).mono ?_
          rintro e w29 ⟨rfl, h29⟩
          dsimp only
          refine hK'.out _ _ trivial ?_
          clear hK' K'
          have b_w29 : Below w.heap.size w w29 := by first | exact btr b_w28 h29 | exact btr (Below.drew b_w28) h29
          have q20_21_27_28_29 : w29.cell? ⟨w.heap.size, 0, none⟩ = some (.int .u8 c.toNat) := by exact (h29.cell (lt_of_cell q20_21_27_28)).trans q20_21_27_28
          have q21_27_28_29 : w29.cell? ⟨w20.heap.size, 0, none⟩ = some (.int .u8 c.toNat) := by exact (h29.cell (lt_of_cell q21_27_28)).trans q21_27_28
          refine wpAnyH_takeD 7 10 (v := ?_) rfl rfl (by kernel_rfl) (by kernel_rfl) (by kernel_rfl) (fun _ _ _ h => h) (Or.inl ⟨by rfl, ?_⟩) trivial ?_
          rotate_left
          · (intro w' hw'; (try dsimp only at hw'); go_simp; try with_reducible rfl)
          simp only [List.set_cons_zero, List.set_cons_succ]
          refine wpAnyH_takeD 8 11 (v := ?_) rfl rfl (by kernel_rfl) (by kernel_rfl) (by kernel_rfl) (fun _ _ _ h => h) (Or.inl ⟨by rfl, ?_⟩) trivial ?_
          rotate_left
          · (intro w' hw'; (try dsimp only at hw'); go_simp; try with_reducible rfl)
          simp only [List.set_cons_zero, List.set_cons_succ]
          refine wpAnyH_skipD 9 12 rfl rfl (by kernel_rfl) trivial (by rfl) ?_
          simp only [List.set_cons_zero, List.set_cons_succ]
          refine wpAnyH_skipD 10 13 rfl rfl (by kernel_rfl) trivial (by rfl) ?_
          simp only [List.set_cons_zero, List.set_cons_succ]
          refine wpAnyH_skipD 11 14 rfl rfl (by kernel_rfl) trivial (by rfl) ?_
          simp only [List.set_cons_zero, List.set_cons_succ]
          refine wpAnyH_skipD 12 15 rfl rfl (by kernel_rfl) trivial (by rfl) ?_
          simp only [List.set_cons_zero, List.set_cons_succ]
          refine wpAnyH_skipD 13 16 rfl rfl (by kernel_rfl) trivial (by rfl) ?_
          simp only [List.set_cons_zero, List.set_cons_succ]
          refine wpAnyH_skipD 14 17 rfl rfl (by kernel_rfl) trivial (by rfl) ?_
          simp only [List.set_cons_zero, List.set_cons_succ]
          refine wpAnyH_takeD 15 18 (v := ?_) rfl rfl (by kernel_rfl) (by kernel_rfl) (by kernel_rfl) (fun _ _ _ h => h) (Or.inl ⟨by rfl, ?_⟩) trivial ?_
          rotate_left
          · (intro w' hw'; (try dsimp only at hw'); go_simp; try with_reducible rfl)
          simp only [List.set_cons_zero, List.set_cons_succ]
          refine wpAnyH_takeD 16 2 (v := ?_) rfl rfl (by kernel_rfl) (by kernel_rfl) (by kernel_rfl) (fun _ _ _ h => h) (Or.inl ⟨by rfl, ?_⟩) trivial ?_
          rotate_left
          · (intro w' hw'; (try dsimp only at hw'); go_simp; try with_reducible rfl)
          simp only [List.set_cons_zero, List.set_cons_succ]
          refine wpAnyH_done (by kernel_rfl) ?_ _
          go_wp2
          go_ret
          exact ⟨by first | rfl | simp, by first | exact b_w29 | exact Below.drew b_w29⟩
      · rw [if_pos (by rfl)]
        have cv30 := cv _ w20.drew q20
        have cw30 := cv _ w20 q20
        go_simp
        refine hK'.out _ _ trivial ?_
        clear hK' K'
        refine wpAnyH_name (fun w30 e30 => ?_)
        have b_w30 : Below w.heap.size w w30 := by rw [← e30]; first | exact bal b_w20 _ | exact bal (Below.drew b_w20) _ | exact Below.drew (bal b_w20 _) | exact Below.drew (bal (Below.drew b_w20) _) | exact b_w20 | exact Below.drew b_w20
        have q20_30 : w30.cell? ⟨w.heap.size, 0, none⟩ = some (.int .u8 c.toNat) := by rw [← e30]; first | exact q20 | exact ((bal (brf w20) _).cell (lt_of_cell q20)).trans q20 | exact ((bal (brf w20.drew) _).cell (lt_of_cell q20)).trans q20
        refine wpAnyH_step 1 rfl (by kernel_rfl) (fun K' hK' => ?_)
        rw [if_pos (by rfl)]
        go_simp
        refine hK'.out _ _ trivial ?_
        clear hK' K'
        refine wpAnyH_name (fun w31 e31 => ?_)
        have q31 : w31.cell? ⟨w30.heap.size, 0, none⟩ = some (.int .u8 c.toNat) := by rw [← e31]; exact cellAt' (heap_new _ _) rfl
        have b_w31 : Below w.heap.size w w31 := by rw [← e31]; first | exact bal b_w30 _ | exact bal (Below.drew b_w30) _ | exact Below.drew (bal b_w30 _) | exact Below.drew (bal (Below.drew b_w30) _) | exact b_w30 | exact Below.drew b_w30
        have q20_30_31 : w31.cell? ⟨w.heap.size, 0, none⟩ = some (.int .u8 c.toNat) := by rw [← e31]; first | exact q20_30 | exact ((bal (brf w30) _).cell (lt_of_cell q20_30)).trans q20_30 | exact ((bal (brf w30.drew) _).cell (lt_of_cell q20_30)).trans q20_30
        refine wpAnyH_step 2 rfl (by kernel_rfl) (fun K' hK' => ?_)
        rw [if_pos (by rfl)]
        have cv32 := cv _ w31.drew q31
        have cw32 := cv _ w31 q31
        go_simp
        refine hK'.out _ _ trivial ?_
        clear hK' K'
        refine wpAnyH_name (fun w32 e32 => ?_)
        have b_w32 : Below w.heap.size w w32 := by rw [← e32]; first | exact bal b_w31 _ | exact bal (Below.drew b_w31) _ | exact Below.drew (bal b_w31 _) | exact Below.drew (bal (Below.drew b_w31) _) | exact b_w31 | exact Below.drew b_w31
        have q20_30_31_32 : w32.cell? ⟨w.heap.size, 0, none⟩ = some (.int .u8 c.toNat) := by rw [← e32]; first | exact q20_30_31 | exact ((bal (brf w31) _).cell (lt_of_cell q20_30_31)).trans q20_30_31 | exact ((bal (brf w31.drew) _).cell (lt_of_cell q20_30_31)).trans q20_30_31
        have q31_32 : w32.cell? ⟨w30.heap.size, 0, none⟩ = some (.int .u8 c.toNat) := by rw [← e32]; first | exact q31 | exact ((bal (brf w31) _).cell (lt_of_cell q31)).trans q31 | exact ((bal (brf w31.drew) _).cell (lt_of_cell q31)).trans q31
        refine wpAnyH_step 3 rfl (by kernel_rfl) (fun K' hK' => ?_)
        rw [if_pos (by rfl)]
        go_simp
        go_at_call 137
        refine (SM.out _).mono ?_
        rintro e w33 ⟨rfl, h33⟩
        dsimp only
        refine hK'.out _ _ trivial ?_
        clear hK' K'
        have b_w33 : Below w.heap.size w w33 := by first | exact btr b_w32 h33 | exact btr (Below.drew b_w32) h33
        have q20_30_31_32_33 : w33.cell? ⟨w.heap.size, 0, none⟩ = some (.int .u8 c.toNat) := by exact (h33.cell (lt_of_cell q20_30_31_32)).trans q20_30_31_32
        have q31_32_33 : w33.cell? ⟨w30.heap.size, 0, none⟩ = some (.int .u8 c.toNat) := by exact (h33.cell (lt_of_cell q31_32)).trans q31_32
        refine wpAnyH_takeD 7 10 (v := ?_) rfl rfl (by kernel_rfl) (by kernel_rfl) (by kernel_rfl) (fun _ _ _ h => h) (Or.inl ⟨by rfl, ?_⟩) trivial ?_
        rotate_left
        · (intro w' hw'; (try dsimp only at hw'); go_simp; try with_reducible rfl)
        simp only [List.set_cons_zero, List.set_cons_succ]
        refine wpAnyH_takeD 8 11 (v := ?_) rfl rfl (by kernel_rfl) (by kernel_rfl) (by kernel_rfl) (fun _ _ _ h => h) (Or.inl ⟨by rfl, ?_⟩) trivial ?_
        rotate_left
        · (intro w' hw'; (try dsimp only at hw'); go_simp; try with_reducible rfl)
        simp only [List.set_cons_zero, List.set_cons_succ]
        refine wpAnyH_skipD 9 12 rfl rfl (by kernel_rfl) trivial (by rfl) ?_
        simp only [List.set_cons_zero, List.set_cons_succ]
        refine wpAnyH_skipD 10 13 rfl rfl (by kernel_rfl) trivial (by rfl) ?_
        simp only [List.set_cons_zero, List.set_cons_succ]
        refine wpAnyH_skipD 11 14 rfl rfl (by kernel_rfl) trivial (by rfl) ?_
        simp only [List.set_cons_zero, List.set_cons_succ]
        refine wpAnyH_skipD 12 15 rfl rfl (by kernel_rfl) trivial (by rfl) ?_
        simp only [List.set_cons_zero, List.set_cons_succ]
        refine wpAnyH_skipD 13 16 rfl rfl (by kernel_rfl) trivial (by rfl) ?_
        simp only [List.set_cons_zero, List.set_cons_succ]
        refine wpAnyH_skipD 14 17 rfl rfl (by kernel_rfl) trivial (by rfl) ?_
        simp only [List.set_cons_zero, List.set_cons_succ]
        refine wpAnyH_takeD 15 18 (v := ?_) rfl rfl (by kernel_rfl) (by kernel_rfl) (by kernel_rfl) (fun _ _ _ h => h) (Or.inl ⟨by rfl, ?_⟩) trivial ?_
        rotate_left
        · (intro w' hw'; (try dsimp only at hw'); go_simp; try with_reducible rfl)
        simp only [List.set_cons_zero, List.set_cons_succ]
        refine wpAnyH_takeD 16 2 (v := ?_) rfl rfl (by kernel_rfl) (by kernel_rfl) (by kernel_rfl) (fun _ _ _ h => h) (Or.inl ⟨by rfl, ?_⟩) trivial ?_
        rotate_left
        · (intro w' hw'; (try dsimp only at hw'); go_simp; try with_reducible rfl)
        simp only [List.set_cons_zero, List.set_cons_succ]
        refine wpAnyH_done (by kernel_rfl) ?_ _
        go_wp2
        go_ret
        exact ⟨by first | rfl | simp, by first | exact b_w33 | exact Below.drew b_w33⟩
  | true =>
    have hv : (x != [c]) = false := by simp [bne, hne]
    rw [hv]
    cases h97 : decide ((c.toNat : Int) ≥ 97) with
    | true =>
      go_enter Tryz.func135, Tryz.ntmps135
      go_upto_region 1 with fail
      refine wp_region_held (S := fun _ => True) (by kernel_rfl) ?_
      have b_w := brf w
      refine wpAnyH_takeD 0 3 (v := ?_) rfl rfl (by kernel_rfl) (by kernel_rfl) (by kernel_rfl) (fun _ _ _ h => h) (Or.inl ⟨by rfl, ?_⟩) trivial ?_
      rotate_left
      · (intro w' hw'; (try dsimp only at hw'); go_simp; try with_reducible rfl)
      simp only [List.set_cons_zero, List.set_cons_succ]
      refine wpAnyH_takeD 4 7 (v := ?_) rfl rfl (by kernel_rfl) (by kernel_rfl) (by kernel_rfl) (fun _ _ _ h => h) (Or.inl ⟨by rfl, ?_⟩) trivial ?_
      rotate_left
      · (intro w' hw'; (try dsimp only at hw'); go_simp; try with_reducible rfl)
      simp only [List.set_cons_zero, List.set_cons_succ]
      refine wpAnyH_br 1 5 rfl rfl (by kernel_rfl) (fun K' hK' => ?_) (fun K' hK' => ?_)
      · rw [if_pos (by rfl)]
        go_simp
        refine hK'.out _ _ trivial ?_
        clear hK' K'
        refine wpAnyH_name (fun w34 e34 => ?_)
        have q34 : w34.cell? ⟨w.heap.size, 0, none⟩ = some (.int .u8 c.toNat) := by rw [← e34]; exact cellAt' (heap_new _ _) rfl
        have b_w34 : Below w.heap.size w w34 := by rw [← e34]; first | exact bal b_w _ | exact bal (Below.drew b_w) _ | exact Below.drew (bal b_w _) | exact Below.drew (bal (Below.drew b_w) _) | exact b_w | exact Below.drew b_w
        refine wpAnyH_br 2 5 rfl rfl (by kernel_rfl) (fun K' hK' => ?_) (fun K' hK' => ?_)
        · rw [if_pos (by rfl)]
          have cv35 := cv _ w34.drew q34
          have cw35 := cv _ w34 q34
          go_simp
          refine hK'.out _ _ trivial ?_
          clear hK' K'
          refine wpAnyH_name (fun w35 e35 => ?_)
          have b_w35 : Below w.heap.size w w35 := by rw [← e35]; first | exact bal b_w34 _ | exact bal (Below.drew b_w34) _ | exact Below.drew (bal b_w34 _) | exact Below.drew (bal (Below.drew b_w34) _) | exact b_w34 | exact Below.drew b_w34
          have q34_35 : w35.cell? ⟨w.heap.size, 0, none⟩ = some (.int .u8 c.toNat) := by rw [← e35]; first | exact q34 | exact ((bal (brf w34) _).cell (lt_of_cell q34)).trans q34 | exact ((bal (brf w34.drew) _).cell (lt_of_cell q34)).trans q34
          refine wpAnyH_br 3 5 rfl rfl (by kernel_rfl) (fun K' hK' => ?_) (fun K' hK' => ?_)
          · rw [if_pos (by rfl)]
            go_simp
            go_at_call 137
            refine (SM.out _).mono ?_
            rintro e w36 ⟨rfl, h36⟩
            dsimp only
            refine hK'.out _ _ trivial ?_
            clear hK' K'
            have b_w36 : Below w.heap.size w w36 := by first | exact btr b_w35 h36 | exact btr (Below.drew b_w35) h36
            have q34_35_36 : w36.cell? ⟨w.heap.size, 0, none⟩ = some (.int .u8 c.toNat) := by exact (h36.cell (lt_of_cell q34_35)).trans q34_35
            refine wpAnyH_step 5 rfl (by kernel_rfl) (fun K' hK' => ?_)
            rw [if_pos (by rfl)]
            go_simp
            refine hK'.out _ _ trivial ?_
            clear hK' K'
            refine wpAnyH_name (fun w37 e37 => ?_)
            have q37 : w37.cell? ⟨w36.heap.size, 0, none⟩ = some (.int .u8 c.toNat) := by rw [← e37]; exact cellAt' (heap_new _ _) rfl
            have b_w37 : Below w.heap.size w w37 := by rw [← e37]; first | exact bal b_w36 _ | exact bal (Below.drew b_w36) _ | exact Below.drew (bal b_w36 _) | exact Below.drew (bal (Below.drew b_w36) _) | exact b_w36 | exact Below.drew b_w36
            have q34_35_36_37 : w37.cell? ⟨w.heap.size, 0, none⟩ = some (.int .u8 c.toNat) := by rw [← e37]; first | exact q34_35_36 | exact ((bal (brf w36) _).cell (lt_of_cell q34_35_36)).trans q34_35_36 | exact ((bal (brf w36.drew) _).cell (lt_of_cell q34_35_36)).trans q34_35_36
            refine wpAnyH_step 6 rfl (by kernel_rfl) (fun K' hK' => ?_)
            rw [if_pos (by rfl)]
            have cv38 := cv _ w37.drew q37
            have cw38 := cv _ w37 q37
            go_simp
            refine hK'.out _ _ trivial ?_
            clear hK' K'
            refine wpAnyH_name (fun w38 e38 => ?_)
            have b_w38 : Below w.heap.size w w38 := by rw [← e38]; first | exact bal b_w37 _ | exact bal (Below.drew b_w37) _ | exact Below.drew (bal b_w37 _) | exact Below.drew (bal (Below.drew b_w37) _) | exact b_w37 | exact Below.drew b_w37
            have q34_35_36_37_38 : w38.cell? ⟨w.heap.size, 0, none⟩ = some (.int .u8 c.toNat) := by rw [← e38]; first | exact q34_35_36_37 | exact ((bal (brf w37) _).cell (lt_of_cell q34_35_36_37)).trans q34_35_36_37 | exact ((bal (brf w37.drew) _).cell (lt_of_cell q34_35_36_37)).trans q34_35_36_37
            have q37_38 : w38.cell? ⟨w36.heap.size, 0, none⟩ = some (.int .u8 c.toNat) := by rw [← e38]; first | exact q37 | exact ((bal (brf w37) _).cell (lt_of_cell q37)).trans q37 | exact ((bal (brf w37.drew) _).cell (lt_of_cell q37)).trans q37
            refine wpAnyH_takeD 7 10 (v := ?_) rfl rfl (by kernel_rfl) (by kernel_rfl) (by kernel_rfl) (fun _ _ _ h => h) (Or.inl ⟨by rfl, ?_⟩) trivial ?_
            rotate_left
            · (intro w' hw'; (try dsimp only at hw'); go_simp; try with_reducible rfl)
            simp only [List.set_cons_zero, List.set_cons_succ]
            refine wpAnyH_takeD 8 11 (v := ?_) rfl rfl (by kernel_rfl) (by kernel_rfl) (by kernel_rfl) (fun _ _ _ h => h) (Or.inl ⟨by rfl, ?_⟩) trivial ?_
            rotate_left
            · (intro w' hw'; (try dsimp only at hw'); go_simp; try with_reducible rfl)
            simp only [List.set_cons_zero, List.set_cons_succ]
            refine wpAnyH_takeD 9 12 (v := ?_) rfl rfl (by kernel_rfl) (by kernel_rfl) (by kernel_rfl) (fun _ _ _ h => h) (Or.inl ⟨by rfl, ?_⟩) trivial ?_
            rotate_left
            · (intro w' hw'; (try dsimp only at hw'); go_simp; try with_reducible rfl)
            simp only [List.set_cons_zero, List.set_cons_succ]
            refine wpAnyH_takeD 10 13 (v := ?_) rfl rfl (by kernel_rfl) (by kernel_rfl) (by kernel_rfl) (fun _ _ _ h => h) (Or.inl ⟨by rfl, ?_⟩) trivial ?_
            rotate_left
            · (intro w' hw'; (try dsimp only at hw'); go_simp; try with_reducible rfl)
            simp only [List.set_cons_zero, List.set_cons_succ]
            refine wpAnyH_takeD 11 14 (v := ?_) rfl rfl (by kernel_rfl) (by kernel_rfl) (by kernel_rfl) (fun _ _ _ h => h) (Or.inl ⟨by rfl, ?_⟩) trivial ?_
            rotate_left
            · (intro w' hw'; (try dsimp only at hw'); go_simp; try with_reducible rfl)
            simp only [List.set_cons_zero, List.set_cons_succ]
            refine wpAnyH_takeD 12 15 (v := ?_) rfl rfl (by kernel_rfl) (by kernel_rfl) (by kernel_rfl) (fun _ _ _ h => h) (Or.inl ⟨by rfl, ?_⟩) trivial ?_
            rotate_left
            · (intro w' hw'; (try dsimp only at hw'); go_simp; try with_reducible rfl)
            simp only [List.set_cons_zero, List.set_cons_succ]
            refine wpAnyH_takeD 13 16 (v := ?_) rfl rfl (by kernel_rfl) (by kernel_rfl) (by kernel_rfl) (fun _ _ _ h => h) (Or.inl ⟨by rfl, ?_⟩) trivial ?_
            rotate_left
            · (intro w' hw'; (try dsimp only at hw'); go_simp; try with_reducible rfl)
            simp only [List.set_cons_zero, List.set_cons_succ]
            refine wpAnyH_takeD 14 17 (v := ?_) rfl rfl (by kernel_rfl) (by kernel_rfl) (by kernel_rfl) (fun _ _ _ h => h) (Or.inl ⟨by rfl, ?_⟩) trivial ?_
            rotate_left
            · (intro w' hw'; (try dsimp only at hw'); go_simp; try with_reducible rfl)
            simp only [List.set_cons_zero, List.set_cons_succ]
            refine wpAnyH_takeD 15 18 (v := ?_) rfl rfl (by kernel_rfl) (by kernel_rfl) (by kernel_rfl) (fun _ _ _ h => h) (Or.inl ⟨by rfl, ?_⟩) trivial ?_
            rotate_left
            · (intro w' hw'; (try dsimp only at hw'); go_simp; try with_reducible rfl)
            simp only [List.set_cons_zero, List.set_cons_succ]
            refine wpAnyH_takeD 16 2 (v := ?_) rfl rfl (by kernel_rfl) (by kernel_rfl) (by kernel_rfl) (fun _ _ _ h => h) (Or.inl ⟨by rfl, ?_⟩) trivial ?_
            rotate_left
            · (intro w' hw'; (try dsimp only at hw'); go_simp; try with_reducible rfl)
            simp only [List.set_cons_zero, List.set_cons_succ]
            refine wpAnyH_done (by kernel_rfl) ?_ _
            go_wp2
            go_ret
            exact ⟨by first | rfl | simp, by first | exact b_w38 | exact Below.drew b_w38⟩
          · rw [if_pos (by rfl)]
            go_simp
            refine hK'.out _ _ trivial ?_
            clear hK' K'
            refine wpAnyH_name (fun w39 e39 => ?_)
            have q39 : w39.cell? ⟨w35.heap.size, 0, none⟩ = some (.int .u8 c.toNat) := by rw [← e39]; exact cellAt' (heap_new _ _) rfl
            have b_w39 : Below w.heap.size w w39 := by rw [← e39]; first | exact bal b_w35 _ | exact bal (Below.drew b_w35) _ | exact Below.drew (bal b_w35 _) | exact Below.drew (bal (Below.drew b_w35) _) | exact b_w35 | exact Below.drew b_w35
            have q34_35_39 : w39.cell? ⟨w.heap.size, 0, none⟩ = some (.int .u8 c.toNat) := by rw [← e39]; first | exact q34_35 | exact ((bal (brf w35) _).cell (lt_of_cell q34_35)).trans q34_35 | exact ((bal (brf w35.drew) _).cell (lt_of_cell q34_35)).trans q34_35
            refine wpAnyH_br 3 6 rfl rfl (by kernel_rfl) (fun K' hK' => ?_) (fun K' hK' => ?_)
            · rw [if_pos (by rfl)]
              go_simp
              go_at_call 137
              refine (SM.out _).mono ?_
              rintro e w40 ⟨rfl, h40⟩
              dsimp only
              refine hK'.out _ _ trivial ?_
              clear hK' K'
              have b_w40 : Below w.heap.size w w40 := by first | exact btr b_w39 h40 | exact btr (Below.drew b_w39) h40
              have q34_35_39_40 : w40.cell? ⟨w.heap.size, 0, none⟩ = some (.int .u8 c.toNat) := by exact (h40.cell (lt_of_cell q34_35_39)).trans q34_35_39
              have q39_40 : w40.cell? ⟨w35.heap.size, 0, none⟩ = some (.int .u8 c.toNat) := by exact (h40.cell (lt_of_cell q39)).trans q39
              refine wpAnyH_step 6 rfl (by kernel_rfl) (fun K' hK' => ?_)
              rw [if_pos (by rfl)]
              have cv41 := cv _ w40.drew q39_40
              have cw41 := cv _ w40 q39_40
              go_simp
              refine hK'.out _ _ trivial ?_
              clear hK' K'
              refine wpAnyH_name (fun w41 e41 => ?_)
              have b_w41 : Below w.heap.size w w41 := by rw [← e41]; first | exact bal b_w40 _ | exact bal (Below.drew b_w40) _ | exact Below.drew (bal b_w40 _) | exact Below.drew (bal (Below.drew b_w40) _) | exact b_w40 | exact Below.drew b_w40
              have q34_35_39_40_41 : w41.cell? ⟨w.heap.size, 0, none⟩ = some (.int .u8 c.toNat) := by rw [← e41]; first | exact q34_35_39_40 | exact ((bal (brf w40) _).cell (lt_of_cell q34_35_39_40)).trans q34_35_39_40 | exact ((bal (brf w40.drew) _).cell (lt_of_cell q34_35_39_40)).trans q34_35_39_40
              have q39_40_41 : w41.cell? ⟨w35.heap.size, 0, none⟩ = some (.int .u8 c.toNat) := by rw [← e41]; first | exact q39_40 | exact ((bal (brf w40) _).cell (lt_of_cell q39_40)).trans q39_40 | exact ((bal (brf w40.drew) _).cell (lt_of_cell q39_40)).trans q39_40
              refine wpAnyH_takeD 7 10 (v := ?_) rfl rfl (by kernel_rfl) (by kernel_rfl) (by kernel_rfl) (fun _ _ _ h => h) (Or.inl ⟨by rfl, ?_⟩) trivial ?_
              rotate_left
              · (intro w' hw'; (try dsimp only at hw'); go_simp; try with_reducible rfl)
              simp only [List.set_cons_zero, List.set_cons_succ]
              refine wpAnyH_takeD 8 11 (v := ?_) rfl rfl (by kernel_rfl) (by kernel_rfl) (by kernel_rfl) (fun _ _ _ h => h) (Or.inl ⟨by rfl, ?_⟩) trivial ?_
              rotate_left
              · (intro w' hw'; (try dsimp only at hw'); go_simp; try with_reducible rfl)
              simp only [List.set_cons_zero, List.set_cons_succ]
              refine wpAnyH_takeD 9 12 (v := ?_) rfl rfl (by kernel_rfl) (by kernel_rfl) (by kernel_rfl) (fun _ _ _ h => h) (Or.inl ⟨by rfl, ?_⟩) trivial ?_
              rotate_left
              · (intro w' hw'; (try dsimp only at hw'); go_simp; try with_reducible rfl)
              simp only [List.set_cons_zero, List.set_cons_succ]
              refine wpAnyH_takeD 10 13 (v := ?_) rfl rfl (by kernel_rfl) (by kernel_rfl) (by kernel_rfl) (fun _ _ _ h => h) (Or.inl ⟨by rfl, ?_⟩) trivial ?_
              rotate_left
              · (intro w' hw'; (try dsimp only at hw'); go_simp; try with_reducible rfl)
              simp only [List.set_cons_zero, List.set_cons_succ]
              refine wpAnyH_takeD 11 14 (v := ?_) rfl rfl (by kernel_rfl) (by kernel_rfl) (by kernel_rfl) (fun _ _ _ h => h) (Or.inl ⟨by rfl, ?_⟩) trivial ?_
              rotate_left
              · (intro w' hw'; (try dsimp only at hw'); go_simp; try with_reducible rfl)
              simp only [List.set_cons_zero, List.set_cons_succ]
              refine wpAnyH_takeD 12 15 (v := ?_) rfl rfl (by kernel_rfl) (by kernel_rfl) (by kernel_rfl) (fun _ _ _ h => h) (Or.inl ⟨by rfl, ?_⟩) trivial ?_
              rotate_left
              · (intro w' hw'; (try dsimp only at hw'); go_simp; try with_reducible rfl)
              simp only [List.set_cons_zero, List.set_cons_succ]
              refine wpAnyH_takeD 13 16 (v := ?_) rfl rfl (by kernel_rfl) (by kernel_rfl) (by kernel_rfl) (fun _ _ _ h => h) (Or.inl ⟨by rfl, ?_⟩) trivial ?_
              rotate_left
              · (intro w' hw'; (try dsimp only at hw'); go_simp; try with_reducible rfl)
              simp only [List.set_cons_zero, List.set_cons_succ]
              refine wpAnyH_takeD 14 17 (v := ?_) rfl rfl (by kernel_rfl) (by kernel_rfl) (by kernel_rfl) (fun _ _ _ h => h) (Or.inl ⟨by rfl, ?_⟩) trivial ?_
              rotate_left
              · (intro w' hw'; (try dsimp only at hw'); go_simp; try with_reducible rfl)
              simp only [List.set_cons_zero, List.set_cons_succ]
              refine wpAnyH_takeD 15 18 (v := ?_) rfl rfl (by kernel_rfl) (by kernel_rfl) (by kernel_rfl) (fun _ _ _ h => h) (Or.inl ⟨by rfl, ?_⟩) trivial ?_
              rotate_left
              · (intro w' hw'; (try dsimp only at hw'); go_simp; try with_reducible rfl)
              simp only [List.set_cons_zero, List.set_cons_succ]
              refine wpAnyH_takeD 16 2 (v := ?_) rfl rfl (by kernel_rfl) (by kernel_rfl) (by kernel_rfl) (fun _ _ _ h => h) (Or.inl ⟨by rfl, ?_⟩) trivial ?_
              rotate_left
              · (intro w' hw'; (try dsimp only at hw'); go_simp; try with_reducible rfl)
              simp only [List.set_cons_zero, List.set_cons_succ]
              refine wpAnyH_done (by kernel_rfl) ?_ _
              go_wp2
              go_ret
              exact ⟨by first | rfl | simp, by first | exact b_w41 | exact Below.drew b_w41⟩
            · rw [if_pos (by rfl)]
              have cv42 := cv _ w39.drew q39
              have cw42 := cv _ w39 q39
              go_simp
              refine hK'.out _ _ trivial ?_
              clear hK' K'
              refine wpAnyH_name (fun w42 e42 => ?_)
              have b_w42 : Below w.heap.size w w42 := by rw [← e42]; first | exact bal b_w39 _ | exact bal (Below.drew b_w39) _ | exact Below.drew (bal b_w39 _) | exact Below.drew (bal (Below.drew b_w39) _) | exact b_w39 | exact Below.drew b_w39
              have q34_35_39_42 : w42.cell? ⟨w.heap.size, 0, none⟩ = some (.int .u8 c.toNat) := by rw [← e42]; first | exact q34_35_39 | exact ((bal (brf w39) _).cell (lt_of_cell q34_35_39)).trans q34_35_39 | exact ((bal (brf w39.drew) _).cell (lt_of_cell q34_35_39)).trans q34_35_39
              have q39_42 : w42.cell? ⟨w35.heap.size, 0, none⟩ = some (.int .u8 c.toNat) := by rw [← e42]; first | exact q39 | exact ((bal (brf w39) _).cell (lt_of_cell q39)).trans q39 | exact ((bal (brf w39.drew) _).cell (lt_of_cell q39)).trans q39
              refine wpAnyH_step 3 rfl (by kernel_rfl) (fun K' hK' => ?_)
              rw [if_pos (by rfl)]
              go_simp
              go_at_call 137
              refine (SM.out _).mono ?_
              rintro e w43 ⟨rfl, h43⟩
              dsimp only
              refine hK'.out _ _ trivial ?_
              clear hK' K'
              have b_w43 : Below w.heap.size w w43 := by first | exact btr b_w42 h43 | exact btr (Below.drew b_w42) h43
              have q34_35_39_42_43 : w43.cell? ⟨w.heap.size, 0, none⟩ = some (.int .u8 c.toNat) := by exact (h43.cell (lt_of_cell q34_35_39_42)).trans q34_35_39_42
              have q39_42_43 : w43.cell? ⟨w35.heap.size, 0, none⟩ = some (.int .u8 c.toNat) := by exact (h43.cell (lt_of_cell q39_42)).trans q39_42
              refine wpAnyH_takeD 7 10 (v := ?_) rfl rfl (by kernel_rfl) (by kernel_rfl) (by kernel_rfl) (fun _ _ _ h => h) (Or.inl ⟨by rfl, ?_⟩) trivial ?_
              rotate_left
              · (intro w' hw'; (try dsimp only at hw'); go_simp; try with_reducible rfl)
              simp only [List.set_cons_zero, List.set_cons_succ]
              refine wpAnyH_takeD 8 11 (v := ?_) rfl rfl (by kernel_rfl) (by kernel_rfl) (by kernel_rfl) (fun _ _ _ h => h) (Or.inl ⟨by rfl, ?_⟩) trivial ?_
              rotate_left
              · (intro w' hw'; (try dsimp only at hw'); go_simp; try with_reducible rfl)
              simp only [List.set_cons_zero, List.set_cons_succ]
              refine wpAnyH_takeD 9 12 (v := ?_) rfl rfl (by kernel_rfl) (by kernel_rfl) (by kernel_rfl) (fun _ _ _ h => h) (Or.inl ⟨by rfl, ?_⟩) trivial ?_
              rotate_left
              · (intro w' hw'; (try dsimp only at hw'); go_simp; try with_reducible rfl)
              simp only [List.set_cons_zero, List.set_cons_succ]
              refine wpAnyH_takeD 10 13 (v := ?_) rfl rfl (by kernel_rfl) (by kernel_rfl) (by kernel_rfl) (fun _ _ _ h => h) (Or.inl ⟨by rfl, ?_⟩) trivial ?_
              rotate_left
              · (intro w' hw'; (try dsimp only at hw'); go_simp; try with_reducible rfl)
              simp only [List.set_cons_zero, List.set_cons_succ]
              refine wpAnyH_takeD 11 14 (v := ?_) rfl rfl (by kernel_rfl) (by kernel_rfl) (by kernel_rfl) (fun _ _ _ h => h) (Or.inl ⟨by rfl, ?_⟩) trivial ?_
              rotate_left
              · (intro w' hw'; (try dsimp only at hw'); go_simp; try with_reducible rfl)
              simp only [List.set_cons_zero, List.set_cons_succ]
              refine wpAnyH_takeD 12 15 (v := ?_) rfl rfl (by kernel_rfl) (by kernel_rfl) (by kernel_rfl) (fun _ _ _ h => h) (Or.inl ⟨by rfl, ?_⟩) trivial ?_
              rotate_left
              · (intro w' hw'; (try dsimp only at hw'); go_simp; try with_reducible rfl)
              simp only [List.set_cons_zero, List.set_cons_succ]
              refine wpAnyH_takeD 13 16 (v := ?_) rfl rfl (by kernel_rfl) (by kernel_rfl) (by kernel_rfl) (fun _ _ _ h => h) (Or.inl ⟨by rfl, ?_⟩) trivial ?_
              rotate_left
              · (intro w' hw'; (try dsimp only at hw'); go_simp; try with_reducible rfl)
              simp only [List.set_cons_zero, List.set_cons_succ]
              refine wpAnyH_takeD 14 17 (v := ?_) rfl rfl (by kernel_rfl) (by kernel_rfl) (by kernel_rfl) (fun _ _ _ h => h) (Or.inl ⟨by rfl, ?_⟩) trivial ?_
              rotate_left
              · (intro w' hw'; (try dsimp only at hw'); go_simp; try with_reducible rfl)
              simp only [List.set_cons_zero, List.set_cons_succ]
              refine wpAnyH_takeD 15 18 (v := ?_) rfl rfl (by kernel_rfl) (by kernel_rfl) (by kernel_rfl) (fun _ _ _ h => h) (Or.inl ⟨by rfl, ?_⟩) trivial ?_
              rotate_left
              · (intro w' hw'; (try dsimp only at hw'); go_simp; try with_reducible rfl)
              simp only [List.set_cons_zero, List.set_cons_succ]
              refine wpAnyH_takeD 16 2 (v := ?_) rfl rfl (by kernel_rfl) (by kernel_rfl) (by kernel_rfl) (fun _ _ _ h => h) (Or.inl ⟨by rfl, ?_⟩) trivial ?_
              rotate_left
              · (intro w' hw'; (try dsimp only at hw'); go_simp; try with_reducible rfl)
              simp only [List.set_cons_zero, List.set_cons_succ]
              refine wpAnyH_done (by kernel_rfl) ?_ _
              go_wp2
              go_ret
              exact ⟨by first | rfl | simp, by first | exact b_w43 | exact Below.drew b_w43⟩
        · rw [if_pos (by rfl)]
          go_simp
          refine hK'.out _ _ trivial ?_
          clear hK' K'
          refine wpAnyH_name (fun w44 e44 => ?_)
          have q44 : w44.cell? ⟨w34.heap.size, 0, none⟩ = some (.int .u8 c.toNat) := by rw [← e44]; exact cellAt' (heap_new _ _) rfl
          have b_w44 : Below w.heap.size w w44 := by rw [← e44]; first | exact bal b_w34 _ | exact bal (Below.drew b_w34) _ | exact Below.drew (bal b_w34 _) | exact Below.drew (bal (Below.drew b_w34) _) | exact b_w34 | exact Below.drew b_w34
          have q34_44 : w44.cell? ⟨w.heap.size, 0, none⟩ = some (.int .u8 c.toNat) := by rw [← e44]; first | exact q34 | exact ((bal (brf w34) _).cell (lt_of_cell q34)).trans q34 | exact ((bal (brf w34.drew) _).cell (lt_of_cell q34)).trans q34
          refine wpAnyH_br 2 6 rfl rfl (by kernel_rfl) (fun K' hK' => ?_) (fun K' hK' => ?_)
          · rw [if_pos (by rfl)]
            have cv45 := cv _ w44.drew q34_44
            have cw45 := cv _ w44 q34_44
            go_simp
            refine hK'.out _ _ trivial ?_
            clear hK' K'
            refine wpAnyH_name (fun w45 e45 => ?_)
            have b_w45 : Below w.heap.size w w45 := by rw [← e45]; first | exact bal b_w44 _ | exact bal (Below.drew b_w44) _ | exact Below.drew (bal b_w44 _) | exact Below.drew (bal (Below.drew b_w44) _) | exact b_w44 | exact Below.drew b_w44
            have q34_44_45 : w45.cell? ⟨w.heap.size, 0, none⟩ = some (.int .u8 c.toNat) := by rw [← e45]; first | exact q34_44 | exact ((bal (brf w44) _).cell (lt_of_cell q34_44)).trans q34_44 | exact ((bal (brf w44.drew) _).cell (lt_of_cell q34_44)).trans q34_44
            have q44_45 : w45.cell? ⟨w34.heap.size, 0, none⟩ = some (.int .u8 c.toNat) := by rw [← e45]; first | exact q44 | exact ((bal (brf w44) _).cell (lt_of_cell q44)).trans q44 | exact ((bal (brf w44.drew) _).cell (lt_of_cell q44)).trans q44
            refine wpAnyH_br 3 6 rfl rfl (by kernel_rfl) (fun K' hK' => ?_) (fun K' hK' => ?_)
            · rw [if_pos (by rfl)]
              go_simp
              go_at_call 137
              refine (SM.out _).mono ?_
              rintro e w46 ⟨rfl, h46⟩
              dsimp only
              refine hK'.out _ _ trivial ?_
              clear hK' K'
              have b_w46 : Below w.heap.size w w46 := by first | exact btr b_w45 h46 | exact btr (Below.drew b_w45) h46
              have q34_44_45_46 : w46.cell? ⟨w.heap.size, 0, none⟩ = some (.int .u8 c.toNat) := by exact (h46.cell (lt_of_cell q34_44_45)).trans q34_44_45
              have q44_45_46 : w46.cell? ⟨w34.heap.size, 0, none⟩ = some (.int .u8 c.toNat) := by exact (h46.cell (lt_of_cell q44_45)).trans q44_45
              refine wpAnyH_step 6 rfl (by kernel_rfl) (fun K' hK' => ?_)
              rw [if_pos (by rfl)]
              have cv47 := cv _ w46.drew q44_45_46
              have cw47 := cv _ w46 q44_45_46
              go_simp
              refine hK'.out _ _ trivial ?_
              clear hK' K'
              refine wpAnyH_name (fun w47 e47 => ?_)
              have b_w47 : Below w.heap.size w w47 := by rw [← e47]; first | exact bal b_w46 _ | exact bal (Below.drew b_w46) _ | exact Below.drew (bal b_w46 _) | exact Below.drew (bal (Below.drew b_w46) _) | exact b_w46 | exact Below.drew b_w46
              have q34_44_45_46_47 : w47.cell? ⟨w.heap.size, 0, none⟩ = some (.int .u8 c.toNat) := by rw [← e47]; first | exact q34_44_45_46 | exact ((bal (brf w46) _).cell (lt_of_cell q34_44_45_46)).trans q34_44_45_46 | exact ((bal (brf w46.drew) _).cell (lt_of_cell q34_44_45_46)).trans q34_44_45_46
              have q44_45_46_47 : w47.cell? ⟨w34.heap.size, 0, none⟩ = some (.int .u8 c.toNat) := by rw [← e47]; first | exact q44_45_46 | exact ((bal (brf w46) _).cell (lt_of_cell q44_45_46)).trans q44_45_46 | exact ((bal (brf w46.drew) _).cell (lt_of_cell q44_45_46)).trans q44_45_46
              refine wpAnyH_takeD 7 10 (v := ?_) rfl rfl (by kernel_rfl) (by kernel_rfl) (by kernel_rfl) (fun _ _ _ h => h) (Or.inl ⟨by rfl, ?_⟩) trivial ?_
              rotate_left
              · (intro w' hw'; (try dsimp only at hw'); go_simp; try with_reducible rfl)
              simp only [List.set_cons_zero, List.set_cons_succ]
              refine wpAnyH_takeD 8 11 (v := ?_) rfl rfl (by kernel_rfl) (by kernel_rfl) (by kernel_rfl) (fun _ _ _ h => h) (Or.inl ⟨by rfl, ?_⟩) trivial ?_
              rotate_left
              · (intro w' hw'; (try dsimp only at hw'); go_simp; try with_reducible rfl)
              simp only [List.set_cons_zero, List.set_cons_succ]
              refine wpAnyH_takeD 9 12 (v := ?_) rfl rfl (by kernel_rfl) (by kernel_rfl) (by kernel_rfl) (fun _ _ _ h => h) (Or.inl ⟨by rfl, ?_⟩) trivial ?_
              rotate_left
              · (intro w' hw'; (try dsimp only at hw'); go_simp; try with_reducible rfl)
              simp only [List.set_cons_zero, List.set_cons_succ]
              refine wpAnyH_takeD 10 13 (v := ?_) rfl rfl (by kernel_rfl) (by kernel_rfl) (by kernel_rfl) (fun _ _ _ h => h) (Or.inl ⟨by rfl, ?_⟩) trivial ?_
              rotate_left
              · (intro w' hw'; (try dsimp only at hw'); go_simp; try with_reducible rfl)
              simp only [List.set_cons_zero, List.set_cons_succ]
              refine wpAnyH_takeD 11 14 (v := ?_) rfl rfl (by kernel_rfl) (by kernel_rfl) (by kernel_rfl) (fun _ _ _ h => h) (Or.inl ⟨by rfl, ?_⟩) trivial ?_
              rotate_left
              · (intro w' hw'; (try dsimp only at hw'); go_simp; try with_reducible rfl)
              simp only [List.set_cons_zero, List.set_cons_succ]
              refine wpAnyH_takeD 12 15 (v := ?_) rfl rfl (by kernel_rfl) (by kernel_rfl) (by kernel_rfl) (fun _ _ _ h => h) (Or.inl ⟨by rfl, ?_⟩) trivial ?_
              rotate_left
              · (intro w' hw'; (try dsimp only at hw'); go_simp; try with_reducible rfl)
              simp only [List.set_cons_zero, List.set_cons_succ]
              refine wpAnyH_takeD 13 16 (v := ?_) rfl rfl (by kernel_rfl) (by kernel_rfl) (by kernel_rfl) (fun _ _ _ h => h) (Or.inl ⟨by rfl, ?_⟩) trivial ?_
              rotate_left
              · (intro w' hw'; (try dsimp only at hw'); go_simp; try with_reducible rfl)
              simp only [List.set_cons_zero, List.set_cons_succ]
              refine wpAnyH_takeD 14 17 (v := ?_) rfl rfl (by kernel_rfl) (by kernel_rfl) (by kernel_rfl) (fun _ _ _ h => h) (Or.inl ⟨by rfl, ?_⟩) trivial ?_
              rotate_left
              · (intro w' hw'; (try dsimp only at hw'); go_simp; try with_reducible rfl)
              simp only [List.set_cons_zero, List.set_cons_succ]
              refine wpAnyH_takeD 15 18 (v := ?_) rfl rfl (by kernel_rfl) (by kernel_rfl) (by kernel_rfl) (fun _ _ _ h => h) (Or.inl ⟨by rfl, ?_⟩) trivial ?_
              rotate_left
              · (intro w' hw'; (try dsimp only at hw'); go_simp; try with_reducible rfl)
              simp only [List.set_cons_zero, List.set_cons_succ]
              refine wpAnyH_takeD 16 2 (v := ?_) rfl rfl (by kernel_rfl) (by kernel_rfl) (by kernel_rfl) (fun _ _ _ h => h) (Or.inl ⟨by rfl, ?_⟩) trivial ?_
              rotate_left
              · (intro w' hw'; (try dsimp only at hw'); go_simp; try with_reducible rfl)
              simp only [List.set_cons_zero, List.set_cons_succ]
              refine wpAnyH_done (by kernel_rfl) ?_ _
              go_wp2
              go_ret
              exact ⟨by first | rfl | simp, by first | exact b_w47 | exact Below.drew b_w47⟩
            · rw [if_pos (by rfl)]
              have cv48 := cv _ w45.drew q44_45
              have cw48 := cv _ w45 q44_45
              go_simp
              refine hK'.out _ _ trivial ?_
              clear hK' K'
              refine wpAnyH_name (fun w48 e48 => ?_)
              have b_w48 : Below w.heap.size w w48 := by rw [← e48]; first | exact bal b_w45 _ | exact bal (Below.drew b_w45) _ | exact Below.drew (bal b_w45 _) | exact Below.drew (bal (Below.drew b_w45) _) | exact b_w45 | exact Below.drew b_w45
              have q34_44_45_48 : w48.cell? ⟨w.heap.size, 0, none⟩ = some (.int .u8 c.toNat) := by rw [← e48]; first | exact q34_44_45 | exact ((bal (brf w45) _).cell (lt_of_cell q34_44_45)).trans q34_44_45 | exact ((bal (brf w45.drew) _).cell (lt_of_cell q34_44_45)).trans q34_44_45
              have q44_45_48 : w48.cell? ⟨w34.heap.size, 0, none⟩ = some (.int .u8 c.toNat) := by rw [← e48]; first | exact q44_45 | exact ((bal (brf w45) _).cell (lt_of_cell q44_45)).trans q44_45 | exact ((bal (brf w45.drew) _).cell (lt_of_cell q44_45)).trans q44_45
              refine wpAnyH_step 3 rfl (by kernel_rfl) (fun K' hK' => ?_)
              rw [if_pos (by rfl)]
              go_simp
              go_at_call 137
              refine (SM.out _).mono ?_
              rintro e w49 ⟨rfl, h49⟩
              dsimp only
              refine hK'.out _ _ trivial ?_
              clear hK' K'
              have b_w49 : Below w.heap.size w w49 := by first | exact btr b_w48 h49 | exact btr (Below.drew b_w48) h49
              have q34_44_45_48_49 : w49.cell? ⟨w.heap.size, 0, none⟩ = some (.int .u8 c.toNat) := by exact (h49.cell (lt_of_cell q34_44_45_48)).trans q34_44_45_48
              have q44_45_48_49 : w49.cell? ⟨w34.heap.size, 0, none⟩ = some (.int .u8 c.toNat) := by exact (h49.cell (lt_of_cell q44_45_48)).trans q44_45_48
              refine wpAnyH_takeD 7 10 (v := ?_) rfl rfl (by kernel_rfl) (by kernel_rfl) (by kernel_rfl) (fun _ _ _ h => h) (Or.inl ⟨by rfl, ?_⟩) trivial ?_
              rotate_left
              · (intro w' hw'; (try dsimp only at hw'); go_simp; try with_reducible rfl)
              simp only [List.set_cons_zero, List.set_cons_succ]
              refine wpAnyH_takeD 8 11 (v := ?_) rfl rfl (by kernel_rfl) (by kernel_rfl) (by kernel_rfl) (fun _ _ _ h => h) (Or.inl ⟨by rfl, ?_⟩) trivial ?_
              rotate_left
              · (intro w' hw'; (try dsimp only at hw'); go_simp; try with_reducible rfl)
              simp only [List.set_cons_zero, List.set_cons_succ]
              refine wpAnyH_takeD 9 12 (v := ?_) rfl rfl (by kernel_rfl) (by kernel_rfl) (by kernel_rfl) (fun _ _ _ h => h) (Or.inl ⟨by rfl, ?_⟩) trivial ?_
              rotate_left
              · (intro w' hw'; (try dsimp only at hw'); go_simp; try with_reducible rfl)
              simp only [List.set_cons_zero, List.set_cons_succ]
              refine wpAnyH_takeD 10 13 (v := ?_) rfl rfl (by kernel_rfl) (by kernel_rfl) (by kernel_rfl) (fun _ _ _ h => h) (Or.inl ⟨by rfl, ?_⟩) trivial ?_
              rotate_left
              · (intro w' hw'; (try dsimp only at hw'); go_simp; try with_reducible rfl)
              simp only [List.set_cons_zero, List.set_cons_succ]
              refine wpAnyH_takeD 11 14 (v := ?_) rfl rfl (by kernel_rfl) (by kernel_rfl) (by kernel_rfl) (fun _ _ _ h => h) (Or.inl ⟨by rfl, ?_⟩) trivial ?_
              rotate_left
              · (intro w' hw'; (try dsimp only at hw'); go_simp; try with_reducible rfl)
              simp only [List.set_cons_zero, List.set_cons_succ]
              refine wpAnyH_takeD 12 15 (v := ?_) rfl rfl (by kernel_rfl) (by kernel_rfl) (by kernel_rfl) (fun _ _ _ h => h) (Or.inl ⟨by rfl, ?_⟩) trivial ?_
              rotate_left
              · (intro w' hw'; (try dsimp only at hw'); go_simp; try with_reducible rfl)
              simp only [List.set_cons_zero, List.set_cons_succ]
              refine wpAnyH_takeD 13 16 (v := ?_) rfl rfl (by kernel_rfl) (by kernel_rfl) (by kernel_rfl) (fun _ _ _ h => h) (Or.inl ⟨by rfl, ?_⟩) trivial ?_
              rotate_left
              · (intro w' hw'; (try dsimp only at hw'); go_simp; try with_reducible rfl)
              simp only [List.set_cons_zero, List.set_cons_succ]
              refine wpAnyH_takeD 14 17 (v := ?_) rfl rfl (by kernel_rfl) (by kernel_rfl) (by kernel_rfl) (fun _ _ _ h => h) (Or.inl ⟨by rfl, ?_⟩) trivial ?_
              rotate_left
              · (intro w' hw'; (try dsimp only at hw'); go_simp; try with_reducible rfl)
              simp only [List.set_cons_zero, List.set_cons_succ]
              refine wpAnyH_takeD 15 18 (v := ?_) rfl rfl (by kernel_rfl) (by kernel_rfl) (by kernel_rfl) (fun _ _ _ h => h) (Or.inl ⟨by rfl, ?_⟩) trivial ?_
              rotate_left
              · (intro w' hw'; (try dsimp only at hw'); go_simp; try with_reducible rfl)
              simp only [List.set_cons_zero, List.set_cons_succ]
              refine wpAnyH_takeD 16 2 (v := ?_) rfl rfl (by kernel_rfl) (by kernel_rfl) (by kernel_rfl) (fun _ _ _ h => h) (Or.inl ⟨by rfl, ?_⟩) trivial ?_
              rotate_left
              · (intro w' hw'; (try dsimp only at hw'); go_simp; try with_reducible rfl)
              simp only [List.set_cons_zero, List.set_cons_succ]
              refine wpAnyH_done (by kernel_rfl) ?_ _
              go_wp2
              go_ret
              exact ⟨by first | rfl | simp, by first | exact b_w49 | exact Below.drew b_w49⟩
          · rw [if_pos (by rfl)]
            have cv50 := cv _ w44.drew q44
            have cw50 := cv _ w44 q44
            go_simp
            refine hK'.out _ _ trivial ?_
            clear hK' K'
            refine wpAnyH_name (fun w50 e50 => ?_)
            have b_w50 : Below w.heap.size w w50 := by rw [← e50]; first | exact bal b_w44 _ | exact bal (Below.drew b_w44) _ | exact Below.drew (bal b_w44 _) | exact Below.drew (bal (Below.drew b_w44) _) | exact b_w44 | exact Below.drew b_w44
            have q34_44_50 : w50.cell? ⟨w.heap.size, 0, none⟩ = some (.int .u8 c.toNat) := by rw [← e50]; first | exact q34_44 | exact ((bal (brf w44) _).cell (lt_of_cell q34_44)).trans q34_44 | exact ((bal (brf w44.drew) _).cell (lt_of_cell q34_44)).trans q34_44
            have q44_50 : w50.cell? ⟨w34.heap.size, 0, none⟩ = some (.int .u8 c.toNat) := by rw [← e50]; first | exact q44 | exact ((bal (brf w44) _).cell (lt_of_cell q44)).trans q44 | exact ((bal (brf w44.drew) _).cell (lt_of_cell q44)).trans q44
            refine wpAnyH_step 2 rfl (by kernel_rfl) (fun K' hK' => ?_)
            rw [if_pos (by rfl)]
            have cv51 := cv _ w50.drew q34_44_50
            have cw51 := cv _ w50 q34_44_50
            go_simp
            refine hK'.out _ _ trivial ?_
            clear hK' K'
            refine wpAnyH_name (fun w51 e51 => ?_)
            have b_w51 : Below w.heap.size w w51 := by rw [← e51]; first | exact bal b_w50 _ | exact bal (Below.drew b_w50) _ | exact Below.drew (bal b_w50 _) | exact Below.drew (bal (Below.drew b_w50) _) | exact b_w50 | exact Below.drew b_w50
            have q34_44_50_51 : w51.cell? ⟨w.heap.size, 0, none⟩ = some (.int .u8 c.toNat) := by rw [← e51]; first | exact q34_44_50 | exact ((bal (brf w50) _).cell (lt_of_cell q34_44_50)).trans q34_44_50 | exact ((bal (brf w50.drew) _).cell (lt_of_cell q34_44_50)).trans q34_44_50
            have q44_50_51 : w51.cell? ⟨w34.heap.size, 0, none⟩ = some (.int .u8 c.toNat) := by rw [← e51]; first | exact q44_50 | exact ((bal (brf w50) _).cell (lt_of_cell q44_50)).trans q44_50 | exact ((bal (brf w50.drew) _).cell (lt_of_cell q44_50)).trans q44_50
            refine wpAnyH_step 3 rfl (by kernel_rfl) (fun K' hK' => ?_)
            rw [if_pos (by rfl)]
            go_simp
            go_at_call 137
            refine (SM.out _).mono ?_
            rintro e w52 ⟨rfl, h52⟩
            dsimp only
            refine hK'.out _ _ trivial ?_
            clear hK' K'
            have b_w52 : Below w.heap.size w w52 := by first | exact btr b_w51 h52 | exact btr (Below.drew b_w51) h52
            have q34_44_50_51_52 : w52.cell? ⟨w.heap.size, 0, none⟩ = some (.int .u8 c.toNat) := by exact (h52.cell (lt_of_cell q34_44_50_51)).trans q34_44_50_51
            have q44_50_51_52 : w52.cell? ⟨w34.heap.size, 0, none⟩ = some (.int .u8 c.toNat) := by exact (h52.cell (lt_of_cell q44_50_51)).trans q44_50_51
            refine wpAnyH_takeD 7 10 (v := ?_) rfl rfl (by kernel_rfl) (by kernel_rfl) (by kernel_rfl) (fun _ _ _ h => h) (Or.inl ⟨by rfl, ?_⟩) trivial ?_
            rotate_left
            · (intro w' hw'; (try dsimp only at hw'); go_simp; try with_reducible rfl)
            simp only [List.set_cons_zero, List.set_cons_succ]
            refine wpAnyH_takeD 8 11 (v := ?_) rfl rfl (by kernel_rfl) (by kernel_rfl) (by kernel_rfl) (fun _ _ _ h => h) (Or.inl ⟨by rfl, ?_⟩) trivial ?_
            rotate_left
            · (intro w' hw'; (try dsimp only at hw'); go_simp; try with_reducible rfl)
            simp only [List.set_cons_zero, List.set_cons_succ]
            refine wpAnyH_takeD 9 12 (v := ?_) rfl rfl (by kernel_rfl) (by kernel_rfl) (by kernel_rfl) (fun _ _ _ h => h) (Or.inl ⟨by rfl, ?_⟩) trivial ?_
            rotate_left
            · (intro w' hw'; (try dsimp only at hw'); go_simp; try with_reducible rfl)
            simp only [List.set_cons_zero, List.set_cons_succ]
            refine wpAnyH_takeD 10 13 (v := ?_) rfl rfl (by kernel_rfl) (by kernel_rfl) (by kernel_rfl) (fun _ _ _ h => h) (Or.inl ⟨by rfl, ?_⟩) trivial ?_
            rotate_left
            · (intro w' hw'; (try dsimp only at hw'); go_simp; try with_reducible rfl)
            simp only [List.set_cons_zero, List.set_cons_succ]
            refine wpAnyH_takeD 11 14 (v := ?_) rfl rfl (by kernel_rfl) (by kernel_rfl) (by kernel_rfl) (fun _ _ _ h => h) (Or.inl ⟨by rfl, ?_⟩) trivial ?_
            rotate_left
            · (intro w' hw'; (try dsimp only at hw'); go_simp; try with_reducible rfl)
            simp only [List.set_cons_zero, List.set_cons_succ]
            refine wpAnyH_takeD 12 15 (v := ?_) rfl rfl (by kernel_rfl) (by kernel_rfl) (by kernel_rfl) (fun _ _ _ h => h) (Or.inl ⟨by rfl, ?_⟩) trivial ?_
            rotate_left
            · (intro w' hw'; (try dsimp only at hw'); go_simp; try with_reducible rfl)
            simp only [List.set_cons_zero, List.set_cons_succ]
            refine wpAnyH_takeD 13 16 (v := ?_) rfl rfl (by kernel_rfl) (by kernel_rfl) (by kernel_rfl) (fun _ _ _ h => h) (Or.inl ⟨by rfl, ?_⟩) trivial ?_
            rotate_left
            · (intro w' hw'; (try dsimp only at hw'); go_simp; try with_reducible rfl)
            simp only [List.set_cons_zero, List.set_cons_succ]
            refine wpAnyH_takeD 14 17 (v := ?_) rfl rfl (by kernel_rfl) (by kernel_rfl) (by kernel_rfl) (fun _ _ _ h => h) (Or.inl ⟨by rfl, ?_⟩) trivial ?_
            rotate_left
            · (intro w' hw'; (try dsimp only at hw'); go_simp; try with_reducible rfl)
            simp only [List.set_cons_zero, List.set_cons_succ]
            refine wpAnyH_takeD 15 18 (v := ?_) rfl rfl (by kernel_rfl) (by kernel_rfl) (by kernel_rfl) (fun _ _ _ h => h) (Or.inl ⟨by rfl, ?_⟩) trivial ?_
            rotate_left
            · (intro w' hw'; (try dsimp only at hw'); go_simp; try with_reducible rfl)
            simp only [List.set_cons_zero, List.set_cons_succ]
            refine wpAnyH_takeD 16 2 (v := ?_) rfl rfl (by kernel_rfl) (by kernel_rfl) (by kernel_rfl) (fun _ _ _ h => h) (Or.inl ⟨by rfl, ?_⟩) trivial ?_
            rotate_left
            · (intro w' hw'; (try dsimp only at hw'); go_simp; try with_reducible rfl)
            simp only [List.set_cons_zero, List.set_cons_succ]
            refine wpAnyH_done (by kernel_rfl) ?_ _
            go_wp2
            go_ret
            exact ⟨by first | rfl | simp, by first | exact b_w52 | exact Below.drew b_w52⟩
      · rw [if_pos (by rfl)]
        go_simp
        refine hK'.out _ _ trivial ?_
        clear hK' K'
        refine wpAnyH_name (fun w53 e53 => ?_)
        have q53 : w53.cell? ⟨w.heap.size, 0, none⟩ = some (.int .u8 c.toNat) := by rw [← e53]; exact cellAt' (heap_new _ _) rfl
        have b_w53 : Below w.heap.size w w53 := by rw [← e53]; first | exact bal b_w _ | exact bal (Below.drew b_w) _ | exact Below.drew (bal b_w _) | exact Below.drew (bal (Below.drew b_w) _) | exact b_w | exact Below.drew b_w
        refine wpAnyH_br 1 6 rfl rfl (by kernel_rfl) (fun K' hK' => ?_) (fun K' hK' => ?_)
        · rw [if_pos (by rfl)]
          go_simp
          refine hK'.out _ _ trivial ?_
          clear hK' K'
          refine wpAnyH_name (fun w54 e54 => ?_)
          have q54 : w54.cell? ⟨w53.heap.size, 0, none⟩ = some (.int .u8 c.toNat) := by rw [← e54]; exact cellAt' (heap_new _ _) rfl
          have b_w54 : Below w.heap.size w w54 := by rw [← e54]; first | exact bal b_w53 _ | exact bal (Below.drew b_w53) _ | exact Below.drew (bal b_w53 _) | exact Below.drew (bal (Below.drew b_w53) _) | exact b_w53 | exact Below.drew b_w53
          have q53_54 : w54.cell? ⟨w.heap.size, 0, none⟩ = some (.int .u8 c.toNat) := by rw [← e54]; first | exact q53 | exact ((bal (brf w53) _).cell (lt_of_cell q53)).trans q53 | exact ((bal (brf w53.drew) _).cell (lt_of_cell q53)).trans q53
          refine wpAnyH_br 2 6 rfl rfl (by kernel_rfl) (fun K' hK' => ?_) (fun K' hK' => ?_)
          · rw [if_pos (by rfl)]
            have cv55 := cv _ w54.drew q54
            have cw55 := cv _ w54 q54
            go_simp
            refine hK'.out _ _ trivial ?_
            clear hK' K'
            refine wpAnyH_name (fun w55 e55 => ?_)
            have b_w55 : Below w.heap.size w w55 := by rw [← e55]; first | exact bal b_w54 _ | exact bal (Below.drew b_w54) _ | exact Below.drew (bal b_w54 _) | exact Below.drew (bal (Below.drew b_w54) _) | exact b_w54 | exact Below.drew b_w54
            have q53_54_55 : w55.cell? ⟨w.heap.size, 0, none⟩ = some (.int .u8 c.toNat) := by rw [← e55]; first | exact q53_54 | exact ((bal (brf w54) _).cell (lt_of_cell q53_54)).trans q53_54 | exact ((bal (brf w54.drew) _).cell (lt_of_cell q53_54)).trans q53_54
            have q54_55 : w55.cell? ⟨w53.heap.size, 0, none⟩ = some (.int .u8 c.toNat) := by rw [← e55]; first | exact q54 | exact ((bal (brf w54) _).cell (lt_of_cell q54)).trans q54 | exact ((bal (brf w54.drew) _).cell (lt_of_cell q54)).trans q54
            refine wpAnyH_br 3 6 rfl rfl (by kernel_rfl) (fun K' hK' => ?_) (fun K' hK' => ?_)
            · rw [if_pos (by rfl)]
              go_simp
              go_at_call 137
              refine (SM.out _).mono ?_
              rintro e w56 ⟨rfl, h56⟩
              dsimp only
              refine hK'.out _ _ trivial ?_
              clear hK' K'
              have b_w56 : Below w.heap.size w w56 := by first | exact btr b_w55 h56 | exact btr (Below.drew b_w55) h56
              have q53_54_55_56 : w56.cell? ⟨w.heap.size, 0, none⟩ = some (.int .u8 c.toNat) := by exact (h56.cell (lt_of_cell q53_54_55)).trans q53_54_55
              have q54_55_56 : w56.cell? ⟨w53.heap.size, 0, none⟩ = some (.int .u8 c.toNat) := by exact (h56.cell (lt_of_cell q54_55)).trans q54_55
              refine wpAnyH_step 6 rfl (by kernel_rfl) (fun K' hK' => ?_)
              rw [if_pos (by rfl)]
              have cv57 := cv _ w56.drew q53_54_55_56
              have cw57 := cv _ w56 q53_54_55_56
              go_simp
              refine hK'.out _ _ trivial ?_
              clear hK' K'
              refine wpAnyH_name (fun w57 e57 => ?_)
              have b_w57 : Below w.heap.size w w57 := by rw [← e57]; first | exact bal b_w56 _ | exact bal (Below.drew b_w56) _ | exact Below.drew (bal b_w56 _) | exact Below.drew (bal (Below.drew b_w56) _) | exact b_w56 | exact Below.drew b_w56
              have q53_54_55_56_57 : w57.cell? ⟨w.heap.size, 0, none⟩ = some (.int .u8 c.toNat) := by rw [← e57]; first | exact q53_54_55_56 | exact ((bal (brf w56) _).cell (lt_of_cell q53_54_55_56)).trans q53_54_55_56 | exact ((bal (brf w56.drew) _).cell (lt_of_cell q53_54_55_56)).trans q53_54_55_56
              have q54_55_56_57 : w57.cell? ⟨w53.heap.size, 0, none⟩ = some (.int .u8 c.toNat) := by rw [← e57]; first | exact q54_55_56 | exact ((bal (brf w56) _).cell (lt_of_cell q54_55_56)).trans q54_55_56 | exact ((bal (brf w56.drew) _).cell (lt_of_cell q54_55_56)).trans q54_55_56
              refine wpAnyH_takeD 7 10 (v := ?_) rfl rfl (by kernel_rfl) (by kernel_rfl) (by kernel_rfl) (fun _ _ _ h => h) (Or.inl ⟨by rfl, ?_⟩) trivial ?_
              rotate_left
              · (intro w' hw'; (try dsimp only at hw'); go_simp; try with_reducible rfl)
              simp only [List.set_cons_zero, List.set_cons_succ]
              refine wpAnyH_takeD 8 11 (v := ?_) rfl rfl (by kernel_rfl) (by kernel_rfl) (by kernel_rfl) (fun _ _ _ h => h) (Or.inl ⟨by rfl, ?_⟩) trivial ?_
              rotate_left
              · (intro w' hw'; (try dsimp only at hw'); go_simp; try with_reducible rfl)
              simp only [List.set_cons_zero, List.set_cons_succ]
              refine wpAnyH_takeD 9 12 (v := ?_) rfl rfl (by kernel_rfl) (by kernel_rfl) (by kernel_rfl) (fun _ _ _ h => h) (Or.inl ⟨by rfl, ?_⟩) trivial ?_
              rotate_left
              · (intro w' hw'; (try dsimp only at hw'); go_simp; try with_reducible rfl)
              simp only [List.set_cons_zero, List.set_cons_succ]
              refine wpAnyH_takeD 10 13 (v := ?_) rfl rfl (by kernel_rfl) (by kernel_rfl) (by kernel_rfl) (fun _ _ _ h => h) (Or.inl ⟨by rfl, ?_⟩) trivial ?_
              rotate_left
              · (intro w' hw'; (try dsimp only at hw'); go_simp; try with_reducible rfl)
              simp only [List.set_cons_zero, List.set_cons_succ]
              refine wpAnyH_takeD 11 14 (v := ?_) rfl rfl (by kernel_rfl) (by kernel_rfl) (by kernel_rfl) (fun _ _ _ h => h) (Or.inl ⟨by rfl, ?_⟩) trivial ?_
              rotate_left
              · (intro w' hw'; (try dsimp only at hw'); go_simp; try with_reducible rfl)
              simp only [List.set_cons_zero, List.set_cons_succ]
              refine wpAnyH_takeD 12 15 (v := ?_) rfl rfl (by kernel_rfl) (by kernel_rfl) (by kernel_rfl) (fun _ _ _ h => h) (Or.inl ⟨by rfl, ?_⟩) trivial ?_
              rotate_left
              · (intro w' hw'; (try dsimp only at hw'); go_simp; try with_reducible rfl)
              simp only [List.set_cons_zero, List.set_cons_succ]
              refine wpAnyH_takeD 13 16 (v := ?_) rfl rfl (by kernel_rfl) (by kernel_rfl) (by kernel_rfl) (fun _ _ _ h => h) (Or.inl ⟨by rfl, ?_⟩) trivial ?_
              rotate_left
              · (intro w' hw'; (try dsimp only at hw'); go_simp; try with_reducible rfl)
              simp only [List.set_cons_zero, List.set_cons_succ]
              refine wpAnyH_takeD 14 17 (v := ?_) rfl rfl (by kernel_rfl) (by kernel_rfl) (by kernel_rfl) (fun _ _ _ h => h) (Or.inl ⟨by rfl, ?_⟩) trivial ?_
              rotate_left
              · (intro w' hw'; (try dsimp only at hw'); go_simp; try with_reducible rfl)
              simp only [List.set_cons_zero, List.set_cons_succ]
              refine wpAnyH_takeD 15 18 (v := ?_) rfl rfl (by kernel_rfl) (by kernel_rfl) (by kernel_rfl) (fun _ _ _ h => h) (Or.inl ⟨by rfl, ?_⟩) trivial ?_
              rotate_left
              · (intro w' hw'; (try dsimp only at hw'); go_simp; try with_reducible rfl)
              simp only [List.set_cons_zero, List.set_cons_succ]
              refine wpAnyH_takeD 16 2 (v := ?_) rfl rfl (by kernel_rfl) (by kernel_rfl) (by kernel_rfl) (fun _ _ _ h => h) (Or.inl ⟨by rfl, ?_⟩) trivial ?_
              rotate_left
              · (intro w' hw'; (try dsimp only at hw'); go_simp; try with_reducible rfl)
              simp only [List.set_cons_zero, List.set_cons_succ]
              refine wpAnyH_done (by kernel_rfl) ?_ _
              go_wp2
              go_ret
              exact ⟨by first | rfl | simp, by first | exact b_w57 | exact Below.drew b_w57⟩
            · rw [if_pos (by rfl)]
              have cv58 := cv _ w55.drew q53_54_55
              have cw58 := cv _ w55 q53_54_55
              go_simp
              refine hK'.out _ _ trivial ?_
              clear hK' K'
              refine wpAnyH_name (fun w58 e58 => ?_)
              have b_w58 : Below w.heap.size w w58 := by rw [← e58]; first | exact bal b_w55 _ | exact bal (Below.drew b_w55) _ | exact Below.drew (bal b_w55 _) | exact Below.drew (bal (Below.drew b_w55) _) | exact b_w55 | exact Below.drew b_w55
              have q53_54_55_58 : w58.cell? ⟨w.heap.size, 0, none⟩ = some (.int .u8 c.toNat) := by rw [← e58]; first | exact q53_54_55 | exact ((bal (brf w55) _).cell (lt_of_cell q53_54_55)).trans q53_54_55 | exact ((bal (brf w55.drew) _).cell (lt_of_cell q53_54_55)).trans q53_54_55
              have q54_55_58 : w58.cell? ⟨w53.heap.size, 0, none⟩ = some (.int .u8 c.toNat) := by rw [← e58]; first | exact q54_55 | exact ((bal (brf w55) _).cell (lt_of_cell q54_55)).trans q54_55 | exact ((bal (brf w55.drew) _).cell (lt_of_cell q54_55)).trans q54_55
              refine wpAnyH_step 3 rfl (by kernel_rfl) (fun K' hK' => ?_)
              rw [if_pos (by rfl)]
              go_simp
              go_at_call 137
              refine (SM.out _).mono ?_
              rintro e w59 ⟨rfl, h59⟩
              dsimp only
              refine hK'.out _ _ trivial ?_
              clear hK' K'
              have b_w59 : Below w.heap.size w w59 := by first | exact btr b_w58 h59 | exact btr (Below.drew b_w58) h59
              have q53_54_55_58_59 : w59.cell? ⟨w.heap.size, 0, none⟩ = some (.int .u8 c.toNat) := by exact (h59.cell (lt_of_cell q53_54_55_58)).trans q53_54_55_58
              have q54_55_58_59 : w59.cell? ⟨w53.heap.size, 0, none⟩ = some (.int .u8 c.toNat) := by exact (h59.cell (lt_of_cell q54_55_58)).trans q54_55_58
              refine wpAnyH_takeD 7 10 (v := ?_) rfl rfl (by kernel_rfl) (by kernel_rfl) (by kernel_rfl) (fun _ _ _ h => h) (Or.inl ⟨by rfl, ?_⟩) trivial ?_
              rotate_left
              · (intro w' hw'; (try dsimp only at hw'); go_simp; try with_reducible rfl)
              simp only [List.set_cons_zero, List.set_cons_succ]
              refine wpAnyH_takeD 8 11 (v := ?_) rfl rfl (by kernel_rfl) (by kernel_rfl) (by kernel_rfl) (fun _ _ _ h => h) (Or.inl ⟨by rfl, ?_⟩) trivial ?_
              rotate_left
              · (intro w' hw'; (try dsimp only at hw'); go_simp; try with_reducible rfl)
              simp only [List.set_cons_zero, List.set_cons_succ]
              refine wpAnyH_takeD 9 12 (v := ?_) rfl rfl (by kernel_rfl) (by kernel_rfl) (by kernel_rfl) (fun _ _ _ h => h) (Or.inl ⟨by rfl, ?_⟩) trivial ?_
              rotate_left
              · (intro w' hw'; (try dsimp only at hw'); go_simp; try with_reducible rfl)
              simp only [List.set_cons_zero, List.set_cons_succ]
              refine wpAnyH_takeD 10 13 (v := ?_) rfl rfl (by kernel_rfl) (by kernel_rfl) (by kernel_rfl) (fun _ _ _ h => h) (Or.inl ⟨by rfl, ?_⟩) trivial ?_
              rotate_left
              · (intro w' hw'; (try dsimp only at hw'); go_simp; try with_reducible rfl)
              simp only [List.set_cons_zero, List.set_cons_succ]
              refine wpAnyH_takeD 11 14 (v := ?_) rfl rfl (by kernel_rfl) (by kernel_rfl) (by kernel_rfl) (fun _ _ _ h => h) (Or.inl ⟨by rfl, ?_⟩) trivial ?_
              rotate_left
              · (intro w' hw'; (try dsimp only at hw'); go_simp; try with_reducible rfl)
              simp only [List.set_cons_zero, List.set_cons_succ]
              refine wpAnyH_takeD 12 15 (v := ?_) rfl rfl (by kernel_rfl) (by kernel_rfl) (by kernel_rfl) (fun _ _ _ h => h) (Or.inl ⟨by rfl, ?_⟩) trivial ?_
              rotate_left
              · (intro w' hw'; (try dsimp only at hw'); go_simp; try with_reducible rfl)
              simp only [List.set_cons_zero, List.set_cons_succ]
              refine wpAnyH_takeD 13 16 (v := ?_) rfl rfl (by kernel_rfl) (by kernel_rfl) (by kernel_rfl) (fun _ _ _ h => h) (Or.inl ⟨by rfl, ?_⟩) trivial ?_
              rotate_left
              · (intro w' hw'; (try dsimp only at hw'); go_simp; try with_reducible rfl)
              simp only [List.set_cons_zero, List.set_cons_succ]
              refine wpAnyH_takeD 14 17 (v := ?_) rfl rfl (by kernel_rfl) (by kernel_rfl) (by kernel_rfl) (fun _ _ _ h => h) (Or.inl ⟨by rfl, ?_⟩) trivial ?_
              rotate_left
              · (intro w' hw'; (try dsimp only at hw'); go_simp; try with_reducible rfl)
              simp only [List.set_cons_zero, List.set_cons_succ]
              refine wpAnyH_takeD 15 18 (v := ?_) rfl rfl (by kernel_rfl) (by kernel_rfl) (by kernel_rfl) (fun _ _ _ h => h) (Or.inl ⟨by rfl, ?_⟩) trivial ?_
              rotate_left
              · (intro w' hw'; (try dsimp only at hw'); go_simp; try with_reducible rfl)
              simp only [List.set_cons_zero, List.set_cons_succ]
              refine wpAnyH_takeD 16 2 (v := ?_) rfl rfl (by kernel_rfl) (by kernel_rfl) (by kernel_rfl) (fun _ _ _ h => h) (Or.inl ⟨by rfl, ?_⟩) trivial ?_
              rotate_left
              · (intro w' hw'; (try dsimp only at hw'); go_simp; try with_reducible rfl)
              simp only [List.set_cons_zero, List.set_cons_succ]
              refine wpAnyH_done (by kernel_rfl) ?_ _
              go_wp2
              go_ret
              exact ⟨by first | rfl | simp, by first | exact b_w59 | exact Below.drew b_w59⟩
          · rw [if_pos (by rfl)]
            have cv60 := cv _ w54.drew q53_54
            have cw60 := cv _ w54 q53_54
            go_simp
            refine hK'.out _ _ trivial ?_
            clear hK' K'
            refine wpAnyH_name (fun w60 e60 => ?_)
            have b_w60 : Below w.heap.size w w60 := by rw [← e60]; first | exact bal b_w54 _ | exact bal (Below.drew b_w54) _ | exact Below.drew (bal b_w54 _) | exact Below.drew (bal (Below.drew b_w54) _) | exact b_w54 | exact Below.drew b_w54
            have q53_54_60 : w60.cell? ⟨w.heap.size, 0, none⟩ = some (.int .u8 c.toNat) := by rw [← e60]; first | exact q53_54 | exact ((bal (brf w54) _).cell (lt_of_cell q53_54)).trans q53_54 | exact ((bal (brf w54.drew) _).cell (lt_of_cell q53_54)).trans q53_54
            have q54_60 : w60.cell? ⟨w53.heap.size, 0, none⟩ = some (.int .u8 c.toNat) := by rw [← e60]; first | exact q54 | exact ((bal (brf w54) _).cell (lt_of_cell q54)).trans q54 | exact ((bal (brf w54.drew) _).cell (lt_of_cell q54)).trans q54
            refine wpAnyH_step 2 rfl (by kernel_rfl) (fun K' hK' => ?_)
            rw [if_pos (by rfl)]
            have cv61 := cv _ w60.drew q54_60
            have cw61 := cv _ w60 q54_60
            go_simp
            refine hK'.out _ _ trivial ?_
            clear hK' K'
            refine wpAnyH_name (fun w61 e61 => ?_)
            have b_w61 : Below w.heap.size w w61 := by rw [← e61]; first | exact bal b_w60 _ | exact bal (Below.drew b_w60) _ | exact Below.drew (bal b_w60 _) | exact Below.drew (bal (Below.drew b_w60) _) | exact b_w60 | exact Below.drew b_w60
            have q53_54_60_61 : w61.cell? ⟨w.heap.size, 0, none⟩ = some (.int .u8 c.toNat) := by rw [← e61]; first | exact q53_54_60 | exact ((bal (brf w60) _).cell (lt_of_cell q53_54_60)).trans q53_54_60 | exact ((bal (brf w60.drew) _).cell (lt_of_cell q53_54_60)).trans q53_54_60
            have q54_60_61 : w61.cell? ⟨w53.heap.size, 0, none⟩ = some (.int .u8 c.toNat) := by rw [← e61]; first | exact q54_60 | exact ((bal (brf w60) _).cell (lt_of_cell q54_60)).trans q54_60 | exact ((bal (brf w60.drew) _).cell (lt_of_cell q54_60)).trans q54_60
            refine wpAnyH_step 3 rfl (by kernel_rfl) (fun K' hK' => ?_)
            rw [if_pos (by rfl)]
            go_simp
            go_at_call 137
            refine (SM.out _).mono ?_
            rintro e w62 ⟨rfl, h62⟩
            dsimp only
            refine hK'.out _ _ trivial ?_
            clear hK' K'
            have b_w62 : Below w.heap.size w w62 := by first | exact btr b_w61 h62 | exact btr (Below.drew b_w61) h62
            have q53_54_60_61_62 : w62.cell? ⟨w.heap.size, 0, none⟩ = some (.int .u8 c.toNat) := by exact (h62.cell (lt_of_cell q53_54_60_61)).trans q53_54_60_61
            have q54_60_61_62 : w62.cell? ⟨w53.heap.size, 0, none⟩ = some (.int .u8 c.toNat) := by exact (h62.cell (lt_of_cell q54_60_61)).trans q54_60_61
            refine wpAnyH_takeD 7 10 (v := ?_) rfl rfl (by kernel_rfl) (by kernel_rfl) (by kernel_rfl) (fun _ _ _ h => h) (Or.inl ⟨by rfl, ?_⟩) trivial ?_
            rotate_left
            · (intro w' hw'; (try dsimp only at hw'); go_simp; try with_reducible rfl)
            simp only [List.set_cons_zero, List.set_cons_succ]
            refine wpAnyH_takeD 8 11 (v := ?_) rfl rfl (by kernel_rfl) (by kernel_rfl) (by kernel_rfl) (fun _ _ _ h => h) (Or.inl ⟨by rfl, ?_⟩) trivial ?_
            rotate_left
            · (intro w' hw'; (try dsimp only at hw'); go_simp; try with_reducible rfl)
            simp only [List.set_cons_zero, List.set_cons_succ]
            refine wpAnyH_takeD 9 12 (v := ?_) rfl rfl (by kernel_rfl) (by kernel_rfl) (by kernel_rfl) (fun _ _ _ h => h) (Or.inl ⟨by rfl, ?_⟩) trivial ?_
            rotate_left
            · (intro w' hw'; (try dsimp only at hw'); go_simp; try with_reducible rfl)
            simp only [List.set_cons_zero, List.set_cons_succ]
            refine wpAnyH_takeD 10 13 (v := ?_) rfl rfl (by kernel_rfl) (by kernel_rfl) (by kernel_rfl) (fun _ _ _ h => h) (Or.inl ⟨by rfl, ?_⟩) trivial ?_
            rotate_left
            · (intro w' hw'; (try dsimp only at hw'); go_simp; try with_reducible rfl)
            simp only [List.set_cons_zero, List.set_cons_succ]
            refine wpAnyH_takeD 11 14 (v := ?_) rfl rfl (by kernel_rfl) (by kernel_rfl) (by kernel_rfl) (fun _ _ _ h => h) (Or.inl ⟨by rfl, ?_⟩) trivial ?_
            rotate_left
            · (intro w' hw'; (try dsimp only at hw'); go_simp; try with_reducible rfl)
            simp only [List.set_cons_zero, List.set_cons_succ]
            refine wpAnyH_takeD 12 15 (v := ?_) rfl rfl (by kernel_rfl) (by kernel_rfl) (by kernel_rfl) (fun _ _ _ h => h) (Or.inl ⟨by rfl, ?_⟩) trivial ?_
            rotate_left
            · (intro w' hw'; (try dsimp only at hw'); go_simp; try with_reducible rfl)
            simp only [List.set_cons_zero, List.set_cons_succ]
            refine wpAnyH_takeD 13 16 (v := ?_) rfl rfl (by kernel_rfl) (by kernel_rfl) (by kernel_rfl) (fun _ _ _ h => h) (Or.inl ⟨by rfl, ?_⟩) trivial ?_
            rotate_left
            · (intro w' hw'; (try dsimp only at hw'); go_simp; try with_reducible rfl)
            simp only [List.set_cons_zero, List.set_cons_succ]
            refine wpAnyH_takeD 14 17 (v := ?_) rfl rfl (by kernel_rfl) (by kernel_rfl) (by kernel_rfl) (fun _ _ _ h => h) (Or.inl ⟨by rfl, ?_⟩) trivial ?_
            rotate_left
            · (intro w' hw'; (try dsimp only at hw'); go_simp; try with_reducible rfl)
            simp only [List.set_cons_zero, List.set_cons_succ]
            refine wpAnyH_takeD 15 18 (v := ?_) rfl rfl (by kernel_rfl) (by kernel_rfl) (by kernel_rfl) (fun _ _ _ h => h) (Or.inl ⟨by rfl, ?_⟩) trivial ?_
            rotate_left
            · (intro w' hw'; (try dsimp only at hw'); go_simp; try with_reducible rfl)
            simp only [List.set_cons_zero, List.set_cons_succ]
            refine wpAnyH_takeD 16 2 (v := ?_) rfl rfl (by kernel_rfl) (by kernel_rfl) (by kernel_rfl) (fun _ _ _ h => h) (Or.inl ⟨by rfl, ?_⟩) trivial ?_
            rotate_left
            · (intro w' hw'; (try dsimp only at hw'); go_simp; try with_reducible rfl)
            simp only [List.set_cons_zero, List.set_cons_succ]
            refine wpAnyH_done (by kernel_rfl) ?_ _
            go_wp2
            go_ret
            exact ⟨by first | rfl | simp, by first | exact b_w62 | exact Below.drew b_w62⟩
        · rw [if_pos (by rfl)]
          have cv63 := cv _ w53.drew q53
          have cw63 := cv _ w53 q53
          go_simp
          refine hK'.out _ _ trivial ?_
          clear hK' K'
          refine wpAnyH_name (fun w63 e63 => ?_)
          have b_w63 : Below w.heap.size w w63 := by rw [← e63]; first | exact bal b_w53 _ | exact bal (Below.drew b_w53) _ | exact Below.drew (bal b_w53 _) | exact Below.drew (bal (Below.drew b_w53) _) | exact b_w53 | exact Below.drew b_w53
          have q53_63 : w63.cell? ⟨w.heap.size, 0, none⟩ = some (.int .u8 c.toNat) := by rw [← e63]; first | exact q53 | exact ((bal (brf w53) _).cell (lt_of_cell q53)).trans q53 | exact ((bal (brf w53.drew) _).cell (lt_of_cell q53)).trans q53
          refine wpAnyH_step 1 rfl (by kernel_rfl) (fun K' hK' => ?_)
          rw [if_pos (by rfl)]
          go_simp
          refine hK'.out _ _ trivial ?_
          clear hK' K'
          refine wpAnyH_name (fun w64 e64 => ?_)
          have q64 : w64.cell? ⟨w63.heap.size, 0, none⟩ = some (.int .u8 c.toNat) := by rw [← e64]; exact cellAt' (heap_new _ _) rfl
          have b_w64 : Below w.heap.size w w64 := by rw [← e64]; first | exact bal b_w63 _ | exact bal (Below.drew b_w63) _ | exact Below.drew (bal b_w63 _) | exact Below.drew (bal (Below.drew b_w63) _) | exact b_w63 | exact Below.drew b_w63
          have q53_63_64 : w64.cell? ⟨w.heap.size, 0, none⟩ = some (.int .u8 c.toNat) := by rw [← e64]; first | exact q53_63 | exact ((bal (brf w63) _).cell (lt_of_cell q53_63)).trans q53_63 | exact ((bal (brf w63.drew) _).cell (lt_of_cell q53_63)).trans q53_63
          refine wpAnyH_step 2 rfl (by kernel_rfl) (fun K' hK' => ?_)
          rw [if_pos (by rfl)]
          have cv65 := cv _ w64.drew q64
          have cw65 := cv _ w64 q64
          go_simp
          refine hK'.out _ _ trivial ?_
          clear hK' K'
          refine wpAnyH_name (fun w65 e65 => ?_)
          have b_w65 : Below w.heap.size w w65 := by rw [← e65]; first | exact bal b_w64 _ | exact bal (Below.drew b_w64) _ | exact Below.drew (bal b_w64 _) | exact Below.drew (bal (Below.drew b_w64) _) | exact b_w64 | exact Below.drew b_w64
          have q53_63_64_65 : w65.cell? ⟨w.heap.size, 0, none⟩ = some (.int .u8 c.toNat) := by rw [← e65]; first | exact q53_63_64 | exact ((bal (brf w64) _).cell (lt_of_cell q53_63_64)).trans q53_63_64 | exact ((bal (brf w64.drew) _).cell (lt_of_cell q53_63_64)).trans q53_63_64
          have q64_65 : w65.cell? ⟨w63.heap.size, 0, none⟩ = some (.int .u8 c.toNat) := by rw [← e65]; first | exact q64 | exact ((bal (brf w64) _).cell (lt_of_cell q64)).trans q64 | exact ((bal (brf w64.drew) _).cell (lt_of_cell q64)).trans q64
          refine wpAnyH_step 3 rfl (by kernel_rfl) (fun K' hK' => ?_)
          rw [if_pos (by rfl)]
          go_simp
          go_at_call 137
          refine (SM.out _).mono ?_
          rintro e w66 ⟨rfl, h66⟩
          dsimp only
          refine hK'.out _ _ trivial ?_
          clear hK' K'
          have b_w66 : Below w.heap.size w w66 := by first | exact btr b_w65 h66 | exact btr (Below.drew b_w65) h66
          have q53_63_64_65_66 : w66.cell? ⟨w.heap.size, 0, none⟩ = some (.int .u8 c.toNat) := by exact (h66.cell (lt_of_cell q53_63_64_65)).trans q53_63_64_65
          have q64_65_66 : w66.cell? ⟨w63.heap.size, 0, none⟩ = some (.int .u8 c.toNat) := by exact (h66.cell (lt_of_cell q64_65)).trans q64_65
          refine wpAnyH_takeD 7 10 (v := ?_) rfl rfl (by kernel_rfl) (by kernel_rfl) (by kernel_rfl) (fun _ _ _ h => h) (Or.inl ⟨by rfl, ?_⟩) trivial ?_
          rotate_left
          · (intro w' hw'; (try dsimp only at hw'); go_simp; try with_reducible rfl)
          simp only [List.set_cons_zero, List.set_cons_succ]
          refine wpAnyH_takeD 8 11 (v := ?_) rfl rfl (by kernel_rfl) (by kernel_rfl) (by kernel_rfl) (fun _ _ _ h => h) (Or.inl ⟨by rfl, ?_⟩) trivial ?_
          rotate_left
          · (intro w' hw'; (try dsimp only at hw'); go_simp; try with_reducible rfl)
          simp only [List.set_cons_zero, List.set_cons_succ]
          refine wpAnyH_takeD 9 12 (v := ?_) rfl rfl (by kernel_rfl) (by kernel_rfl) (by kernel_rfl) (fun _ _ _ h => h) (Or.inl ⟨by rfl, ?_⟩) trivial ?_
          rotate_left
          · (intro w' hw'; (try dsimp only at hw'); go_simp; try with_reducible rfl)
          simp only [List.set_cons_zero, List.set_cons_succ]
          refine wpAnyH_takeD 10 13 (v := ?_) rfl rfl (by kernel_rfl) (by kernel_rfl) (by kernel_rfl) (fun _ _ _ h => h) (Or.inl ⟨by rfl, ?_⟩) trivial ?_
          rotate_left
          · (intro w' hw'; (try dsimp only at hw'); go_simp; try with_reducible rfl)
          simp only [List.set_cons_zero, List.set_cons_succ]
          refine wpAnyH_takeD 11 14 (v := ?_) rfl rfl (by kernel_rfl) (by kernel_rfl) (by kernel_rfl) (fun _ _ _ h => h) (Or.inl ⟨by rfl, ?_⟩) trivial ?_
          rotate_left
          · (intro w' hw'; (try dsimp only at hw'); go_simp; try with_reducible rfl)
          simp only [List.set_cons_zero, List.set_cons_succ]
          refine wpAnyH_takeD 12 15 (v := ?_) rfl rfl (by kernel_rfl) (by kernel_rfl) (by kernel_rfl) (fun _ _ _ h => h) (Or.inl ⟨by rfl, ?_⟩) trivial ?_
          rotate_left
          · (intro w' hw'; (try dsimp only at hw'); go_simp; try with_reducible rfl)
          simp only [List.set_cons_zero, List.set_cons_succ]
          refine wpAnyH_takeD 13 16 (v := ?_) rfl rfl (by kernel_rfl) (by kernel_rfl) (by kernel_rfl) (fun _ _ _ h => h) (Or.inl ⟨by rfl, ?_⟩) trivial ?_
          rotate_left
          · (intro w' hw'; (try dsimp only at hw'); go_simp; try with_reducible rfl)
          simp only [List.set_cons_zero, List.set_cons_succ]
          refine wpAnyH_takeD 14 17 (v := ?_) rfl rfl (by kernel_rfl) (by kernel_rfl) (by kernel_rfl) (fun _ _ _ h => h) (Or.inl ⟨by rfl, ?_⟩) trivial ?_
          rotate_left
          · (intro w' hw'; (try dsimp only at hw'); go_simp; try with_reducible rfl)
          simp only [List.set_cons_zero, List.set_cons_succ]
          refine wpAnyH_takeD 15 18 (v := ?_) rfl rfl (by kernel_rfl) (by kernel_rfl) (by kernel_rfl) (fun _ _ _ h => h) (Or.inl ⟨by rfl, ?_⟩) trivial ?_
          rotate_left
          · (intro w' hw'; (try dsimp only at hw'); go_simp; try with_reducible rfl)
          simp only [List.set_cons_zero, List.set_cons_succ]
          refine wpAnyH_takeD 16 2 (v := ?_) rfl rfl (by kernel_rfl) (by kernel_rfl) (by kernel_rfl) (fun _ _ _ h => h) (Or.inl ⟨by rfl, ?_⟩) trivial ?_
          rotate_left
          · (intro w' hw'; (try dsimp only at hw'); go_simp; try with_reducible rfl)
          simp only [List.set_cons_zero, List.set_cons_succ]
          refine wpAnyH_done (by kernel_rfl) ?_ _
          go_wp2
          go_ret
          exact ⟨by first | rfl | simp, by first | exact b_w66 | exact Below.drew b_w66⟩
    | false =>
      go_enter Tryz.func135, Tryz.ntmps135
      go_upto_region 1 with fail
      refine wp_region_held (S := fun _ => True) (by kernel_rfl) ?_
      have b_w := brf w
      refine wpAnyH_takeD 0 3 (v := ?_) rfl rfl (by kernel_rfl) (by kernel_rfl) (by kernel_rfl) (fun _ _ _ h => h) (Or.inl ⟨by rfl, ?_⟩) trivial ?_
      rotate_left
      · (intro w' hw'; (try dsimp only at hw'); go_simp; try with_reducible rfl)
      simp only [List.set_cons_zero, List.set_cons_succ]
      refine wpAnyH_takeD 4 7 (v := ?_) rfl rfl (by kernel_rfl) (by kernel_rfl) (by kernel_rfl) (fun _ _ _ h => h) (Or.inl ⟨by rfl, ?_⟩) trivial ?_
      rotate_left
      · (intro w' hw'; (try dsimp only at hw'); go_simp; try with_reducible rfl)
      simp only [List.set_cons_zero, List.set_cons_succ]
      refine wpAnyH_br 1 5 rfl rfl (by kernel_rfl) (fun K' hK' => ?_) (fun K' hK' => ?_)
      · rw [if_pos (by rfl)]
        go_simp
        refine hK'.out _ _ trivial ?_
        clear hK' K'
        refine wpAnyH_name (fun w67 e67 => ?_)
        have q67 : w67.cell? ⟨w.heap.size, 0, none⟩ = some (.int .u8 c.toNat) := by rw [← e67]; exact cellAt' (heap_new _ _) rfl
        have b_w67 : Below w.heap.size w w67 := by rw [← e67]; first | exact bal b_w _ | exact bal (Below.drew b_w) _ | exact Below.drew (bal b_w _) | exact Below.drew (bal (Below.drew b_w) _) | exact b_w | exact Below.drew b_w
        refine wpAnyH_br 2 5 rfl rfl (by kernel_rfl) (fun K' hK' => ?_) (fun K' hK' => ?_)
        · rw [if_pos (by rfl)]
          have cv68 := cv _ w67.drew q67
          have cw68 := cv _ w67 q67
          go_simp
          refine hK'.out _ _ trivial ?_
          clear hK' K'
          refine wpAnyH_name (fun w68 e68 => ?_)
          have b_w68 : Below w.heap.size w w68 := by rw [← e68]; first | exact bal b_w67 _ | exact bal (Below.drew b_w67) _ | exact Below.drew (bal b_w67 _) | exact Below.drew (bal (Below.drew b_w67) _) | exact b_w67 | exact Below.drew b_w67
          have q67_68 : w68.cell? ⟨w.heap.size, 0, none⟩ = some (.int .u8 c.toNat) := by rw [← e68]; first | exact q67 | exact ((bal (brf w67) _).cell (lt_of_cell q67)).trans q67 | exact ((bal (brf w67.drew) _).cell (lt_of_cell q67)).trans q67
          refine wpAnyH_br 3 5 rfl rfl (by kernel_rfl) (fun K' hK' => ?_) (fun K' hK' => ?_)
          · rw [if_pos (by rfl)]
            go_simp
            go_at_call 137
            refine (SM.out _).mono ?_
            rintro e w69 ⟨rfl, h69⟩
            dsimp only
            refine hK'.out _ _ trivial ?_
            clear hK' K'
            have b_w69 : Below w.heap.size w w69 := by first | exact btr b_w68 h69 | exact btr (Below.drew b_w68) h69
            have q67_68_69 : w69.cell? ⟨w.heap.size, 0, none⟩ = some (.int .u8 c.toNat) := by exact (h69.cell (lt_of_cell q67_68)).trans q67_68
            refine wpAnyH_step 5 rfl (by kernel_rfl) (fun K' hK' => ?_)
            rw [if_pos (by rfl)]
            go_simp
            refine hK'.out _ _ trivial ?_
            clear hK' K'
            refine wpAnyH_name (fun w70 e70 => ?_)
            have q70 : w70.cell? ⟨w69.heap.size, 0, none⟩ = some (.int .u8 c.toNat) := by rw [← e70]; exact cellAt' (heap_new _ _) rfl
            have b_w70 : Below w.heap.size w w70 := by rw [← e70]; first | exact bal b_w69 _ | exact bal (Below.drew b_w69) _ | exact Below.drew (bal b_w69 _) | exact Below.drew (bal (Below.drew b_w69) _) | exact b_w69 | exact Below.drew b_w69
            have q67_68_69_70 : w70.cell? ⟨w.heap.size, 0, none⟩ = some (.int .u8 c.toNat) := by rw [← e70]; first | exact q67_68_69 | exact ((bal (brf w69) _).cell (lt_of_cell q67_68_69)).trans q67_68_69 | exact ((bal (brf w69.drew) _).cell (lt_of_cell q67_68_69)).trans q67_68_69
            refine wpAnyH_step 6 rfl (by kernel_rfl) (fun K' hK' => ?_)
            rw [if_pos (by rfl)]
            have cv71 := cv _ w70.drew q70
            have cw71 := cv _ w70 q70
            go_simp
            refine hK'.out _ _ trivial ?_
            clear hK' K'
            refine wpAnyH_name (fun w71 e71 => ?_)
            have b_w71 : Below w.heap.size w w71 := by rw [← e71]; first | exact bal b_w70 _ | exact bal (Below.drew b_w70) _ | exact Below.drew (bal b_w70 _) | exact Below.drew (bal (Below.drew b_w70) _) | exact b_w70 | exact Below.drew b_w70
            have q67_68_69_70_71 : w71.cell? ⟨w.heap.size, 0, none⟩ = some (.int .u8 c.toNat) := by rw [← e71]; first | exact q67_68_69_70 | exact ((bal (brf w70) _).cell (lt_of_cell q67_68_69_70)).trans q67_68_69_70 | exact ((bal (brf w70.drew) _).cell (lt_of_cell q67_68_69_70)).trans q67_68_69_70
            have q70_71 : w71.cell? ⟨w69.heap.size, 0, none⟩ = some (.int .u8 c.toNat) := by rw [← e71]; first | exact q70 | exact ((bal (brf w70) _).cell (lt_of_cell q70)).trans q70 | exact ((bal (brf w70.drew) _).cell (lt_of_cell q70)).trans q70
            refine wpAnyH_takeD 7 10 (v := ?_) rfl rfl (by kernel_rfl) (by kernel_rfl) (by kernel_rfl) (fun _ _ _ h => h) (Or.inl ⟨by rfl, ?_⟩) trivial ?_
            rotate_left
            · (intro w' hw'; (try dsimp only at hw'); go_simp; try with_reducible rfl)
            simp only [List.set_cons_zero, List.set_cons_succ]
            refine wpAnyH_takeD 8 11 (v := ?_) rfl rfl (by kernel_rfl) (by kernel_rfl) (by kernel_rfl) (fun _ _ _ h => h) (Or.inl ⟨by rfl, ?_⟩) trivial ?_
            rotate_left
            · (intro w' hw'; (try dsimp only at hw'); go_simp; try with_reducible rfl)
            simp only [List.set_cons_zero, List.set_cons_succ]
            refine wpAnyH_takeD 9 12 (v := ?_) rfl rfl (by kernel_rfl) (by kernel_rfl) (by kernel_rfl) (fun _ _ _ h => h) (Or.inl ⟨by rfl, ?_⟩) trivial ?_
            rotate_left
            · (intro w' hw'; (try dsimp only at hw'); go_simp; try with_reducible rfl)
            simp only [List.set_cons_zero, List.set_cons_succ]
            refine wpAnyH_takeD 10 13 (v := ?_) rfl rfl (by kernel_rfl) (by kernel_rfl) (by kernel_rfl) (fun _ _ _ h => h) (Or.inl ⟨by rfl, ?_⟩) trivial ?_
            rotate_left
            · (intro w' hw'; (try dsimp only at hw'); go_simp; try with_reducible rfl)
            simp only [List.set_cons_zero, List.set_cons_succ]
            refine wpAnyH_takeD 11 14 (v := ?_) rfl rfl (by kernel_rfl) (by kernel_rfl) (by kernel_rfl) (fun _ _ _ h => h) (Or.inl ⟨by rfl, ?_⟩) trivial ?_
            rotate_left
            · (intro w' hw'; (try dsimp only at hw'); go_simp; try with_reducible rfl)
            simp only [List.set_cons_zero, List.set_cons_succ]
            refine wpAnyH_skipD 12 15 rfl rfl (by kernel_rfl) trivial (by rfl) ?_
            simp only [List.set_cons_zero, List.set_cons_succ]
            refine wpAnyH_skipD 13 16 rfl rfl (by kernel_rfl) trivial (by rfl) ?_
            simp only [List.set_cons_zero, List.set_cons_succ]
            refine wpAnyH_takeD 14 17 (v := ?_) rfl rfl (by kernel_rfl) (by kernel_rfl) (by kernel_rfl) (fun _ _ _ h => h) (Or.inl ⟨by rfl, ?_⟩) trivial ?_
            rotate_left
            · (intro w' hw'; (try dsimp only at hw'); go_simp; try with_reducible rfl)
            simp only [List.set_cons_zero, List.set_cons_succ]
            refine wpAnyH_takeD 15 18 (v := ?_) rfl rfl (by kernel_rfl) (by kernel_rfl) (by kernel_rfl) (fun _ _ _ h => h) (Or.inl ⟨by rfl, ?_⟩) trivial ?_
            rotate_left
            · (intro w' hw'; (try dsimp only at hw'); go_simp; try with_reducible rfl)
            simp only [List.set_cons_zero, List.set_cons_succ]
            refine wpAnyH_takeD 16 2 (v := ?_) rfl rfl (by kernel_rfl) (by kernel_rfl) (by kernel_rfl) (fun _ _ _ h => h) (Or.inl ⟨by rfl, ?_⟩) trivial ?_
            rotate_left
            · (intro w' hw'; (try dsimp only at hw'); go_simp; try with_reducible rfl)
            simp only [List.set_cons_zero, List.set_cons_succ]
            refine wpAnyH_done (by kernel_rfl) ?_ _
            go_wp2
            go_ret
            exact ⟨by first | rfl | simp, by first | exact b_w71 | exact Below.drew b_w71⟩
          · rw [if_pos (by rfl)]
            go_simp
            refine hK'.out _ _ trivial ?_
            clear hK' K'
            refine wpAnyH_name (fun w72 e72 => ?_)
            have q72 : w72.cell? ⟨w68.heap.size, 0, none⟩ = some (.int .u8 c.toNat) := by rw [← e72]; exact cellAt' (heap_new _ _) rfl
            have b_w72 : Below w.heap.size w w72 := by rw [← e72]; first | exact bal b_w68 _ | exact bal (Below.drew b_w68) _ | exact Below.drew (bal b_w68 _) | exact Below.drew (bal (Below.drew b_w68) _) | exact b_w68 | exact Below.drew b_w68
            have q67_68_72 : w72.cell? ⟨w.heap.size, 0, none⟩ = some (.int .u8 c.toNat) := by rw [← e72]; first | exact q67_68 | exact ((bal (brf w68) _).cell (lt_of_cell q67_68)).trans q67_68 | exact ((bal (brf w68.drew) _).cell (lt_of_cell q67_68)).trans q67_68
            refine wpAnyH_br 3 6 rfl rfl (by kernel_rfl) (fun K' hK' => ?_) (fun K' hK' => ?_)
            · rw [if_pos (by rfl)]
              go_simp
              go_at_call 137
              refine (SM.out _).mono ?_
              rintro e w73 ⟨rfl, h73⟩
              dsimp only
              refine hK'.out _ _ trivial ?_
              clear hK' K'
              have b_w73 : Below w.heap.size w w73 := by first | exact btr b_w72 h73 | exact btr (Below.drew b_w72) h73
              have q67_68_72_73 : w73.cell? ⟨w.heap.size, 0, none⟩ = some (.int .u8 c.toNat) := by exact (h73.cell (lt_of_cell q67_68_72)).trans q67_68_72
              have q72_73 : w73.cell? ⟨w68.heap.size, 0, none⟩ = some (.int .u8 c.toNat) := by exact (h73.cell (lt_of_cell q72)).trans q72
              refine wpAnyH_step 6 rfl (by kernel_rfl) (fun K' hK' => ?_)
              rw [if_pos (by rfl)]
              have cv74 := cv _ w73.drew q72_73
              have cw74 := cv _ w73 q72_73
              go_simp
              refine hK'.out _ _ trivial ?_
              clear hK' K'
              refine wpAnyH_name (fun w74 e74 => ?_)
              have b_w74 : Below w.heap.size w w74 := by rw [← e74]; first | exact bal b_w73 _ | exact bal (Below.drew b_w73) _ | exact Below.drew (bal b_w73 _) | exact Below.drew (bal (Below.drew b_w73) _) | exact b_w73 | exact Below.drew b_w73
              have q67_68_72_73_74 : w74.cell? ⟨w.heap.size, 0, none⟩ = some (.int .u8 c.toNat) := by rw [← e74]; first | exact q67_68_72_73 | exact ((bal (brf w73) _).cell (lt_of_cell q67_68_72_73)).trans q67_68_72_73 | exact ((bal (brf w73.drew) _).cell (lt_of_cell q67_68_72_73)).trans q67_68_72_73
              have q72_73_74 : w74.cell? ⟨w68.heap.size, 0, none⟩ = some (.int .u8 c.toNat) := by rw [← e74]; first | exact q72_73 | exact ((bal (brf w73) _).cell (lt_of_cell q72_73)).trans q72_73 | exact ((bal (brf w73.drew) _).cell (lt_of_cell q72_73)).trans q72_73
              refine wpAnyH_takeD 7 10 (v := ?_) rfl rfl (by kernel_rfl) (by kernel_rfl) (by kernel_rfl) (fun _ _ _ h => h) (Or.inl ⟨by rfl, ?_⟩) trivial ?_
              rotate_left
              · (intro w' hw'; (try dsimp only at hw'); go_simp; try with_reducible rfl)
              simp only [List.set_cons_zero, List.set_cons_succ]
              refine wpAnyH_takeD 8 11 (v := ?_) rfl rfl (by kernel_rfl) (by kernel_rfl) (by kernel_rfl) (fun _ _ _ h => h) (Or.inl ⟨by rfl, ?_⟩) trivial ?_
              rotate_left
              · (intro w' hw'; (try dsimp only at hw'); go_simp; try with_reducible rfl)
              simp only [List.set_cons_zero, List.set_cons_succ]
              refine wpAnyH_takeD 9 12 (v := ?_) rfl rfl (by kernel_rfl) (by kernel_rfl) (by kernel_rfl) (fun _ _ _ h => h) (Or.inl ⟨by rfl, ?_⟩) trivial ?_
              rotate_left
              · (intro w' hw'; (try dsimp only at hw'); go_simp; try with_reducible rfl)
              simp only [List.set_cons_zero, List.set_cons_succ]
              refine wpAnyH_takeD 10 13 (v := ?_) rfl rfl (by kernel_rfl) (by kernel_rfl) (by kernel_rfl) (fun _ _ _ h => h) (Or.inl ⟨by rfl, ?_⟩) trivial ?_
              rotate_left
              · (intro w' hw'; (try dsimp only at hw'); go_simp; try with_reducible rfl)
              simp only [List.set_cons_zero, List.set_cons_succ]
              refine wpAnyH_takeD 11 14 (v := ?_) rfl rfl (by kernel_rfl) (by kernel_rfl) (by kernel_rfl) (fun _ _ _ h => h) (Or.inl ⟨by rfl, ?_⟩) trivial ?_
              rotate_left
              · (intro w' hw'; (try dsimp only at hw'); go_simp; try with_reducible rfl)
              simp only [List.set_cons_zero, List.set_cons_succ]
              refine wpAnyH_skipD 12 15 rfl rfl (by kernel_rfl) trivial (by rfl) ?_
              simp only [List.set_cons_zero, List.set_cons_succ]
              refine wpAnyH_skipD 13 16 rfl rfl (by kernel_rfl) trivial (by rfl) ?_
              simp only [List.set_cons_zero, List.set_cons_succ]
              refine wpAnyH_takeD 14 17 (v := ?_) rfl rfl (by kernel_rfl) (by kernel_rfl) (by kernel_rfl) (fun _ _ _ h => h) (Or.inl ⟨by rfl, ?_⟩) trivial ?_
              rotate_left
              · (intro w' hw'; (try dsimp only at hw'); go_simp; try with_reducible rfl)
              simp only [List.set_cons_zero, List.set_cons_succ]
              refine wpAnyH_takeD 15 18 (v := ?_) rfl rfl (by kernel_rfl) (by kernel_rfl) (by kernel_rfl) (fun _ _ _ h => h) (Or.inl ⟨by rfl, ?_⟩) trivial ?_
              rotate_left
              · (intro w' hw'; (try dsimp only at hw'); go_simp; try with_reducible rfl)
              simp only [List.set_cons_zero, List.set_cons_succ]
              refine wpAnyH_takeD 16 2 (v := ?_) rfl rfl (by kernel_rfl) (by kernel_rfl) (by kernel_rfl) (fun _ _ _ h => h) (Or.inl ⟨by rfl, ?_⟩) trivial ?_
              rotate_left
              · (intro w' hw'; (try dsimp only at hw'); go_simp; try with_reducible rfl)
              simp only [List.set_cons_zero, List.set_cons_succ]
              refine wpAnyH_done (by kernel_rfl) ?_ _
              go_wp2
              go_ret
              exact ⟨by first | rfl | simp, by first | exact b_w74 | exact Below.drew b_w74⟩
            · rw [if_pos (by rfl)]
              have cv75 := cv _ w72.drew q72
              have cw75 := cv _ w72 q72
              go_simp
              refine hK'.out _ _ trivial ?_
              clear hK' K'
              refine wpAnyH_name (fun w75 e75 => ?_)
              have b_w75 : Below w.heap.size w w75 := by rw [← e75]; first | exact bal b_w72 _ | exact bal (Below.drew b_w72) _ | exact Below.drew (bal b_w72 _) | exact Below.drew (bal (Below.drew b_w72) _) | exact b_w72 | exact Below.drew b_w72
              have q67_68_72_75 : w75.cell? ⟨w.heap.size, 0, none⟩ = some (.int .u8 c.toNat) := by rw [← e75]; first | exact q67_68_72 | exact ((bal (brf w72) _).cell (lt_of_cell q67_68_72)).trans q67_68_72 | exact ((bal (brf w72.drew) _).cell (lt_of_cell q67_68_72)).trans q67_68_72
              have q72_75 : w75.cell? ⟨w68.heap.size, 0, none⟩ = some (.int .u8 c.toNat) := by rw [← e75]; first | exact q72 | exact ((bal (brf w72) _).cell (lt_of_cell q72)).trans q72 | exact ((bal (brf w72.drew) _).cell (lt_of_cell q72)).trans q72
              refine wpAnyH_step 3 rfl (by kernel_rfl) (fun K' hK' => ?_)
              rw [if_pos (by rfl)]
              go_simp
              go_at_call 137
              refine (SM.out _).mono ?_
              rintro e w76 ⟨rfl, h76⟩
              dsimp only
              refine hK'.out _ _ trivial ?_
              clear hK' K'
              have b_w76 : Below w.heap.size w w76 := by first | exact btr b_w75 h76 | exact btr (Below.drew b_w75) h76
              have q67_68_72_75_76 : w76.cell? ⟨w.heap.size, 0, none⟩ = some (.int .u8 c.toNat) := by exact (h76.cell (lt_of_cell q67_68_72_75)).trans q67_68_72_75
              have q72_75_76 : w76.cell? ⟨w68.heap.size, 0, none⟩ = some (.int .u8 c.toNat) := by exact (h76.cell (lt_of_cell q72_75)).trans q72_75
              refine wpAnyH_takeD 7 10 (v := ?_) rfl rfl (by kernel_rfl) (by kernel_rfl) (by kernel_rfl) (fun _ _ _ h => h) (Or.inl ⟨by rfl, ?_⟩) trivial ?_
              rotate_left
              · (intro w' hw'; (try dsimp only at hw'); go_simp; try with_reducible rfl)
              simp only [List.set_cons_zero, List.set_cons_succ]
              refine wpAnyH_takeD 8 11 (v := ?_) rfl rfl (by kernel_rfl) (by kernel_rfl) (by kernel_rfl) (fun _ _ _ h => h) (Or.inl ⟨by rfl, ?_⟩) trivial ?_
              rotate_left
              · (intro w' hw'; (try dsimp only at hw'); go_simp; try with_reducible rfl)
              simp only [List.set_cons_zero, List.set_cons_succ]
              refine wpAnyH_takeD 9 12 (v := ?_) rfl rfl (by kernel_rfl) (by kernel_rfl) (by kernel_rfl) (fun _ _ _ h => h) (Or.inl ⟨by rfl, ?_⟩) trivial ?_
              rotate_left
              · (intro w' hw'; (try dsimp only at hw'); go_simp; try with_reducible rfl)
              simp only [List.set_cons_zero, List.set_cons_succ]
              refine wpAnyH_takeD 10 13 (v := ?_) rfl rfl (by kernel_rfl) (by kernel_rfl) (by kernel_rfl) (fun _ _ _ h => h) (Or.inl ⟨by rfl, ?_⟩) trivial ?_
              rotate_left
              · (intro w' hw'; (try dsimp only at hw'); go_simp; try with_reducible rfl)
              simp only [List.set_cons_zero, List.set_cons_succ]
              refine wpAnyH_takeD 11 14 (v := ?_) rfl rfl (by kernel_rfl) (by kernel_rfl) (by kernel_rfl) (fun _ _ _ h => h) (Or.inl ⟨by rfl, ?_⟩) trivial ?_
              rotate_left
              · (intro w' hw'; (try dsimp only at hw'); go_simp; try with_reducible rfl)
              simp only [List.set_cons_zero, List.set_cons_succ]
              refine wpAnyH_skipD 12 15 rfl rfl (by kernel_rfl) trivial (by rfl) ?_
              simp only [List.set_cons_zero, List.set_cons_succ]
              refine wpAnyH_skipD 13 16 rfl rfl (by kernel_rfl) trivial (by rfl) ?_
              simp only [List.set_cons_zero, List.set_cons_succ]
              refine wpAnyH_takeD 14 17 (v := ?_) rfl rfl (by kernel_rfl) (by kernel_rfl) (by kernel_rfl) (fun _ _ _ h => h) (Or.inl ⟨by rfl, ?_⟩) trivial ?_
              rotate_left
              · (intro w' hw'; (try dsimp only at hw'); go_simp; try with_reducible rfl)
              simp only [List.set_cons_zero, List.set_cons_succ]
              refine wpAnyH_takeD 15 18 (v := ?_) rfl rfl (by kernel_rfl) (by kernel_rfl) (by kernel_rfl) (fun _ _ _ h => h) (Or.inl ⟨by rfl, ?_⟩) trivial ?_
              rotate_left
              · (intro w' hw'; (try dsimp only at hw'); go_simp; try with_reducible rfl)
              simp only [List.set_cons_zero, List.set_cons_succ]
              refine wpAnyH_takeD 16 2 (v := ?_) rfl rfl (by kernel_rfl) (by kernel_rfl) (by kernel_rfl) (fun _ _ _ h => h) (Or.inl ⟨by rfl, ?_⟩) trivial ?_
              rotate_left
              · (intro w' hw'; (try dsimp only at hw'); go_simp; try with_reducible rfl)
              simp only [List.set_cons_zero, List.set_cons_succ]
              refine wpAnyH_done (by kernel_rfl) ?_ _
              go_wp2
              go_ret
              exact ⟨by first | rfl | simp, by first | exact b_w76 | exact Below.drew b_w76⟩
        · rw [if_pos (by rfl)]
          go_simp
          refine hK'.out _ _ trivial ?_
          clear hK' K'
          refine wpAnyH_name (fun w77 e77 => ?_)
          have q77 : w77.cell? ⟨w67.heap.size, 0, none⟩ = some (.int .u8 c.toNat) := by rw [← e77]; exact cellAt' (heap_new _ _) rfl
          have b_w77 : Below w.heap.size w w77 := by rw [← e77]; first | exact bal b_w67 _ | exact bal (Below.drew b_w67) _ | exact Below.drew (bal b_w67 _) | exact Below.drew (bal (Below.drew b_w67) _) | exact b_w67 | exact Below.drew b_w67
          have q67_77 : w77.cell? ⟨w.heap.size, 0, none⟩ = some (.int .u8 c.toNat) := by rw [← e77]; first | exact q67 | exact ((bal (brf w67) _).cell (lt_of_cell q67)).trans q67 | exact ((bal (brf w67.drew) _).cell (lt_of_cell q67)).trans q67
          refine wpAnyH_br 2 6 rfl rfl (by kernel_rfl) (fun K' hK' => ?_) (fun K' hK' => ?_)
          · rw [if_pos (by rfl)]
            have cv78 := cv _ w77.drew q67_77
            have cw78 := cv _ w77 q67_77
            go_simp
            refine hK'.out _ _ trivial ?_
            clear hK' K'
            refine wpAnyH_name (fun w78 e78 => ?_)
            have b_w78 : Below w.heap.size w w78 := by rw [← e78]; first | exact bal b_w77 _ | exact bal (Below.drew b_w77) _ | exact Below.drew (bal b_w77 _) | exact Below.drew (bal (Below.drew b_w77) _) | exact b_w77 | exact Below.drew b_w77
            have q67_77_78 : w78.cell? ⟨w.heap.size, 0, none⟩ = some (.int .u8 c.toNat) := by rw [← e78]; first | exact q67_77 | exact ((bal (brf w77) _).cell (lt_of_cell q67_77)).trans q67_77 | exact ((bal (brf w77.drew) _).cell (lt_of_cell q67_77)).trans q67_77
            have q77_78 : w78.cell? ⟨w67.heap.size, 0, none⟩ = some (.int .u8 c.toNat) := by rw [← e78]; first | exact q77 | exact ((bal (brf w77) _).cell (lt_of_cell q77)).trans q77 | exact ((bal (brf w77.drew) _).cell (lt_of_cell q77)).trans q77
            refine wpAnyH_br 3 6 rfl rfl (by kernel_rfl) (fun K' hK' => ?_) (fun K' hK' => ?_)
            · rw [if_pos (by rfl)]
              go_simp
              go_at_call 137
              refine (SM.out _).mono ?_
              rintro e w79 ⟨rfl, h79⟩
              dsimp only
              refine hK'.out _ _ trivial ?_
              clear hK' K'
              have b_w79 : Below w.heap.size w w79 := by first | exact btr b_w78 h79 | exact btr (Below.drew b_w78) h79
              have q67_77_78_79 : w79.cell? ⟨w.heap.size, 0, none⟩ = some (.int .u8 c.toNat) := by exact (h79.cell (lt_of_cell q67_77_78)).trans q67_77_78
              have q77_78_79 : w79.cell? ⟨w67.heap.size, 0, none⟩ = some (.int .u8 c.toNat) := by exact (h79.cell (lt_of_cell q77_78)).trans q77_78
              refine wpAnyH_step 6 rfl (by kernel_rfl) (fun K' hK' => ?_)
              rw [if_pos (by rfl)]
              have cv80 := cv _ w79.drew q77_78_79
              have cw80 := cv _ w79 q77_78_79
              go_simp
              refine hK'.out _ _ trivial ?_
              clear hK' K'
              refine wpAnyH_name (fun w80 e80 => ?_)
              have b_w80 : Below w.heap.size w w80 := by rw [← e80]; first | exact bal b_w79 _ | exact bal (Below.drew b_w79) _ | exact Below.drew (bal b_w79 _) | exact Below.drew (bal (Below.drew b_w79) _) | exact b_w79 | exact Below.drew b_w79
              have q67_77_78_79_80 : w80.cell? ⟨w.heap.size, 0, none⟩ = some (.int .u8 c.toNat) := by rw [← e80]; first | exact q67_77_78_79 | exact ((bal (brf w79) _).cell (lt_of_cell q67_77_78_79)).trans q67_77_78_79 | exact ((bal (brf w79.drew) _).cell (lt_of_cell q67_77_78_79)).trans q67_77_78_79
              have q77_78_79_80 : w80.cell? ⟨w67.heap.size, 0, none⟩ = some (.int .u8 c.toNat) := by rw [← e80]; first | exact q77_78_79 | exact ((bal (brf w79) _).cell (lt_of_cell q77_78_79)).trans q77_78_79 | exact ((bal (brf w79.drew) _).cell (lt_of_cell q77_78_79)).trans q77_78_79
              refine wpAnyH_takeD 7 10 (v := ?_) rfl rfl (by kernel_rfl) (by kernel_rfl) (by kernel_rfl) (fun _ _ _ h => h) (Or.inl ⟨by rfl, ?_⟩) trivial ?_
              rotate_left
              · (intro w' hw'; (try dsimp only at hw'); go_simp; try with_reducible rfl)
              simp only [List.set_cons_zero, List.set_cons_succ]
              refine wpAnyH_takeD 8 11 (v := ?_) rfl rfl (by kernel_rfl) (by kernel_rfl) (by kernel_rfl) (fun _ _ _ h => h) (Or.inl ⟨by rfl, ?_⟩) trivial ?_
              rotate_left
              · (intro w' hw'; (try dsimp only at hw'); go_simp; try with_reducible rfl)
              simp only [List.set_cons_zero, List.set_cons_succ]
              refine wpAnyH_takeD 9 12 (v := ?_) rfl rfl (by kernel_rfl) (by kernel_rfl) (by kernel_rfl) (fun _ _ _ h => h) (Or.inl ⟨by rfl, ?_⟩) trivial ?_
              rotate_left
              · (intro w' hw'; (try dsimp only at hw'); go_simp; try with_reducible rfl)
              simp only [List.set_cons_zero, List.set_cons_succ]
              refine wpAnyH_takeD 10 13 (v := ?_) rfl rfl (by kernel_rfl) (by kernel_rfl) (by kernel_rfl) (fun _ _ _ h => h) (Or.inl ⟨by rfl, ?_⟩) trivial ?_
              rotate_left
              · (intro w' hw'; (try dsimp only at hw'); go_simp; try with_reducible rfl)
              simp only [List.set_cons_zero, List.set_cons_succ]
              refine wpAnyH_takeD 11 14 (v := ?_) rfl rfl (by kernel_rfl) (by kernel_rfl) (by kernel_rfl) (fun _ _ _ h => h) (Or.inl ⟨by rfl, ?_⟩) trivial ?_
              rotate_left
              · (intro w' hw'; (try dsimp only at hw'); go_simp; try with_reducible rfl)
              simp only [List.set_cons_zero, List.set_cons_succ]
              refine wpAnyH_skipD 12 15 rfl rfl (by kernel_rfl) trivial (by rfl) ?_
              simp only [List.set_cons_zero, List.set_cons_succ]
              refine wpAnyH_skipD 13 16 rfl rfl (by kernel_rfl) trivial (by rfl) ?_
              simp only [List.set_cons_zero, List.set_cons_succ]
              refine wpAnyH_takeD 14 17 (v := ?_) rfl rfl (by kernel_rfl) (by kernel_rfl) (by kernel_rfl) (fun _ _ _ h => h) (Or.inl ⟨by rfl, ?_⟩) trivial ?_
              rotate_left
              · (intro w' hw'; (try dsimp only at hw'); go_simp; try with_reducible rfl)
              simp only [List.set_cons_zero, List.set_cons_succ]
              refine wpAnyH_takeD 15 18 (v := ?_) rfl rfl (by kernel_rfl) (by kernel_rfl) (by kernel_rfl) (fun _ _ _ h => h) (Or.inl ⟨by rfl, ?_⟩) trivial ?_
              rotate_left
              · (intro w' hw'; (try dsimp only at hw'); go_simp; try with_reducible rfl)
              simp only [List.set_cons_zero, List.set_cons_succ]
              refine wpAnyH_takeD 16 2 (v := ?_) rfl rfl (by kernel_rfl) (by kernel_rfl) (by kernel_rfl) (fun _ _ _ h => h) (Or.inl ⟨by rfl, ?_⟩) trivial ?_
              rotate_left
              · (intro w' hw'; (try dsimp only at hw'); go_simp; try with_reducible rfl)
              simp only [List.set_cons_zero, List.set_cons_succ]
              refine wpAnyH_done (by kernel_rfl) ?_ _
              go_wp2
              go_ret
              exact ⟨by first | rfl | simp, by first | exact b_w80 | exact Below.drew b_w80⟩
            · rw [if_pos (by rfl)]
              have cv81 := cv _ w78.drew q77_78
              have cw81 := cv _ w78 q77_78
              go_simp
              refine hK'.out _ _ trivial ?_
              clear hK' K'
              refine wpAnyH_name (fun w81 e81 => ?_)
              have b_w81 : Below w.heap.size w w81 := by rw [← e81]; first | exact bal b_w78 _ | exact bal (Below.drew b_w78) _ | exact Below.drew (bal b_w78 _) | exact Below.drew (bal (Below.drew b_w78) _) | exact b_w78 | exact Below.drew b_w78
              have q67_77_78_81 : w81.cell? ⟨w.heap.size, 0, none⟩ = some (.int .u8 c.toNat) := by rw [← e81]; first | exact q67_77_78 | exact ((bal (brf w78) _).cell (lt_of_cell q67_77_78)).trans q67_77_78 | exact ((bal (brf w78.drew) _).cell (lt_of_cell q67_77_78)).trans q67_77_78
              have q77_78_81 : w81.cell? ⟨w67.heap.size, 0, none⟩ = some (.int .u8 c.toNat) := by rw [← e81]; first | exact q77_78 | exact ((bal (brf w78) _).cell (lt_of_cell q77_78)).trans q77_78 | exact ((bal (brf w78.drew) _).cell (lt_of_cell q77_78)).trans q77_78
              refine wpAnyH_step 3 rfl (by kernel_rfl) (fun K' hK' => ?_)
              rw [if_pos (by rfl)]
              go_simp
              go_at_call 137
              refine (SM.out _).mono ?_
              rintro e w82 ⟨rfl, h82⟩
              dsimp only
              refine hK'.out _ _ trivial ?_
              clear hK' K'
              have b_w82 : Below w.heap.size w w82 := by first | exact btr b_w81 h82 | exact btr (Below.drew b_w81) h82
              have q67_77_78_81_82 : w82.cell? ⟨w.heap.size, 0, none⟩ = some (.int .u8 c.toNat) := by exact (h82.cell (lt_of_cell q67_77_78_81)).trans q67_77_78_81
              have q77_78_81_82 : w82.cell? ⟨w67.heap.size, 0, none⟩ = some (.int .u8 c.toNat) := by exact (h82.cell (lt_of_cell q77_78_81)).trans q77_78_81
              refine wpAnyH_takeD 7 10 (v := ?_) rfl rfl (by kernel_rfl) (by kernel_rfl) (by kernel_rfl) (fun _ _ _ h => h) (Or.inl ⟨by rfl, ?_⟩) trivial ?_
              rotate_left
              · (intro w' hw'; (try dsimp only at hw'); go_simp; try with_reducible rfl)
              simp only [List.set_cons_zero, List.set_cons_succ]
              refine wpAnyH_takeD 8 11 (v := ?_) rfl rfl (by kernel_rfl) (by kernel_rfl) (by kernel_rfl) (fun _ _ _ h => h) (Or.inl ⟨by rfl, ?_⟩) trivial ?_
              rotate_left
              · (intro w' hw'; (try dsimp only at hw'); go_simp; try with_reducible rfl)
              simp only [List.set_cons_zero, List.set_cons_succ]
              refine wpAnyH_takeD 9 12 (v := ?_) rfl rfl (by kernel_rfl) (by kernel_rfl) (by kernel_rfl) (fun _ _ _ h => h) (Or.inl ⟨by rfl, ?_⟩) trivial ?_
              rotate_left
              · (intro w' hw'; (try dsimp only at hw'); go_simp; try with_reducible rfl)
              simp only [List.set_cons_zero, List.set_cons_succ]
              refine wpAnyH_takeD 10 13 (v := ?_) rfl rfl (by kernel_rfl) (by kernel_rfl) (by kernel_rfl) (fun _ _ _ h => h) (Or.inl ⟨by rfl, ?_⟩) trivial ?_
              rotate_left
              · (intro w' hw'; (try dsimp only at hw'); go_simp; try with_reducible rfl)
              simp only [List.set_cons_zero, List.set_cons_succ]
              refine wpAnyH_takeD 11 14 (v := ?_) rfl rfl (by kernel_rfl) (by kernel_rfl) (by kernel_rfl) (fun _ _ _ h => h) (Or.inl ⟨by rfl, ?_⟩) trivial ?_
              rotate_left
              · (intro w' hw'; (try dsimp only at hw'); go_simp; try with_reducible rfl)
              simp only [List.set_cons_zero, List.set_cons_succ]
              refine wpAnyH_skipD 12 15 rfl rfl (by kernel_rfl) trivial (by rfl) ?_
              simp only [List.set_cons_zero, List.set_cons_succ]
              refine wpAnyH_skipD 13 16 rfl rfl (by kernel_rfl) trivial (by rfl) ?_
              simp only [List.set_cons_zero, List.set_cons_succ]
              refine wpAnyH_takeD 14 17 (v := ?_) rfl rfl (by kernel_rfl) (by kernel_rfl) (by kernel_rfl) (fun _ _ _ h => h) (Or.inl ⟨by rfl, ?_⟩) trivial ?_
              rotate_left
              · (intro w' hw'; (try dsimp only at hw'); go_simp; try with_reducible rfl)
              simp only [List.set_cons_zero, List.set_cons_succ]
              refine wpAnyH_takeD 15 18 (v := ?_) rfl rfl (by kernel_rfl) (by kernel_rfl) (by kernel_rfl) (fun _ _ _ h => h) (Or.inl ⟨by rfl, ?_⟩) trivial ?_
              rotate_left
              · (intro w' hw'; (try dsimp only at hw'); go_simp; try with_reducible rfl)
              simp only [List.set_cons_zero, List.set_cons_succ]
              refine wpAnyH_takeD 16 2 (v := ?_) rfl rfl (by kernel_rfl) (by kernel_rfl) (by kernel_rfl) (fun _ _ _ h => h) (Or.inl ⟨by rfl, ?_⟩) trivial ?_
              rotate_left
              · (intro w' hw'; (try dsimp only at hw'); go_simp; try with_reducible rfl)
              simp only [List.set_cons_zero, List.set_cons_succ]
              refine wpAnyH_done (by kernel_rfl) ?_ _
              go_wp2
              go_ret
              exact ⟨by first | rfl | simp, by first | exact b_w82 | exact Below.drew b_w82⟩
          · rw [if_pos (by rfl)]
            have cv83 := cv _ w77.drew q77
            have cw83 := cv _ w77 q77
            go_simp
            refine hK'.out _ _ trivial ?_
            clear hK' K'
            refine wpAnyH_name (fun w83 e83 => ?_)
            have b_w83 : Below w.heap.size w w83 := by rw [← e83]; first | exact bal b_w77 _ | exact bal (Below.drew b_w77) _ | exact Below.drew (bal b_w77 _) | exact Below.drew (bal (Below.drew b_w77) _) | exact b_w77 | exact Below.drew b_w77
            have q67_77_83 : w83.cell? ⟨w.heap.size, 0, none⟩ = some (.int .u8 c.toNat) := by rw [← e83]; first | exact q67_77 | exact ((bal (brf w77) _).cell (lt_of_cell q67_77)).trans q67_77 | exact ((bal (brf w77.drew) _).cell (lt_of_cell q67_77)).trans q67_77
            have q77_83 : w83.cell? ⟨w67.heap.size, 0, none⟩ = some (.int .u8 c.toNat) := by rw [← e83]; first | exact q77 | exact ((bal (brf w77) _).cell (lt_of_cell q77)).trans q77 | exact ((bal (brf w77.drew) _).cell (lt_of_cell q77)).trans q77
            refine wpAnyH_step 2 rfl (by kernel_rfl) (fun K' hK' => ?_)
            rw [if_pos (by rfl)]
            have cv84 := cv _ w83.drew q67_77_83
            have cw84 := cv _ w83 q67_77_83
            go_simp
            refine hK'.out _ _ trivial ?_
            clear hK' K'
            refine wpAnyH_name (fun w84 e84 => ?_)
            have b_w84 : Below w.heap.size w w84 := by rw [← e84]; first | exact bal b_w83 _ | exact bal (Below.drew b_w83) _ | exact Below.drew (bal b_w83 _) | exact Below.drew (bal (Below.drew b_w83) _) | exact b_w83 | exact Below.drew b_w83
            have q67_77_83_84 : w84.cell? ⟨w.heap.size, 0, none⟩ = some (.int .u8 c.toNat) := by rw [← e84]; first | exact q67_77_83 | exact ((bal (brf w83) _).cell (lt_of_cell q67_77_83)).trans q67_77_83 | exact ((bal (brf w83.drew) _).cell (lt_of_cell q67_77_83)).trans q67_77_83
            have q77_83_84 : w84.cell? ⟨w67.heap.size, 0, none⟩ = some (.int .u8 c.toNat) := by rw [← e84]; first | exact q77_83 | exact ((bal (brf w83) _).cell (lt_of_cell q77_83)).trans q77_83 | exact ((bal (brf w83.drew) _).cell (lt_of_cell q77_83)).trans q77_83
            refine wpAnyH_step 3 rfl (by kernel_rfl) (fun K' hK' => ?_)
            rw [if_pos (by rfl)]
            go_simp
            go_at_call 137
            refine (SM.out _).mono ?_
            rintro e w85 ⟨rfl, h85⟩
            dsimp only
            refine hK'.out _ _ trivial ?_
            clear hK' K'
            have b_w85 : Below w.heap.size w w85 := by first | exact btr b_w84 h85 | exact btr (Below.drew b_w84) h85
            have q67_77_83_84_85 : w85.cell? ⟨w.heap.size, 0, none⟩ = some (.int .u8 c.toNat) := by exact (h85.cell (lt_of_cell q67_77_83_84)).trans q67_77_83_84
            have q77_83_84_85 : w85.cell? ⟨w67.heap.size, 0, none⟩ = some (.int .u8 c.toNat) := by exact (h85.cell (lt_of_cell q77_83_84)).trans q77_83_84
            refine wpAnyH_takeD 7 10 (v := ?_) rfl rfl (by kernel_rfl) (by kernel_rfl) (by kernel_rfl) (fun _ _ _ h => h) (Or.inl ⟨by rfl, ?_⟩) trivial ?_
            rotate_left
            · (intro w' hw'; (try dsimp only at hw'); go_simp; try with_reducible rfl)
            simp only [List.set_cons_zero, List.set_cons_succ]
            refine wpAnyH_takeD 8 11 (v := ?_) rfl rfl (by kernel_rfl) (by kernel_rfl) (by kernel_rfl) (fun _ _ _ h => h) (Or.inl ⟨by rfl, ?_⟩) trivial ?_
            rotate_left
            · (intro w' hw'; (try dsimp only at hw'); go_simp; try with_reducible rfl)
            simp only [List.set_cons_zero, List.set_cons_succ]
            refine wpAnyH_takeD 9 12 (v := ?_) rfl rfl (by kernel_rfl) (by kernel_rfl) (by kernel_rfl) (fun _ _ _ h => h) (Or.inl ⟨by rfl, ?_⟩) trivial ?_
            rotate_left
            · (intro w' hw'; (try dsimp only at hw'); go_simp; try with_reducible rfl)
            simp only [List.set_cons_zero, List.set_cons_succ]
            refine wpAnyH_takeD 10 13 (v := ?_) rfl rfl (by kernel_rfl) (by kernel_rfl) (by kernel_rfl) (fun _ _ _ h => h) (Or.inl ⟨by rfl, ?_⟩) trivial ?_
            rotate_left
            · (intro w' hw'; (try dsimp only at hw'); go_simp; try with_reducible rfl)
            simp only [List.set_cons_zero, List.set_cons_succ]
            refine wpAnyH_takeD 11 14 (v := ?_) rfl rfl (by kernel_rfl) (by kernel_rfl) (by kernel_rfl) (fun _ _ _ h => h) (Or.inl ⟨by rfl, ?_⟩) trivial ?_
            rotate_left
            · (intro w' hw'; (try dsimp only at hw'); go_simp; try with_reducible rfl)
            simp only [List.set_cons_zero, List.set_cons_succ]
            refine wpAnyH_skipD 12 15 rfl rfl (by kernel_rfl) trivial (by rfl) ?_
            simp only [List.set_cons_zero, List.set_cons_succ]
            refine wpAnyH_skipD 13 16 rfl rfl (by kernel_rfl) trivial (by rfl) ?_
            simp only [List.set_cons_zero, List.set_cons_succ]
            refine wpAnyH_takeD 14 17 (v := ?_) rfl rfl (by kernel_rfl) (by kernel_rfl) (by kernel_rfl) (fun _ _ _ h => h) (Or.inl ⟨by rfl, ?_⟩) trivial ?_
            rotate_left
            · (intro w' hw'; (try dsimp only at hw'); go_simp; try with_reducible rfl)
            simp only [List.set_cons_zero, List.set_cons_succ]
            refine wpAnyH_takeD 15 18 (v := ?_) rfl rfl (by kernel_rfl) (by kernel_rfl) (by kernel_rfl) (fun _ _ _ h => h) (Or.inl ⟨by rfl, ?_⟩) trivial ?_
            rotate_left
            · (intro w' hw'; (try dsimp only at hw'); go_simp; try with_reducible rfl)
            simp only [List.set_cons_zero, List.set_cons_succ]
            refine wpAnyH_takeD 16 2 (v := ?_) rfl rfl (by kernel_rfl) (by kernel_rfl) (by kernel_rfl) (fun _ _ _ h => h) (Or.inl ⟨by rfl, ?_⟩) trivial ?_
            rotate_left
            · (intro w' hw'; (try dsimp only at hw'); go_simp; try with_reducible rfl)
            simp only [List.set_cons_zero, List.set_cons_succ]
            refine wpAnyH_done (by kernel_rfl) ?_ _
            go_wp2
            go_ret
            exact ⟨by first | rfl | simp, by first | exact b_w85 | exact Below.drew b_w85⟩
      · rw [if_pos (by rfl)]
        go_simp
        refine hK'.out _ _ trivial ?_
        clear hK' K'
        refine wpAnyH_name (fun w86 e86 => ?_)
        have q86 : w86.cell? ⟨w.heap.size, 0, none⟩ = some (.int .u8 c.toNat) := by rw [← e86]; exact cellAt' (heap_new _ _) rfl
        have b_w86 : Below w.heap.size w w86 := by rw [← e86]; first | exact bal b_w _ | exact bal (Below.drew b_w) _ | exact Below.drew (bal b_w _) | exact Below.drew (bal (Below.drew b_w) _) | exact b_w | exact Below.drew b_w
        refine wpAnyH_br 1 6 rfl rfl (by kernel_rfl) (fun K' hK' => ?_) (fun K' hK' => ?_)
        · rw [if_pos (by rfl)]
          go_simp
          refine hK'.out _ _ trivial ?_
          clear hK' K'
          refine wpAnyH_name (fun w87 e87 => ?_)
          have q87 : w87.cell? ⟨w86.heap.size, 0, none⟩ = some (.int .u8 c.toNat) := by rw [← e87]; exact cellAt' (heap_new _ _) rfl
          have b_w87 : Below w.heap.size w w87 := by rw [← e87]; first | exact bal b_w86 _ | exact bal (Below.drew b_w86) _ | exact Below.drew (bal b_w86 _) | exact Below.drew (bal (Below.drew b_w86) _) | exact b_w86 | exact Below.drew b_w86
          have q86_87 : w87.cell? ⟨w.heap.size, 0, none⟩ = some (.int .u8 c.toNat) := by rw [← e87]; first | exact q86 | exact ((bal (brf w86) _).cell (lt_of_cell q86)).trans q86 | exact ((bal (brf w86.drew) _).cell (lt_of_cell q86)).trans q86
          refine wpAnyH_br 2 6 rfl rfl (by kernel_rfl) (fun K' hK' => ?_) (fun K' hK' => ?_)
          · rw [if_pos (by rfl)]
            have cv88 := cv _ w87.drew q87
            have cw88 := cv _ w87 q87
            go_simp
            refine hK'.out _ _ trivial ?_
            clear hK' K'
            refine wpAnyH_name (fun w88 e88 => ?_)
            have b_w88 : Below w.heap.size w w88 := by rw [← e88]; first | exact bal b_w87 _ | exact bal (Below.drew b_w87) _ | exact Below.drew (bal b_w87 _) | exact Below.drew (bal (Below.drew b_w87) _) | exact b_w87 | exact Below.drew b_w87
            have q86_87_88 : w88.cell? ⟨w.heap.size, 0, none⟩ = some (.int .u8 c.toNat) := by rw [← e88]; first | exact q86_87 | exact ((bal (brf w87) _).cell (lt_of_cell q86_87)).trans q86_87 | exact ((bal (brf w87.drew) _).cell (lt_of_cell q86_87)).trans q86_87
            have q87_88 : w88.cell? ⟨w86.heap.size, 0, none⟩ = some (.int .u8 c.toNat) := by rw [← e88]; first | exact q87 | exact ((bal (brf w87) _).cell (lt_of_cell q87)).trans q87 | exact ((bal (brf w87.drew) _).cell (lt_of_cell q87)).trans q87
            refine wpAnyH_br 3 6 rfl rfl (by kernel_rfl) (fun K' hK' => ?_) (fun K' hK' => ?_)
            · rw [if_pos (by rfl)]
              go_simp
              go_at_call 137
              refine (SM.out _).mono ?_
              rintro e w89 ⟨rfl, h89⟩
              dsimp only
              refine hK'.out _ _ trivial ?_
              clear hK' K'
              have b_w89 : Below w.heap.size w w89 := by first | exact btr b_w88 h89 | exact btr (Below.drew b_w88) h89
              have q86_87_88_89 : w89.cell? ⟨w.heap.size, 0, none⟩ = some (.int .u8 c.toNat) := by exact (h89.cell (lt_of_cell q86_87_88)).trans q86_87_88
              have q87_88_89 : w89.cell? ⟨w86.heap.size, 0, none⟩ = some (.int .u8 c.toNat) := by exact (h89.cell (lt_of_cell q87_88)).trans q87_88
              refine wpAnyH_step 6 rfl (by kernel_rfl) (fun K' hK' => ?_)
              rw [if_pos (by rfl)]
              have cv90 := cv _ w89.drew q86_87_88_89
              have cw90 := cv _ w89 q86_87_88_89
              go_simp
              refine hK'.out _ _ trivial ?_
              clear hK' K'
              refine wpAnyH_name (fun w90 e90 => ?_)
              have b_w90 : Below w.heap.size w w90 := by rw [← e90]; first | exact bal b_w89 _ | exact bal (Below.drew b_w89) _ | exact Below.drew (bal b_w89 _) | exact Below.drew (bal (Below.drew b_w89) _) | exact b_w89 | exact Below.drew b_w89
              have q86_87_88_89_90 : w90.cell? ⟨w.heap.size, 0, none⟩ = some (.int .u8 c.toNat) := by rw [← e90]; first | exact q86_87_88_89 | exact ((bal (brf w89) _).cell (lt_of_cell q86_87_88_89)).trans q86_87_88_89 | exact ((bal (brf w89.drew) _).cell (lt_of_cell q86_87_88_89)).trans q86_87_88_89
              have q87_88_89_90 : w90.cell? ⟨w86.heap.size, 0, none⟩ = some (.int .u8 c.toNat) := by rw [← e90]; first | exact q87_88_89 | exact ((bal (brf w89) _).cell (lt_of_cell q87_88_89)).trans q87_88_89 | exact ((bal (brf w89.drew) _).cell (lt_of_cell q87_88_89)).trans q87_88_89
              refine wpAnyH_takeD 7 10 (v := ?_) rfl rfl (by kernel_rfl) (by kernel_rfl) (by kernel_rfl) (fun _ _ _ h => h) (Or.inl ⟨by rfl, ?_⟩) trivial ?_
              rotate_left
              · (intro w' hw'; (try dsimp only at hw'); go_simp; try with_reducible rfl)
              simp only [List.set_cons_zero, List.set_cons_succ]
              refine wpAnyH_takeD 8 11 (v := ?_) rfl rfl (by kernel_rfl) (by kernel_rfl) (by kernel_rfl) (fun _ _ _ h => h) (Or.inl ⟨by rfl, ?_⟩) trivial ?_
              rotate_left
              · (intro w' hw'; (try dsimp only at hw'); go_simp; try with_reducible rfl)
              simp only [List.set_cons_zero, List.set_cons_succ]
              refine wpAnyH_takeD 9 12 (v := ?_) rfl rfl (by kernel_rfl) (by kernel_rfl) (by kernel_rfl) (fun _ _ _ h => h) (Or.inl ⟨by rfl, ?_⟩) trivial ?_
              rotate_left
              · (intro w' hw'; (try dsimp only at hw'); go_simp; try with_reducible rfl)
              simp only [List.set_cons_zero, List.set_cons_succ]
              refine wpAnyH_takeD 10 13 (v := ?_) rfl rfl (by kernel_rfl) (by kernel_rfl) (by kernel_rfl) (fun _ _ _ h => h) (Or.inl ⟨by rfl, ?_⟩) trivial ?_
              rotate_left
              · (intro w' hw'; (try dsimp only at hw'); go_simp; try with_reducible rfl)
              simp only [List.set_cons_zero, List.set_cons_succ]
              refine wpAnyH_takeD 11 14 (v := ?_) rfl rfl (by kernel_rfl) (by kernel_rfl) (by kernel_rfl) (fun _ _ _ h => h) (Or.inl ⟨by rfl, ?_⟩) trivial ?_
              rotate_left
              · (intro w' hw'; (try dsimp only at hw'); go_simp; try with_reducible rfl)
              simp only [List.set_cons_zero, List.set_cons_succ]
              refine wpAnyH_skipD 12 15 rfl rfl (by kernel_rfl) trivial (by rfl) ?_
              simp only [List.set_cons_zero, List.set_cons_succ]
              refine wpAnyH_skipD 13 16 rfl rfl (by kernel_rfl) trivial (by rfl) ?_
              simp only [List.set_cons_zero, List.set_cons_succ]
              refine wpAnyH_takeD 14 17 (v := ?_) rfl rfl (by kernel_rfl) (by kernel_rfl) (by kernel_rfl) (fun _ _ _ h => h) (Or.inl ⟨by rfl, ?_⟩) trivial ?_
              rotate_left
              · (intro w' hw'; (try dsimp only at hw'); go_simp; try with_reducible rfl)
              simp only [List.set_cons_zero, List.set_cons_succ]
              refine wpAnyH_takeD 15 18 (v := ?_) rfl rfl (by kernel_rfl) (by kernel_rfl) (by kernel_rfl) (fun _ _ _ h => h) (Or.inl ⟨by rfl, ?_⟩) trivial ?_
              rotate_left
              · (intro w' hw'; (try dsimp only at hw'); go_simp; try with_reducible rfl)
              simp only [List.set_cons_zero, List.set_cons_succ]
              refine wpAnyH_takeD 16 2 (v := ?_) rfl rfl (by kernel_rfl) (by kernel_rfl) (by kernel_rfl) (fun _ _ _ h => h) (Or.inl ⟨by rfl, ?_⟩) trivial ?_
              rotate_left
              · (intro w' hw'; (try dsimp only at hw'); go_simp; try with_reducible rfl)
              simp only [List.set_cons_zero, List.set_cons_succ]
              refine wpAnyH_done (by kernel_rfl) ?_ _
              go_wp2
              go_ret
              exact ⟨by first | rfl | simp, by first | exact b_w90 | exact Below.drew b_w90⟩
            · rw [if_pos (by rfl)]
              have cv91 := cv _ w88.drew q86_87_88
              have cw91 := cv _ w88 q86_87_88
              go_simp
              refine hK'.out _ _ trivial ?_
              clear hK' K'
              refine wpAnyH_name (fun w91 e91 => ?_)
              have b_w91 : Below w.heap.size w w91 := by rw [← e91]; first | exact bal b_w88 _ | exact bal (Below.drew b_w88) _ | exact Below.drew (bal b_w88 _) | exact Below.drew (bal (Below.drew b_w88) _) | exact b_w88 | exact Below.drew b_w88
              have q86_87_88_91 : w91.cell? ⟨w.heap.size, 0, none⟩ = some (.int .u8 c.toNat) := by rw [← e91]; first | exact q86_87_88 | exact ((bal (brf w88) _).cell (lt_of_cell q86_87_88)).trans q86_87_88 | exact ((bal (brf w88.drew) _).cell (lt_of_cell q86_87_88)).trans q86_87_88
              have q87_88_91 : w91.cell? ⟨w86.heap.size, 0, none⟩ = some (.int .u8 c.toNat) := by rw [← e91]; first | exact q87_88 | exact ((bal (brf w88) _).cell (lt_of_cell q87_88)).trans q87_88 | exact ((bal (brf w88.drew) _).cell (lt_of_cell q87_88)).trans q87_88
              refine wpAnyH_step 3 rfl (by kernel_rfl) (fun K' hK' => ?_)
              rw [if_pos (by rfl)]
              go_simp
              go_at_call 137
              refine (SM.out _).mono ?_
              rintro e w92 ⟨rfl, h92⟩
              dsimp only
              refine hK'.out _ _ trivial ?_
              clear hK' K'
              have b_w92 : Below w.heap.size w w92 := by first | exact btr b_w91 h92 | exact btr (Below.drew b_w91) h92
              have q86_87_88_91_92 : w92.cell? ⟨w.heap.size, 0, none⟩ = some (.int .u8 c.toNat) := by exact (h92.cell (lt_of_cell q86_87_88_91)).trans q86_87_88_91
              have q87_88_91_92 : w92.cell? ⟨w86.heap.size, 0, none⟩ = some (.int .u8 c.toNat) := by exact (h92.cell (lt_of_cell q87_88_91)).trans q87_88_91
              refine wpAnyH_takeD 7 10 (v := ?_) rfl rfl (by kernel_rfl) (by kernel_rfl) (by kernel_rfl) (fun _ _ _ h => h) (Or.inl ⟨by rfl, ?_⟩) trivial ?_
              rotate_left
              · (intro w' hw'; (try dsimp only at hw'); go_simp; try with_reducible rfl)
              simp only [List.set_cons_zero, List.set_cons_succ]
              refine wpAnyH_takeD 8 11 (v := ?_) rfl rfl (by kernel_rfl) (by kernel_rfl) (by kernel_rfl) (fun _ _ _ h => h) (Or.inl ⟨by rfl, ?_⟩) trivial ?_
              rotate_left
              · (intro w' hw'; (try dsimp only at hw'); go_simp; try with_reducible rfl)
              simp only [List.set_cons_zero, List.set_cons_succ]
              refine wpAnyH_takeD 9 12 (v := ?_) rfl rfl (by kernel_rfl) (by kernel_rfl) (by kernel_rfl) (fun _ _ _ h => h) (Or.inl ⟨by rfl, ?_⟩) trivial ?_
              rotate_left
              · (intro w' hw'; (try dsimp only at hw'); go_simp; try with_reducible rfl)
              simp only [List.set_cons_zero, List.set_cons_succ]
              refine wpAnyH_takeD 10 13 (v := ?_) rfl rfl (by kernel_rfl) (by kernel_rfl) (by kernel_rfl) (fun _ _ _ h => h) (Or.inl ⟨by rfl, ?_⟩) trivial ?_
              rotate_left
              · (intro w' hw'; (try dsimp only at hw'); go_simp; try with_reducible rfl)
              simp only [List.set_cons_zero, List.set_cons_succ]
              refine wpAnyH_takeD 11 14 (v := ?_) rfl rfl (by kernel_rfl) (by kernel_rfl) (by kernel_rfl) (fun _ _ _ h => h) (Or.inl ⟨by rfl, ?_⟩) trivial ?_
              rotate_left
              · (intro w' hw'; (try dsimp only at hw'); go_simp; try with_reducible rfl)
              simp only [List.set_cons_zero, List.set_cons_succ]
              refine wpAnyH_skipD 12 15 rfl rfl (by kernel_rfl) trivial (by rfl) ?_
              simp only [List.set_cons_zero, List.set_cons_succ]
              refine wpAnyH_skipD 13 16 rfl rfl (by kernel_rfl) trivial (by rfl) ?_
              simp only [List.set_cons_zero, List.set_cons_succ]
              refine wpAnyH_takeD 14 17 (v := ?_) rfl rfl (by kernel_rfl) (by kernel_rfl) (by kernel_rfl) (fun _ _ _ h => h) (Or.inl ⟨by rfl, ?_⟩) trivial ?_
              rotate_left
              · (intro w' hw'; (try dsimp only at hw'); go_simp; try with_reducible rfl)
              simp only [List.set_cons_zero, List.set_cons_succ]
              refine wpAnyH_takeD 15 18 (v := ?_) rfl rfl (by kernel_rfl) (by kernel_rfl) (by kernel_rfl) (fun _ _ _ h => h) (Or.inl ⟨by rfl, ?_⟩) trivial ?_
              rotate_left
              · (intro w' hw'; (try dsimp only at hw'); go_simp; try with_reducible rfl)
              simp only [List.set_cons_zero, List.set_cons_succ]
              refine wpAnyH_takeD 16 2 (v := ?_) rfl rfl (by kernel_rfl) (by kernel_rfl) (by kernel_rfl) (fun _ _ _ h => h) (Or.inl ⟨by rfl, ?_⟩) trivial ?_
              rotate_left
              · (intro w' hw'; (try dsimp only at hw'); go_simp; try with_reducible rfl)
              simp only [List.set_cons_zero, List.set_cons_succ]
              refine wpAnyH_done (by kernel_rfl) ?_ _
              go_wp2
              go_ret
              exact ⟨by first | rfl | simp, by first | exact b_w92 | exact Below.drew b_w92⟩
          · rw [if_pos (by rfl)]
            have cv93 := cv _ w87.drew q86_87
            have cw93 := cv _ w87 q86_87
            go_simp
            refine hK'.out _ _ trivial ?_
            clear hK' K'
            refine wpAnyH_name (fun w93 e93 => ?_)
            have b_w93 : Below w.heap.size w w93 := by rw [← e93]; first | exact bal b_w87 _ | exact bal (Below.drew b_w87) _ | exact Below.drew (bal b_w87 _) | exact Below.drew (bal (Below.drew b_w87) _) | exact b_w87 | exact Below.drew b_w87
            have q86_87_93 : w93.cell? ⟨w.heap.size, 0, none⟩ = some (.int .u8 c.toNat) := by rw [← e93]; first | exact q86_87 | exact ((bal (brf w87) _).cell (lt_of_cell q86_87)).trans q86_87 | exact ((bal (brf w87.drew) _).cell (lt_of_cell q86_87)).trans q86_87
            have q87_93 : w93.cell? ⟨w86.heap.size, 0, none⟩ = some (.int .u8 c.toNat) := by rw [← e93]; first | exact q87 | exact ((bal (brf w87) _).cell (lt_of_cell q87)).trans q87 | exact ((bal (brf w87.drew) _).cell (lt_of_cell q87)).trans q87
            refine wpAnyH_step 2 rfl (by kernel_rfl) (fun K' hK' => ?_)
            rw [if_pos (by rfl)]
            have cv94 := cv _ w93.drew q87_93
            have cw94 := cv _ w93 q87_93
            go_simp
            refine hK'.out _ _ trivial ?_
            clear hK' K'
            refine wpAnyH_name (fun w94 e94 => ?_)
            have b_w94 : Below w.heap.size w w94 := by rw [← e94]; first | exact bal b_w93 _ | exact bal (Below.drew b_w93) _ | exact Below.drew (bal b_w93 _) | exact Below.drew (bal (Below.drew b_w93) _) | exact b_w93 | exact Below.drew b_w93
            have q86_87_93_94 : w94.cell? ⟨w.heap.size, 0, none⟩ = some (.int .u8 c.toNat) := by rw [← e94]; first | exact q86_87_93 | exact ((bal (brf w93) _).cell (lt_of_cell q86_87_93)).trans q86_87_93 | exact ((bal (brf w93.drew) _).cell (lt_of_cell q86_87_93)).trans q86_87_93
            have q87_93_94 : w94.cell? ⟨w86.heap.size, 0, none⟩ = some (.int .u8 c.toNat) := by rw [← e94]; first | exact q87_93 | exact ((bal (brf w93) _).cell (lt_of_cell q87_93)).trans q87_93 | exact ((bal (brf w93.drew) _).cell (lt_of_cell q87_93)).trans q87_93
            refine wpAnyH_step 3 rfl (by kernel_rfl) (fun K' hK' => ?_)
            rw [if_pos (by rfl)]
            go_simp
            go_at_call 137
            refine (SM.out _).mono ?_
            rintro e w95 ⟨rfl, h95⟩
            dsimp only
            refine hK'.out _ _ trivial ?_
            clear hK' K'
            have b_w95 : Below w.heap.size w w95 := by first | exact btr b_w94 h95 | exact btr (Below.drew b_w94) h95
            have q86_87_93_94_95 : w95.cell? ⟨w.heap.size, 0, none⟩ = some (.int .u8 c.toNat) := by exact (h95.cell (lt_of_cell q86_87_93_94)).trans q86_87_93_94
            have q87_93_94_95 : w95.cell? ⟨w86.heap.size, 0, none⟩ = some (.int .u8 c.toNat) := by exact (h95.cell (lt_of_cell q87_93_94)).trans q87_93_94
            refine wpAnyH_takeD 7 10 (v := ?_) rfl rfl (by kernel_rfl) (by kernel_rfl) (by kernel_rfl) (fun _ _ _ h => h) (Or.inl ⟨by rfl, ?_⟩) trivial ?_
            rotate_left
            · (intro w' hw'; (try dsimp only at hw'); go_simp; try with_reducible rfl)
            simp only [List.set_cons_zero, List.set_cons_succ]
            refine wpAnyH_takeD 8 11 (v := ?_) rfl rfl (by kernel_rfl) (by kernel_rfl) (by kernel_rfl) (fun _ _ _ h => h) (Or.inl ⟨by rfl, ?_⟩) trivial ?_
            rotate_left
            · (intro w' hw'; (try dsimp only at hw'); go_simp; try with_reducible rfl)
            simp only [List.set_cons_zero, List.set_cons_succ]
            refine wpAnyH_takeD 9 12 (v := ?_) rfl rfl (by kernel_rfl) (by kernel_rfl) (by kernel_rfl) (fun _ _ _ h => h) (Or.inl ⟨by rfl, ?_⟩) trivial ?_
            rotate_left
            · (intro w' hw'; (try dsimp only at hw'); go_simp; try with_reducible rfl)
            simp only [List.set_cons_zero, List.set_cons_succ]
            refine wpAnyH_takeD 10 13 (v := ?_) rfl rfl (by kernel_rfl) (by kernel_rfl) (by kernel_rfl) (fun _ _ _ h => h) (Or.inl ⟨by rfl, ?_⟩) trivial ?_
            rotate_left
            · (intro w' hw'; (try dsimp only at hw'); go_simp; try with_reducible rfl)
            simp only [List.set_cons_zero, List.set_cons_succ]
            refine wpAnyH_takeD 11 14 (v := ?_) rfl rfl (by kernel_rfl) (by kernel_rfl) (by kernel_rfl) (fun _ _ _ h => h) (Or.inl ⟨by rfl, ?_⟩) trivial ?_
            rotate_left
            · (intro w' hw'; (try dsimp only at hw'); go_simp; try with_reducible rfl)
            simp only [List.set_cons_zero, List.set_cons_succ]
            refine wpAnyH_skipD 12 15 rfl rfl (by kernel_rfl) trivial (by rfl) ?_
            simp only [List.set_cons_zero, List.set_cons_succ]
            refine wpAnyH_skipD 13 16 rfl rfl (by kernel_rfl) trivial (by rfl) ?_
            simp only [List.set_cons_zero, List.set_cons_succ]
            refine wpAnyH_takeD 14 17 (v := ?_) rfl rfl (by kernel_rfl) (by kernel_rfl) (by kernel_rfl) (fun _ _ _ h => h) (Or.inl ⟨by rfl, ?_⟩) trivial ?_
            rotate_left
            · (intro w' hw'; (try dsimp only at hw'); go_simp; try with_reducible rfl)
            simp only [List.set_cons_zero, List.set_cons_succ]
            refine wpAnyH_takeD 15 18 (v := ?_) rfl rfl (by kernel_rfl) (by kernel_rfl) (by kernel_rfl) (fun _ _ _ h => h) (Or.inl ⟨by rfl, ?_⟩) trivial ?_
            rotate_left
            · (intro w' hw'; (try dsimp only at hw'); go_simp; try with_reducible rfl)
            simp only [List.set_cons_zero, List.set_cons_succ]
            refine wpAnyH_takeD 16 2 (v := ?_) rfl rfl (by kernel_rfl) (by kernel_rfl) (by kernel_rfl) (fun _ _ _ h => h) (Or.inl ⟨by rfl, ?_⟩) trivial ?_
            rotate_left
            · (intro w' hw'; (try dsimp only at hw'); go_simp; try with_reducible rfl)
            simp only [List.set_cons_zero, List.set_cons_succ]
            refine wpAnyH_done (by kernel_rfl) ?_ _
            go_wp2
            go_ret
            exact ⟨by first | rfl | simp, by first | exact b_w95 | exact Below.drew b_w95⟩
        · rw [if_pos (by rfl)]
          have cv96 := cv _ w86.drew q86
          have cw96 := cv _ w86 q86
          go_simp
          refine hK'.out _ _ trivial ?_
          clear hK' K'
          refine wpAnyH_name (fun w96 e96 => ?_)
          have b_w96 : Below w.heap.size w w96 := by rw [← e96]; first | exact bal b_w86 _ | exact bal (Below.drew b_w86) _ | exact Below.drew (bal b_w86 _) | exact Below.drew (bal (Below.drew b_w86) _) | exact b_w86 | exact Below.drew b_w86
          have q86_96 : w96.cell? ⟨w.heap.size, 0, none⟩ = some (.int .u8 c.toNat) := by rw [← e96]; first | exact q86 | exact ((bal (brf w86) _).cell (lt_of_cell q86)).trans q86 | exact ((bal (brf w86.drew) _).cell (lt_of_cell q86)).trans q86
          refine wpAnyH_step 1 rfl (by kernel_rfl) (fun K' hK' => ?_)
          rw [if_pos (by rfl)]
          go_simp
          refine hK'.out _ _ trivial ?_
          clear hK' K'
          refine wpAnyH_name (fun w97 e97 => ?_)
          have q97 : w97.cell? ⟨w96.heap.size, 0, none⟩ = some (.int .u8 c.toNat) := by rw [← e97]; exact cellAt' (heap_new _ _) rfl
          have b_w97 : Below w.heap.size w w97 := by rw [← e97]; first | exact bal b_w96 _ | exact bal (Below.drew b_w96) _ | exact Below.drew (bal b_w96 _) | exact Below.drew (bal (Below.drew b_w96) _) | exact b_w96 | exact Below.drew b_w96
          have q86_96_97 : w97.cell? ⟨w.heap.size, 0, none⟩ = some (.int .u8 c.toNat) := by rw [← e97]; first | exact q86_96 | exact ((bal (brf w96) _).cell (lt_of_cell q86_96)).trans q86_96 | exact ((bal (brf w96.drew) _).cell (lt_of_cell q86_96)).trans q86_96
          refine wpAnyH_step 2 rfl (by kernel_rfl) (fun K' hK' => ?_)
          rw [if_pos (by rfl)]
          have cv98 := cv _ w97.drew q97
          have cw98 := cv _ w97 q97
          go_simp
          refine hK'.out _ _ trivial ?_
          clear hK' K'
          refine wpAnyH_name (fun w98 e98 => ?_)
          have b_w98 : Below w.heap.size w w98 := by rw [← e98]; first | exact bal b_w97 _ | exact bal (Below.drew b_w97) _ | exact Below.drew (bal b_w97 _) | exact Below.drew (bal (Below.drew b_w97) _) | exact b_w97 | exact Below.drew b_w97
          have q86_96_97_98 : w98.cell? ⟨w.heap.size, 0, none⟩ = some (.int .u8 c.toNat) := by rw [← e98]; first | exact q86_96_97 | exact ((bal (brf w97) _).cell (lt_of_cell q86_96_97)).trans q86_96_97 | exact ((bal (brf w97.drew) _).cell (lt_of_cell q86_96_97)).trans q86_96_97
          have q97_98 : w98.cell? ⟨w96.heap.size, 0, none⟩ = some (.int .u8 c.toNat) := by rw [← e98]; first | exact q97 | exact ((bal (brf w97) _).cell (lt_of_cell q97)).trans q97 | exact ((bal (brf w97.drew) _).cell (lt_of_cell q97)).trans q97
          refine wpAnyH_step 3 rfl (by kernel_rfl) (fun K' hK' => ?_)
          rw [if_pos (by rfl)]
          go_simp
          go_at_call 137
          refine (SM.out _).mono ?_
          rintro e w99 ⟨rfl, h99⟩
          dsimp only
          refine hK'.out _ _ trivial ?_
          clear hK' K'
          have b_w99 : Below w.heap.size w w99 := by first | exact btr b_w98 h99 | exact btr (Below.drew b_w98) h99
          have q86_96_97_98_99 : w99.cell? ⟨w.heap.size, 0, none⟩ = some (.int .u8 c.toNat) := by exact (h99.cell (lt_of_cell q86_96_97_98)).trans q86_96_97_98
          have q97_98_99 : w99.cell? ⟨w96.heap.size, 0, none⟩ = some (.int .u8 c.toNat) := by exact (h99.cell (lt_of_cell q97_98)).trans q97_98
          refine wpAnyH_takeD 7 10 (v := ?_) rfl rfl (by kernel_rfl) (by kernel_rfl) (by kernel_rfl) (fun _ _ _ h => h) (Or.inl ⟨by rfl, ?_⟩) trivial ?_
          rotate_left
          · (intro w' hw'; (try dsimp only at hw'); go_simp; try with_reducible rfl)
          simp only [List.set_cons_zero, List.set_cons_succ]
          refine wpAnyH_takeD 8 11 (v := ?_) rfl rfl (by kernel_rfl) (by kernel_rfl) (by kernel_rfl) (fun _ _ _ h => h) (Or.inl ⟨by rfl, ?_⟩) trivial ?_
          rotate_left
          · (intro w' hw'; (try dsimp only at hw'); go_simp; try with_reducible rfl)
          simp only [List.set_cons_zero, List.set_cons_succ]
          refine wpAnyH_takeD 9 12 (v := ?_) rfl rfl (by kernel_rfl) (by kernel_rfl) (by kernel_rfl) (fun _ _ _ h => h) (Or.inl ⟨by rfl, ?_⟩) trivial ?_
          rotate_left
          · (intro w' hw'; (try dsimp only at hw'); go_simp; try with_reducible rfl)
          simp only [List.set_cons_zero, List.set_cons_succ]
          refine wpAnyH_takeD 10 13 (v := ?_) rfl rfl (by kernel_rfl) (by kernel_rfl) (by kernel_rfl) (fun _ _ _ h => h) (Or.inl ⟨by rfl, ?_⟩) trivial ?_
          rotate_left
          · (intro w' hw'; (try dsimp only at hw'); go_simp; try with_reducible rfl)
          simp only [List.set_cons_zero, List.set_cons_succ]
          refine wpAnyH_takeD 11 14 (v := ?_) rfl rfl (by kernel_rfl) (by kernel_rfl) (by kernel_rfl) (fun _ _ _ h => h) (Or.inl ⟨by rfl, ?_⟩) trivial ?_
          rotate_left
          · (intro w' hw'; (try dsimp only at hw'); go_simp; try with_reducible rfl)
          simp only [List.set_cons_zero, List.set_cons_succ]
          refine wpAnyH_skipD 12 15 rfl rfl (by kernel_rfl) trivial (by rfl) ?_
          simp only [List.set_cons_zero, List.set_cons_succ]
          refine wpAnyH_skipD 13 16 rfl rfl (by kernel_rfl) trivial (by rfl) ?_
          simp only [List.set_cons_zero, List.set_cons_succ]
          refine wpAnyH_takeD 14 17 (v := ?_) rfl rfl (by kernel_rfl) (by kernel_rfl) (by kernel_rfl) (fun _ _ _ h => h) (Or.inl ⟨by rfl, ?_⟩) trivial ?_
          rotate_left
          · (intro w' hw'; (try dsimp only at hw'); go_simp; try with_reducible rfl)
          simp only [List.set_cons_zero, List.set_cons_succ]
          refine wpAnyH_takeD 15 18 (v := ?_) rfl rfl (by kernel_rfl) (by kernel_rfl) (by kernel_rfl) (fun _ _ _ h => h) (Or.inl ⟨by rfl, ?_⟩) trivial ?_
          rotate_left
          · (intro w' hw'; (try dsimp only at hw'); go_simp; try with_reducible rfl)
          simp only [List.set_cons_zero, List.set_cons_succ]
          refine wpAnyH_takeD 16 2 (v := ?_) rfl rfl (by kernel_rfl) (by kernel_rfl) (by kernel_rfl) (fun _ _ _ h => h) (Or.inl ⟨by rfl, ?_⟩) trivial ?_
          rotate_left
          · (intro w' hw'; (try dsimp only at hw'); go_simp; try with_reducible rfl)
          simp only [List.set_cons_zero, List.set_cons_succ]
          refine wpAnyH_done (by kernel_rfl) ?_ _
          go_wp2
          go_ret
          exact ⟨by first | rfl | simp, by first | exact b_w99 | exact Below.drew b_w99⟩
end Go.Proofs.YteikncnldbdfmaaGreatDoor
