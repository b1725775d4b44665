/- Package sanitize: which names are blocks, which are hidden. -/
import Derived.Test.YtjbidchdjpmonaaDoorSan
namespace Go.Mh
def blockP (n : Bs) : Int × Bool := match blockOf n with
  | some b => (b, true)
  | none => (0, false)
def namesZ : List ByteArray := [⟨nP.toArray⟩, ⟨nH1.toArray⟩, ⟨nLi.toArray⟩, ⟨nH2.toArray⟩]
def hiddenZ : List ByteArray := hiddenL.map fun l => ⟨l.toArray⟩
theorem ba_inj (a b : Bs) : ((⟨a.toArray⟩ : ByteArray) = ⟨b.toArray⟩) ↔ a = b := ⟨fun h => by injection h with h; injection h, fun h => by rw [h]⟩
end Go.Mh
namespace Go.Proofs.YtjbidchdjpmonaaDoor
open Go.RowKit Go.Mh

set_option maxRecDepth 100000 in
set_option maxHeartbeats 2000000 in
theorem sanBlock_of (n : Bs) (j : Int) (r : Int × Bool) (w : World) (hj : Lib.idxOfS (namesZ.take 4) ⟨n.toArray⟩ = j) (hr : blockP n = r) (hd : (n == [100, 105, 118]) = false) (h1 : -1 ≤ j) (h4 : j ≤ 3) (hr1 : r = (if 0 ≤ j then (j, true) else (0, false))) :
    Calls Tryd.prog 125 #[str n] w fun e w' => e = .returned (.tuple #[.int .i64 (blockP n).1, .bool (blockP n).2]) ∧ Below w.heap.size w w' := by
  have hcells : ∀ j, j < namesZ.length → (w.alloc (.cells #[str nP, str nH1, str nLi, str nH2] 75)).cell? ⟨w.heap.size, 0 + j, none⟩ = some (.string (namesZ.getD j ByteArray.empty)) := by
    intro j hj
    unfold World.cell?
    rw [heap_new]
    match j, hj with
    | 0, _ => rfl
    | 1, _ => rfl
    | 2, _ => rfl
    | 3, _ => rfl
  have C := Lib.hid (Tryd.slices_Index_string w.heap.size 0 4 4 namesZ ⟨n.toArray⟩ _ (by decide) (by decide) hcells)
  have hR := Lib.hid hr
  have hR1 := Lib.hid hr1
  clear hcells hr hr1
  go_enter Tryd.func125, Tryd.ntmps125
  go_wp2_with fail
  refine C.out.mono ?_
  rintro e w1 ⟨rfl, rfl⟩
  rw [hj]
  by_cases h0 : 0 ≤ j
  · have e1 : decide (0 ≤ j) = true := by simpa using h0
    have e2 : max j 0 = j := by omega
    have e3 : (if j < 0 then (0 : Int) else j) = j := if_neg (by omega)
    have hfin := Lib.hid (show blockP n = (j, true) by rw [hR.out, hR1.out, if_pos h0])
    clear h0
    go_wp2
    all_goals first
      | (go_ret2; exact ⟨by rw [hfin.out]; first | (simp [*]; done) | (simp [*]; decide), bal (brf _) _⟩)
      | skip
  · have e1 : decide (0 ≤ j) = false := by simpa using h0
    have hj1 : j = -1 := by omega
    subst hj1
    have hfin := Lib.hid (show blockP n = (0, false) by rw [hR.out, hR1.out, if_neg h0])
    clear h0
    go_wp2
    all_goals first
      | (go_ret2; exact ⟨by rw [hfin.out]; first | (simp [*]; done) | (simp [*]; decide), bal (brf _) _⟩)
      | skip

set_option maxRecDepth 100000 in
set_option maxHeartbeats 2000000 in
theorem sanBlock_div (w : World) :
    Calls Tryd.prog 125 #[str nDiv] w fun e w' => e = .returned (.tuple #[.int .i64 (blockP nDiv).1, .bool (blockP nDiv).2]) ∧ Below w.heap.size w w' := by
  have hcells : ∀ j, j < namesZ.length → (w.alloc (.cells #[str nP, str nH1, str nLi, str nH2] 75)).cell? ⟨w.heap.size, 0 + j, none⟩ = some (.string (namesZ.getD j ByteArray.empty)) := by
    intro j hj
    unfold World.cell?
    rw [heap_new]
    match j, hj with
    | 0, _ => rfl
    | 1, _ => rfl
    | 2, _ => rfl
    | 3, _ => rfl
  have C := Lib.hid (Tryd.slices_Index_string w.heap.size 0 4 4 namesZ ⟨nDiv.toArray⟩ _ (by decide) (by decide) hcells)
  have hj : Lib.idxOfS (namesZ.take 4) ⟨nDiv.toArray⟩ = -1 := by decide +kernel
  clear hcells
  go_enter Tryd.func125, Tryd.ntmps125
  go_wp2_with fail
  refine C.out.mono ?_
  rintro e w1 ⟨rfl, rfl⟩
  rw [hj]
  go_wp2
  go_ret2
  exact ⟨rfl, bal (brf _) _⟩

theorem sanBlock_any (n : Bs) (w : World) :
    Calls Tryd.prog 125 #[str n] w fun e w' => e = .returned (.tuple #[.int .i64 (blockP n).1, .bool (blockP n).2]) ∧ Below w.heap.size w w' := by
  by_cases h1 : n = nP
  · subst h1; exact sanBlock_of nP 0 (0, true) w (by decide +kernel) (by decide) (by decide) (by decide) (by decide) (by decide)
  by_cases h2 : n = nH1
  · subst h2; exact sanBlock_of nH1 1 (1, true) w (by decide +kernel) (by decide) (by decide) (by decide) (by decide) (by decide)
  by_cases h3 : n = nLi
  · subst h3; exact sanBlock_of nLi 2 (2, true) w (by decide +kernel) (by decide) (by decide) (by decide) (by decide) (by decide)
  by_cases h4 : n = nH2
  · subst h4; exact sanBlock_of nH2 3 (3, true) w (by decide +kernel) (by decide) (by decide) (by decide) (by decide) (by decide)
  by_cases h5 : n = nDiv
  · subst h5; exact sanBlock_div w
  · refine sanBlock_of n (-1) (0, false) w (Lib.idxOfS_miss namesZ 4 _ fun j hj => ?_) (by unfold blockP blockOf; rw [if_neg h1, if_neg h2, if_neg h3, if_neg h4, if_neg h5]) (by simpa [nDiv] using h5) (by decide) (by decide) (by decide)
    match j, hj with
    | 0, _ => exact fun e => h1 ((ba_inj _ _).1 e).symm
    | 1, _ => exact fun e => h2 ((ba_inj _ _).1 e).symm
    | 2, _ => exact fun e => h3 ((ba_inj _ _).1 e).symm
    | 3, _ => exact fun e => h4 ((ba_inj _ _).1 e).symm

theorem hidden_iff (n : Bs) : Lib.containsS (hiddenZ.take 9) ⟨n.toArray⟩ = decide (n ∈ hiddenL) := by
  rw [Bool.eq_iff_iff, Lib.containsS_iff, decide_eq_true_eq]
  show _ ∈ hiddenZ ↔ _
  unfold hiddenZ
  rw [List.mem_map]
  exact ⟨fun ⟨a, ha, e⟩ => by rw [(ba_inj a n).1 e] at ha; exact ha, fun h => ⟨n, h, rfl⟩⟩

set_option maxRecDepth 100000 in
set_option maxHeartbeats 2000000 in
theorem sanHidden_any (n : Bs) (w : World) :
    Calls Tryd.prog 126 #[str n] w fun e w' => e = .returned (.bool (decide (n ∈ hiddenL))) ∧ Below w.heap.size w w' := by
  have hcells : ∀ j, j < hiddenZ.length → (w.alloc (.cells (hiddenL.map str).toArray 9)).cell? ⟨w.heap.size, 0 + j, none⟩ = some (.string (hiddenZ.getD j ByteArray.empty)) := by
    intro j hj
    unfold World.cell?
    rw [heap_new]
    match j, hj with
    | 0, _ => rfl
    | 1, _ => rfl
    | 2, _ => rfl
    | 3, _ => rfl
    | 4, _ => rfl
    | 5, _ => rfl
    | 6, _ => rfl
    | 7, _ => rfl
    | 8, _ => rfl
  have C := Lib.hid (Tryd.slices_Contains_string w.heap.size 0 9 9 hiddenZ ⟨n.toArray⟩ _ (by decide) (by decide) hcells)
  rw [hidden_iff n] at C
  clear hcells
  generalize decide (n ∈ hiddenL) = b at *
  go_enter Tryd.func126, Tryd.ntmps126
  go_wp2_with fail
  refine C.out.mono ?_
  rintro e w1 ⟨rfl, rfl⟩
  go_wp2
  go_ret
  exact ⟨rfl, bal (brf _) _⟩
end Go.Proofs.YtjbidchdjpmonaaDoor
