/- Small functions of Go's library on texts: Cut at one byte. -/
import Derived.Test.YtkekjddkbmmckaaGreatMem
import Derived.Test.YtkekjddkbmmckaaGreatPl
import Derived.Test.YtkekjddkbmmckaaGreatShelf
import Derived.Test.YtkekjddkbmmckaaGreatRows
namespace Go.Proofs.YtkekjddkbmmckaaGreat
open Go.RowKit Go.Mh

set_option maxHeartbeats 400000 in
theorem slCut1_no (l : Bs) (c : UInt8) (w : World) (h : c ∉ l) :
    Calls Tryz.prog 29 #[str l, .string ⟨#[c]⟩] w fun e w' => e = .returned (.tuple #[str l, str [], .bool false]) ∧ Below w.heap.size w w' := by
  have hi := Lib.hid (indexByte_none h)
  go_enter Tryz.func29, Tryz.ntmps29
  go_wp2_with (go_at_call 36; refine (Tryz.stringslite_Index_one _ _ _).mono ?_; rintro e w' ⟨rfl, rfl⟩; dsimp only; rw [hi.out])
  go_ret3
  exact ⟨rfl, Below.refl _ _⟩

set_option maxHeartbeats 400000 in
theorem slCut1_yes (l : Bs) (c : UInt8) (w : World) (h : c ∈ l) (hm : l.length ≤ maxLen) :
    Calls Tryz.prog 29 #[str l, .string ⟨#[c]⟩] w fun e w' => e = .returned (.tuple #[str (l.takeWhile (· != c)), str (l.dropWhile (· != c)).tail, .bool true]) ∧ Below w.heap.size w w' := by
  have hi := Lib.hid (indexByte_some h)
  have hlt := takeWhile_len_lt h
  obtain ⟨n, hn⟩ : ∃ n, n = (l.takeWhile (· != c)).length := ⟨_, rfl⟩
  rw [← hn] at hlt
  have hn' := Lib.hid hn; clear hn
  unfold maxLen at hm
  go_enter Tryz.func29, Tryz.ntmps29
  go_wp2_with (go_at_call 36; refine (Tryz.stringslite_Index_one _ _ _).mono ?_; rintro e w' ⟨rfl, rfl⟩; dsimp only; rw [hi.out, ← hn'.out])
  go_quiet (fail)
  go_wp2
  go_ret3
  exact ⟨ret3 ((str_take l n).trans (by rw [hn'.out, take_takeWhile])) ((str_drop l (n + 1) _ rfl).trans (by rw [hn'.out, ← List.drop_drop, drop_takeWhile, List.drop_one])) rfl, bdrewN (Below.refl _ _) _⟩

theorem slCut1 (l : Bs) (c : UInt8) (w : World) (hm : l.length ≤ maxLen) :
    Calls Tryz.prog 29 #[str l, .string ⟨#[c]⟩] w fun e w' => e = .returned (.tuple #[str (cut1 c l).1, str (cut1 c l).2.1, .bool (cut1 c l).2.2]) ∧ Below w.heap.size w w' := by
  unfold cut1
  by_cases h : c ∈ l
  · simp only [h, if_true]
    exact slCut1_yes l c w h hm
  · simp only [h, if_false]
    exact slCut1_no l c w h

set_option maxHeartbeats 400000 in
/-- strings.Cut at a separator of one byte. -/
theorem cut1_any (l : Bs) (c : UInt8) (w : World) (hm : l.length ≤ maxLen) :
    Calls Tryz.prog 12 #[str l, .string ⟨#[c]⟩] w fun e w' => e = .returned (.tuple #[str (cut1 c l).1, str (cut1 c l).2.1, .bool (cut1 c l).2.2]) ∧ Below w.heap.size w w' := by
  go_enter Tryz.func12, Tryz.ntmps12
  go_wp2_with (go_at_call 29; refine (slCut1 _ _ _ hm).mono ?_; rintro e w' ⟨rfl, hb⟩)
  go_ret3
  exact ⟨rfl, hb⟩
end Go.Proofs.YtkekjddkbmmckaaGreat
