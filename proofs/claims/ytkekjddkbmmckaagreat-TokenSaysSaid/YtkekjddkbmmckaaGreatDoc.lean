/- Package doc: Item, Items, Check, Plain, Runs, Same. -/
import Derived.Test.YtkekjddkbmmckaaGreatLink
import Derived.Test.YtkekjddkbmmckaaGreatCmp
import Derived.Test.YtkekjddkbmmckaaGreatPl
import Derived.Deep.Light
namespace Go.Proofs.YtkekjddkbmmckaaGreat
open Go.RowKit Go.Mh

theorem badAt_cases (L : List It) : (badAt L = -1 ∧ ∀ x ∈ L, chkItem x = 0) ∨ ∃ (k : Nat) (x : It), badAt L = (k : Int) ∧ L[k]? = some x ∧ chkItem x ≠ 0 ∧ ∀ y ∈ L.take k, chkItem y = 0 := by
  unfold badAt
  cases hf : L.findIdx? (fun x => chkItem x != 0) with
  | none =>
    left
    rw [List.findIdx?_eq_none_iff] at hf
    exact ⟨rfl, fun x hx => by simpa using hf x hx⟩
  | some k =>
    right
    rw [List.findIdx?_eq_some_iff_getElem] at hf
    obtain ⟨hlt, h1, h2⟩ := hf
    refine ⟨k, L[k], rfl, List.getElem?_eq_getElem hlt, by simpa using h1, fun y hy => ?_⟩
    rw [List.mem_take_iff_getElem] at hy
    obtain ⟨j, hj, rfl⟩ := hy
    simpa using h2 j (by omega)

theorem chkDoc_many {L : List It} (h : 80 < L.length) : chkDoc L = 2 := by simp [chkDoc, h]
theorem chkDoc_items {L : List It} (h : ¬ 80 < L.length) (h1 : chkItems L ≠ 0) : chkDoc L = chkItems L := by unfold chkDoc; rw [if_neg h, if_pos h1]
theorem chkDoc_nil : chkDoc [] = 4 := by simp [chkDoc, chkItems]
theorem chkDoc_last {L : List It} {x : It} (h : ¬ 80 < L.length) (h1 : chkItems L = 0) (hx : L[L.length - 1]? = some x) : chkDoc L = if (x.c.toNat : Int) = 10 then 0 else 4 := by
  have : L.getLast? = some x := by rw [List.getLast?_eq_getElem?]; exact hx
  simp [chkDoc, h, h1, this]

end Go.Proofs.YtkekjddkbmmckaaGreat
