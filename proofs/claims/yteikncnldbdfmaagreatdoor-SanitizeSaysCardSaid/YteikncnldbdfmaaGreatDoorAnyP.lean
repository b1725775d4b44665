/- Plain laws: what a byte beyond ASCII decodes to; replaced characters. No program in sight. -/
import Derived.Test.YteikncnldbdfmaaGreatDoorPl
import Derived.Lib.MapLaws
import Derived.Lib.RuneBytes
import Derived.Lib.ReplaceLaws
import Derived.Lib.Replace
import Derived.Laws.RangeAny
namespace Go.Mh
open Go.Lib

theorem rep1_none {c : UInt8} {r : Bs} : ∀ {s : Bs}, c ∉ s → rep1 c r s = s
  | [], _ => rfl
  | b :: s, h => by
    have h1 : ¬ b = c := fun e => h (by rw [e]; exact List.mem_cons_self ..)
    have h2 : c ∉ s := fun e => h (List.mem_cons_of_mem _ e)
    have ih := rep1_none (r := r) h2
    unfold rep1 at ih ⊢
    rw [List.flatMap_cons, if_neg h1, ih]; rfl
theorem rep1_len {c : UInt8} {r : Bs} (hr : 1 ≤ r.length) : ∀ s : Bs, (rep1 c r s).length ≤ r.length * s.length
  | [] => by simp [rep1]
  | b :: s => by
    have ih := rep1_len (c := c) hr s
    unfold rep1 at ih ⊢
    rw [List.flatMap_cons, List.length_append, List.length_cons, Nat.mul_add]
    split
    · omega
    · simp only [List.length_cons, List.length_nil]; omega
theorem replaceK_one (c : UInt8) (r : Bs) : ∀ (k : Nat) (s : Bs), s.count c ≤ k → replaceK [c] r k s = rep1 c r s
  | 0, s, h => by
    have : c ∉ s := fun e => by have := List.count_pos_iff.2 e; omega
    rw [rep1_none this]; rfl
  | k + 1, s, h => by
    rcases index_spec s [c] with ⟨h1, h2⟩ | ⟨i, h1, h2, h3, h4⟩
    · have : c ∉ s := fun e => by
        have := count_miss h1
        rw [count_one] at this
        have := List.count_pos_iff.2 e
        omega
      rw [rep1_none this, replaceK, h1]; simp
    · rw [replaceK_hit [c] r k s i h1]
      have hi : s[i]? = some c := occAt_head rfl h3
      have hn : c ∉ s.take i := fun e => by
        obtain ⟨j, hj⟩ := List.getElem?_of_mem e
        have hji : j < i := by
          have := (List.getElem?_eq_some_iff.1 hj).1
          simp at this; omega
        have hj' : s[j]? = some c := by rw [List.getElem?_take, if_pos hji] at hj; exact hj
        have hf := h4 j hji
        rw [occAt_iff_take s [c] j (by have := (List.getElem?_eq_some_iff.1 hj').1; simp; omega)] at hf
        have : (s.drop j).take 1 = [c] := by rw [List.take_one, List.head?_drop, hj']; rfl
        simp [this] at hf
      have hs : s = s.take i ++ c :: s.drop (i + 1) := by
        conv => lhs; rw [← List.take_append_drop i s]
        rw [List.drop_eq_getElem_cons (List.getElem?_eq_some_iff.1 hi).1, (List.getElem?_eq_some_iff.1 hi).2]
      have hcount : (s.drop (i + 1)).count c ≤ k := by
        have := congrArg (List.count c) hs
        rw [List.count_append, List.count_cons_self] at this
        omega
      rw [show i + ([c] : Bs).length = i + 1 from rfl, replaceK_one c r k _ hcount]
      conv => rhs; rw [hs]
      rw [rep1_append, rep1_none hn, show c :: s.drop (i + 1) = [c] ++ s.drop (i + 1) from rfl, rep1_append, rep1_one, if_pos rfl, List.append_assoc]
theorem replaceAll_one (c : UInt8) (r s : Bs) (h : r ≠ [c]) : Lib.replaceAll s [c] r = rep1 c r s := by
  unfold Lib.replaceAll Lib.replace
  rw [if_neg (by simpa using fun e => h e.symm)]
  refine replaceK_one c r _ s ?_
  unfold replaceNum
  rw [if_pos (Or.inl (by decide)), count_one]
  exact Nat.le_refl _
theorem countB_one (s : Bs) (c : UInt8) : Lib.countB ⟨s.toArray⟩ ⟨#[c]⟩ ≤ s.length := by
  show Lib.count s [c] ≤ _
  rw [count_one]
  exact List.count_le_length
end Go.Mh
