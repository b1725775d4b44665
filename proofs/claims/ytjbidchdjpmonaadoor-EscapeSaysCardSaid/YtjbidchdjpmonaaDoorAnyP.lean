/- Plain laws: what a byte beyond ASCII decodes to; replaced characters. No program in sight. -/
import Derived.Test.YtjbidchdjpmonaaDoorPlX
import Derived.Lib.MapLaws
import Derived.Lib.RuneBytes
import Derived.Lib.ReplaceLaws
import Derived.Lib.Replace
import Derived.Laws.RangeAny
namespace Go.Mh
open Go.Lib

theorem get_bang (l : Bs) (i : Nat) : ((⟨l.toArray⟩ : ByteArray).get! i) = l.getD i 0 := by
  show (l.toArray)[i]! = _
  simp [List.getD, Array.getElem!_eq_getD]
  rfl
/-- A lead byte beyond ASCII: the rune is beyond ASCII, and so are all bytes of it. -/
theorem decode_beyond (l : Bs) (i : Nat) (hi : i < l.length) (c : UInt8) (hc : l[i]? = some c) (h : 128 ≤ c.toNat) :
    ∃ r k : Nat, Utf8.decode ⟨l.toArray⟩ i = (r, k) ∧ 1 ≤ k ∧ i + k ≤ l.length ∧ (∀ (j : Nat) b, i ≤ j → j < i + k → l[j]? = some b → 128 ≤ b.toNat) ∧ (r = 65533 ∨ (128 ≤ r ∧ (r < 55296 ∨ 57343 < r) ∧ r ≤ 1114111)) := by
  rw [decode_at]
  have e0 : (⟨l.toArray⟩ : ByteArray).get! i = c := by rw [get_bang]; simp [List.getD, hc]
  have hs : (⟨l.toArray⟩ : ByteArray).size = l.length := rfl
  rw [e0, hs]
  have hb1 := ((⟨l.toArray⟩ : ByteArray).get! (i + 1)).toNat_lt
  have hb2 := ((⟨l.toArray⟩ : ByteArray).get! (i + 2)).toNat_lt
  have hb3 := ((⟨l.toArray⟩ : ByteArray).get! (i + 3)).toNat_lt
  have hc0 := c.toNat_lt
  have g : ∀ (j : Nat) b, l[j]? = some b → (⟨l.toArray⟩ : ByteArray).get! j = b := fun j b hj => by rw [get_bang]; simp [List.getD, hj]
  rcases decodeN_shape (l.length - i) c.toNat ((⟨l.toArray⟩ : ByteArray).get! (i + 1)).toNat ((⟨l.toArray⟩ : ByteArray).get! (i + 2)).toNat ((⟨l.toArray⟩ : ByteArray).get! (i + 3)).toNat with ⟨h1, _⟩ | ⟨h1, h2, h3, h4, e⟩ | ⟨h1, h2, h3, h4, h5, h6, e⟩ | ⟨h1, h2, h3, h4, h5, h6, h7, e⟩ | e
  · omega
  · refine ⟨_, _, e, by omega, by omega, fun j b hj hk hb => ?_, Or.inr ⟨by omega, by omega, by omega⟩⟩
    have hb' := g j b hb
    rcases (show j = i ∨ j = i + 1 by omega) with rfl | rfl
    · rw [hc] at hb; cases hb; exact h
    · rw [hb'] at h3; omega
  · refine ⟨_, _, e, by omega, by omega, fun j b hj hk hb => ?_, Or.inr ⟨by omega, by omega, by omega⟩⟩
    have hb' := g j b hb
    rcases (show j = i ∨ j = i + 1 ∨ j = i + 2 by omega) with rfl | rfl | rfl
    · rw [hc] at hb; cases hb; exact h
    · rw [hb'] at h3; omega
    · rw [hb'] at h4; omega
  · refine ⟨_, _, e, by omega, by omega, fun j b hj hk hb => ?_, Or.inr ⟨by omega, by omega, by omega⟩⟩
    have hb' := g j b hb
    rcases (show j = i ∨ j = i + 1 ∨ j = i + 2 ∨ j = i + 3 by omega) with rfl | rfl | rfl | rfl
    · rw [hc] at hb; cases hb; exact h
    · rw [hb'] at h3; omega
    · rw [hb'] at h4; omega
    · rw [hb'] at h5; omega
  · refine ⟨_, _, e, by omega, by omega, fun j b hj hk hb => ?_, Or.inl rfl⟩
    obtain rfl : j = i := by omega
    rw [hc] at hb; cases hb; exact h

theorem rep1_none {c : UInt8} {r : Bs} : ∀ {s : Bs}, c ∉ s → rep1 c r s = s
  | [], _ => rfl
  | b :: s, h => by
    have h1 : ¬ b = c := fun e => h (by rw [e]; exact List.mem_cons_self ..)
    have h2 : c ∉ s := fun e => h (List.mem_cons_of_mem _ e)
    have ih := rep1_none (r := r) h2
    unfold rep1 at ih ⊢
    rw [List.flatMap_cons, if_neg h1, ih]; rfl
theorem rep1_len {c : UInt8} {r : Bs} (hr : 1 ≤ r.length) : ∀ s : Bs, (rep1 c r s).length ≤ r.length * s.length
  | [] => by simp [rep1]
  | b :: s => by
    have ih := rep1_len (c := c) hr s
    unfold rep1 at ih ⊢
    rw [List.flatMap_cons, List.length_append, List.length_cons, Nat.mul_add]
    split
    · omega
    · simp only [List.length_cons, List.length_nil]; omega
theorem rep1_le {c : UInt8} : ∀ s : Bs, (rep1 c [] s).length ≤ s.length
  | [] => by simp [rep1]
  | b :: s => by
    have ih := rep1_le (c := c) s
    unfold rep1 at ih ⊢
    rw [List.flatMap_cons, List.length_append, List.length_cons]
    split
    · simp only [List.length_nil]; omega
    · simp only [List.length_cons, List.length_nil]; omega
theorem indexByte_ix : ∀ (s : Bs) (c : UInt8), index s [c] = Lib.indexByte s c
  | [], c => rfl
  | b :: s, c => by
    rw [index, Lib.indexByte, indexByte_ix s c]
    by_cases h : b = c
    · subst h; simp [List.isPrefixOf]
    · have h1 : (c == b) = false := by simpa using fun e => h e.symm
      have h2 : (b == c) = false := by simpa using h
      simp [List.isPrefixOf, h1, h2]
theorem replaceK_one (c : UInt8) (r : Bs) : ∀ (k : Nat) (s : Bs), s.count c ≤ k → replaceK [c] r k s = rep1 c r s
  | 0, s, h => by
    have : c ∉ s := fun e => by have := List.count_pos_iff.2 e; omega
    rw [rep1_none this]; rfl
  | k + 1, s, h => by
    rcases index_spec s [c] with ⟨h1, h2⟩ | ⟨i, h1, h2, h3, h4⟩
    · have : c ∉ s := fun e => by
        have := count_miss h1
        rw [count_one] at this
        have := List.count_pos_iff.2 e
        omega
      rw [rep1_none this, replaceK, h1]; simp
    · rw [replaceK_hit [c] r k s i h1]
      have hi : s[i]? = some c := occAt_head rfl h3
      have hn : c ∉ s.take i := fun e => by
        obtain ⟨j, hj⟩ := List.getElem?_of_mem e
        have hji : j < i := by
          have := (List.getElem?_eq_some_iff.1 hj).1
          simp at this; omega
        have hj' : s[j]? = some c := by rw [List.getElem?_take, if_pos hji] at hj; exact hj
        have hf := h4 j hji
        rw [occAt_iff_take s [c] j (by have := (List.getElem?_eq_some_iff.1 hj').1; simp; omega)] at hf
        have : (s.drop j).take 1 = [c] := by rw [List.take_one, List.head?_drop, hj']; rfl
        simp [this] at hf
      have hs : s = s.take i ++ c :: s.drop (i + 1) := by
        conv => lhs; rw [← List.take_append_drop i s]
        rw [List.drop_eq_getElem_cons (List.getElem?_eq_some_iff.1 hi).1, (List.getElem?_eq_some_iff.1 hi).2]
      have hcount : (s.drop (i + 1)).count c ≤ k := by
        have := congrArg (List.count c) hs
        rw [List.count_append, List.count_cons_self] at this
        omega
      rw [show i + ([c] : Bs).length = i + 1 from rfl, replaceK_one c r k _ hcount]
      conv => rhs; rw [hs]
      rw [rep1_append, rep1_none hn, show c :: s.drop (i + 1) = [c] ++ s.drop (i + 1) from rfl, rep1_append, rep1_one, if_pos rfl, List.append_assoc]
theorem replaceAll_one (c : UInt8) (r s : Bs) (h : r ≠ [c]) : Lib.replaceAll s [c] r = rep1 c r s := by
  unfold Lib.replaceAll Lib.replace
  rw [if_neg (by simpa using fun e => h e.symm)]
  refine replaceK_one c r _ s ?_
  unfold replaceNum
  rw [if_pos (Or.inl (by decide)), count_one]
  exact Nat.le_refl _
theorem countB_one (s : Bs) (c : UInt8) : Lib.countB ⟨s.toArray⟩ ⟨#[c]⟩ ≤ s.length := by
  show Lib.count s [c] ≤ _
  rw [count_one]
  exact List.count_le_length
end Go.Mh
