/- Addresses: plain laws. No program in sight. -/
import Derived.Test.YtjbidchdjpmonaaDoorPlZ
namespace Go.Mh

theorem may_scheme {l : Bs} (h : may l = true) : scheme l = sHttp ∨ scheme l = sHttps ∨ scheme l = sMailto := by
  unfold may at h
  simp only [Bool.and_eq_true] at h
  have := h.2
  simp at this
  exact this
theorem may_ne {l : Bs} (h : may l = true) : l ≠ [] := by
  rintro rfl; simp [may] at h
theorem trim_sub (s : Bs) : ∃ a b, s = a ++ trimT s ++ b := by
  obtain ⟨a, ha⟩ := dw_suf tset s
  obtain ⟨b, hb⟩ := dw_suf tset (s.dropWhile tset).reverse
  have := congrArg List.reverse hb
  rw [List.reverse_reverse, List.reverse_append] at this
  refine ⟨a, b.reverse, ?_⟩
  unfold trimT
  rw [List.append_assoc, ← this]
  exact ha
/-- What is cleaned: nothing, or what may be. -/
theorem law_clean {s : Bs} (h : cleanT s ≠ []) : may (cleanT s) = true ∧ cleanT (cleanT s) = cleanT s ∧ (∃ a b, s = a ++ cleanT s ++ b) ∧ (∀ c ∈ cleanT s, okC c = true) := by
  have hm : may (cleanT s) = true := by
    rcases Decidable.em (may (trimT s) = true) with h1 | h1
    · unfold cleanT; rw [if_pos h1]; exact h1
    · unfold cleanT at h; rw [if_neg h1] at h; exact absurd rfl h
  have he : cleanT s = trimT s := by
    unfold cleanT at h ⊢
    split at h
    · rename_i h1; rw [if_pos h1]
    · exact absurd rfl h
  refine ⟨hm, clean_may hm, ?_, may_ok hm⟩
  rw [he]
  exact trim_sub s

theorem lower_low (c : UInt8) : lowB (lowB c) = lowB c := by
  by_cases h : 65 ≤ (c.toNat : Int) ∧ (c.toNat : Int) ≤ 90
  · have := lowB_up h.1 h.2
    exact lowB_id (by omega)
  · rw [lowB_id h]
    exact lowB_id h
/-- With other letters behind its scheme. -/
theorem law_opens {sc rest : Bs} (h : may (sc ++ 58 :: rest) = true) : may (scheme (sc ++ 58 :: rest) ++ [58]) = true ∧ lower ((sc ++ 58 :: rest).takeWhile (· != 58)) = scheme (sc ++ 58 :: rest) := by
  have hs := may_scheme h
  constructor
  · rcases hs with e | e | e <;> rw [e] <;> decide +kernel
  · unfold scheme
    split
    · rfl
    · rename_i h1
      have : scheme (sc ++ 58 :: rest) = [] := by unfold scheme; rw [if_neg h1]
      rcases hs with e | e | e <;> rw [this] at e <;> exact absurd e (by decide)
end Go.Mh
