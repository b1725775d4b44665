/- Package token: pages, in plain terms: what the walk needs beside. No program in sight. -/
import Derived.Test.YtkekjddkbmmckaaGreatPlT
import Derived.Lib.IndexMore
namespace Go.Mh
theorem cutC_eq (s : Bs) : cutC s = (Lib.cut s [45, 45, 62]).2.1 := by
  induction s with
  | nil => rfl
  | cons c r ih =>
    unfold cutC
    by_cases h : [45, 45, 62].isPrefixOf (c :: r) = true
    · rw [if_pos h]
      simp only [Lib.cut, Lib.index, h, if_true]
      rfl
    · rw [if_neg h, ih]
      by_cases hn : Lib.index r [45, 45, 62] = -1
      · have hi : Lib.index (c :: r) [45, 45, 62] = -1 := by
          unfold Lib.index
          rw [if_neg h, hn]
          rfl
        unfold Lib.cut
        rw [hi, hn]
        rfl
      · have h0 := Lib.index_ge r [45, 45, 62]
        have h1 : 0 ≤ Lib.index r [45, 45, 62] := by omega
        have h2 : (Lib.index r [45, 45, 62] == -1) = false := by simpa using hn
        have hi : Lib.index (c :: r) [45, 45, 62] = Lib.index r [45, 45, 62] + 1 := by
          rw [Lib.index, if_neg h, if_neg (by simpa using hn)]
        unfold Lib.cut
        rw [hi, if_pos h1, if_pos (by omega)]
        have h3 : (Lib.index r [45, 45, 62] + 1).toNat = (Lib.index r [45, 45, 62]).toNat + 1 := by omega
        show List.drop _ r = List.drop _ (c :: r)
        rw [h3, Nat.add_right_comm, List.drop_succ_cons]
theorem valueT_len (s : Bs) : (valueT s).1.length ≤ s.length := by
  unfold valueT
  have hb := (suf_dw isSp s).len
  cases h : blanks s with
  | nil => simp
  | cons c r =>
    unfold blanks at h
    rw [h] at hb
    simp only
    split
    · unfold cut1
      split
      · have := (List.takeWhile_prefix (l := r) (· != c)).length_le
        simp at hb ⊢; omega
      · simp at hb ⊢; omega
    · have := (List.takeWhile_prefix (l := c :: r) nb1).length_le
      simp only; omega
theorem valOf_len1 (s : Bs) : (valOf s).1.length ≤ s.length := by
  unfold valOf
  have hb := (suf_dw isSp s).len
  cases h : blanks s with
  | nil => simp
  | cons c r =>
    unfold blanks at h
    rw [h] at hb
    simp only
    split
    · have := valueT_len r
      simp at hb; omega
    · simp
theorem attrF_len (n : Nat) : ∀ (s href h r : Bs) (found : Bool) (M : Nat), href.length ≤ M → s.length ≤ M → attrF n s href found = some (h, r) → h.length ≤ M := by
  induction n with
  | zero => intro s href h r found M _ _ e; simp [attrF] at e
  | succ n ih =>
    intro s href h r found M h1 h2 e
    unfold attrF at e
    have hb := (suf_dw sk2 s).len
    cases hd : s.dropWhile sk2 with
    | nil => rw [hd] at e; simp at e
    | cons c t =>
      rw [hd] at e hb
      simp only at e
      split at e
      · simp at e; obtain ⟨rfl, _⟩ := e; exact h1
      · have h3 := (suf_valOf (t.dropWhile nb3)).len
        have h4 := (suf_dw nb3 t).len
        have h5 := valOf_len1 (t.dropWhile nb3)
        simp at hb
        refine ih _ _ _ _ _ M ?_ (by omega) e
        split
        · omega
        · exact h1
theorem tagT_len {s n h r : Bs} (e : tagT s = some (n, h, r)) : h.length ≤ s.length := by
  unfold tagT at e
  cases ht : attrT (s.dropWhile nb2) [] false with
  | none => rw [ht] at e; simp at e
  | some x =>
    obtain ⟨h', r'⟩ := x
    rw [ht] at e
    simp at e
    obtain ⟨_, rfl, _⟩ := e
    have hb := (suf_dw nb2 s).len
    exact attrF_len _ _ _ _ _ _ s.length (by simp) hb ht
theorem head_dw {p : UInt8 → Bool} (s : Bs) : s.dropWhile p = [] ∨ ∃ c u, s.dropWhile p = c :: u ∧ p c = false := by
  induction s with
  | nil => exact Or.inl rfl
  | cons c s ih =>
    simp only [List.dropWhile_cons]
    split
    · exact ih
    · rename_i h; exact Or.inr ⟨c, s, rfl, by simpa using h⟩
/-- What token.Page returns. -/
def pageP (s : Bs) : List Tok × Int := if 20000 < s.length then ([], 2) else (pageT s, 0)
/-- Page, from its first sign on: one step of the loop. -/
theorem page_step {s text rest : Bs} (h1 : s.takeWhile (· != 60) = text) (h2 : s.dropWhile (· != 60) = rest) : pageT s = (if text = [] then [] else [tText (readE text)]) ++ markT rest := by
  rw [pageT_eq, h1, h2]
end Go.Mh
