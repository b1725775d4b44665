/- The reference Tokens, in plain terms: places in the page, and what is left behind them. No program in sight. -/
import Derived.Test.YtkekjddkbmmckaaGreatTokP
import Derived.Lib.IndexBytes
namespace Go.Mh
/-- From i on, up to k, all are p. -/
def Scan (p : UInt8 → Bool) (S : Bs) (i k : Nat) : Prop :=
  i ≤ k ∧ k ≤ S.length ∧ (S.drop i).takeWhile p = (S.take k).drop i ++ (S.drop k).takeWhile p ∧ (S.drop i).dropWhile p = (S.drop k).dropWhile p
theorem dropTk {S : Bs} {k : Nat} {c : UInt8} (hc : S[k]? = some c) : S.drop k = c :: S.drop (k + 1) := by
  have hlt := (List.getElem?_eq_some_iff.1 hc).1
  rw [List.drop_eq_getElem_cons hlt, (List.getElem?_eq_some_iff.1 hc).2]
theorem Scan.start {p : UInt8 → Bool} {S : Bs} {i : Nat} (hi : i ≤ S.length) : Scan p S i i := by
  refine ⟨Nat.le_refl _, hi, ?_, rfl⟩
  have e : (S.take i).drop i = [] := List.drop_eq_nil_of_le (by rw [List.length_take]; omega)
  rw [e]; rfl
theorem Scan.step {p : UInt8 → Bool} {S : Bs} {i k : Nat} {c : UInt8} (h : Scan p S i k) (hc : S[k]? = some c) (hp : p c = true) : Scan p S i (k + 1) := by
  obtain ⟨h1, h2, h3, h4⟩ := h
  have hlt := (List.getElem?_eq_some_iff.1 hc).1
  refine ⟨by omega, by omega, ?_, ?_⟩
  · rw [h3, dropTk hc, List.takeWhile_cons_of_pos hp, List.take_add_one, hc, List.drop_append_of_le_length (by simp; omega)]
    simp
  · rw [h4, dropTk hc, List.dropWhile_cons_of_pos hp]
theorem Scan.stop {p : UInt8 → Bool} {S : Bs} {i k : Nat} (h : Scan p S i k) (hs : k = S.length ∨ ∃ c, S[k]? = some c ∧ p c = false) : (S.drop i).takeWhile p = (S.take k).drop i ∧ (S.drop i).dropWhile p = S.drop k := by
  obtain ⟨h1, h2, h3, h4⟩ := h
  rcases hs with rfl | ⟨c, hc, hp⟩
  · rw [h3, h4]; simp
  · rw [h3, h4, dropTk hc, List.takeWhile_cons_of_neg (by simp [hp]), List.dropWhile_cons_of_neg (by simp [hp])]
    simp

def at0 (S : Bs) (i : Nat) : UInt8 := (S[i]?).getD 0
theorem at0_in {S : Bs} {i : Nat} {c : UInt8} (h : S[i]? = some c) : at0 S i = c := by unfold at0; rw [h]; rfl
theorem at0_out {S : Bs} {i : Nat} (h : S.length ≤ i) : at0 S i = 0 := by unfold at0; rw [List.getElem?_eq_none h]; rfl
/-- Behind the next t from i on; the end. -/
def fnd (S : Bs) (i : Nat) (t : Bs) : Nat := if Lib.index (S.drop i) t < 0 then S.length else i + (Lib.index (S.drop i) t).toNat + t.length
theorem occ_len {s t : Bs} {i : Nat} (h : Lib.occAt s t i = true) (hi : i ≤ s.length) : i + t.length ≤ s.length := by
  have := (List.isPrefixOf_iff_prefix.1 h).length_le
  simp at this; omega
theorem fnd_le {S : Bs} {i : Nat} (hi : i ≤ S.length) (t : Bs) : i ≤ fnd S i t ∧ fnd S i t ≤ S.length := by
  unfold fnd
  rcases Lib.index_spec (S.drop i) t with ⟨h, _⟩ | ⟨j, h, hj, ho, _⟩
  · rw [h, if_pos (by decide)]; omega
  · rw [h, if_neg (by omega)]
    have := occ_len ho hj
    simp at this hj
    simp; omega
theorem fnd_cutC {S : Bs} {i : Nat} (_ : i ≤ S.length) : S.drop (fnd S i [45, 45, 62]) = cutC (S.drop i) := by
  rw [cutC_eq]
  unfold fnd Lib.cut
  have h0 := Lib.index_ge (S.drop i) [45, 45, 62]
  split
  · rw [if_neg (by omega)]; simp
  · rw [if_pos (by omega)]
    show _ = List.drop _ (List.drop i S)
    rw [List.drop_drop]; congr 1
theorem fnd_cut1 {S : Bs} {i : Nat} (_ : i ≤ S.length) (c : UInt8) : S.drop (fnd S i [c]) = (cut1 c (S.drop i)).2.1 := by
  unfold fnd cut1
  rw [Lib.index_one]
  by_cases hm : c ∈ S.drop i
  · rw [if_pos hm, indexByte_some hm]
    rw [if_neg (by omega)]
    have e : ∀ n : Nat, S.drop (i + ((n : Nat) : Int).toNat + [c].length) = ((S.drop i).drop n).drop 1 := fun n => by
      rw [List.drop_drop, List.drop_drop]; congr 1
    rw [e, drop_takeWhile, List.drop_one]
  · rw [if_neg hm, indexByte_none hm, if_pos (by decide)]
    simp
theorem fnd_val {S : Bs} {i : Nat} (_ : i ≤ S.length) (c : UInt8) :
    (cut1 c (S.drop i)).1 = if [c].isSuffixOf ((S.take (fnd S i [c])).drop i) = true then ((S.take (fnd S i [c])).drop i).take (((S.take (fnd S i [c])).drop i).length - 1) else (S.take (fnd S i [c])).drop i := by
  unfold fnd cut1
  rw [Lib.index_one]
  by_cases hm : c ∈ S.drop i
  · rw [if_pos hm, indexByte_some hm]
    have e : (S.take (i + ((((S.drop i).takeWhile (· != c)).length : Nat) : Int).toNat + [c].length)).drop i = (S.drop i).takeWhile (· != c) ++ [c] := by
      have h1 : (S.take (i + ((((S.drop i).takeWhile (· != c)).length : Nat) : Int).toNat + [c].length)).drop i = (S.drop i).take (((S.drop i).takeWhile (· != c)).length + 1) := by
        rw [List.take_drop]; congr 2
      rw [h1, List.take_add_one, take_takeWhile]
      congr 1
      have h2 : (S.drop i)[((S.drop i).takeWhile (· != c)).length]? = ((S.drop i).dropWhile (· != c)).head? := by
        rw [← drop_takeWhile, List.head?_drop]
      rw [h2]
      cases hd : (S.drop i).dropWhile (· != c) with
      | nil => exact absurd hd (dw_ne hm (by simp))
      | cons x r =>
        rcases head_dw (p := (· != c)) (S.drop i) with h | ⟨x', u, h, hx⟩
        · rw [hd] at h; simp at h
        · rw [hd] at h; cases h; simp at hx; simp [hx]
    have h0 : ¬ ((((S.drop i).takeWhile (· != c)).length : Nat) : Int) < 0 := by omega
    simp only [if_neg h0]
    rw [e, if_pos (by simp [List.isSuffixOf])]
    simp
  · rw [if_neg hm, indexByte_none hm]
    simp only [if_pos (show (-1 : Int) < 0 by decide), List.take_length]
    rw [if_neg]
    intro h
    have := (List.isSuffixOf_iff_suffix.1 h)
    obtain ⟨t, ht⟩ := this
    exact hm (by rw [← ht]; simp)

/- What stands ahead of the next sign. -/
theorem page_text {S : Bs} {i k : Nat} (h : Scan (· != 60) S i k) (hlt : i < k) (hs : k = S.length ∨ S[k]? = some 60) : pageT (S.drop i) = tText (readE ((S.take k).drop i)) :: pageT (S.drop k) := by
  obtain ⟨h1, h2⟩ := h.stop (by rcases hs with h | h; exact Or.inl h; exact Or.inr ⟨60, h, rfl⟩)
  rw [pageT_eq (S.drop i), h1, h2, if_neg (by intro e; have := congrArg List.length e; have := h.2.1; simp at *; omega)]
  rw [pageT_eq (S.drop k)]
  rcases hs with rfl | hk
  · simp
  · rw [dropTk hk]; simp
theorem page_mark {S : Bs} {i : Nat} (h : S[i]? = some 60) : pageT (S.drop i) = markT (S.drop i) := by
  rw [pageT_eq, dropTk h]; simp
theorem mark_com {S : Bs} {i : Nat} (h : S[i]? = some 60) (hc : sCom.isPrefixOf (S.drop i) = true) : i + 4 ≤ S.length ∧ pageT (S.drop i) = tOther :: pageT (S.drop (fnd S (i + 4) [45, 45, 62])) := by
  have hl : i + 4 ≤ S.length := by
    have := (List.isPrefixOf_iff_prefix.1 hc).length_le
    simp [sCom] at this; omega
  refine ⟨hl, ?_⟩
  rw [page_mark h, fnd_cutC hl]
  rw [dropTk h] at hc ⊢
  rw [markT.eq_def]
  simp only
  rw [if_pos hc, List.drop_drop]
theorem mark_bang {S : Bs} {i : Nat} {d : UInt8} (h : S[i]? = some 60) (hc : sCom.isPrefixOf (S.drop i) = false) (hd : S[i + 1]? = some d) (hb : d = 33 ∨ d = 63) : pageT (S.drop i) = tOther :: pageT (S.drop (fnd S i [62])) := by
  have hl := (List.getElem?_eq_some_iff.1 h).1
  rw [page_mark h, fnd_cut1 (by omega)]
  rw [dropTk h, dropTk hd] at hc ⊢
  rw [markT.eq_def]
  simp only
  rw [if_neg (by rw [hc]; simp), if_pos hb]
/-- Where the tag's name begins. -/
def tagAt (S : Bs) (i : Nat) : Nat := if at0 S (i + 1) = 47 then i + 2 else i + 1
theorem mark_lt {S : Bs} {i : Nat} (h : S[i]? = some 60) (hc : sCom.isPrefixOf (S.drop i) = false) (hb : ∀ d, S[i + 1]? = some d → ¬ (d = 33 ∨ d = 63)) (ht : ∀ d, S[tagAt S i]? = some d → isLt d = false) : pageT (S.drop i) = tText [60] :: pageT (S.drop (i + 1)) := by
  rw [page_mark h]
  rw [dropTk h] at hc ⊢
  rw [markT.eq_def]
  simp only
  rw [if_neg (by rw [hc]; simp)]
  cases hd : S[i + 1]? with
  | none =>
    have : S.drop (i + 1) = [] := List.drop_eq_nil_of_le (List.getElem?_eq_none_iff.1 hd)
    rw [this]; rfl
  | some d =>
    rw [dropTk hd]
    simp only
    rw [if_neg (hb d hd)]
    unfold tagAt at ht
    rw [at0_in hd] at ht
    by_cases h47 : d = 47
    · subst h47
      rw [if_neg (by decide)]
      rw [if_pos rfl] at ht
      rw [if_neg]
      rintro ⟨_, h2⟩
      cases he : S[i + 2]? with
      | none =>
        have : S.drop (i + 1 + 1) = [] := List.drop_eq_nil_of_le (List.getElem?_eq_none_iff.1 he)
        rw [this] at h2; simp at h2
      | some e =>
        rw [show i + 1 + 1 = i + 2 by omega, dropTk he] at h2
        simp at h2
        rw [ht e he] at h2; simp at h2
    · rw [if_neg h47] at ht
      rw [if_neg (by rw [ht d hd]; simp), if_neg (fun h => h47 h.1)]
theorem mark_tag {S : Bs} {i : Nat} {d : UInt8} (h : S[i]? = some 60) (hc : sCom.isPrefixOf (S.drop i) = false) (hb : ∀ d, S[i + 1]? = some d → ¬ (d = 33 ∨ d = 63)) (ht : S[tagAt S i]? = some d) (hl : isLt d = true) :
    pageT (S.drop i) = match tagT (S.drop (tagAt S i)) with
      | none => []
      | some (name, hr, r) => (if at0 S (i + 1) = 47 then ⟨3, name, [], []⟩ else ⟨2, name, [], readE hr⟩) :: pageT r := by
  have hd : ∃ e, S[i + 1]? = some e := by
    have := (List.getElem?_eq_some_iff.1 ht).1
    exact ⟨_, List.getElem?_eq_getElem (by unfold tagAt at this; split at this <;> omega)⟩
  obtain ⟨e, he⟩ := hd
  rw [page_mark h]
  rw [dropTk h] at hc ⊢
  rw [markT.eq_def]
  simp only
  rw [if_neg (by rw [hc]; simp), dropTk he]
  simp only
  rw [if_neg (hb e he)]
  unfold tagAt at ht ⊢
  rw [at0_in he] at ht ⊢
  by_cases h47 : e = 47
  · subst h47
    rw [if_pos rfl] at ht ⊢
    rw [if_neg (by decide), show i + 1 + 1 = i + 2 by omega, if_pos ⟨rfl, by rw [dropTk ht]; simp [hl]⟩]
    cases tagT (S.drop (i + 2)) with
    | none => rfl
    | some x => simp
  · rw [if_neg h47] at ht ⊢
    rw [he] at ht
    cases ht
    rw [if_pos hl, ← dropTk he]
    cases tagT (S.drop (i + 1)) with
    | none => rfl
    | some x => simp [h47]

/- A tag: its attributes, by places. -/
theorem attr_nil (href : Bs) (found : Bool) : attrT [] href found = none := rfl
theorem attr_end {S : Bs} {k : Nat} (h : S[k]? = some 62) (href : Bs) (found : Bool) : attrT (S.drop k) href found = some (href, S.drop (k + 1)) := by
  rw [dropTk h, attrT_eq, List.dropWhile_cons_of_neg (by decide)]
  rfl
theorem attr_skip {S : Bs} {k : Nat} {c : UInt8} (h : S[k]? = some c) (hc : sk2 c = true) (href : Bs) (found : Bool) : attrT (S.drop k) href found = attrT (S.drop (k + 1)) href found := by
  rw [attrT_eq (S.drop k), attrT_eq (S.drop (k + 1)), dropTk h, List.dropWhile_cons_of_pos hc]
/-- One attribute: its name from k up to k2, its value v, what stands behind it from e on. -/
theorem attr_one {S : Bs} {k k2 e : Nat} {c : UInt8} {v : Bs} (h : S[k]? = some c) (hc : sk2 c = false) (h62 : c ≠ 62) (hs : Scan nb3 S (k + 1) k2) (hst : k2 = S.length ∨ ∃ d, S[k2]? = some d ∧ nb3 d = false) (hv : valOf (S.drop k2) = (v, S.drop e)) (href : Bs) (found : Bool) :
    attrT (S.drop k) href found = attrT (S.drop e) (if lower ((S.take k2).drop k) = sHref ∧ found = false then v else href) (if lower ((S.take k2).drop k) = sHref ∧ found = false then true else found) := by
  obtain ⟨h1, h2⟩ := hs.stop hst
  have hn : (S.take k2).drop k = c :: (S.take k2).drop (k + 1) := by
    refine dropTk ?_
    rw [List.getElem?_take, if_pos (by have := hs.1; omega)]; exact h
  rw [attrT_eq, dropTk h, List.dropWhile_cons_of_neg (by rw [hc]; simp)]
  simp only
  rw [if_neg h62, h1, h2, hv, hn]
theorem val_none {S : Bs} {k j : Nat} (hs : Scan isSp S k j) (hst : j = S.length ∨ ∃ d, S[j]? = some d ∧ isSp d = false) (h : at0 S j ≠ 61) : valOf (S.drop k) = ([], S.drop k) := by
  obtain ⟨_, h2⟩ := hs.stop hst
  unfold valOf blanks
  rw [h2]
  cases hd : S[j]? with
  | none =>
    have : S.drop j = [] := List.drop_eq_nil_of_le (List.getElem?_eq_none_iff.1 hd)
    rw [this]
  | some d =>
    rw [dropTk hd]
    simp only
    rw [at0_in hd] at h
    rw [if_neg h]
theorem val_some {S : Bs} {k j : Nat} (hs : Scan isSp S k j) (hst : j = S.length ∨ ∃ d, S[j]? = some d ∧ isSp d = false) (h : at0 S j = 61) : valOf (S.drop k) = valueT (S.drop (j + 1)) ∧ S[j]? = some 61 := by
  obtain ⟨_, h2⟩ := hs.stop hst
  unfold valOf blanks
  rw [h2]
  cases hd : S[j]? with
  | none => unfold at0 at h; rw [hd] at h; simp at h
  | some d =>
    rw [at0_in hd] at h
    subst h
    rw [dropTk hd]
    exact ⟨by simp, rfl⟩
theorem value_quote {S : Bs} {k j : Nat} {q : UInt8} (hs : Scan isSp S k j) (hst : j = S.length ∨ ∃ d, S[j]? = some d ∧ isSp d = false) (h : at0 S j = q) (hq : q = 34 ∨ q = 39) :
    j + 1 ≤ S.length ∧ valueT (S.drop k) = (if [q].isSuffixOf ((S.take (fnd S (j + 1) [q])).drop (j + 1)) = true then ((S.take (fnd S (j + 1) [q])).drop (j + 1)).take (((S.take (fnd S (j + 1) [q])).drop (j + 1)).length - 1) else (S.take (fnd S (j + 1) [q])).drop (j + 1), S.drop (fnd S (j + 1) [q])) := by
  obtain ⟨_, h2⟩ := hs.stop hst
  cases hd : S[j]? with
  | none => unfold at0 at h; rw [hd] at h; rcases hq with rfl | rfl <;> simp at h
  | some d =>
    rw [at0_in hd] at h
    subst h
    have hl : j + 1 ≤ S.length := (List.getElem?_eq_some_iff.1 hd).1
    refine ⟨hl, ?_⟩
    rw [← fnd_val hl, fnd_cut1 hl]
    unfold valueT blanks
    rw [h2, dropTk hd]
    simp only
    rw [if_pos hq]
theorem value_plain {S : Bs} {k j e : Nat} (hs : Scan isSp S k j) (hst : j = S.length ∨ ∃ d, S[j]? = some d ∧ isSp d = false) (hq : ¬ (at0 S j = 34 ∨ at0 S j = 39)) (hse : Scan nb1 S j e) (hste : e = S.length ∨ ∃ d, S[e]? = some d ∧ nb1 d = false) :
    valueT (S.drop k) = ((S.take e).drop j, S.drop e) := by
  obtain ⟨_, h2⟩ := hs.stop hst
  obtain ⟨h3, h4⟩ := hse.stop hste
  unfold valueT blanks
  rw [h2]
  cases hd : S[j]? with
  | none =>
    have h0 : S.drop j = [] := List.drop_eq_nil_of_le (List.getElem?_eq_none_iff.1 hd)
    rw [h0] at h3 h4 ⊢
    rw [← h3, ← h4]; rfl
  | some d =>
    rw [at0_in hd] at hq
    rw [dropTk hd] at h3 h4 ⊢
    simp only
    rw [if_neg hq, h3, h4]
theorem tag_of {S : Bs} {i k : Nat} (hs : Scan nb2 S i k) (hst : k = S.length ∨ ∃ d, S[k]? = some d ∧ nb2 d = false) :
    tagT (S.drop i) = match attrT (S.drop k) [] false with
      | none => none
      | some (h, r) => some (lower ((S.take k).drop i), h, r) := by
  obtain ⟨h1, h2⟩ := hs.stop hst
  unfold tagT
  rw [h1, h2]
  cases attrT (S.drop k) [] false <;> rfl
end Go.Mh
