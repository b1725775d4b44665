/- What a page's tokens hold is no longer than the page. -/
import Derived.Test.YtjbidchdjpmonaaDoorPlZ
namespace Go.Mh
theorem readSQ_len (s : Bs) : ∀ k, (readS k s).length ≤ s.length := by
  induction s with
  | nil => intro k; cases k <;> simp [readS]
  | cons c r ih => intro k; cases k with
    | zero => simp only [readS, List.length_cons]; have := ih (first1 c r).2; omega
    | succ k => simp only [readS, List.length_cons]; have := ih k; omega
theorem readEQ_len (s : Bs) : (readE s).length ≤ s.length := readSQ_len s 0
theorem twQ_le {α : Type} (p : α → Bool) (s : List α) : (s.takeWhile p).length ≤ s.length := by
  induction s with
  | nil => simp
  | cons c s ih => simp only [List.takeWhile_cons]; split <;> simp; omega
theorem cut1Q_len (c : UInt8) (s : Bs) : (cut1 c s).1.length ≤ s.length := by
  unfold cut1
  split
  · exact twQ_le _ _
  · exact Nat.le_refl _
theorem valueTQ_len (s : Bs) : (valueT s).1.length ≤ s.length := by
  unfold valueT
  have hb := (suf_dw isSp s).len
  cases h : blanks s with
  | nil => simp
  | cons c r =>
    unfold blanks at h
    rw [h] at hb
    simp only [List.length_cons] at hb
    dsimp only
    split
    · have := cut1Q_len c r; simp only; omega
    · have := twQ_le nb1 (c :: r); simp only [List.length_cons] at this; simp only; omega
theorem valOfQ_len (s : Bs) : (valOf s).1.length ≤ s.length := by
  unfold valOf
  have hb := (suf_dw isSp s).len
  cases h : blanks s with
  | nil => simp
  | cons c r =>
    unfold blanks at h
    rw [h] at hb
    simp only [List.length_cons] at hb
    dsimp only
    split
    · have := valueTQ_len r; omega
    · simp
theorem attrFQ_len (n : Nat) : ∀ (s href : Bs) (found : Bool) (h r : Bs) (m : Nat), attrF n s href found = some (h, r) → href.length ≤ m → s.length ≤ m → h.length ≤ m := by
  induction n with
  | zero => intro s href found h r m he; simp [attrF] at he
  | succ n ih =>
    intro s href found h r m he h1 h2
    rw [attrF] at he
    have hb := (suf_dw sk2 s).len
    cases hs : s.dropWhile sk2 with
    | nil => rw [hs] at he; simp at he
    | cons c u =>
      rw [hs] at he hb
      simp only [List.length_cons] at hb
      dsimp only at he
      split at he
      · simp only [Option.some.injEq, Prod.mk.injEq] at he; obtain ⟨rfl, _⟩ := he; exact h1
      · have hu := (suf_dw nb3 u).len
        have hv := (suf_valOf (u.dropWhile nb3)).len
        have hw := valOfQ_len (u.dropWhile nb3)
        refine ih _ _ _ h r m he ?_ (by omega)
        split
        · omega
        · exact h1
theorem tagTQ_len {s name h r : Bs} (he : tagT s = some (name, h, r)) : h.length ≤ s.length := by
  unfold tagT attrT at he
  split at he
  · simp at he
  · rename_i h' r' h2
    simp only [Option.some.injEq, Prod.mk.injEq] at he
    obtain ⟨_, rfl, _⟩ := he
    exact attrFQ_len _ _ _ _ _ _ _ h2 (by simp) (dw_le _ _)
def SmT (m : Nat) (t : Tok) : Prop := t.text.length ≤ m ∧ t.href.length ≤ m
theorem pageF_small (m n : Nat) : ∀ s : Bs, s.length ≤ m → ∀ t ∈ pageF n s, SmT m t := by
  induction n with
  | zero => intro s _ t ht; simp [pageF] at ht
  | succ n ih =>
    intro s hs t ht
    rw [pageF, List.mem_append] at ht
    rcases ht with ht | ht
    · split at ht
      · simp at ht
      · simp only [List.mem_singleton] at ht
        subst ht
        have h1 := readEQ_len (s.takeWhile (· != 60))
        have h2 := twQ_le (· != 60) s
        exact ⟨Nat.le_trans h1 (Nat.le_trans h2 hs), by simp [tText]⟩
    · have hb := (suf_dw (· != 60) s).len
      cases hd : s.dropWhile (· != 60) with
      | nil => rw [hd] at ht; simp at ht
      | cons c u =>
        rw [hd] at ht hb
        simp only [List.length_cons] at hb
        dsimp only at ht
        have hO : SmT m tOther := ⟨by simp [tOther], by simp [tOther]⟩
        have h6 : SmT m (tText [60]) := ⟨by simp [tText]; omega, by simp [tText]⟩
        split at ht
        · rcases List.mem_cons.1 ht with rfl | ht
          · exact hO
          · have h1 := (show Suf (cutC (u.drop 3)) (u.drop 3) from cutC_suf _).len
            have h2 := (suf_drop 3 u).len
            exact ih _ (by omega) t ht
        · cases u with
          | nil =>
            dsimp only at ht
            rcases List.mem_cons.1 ht with rfl | ht
            · exact h6
            · exact ih _ (by simp) t ht
          | cons d v =>
            simp only [List.length_cons] at hb
            dsimp only at ht
            split at ht
            · rcases List.mem_cons.1 ht with rfl | ht
              · exact hO
              · have h1 := (suf_cut1 62 (c :: d :: v)).len
                simp only [List.length_cons] at h1
                exact ih _ (by omega) t ht
            · split at ht
              · split at ht
                · simp at ht
                · rename_i name h r he
                  have h1 := tagTQ_len he
                  have h2 := (tagT_suf he).len
                  simp only [List.length_cons] at h1 h2
                  rcases List.mem_cons.1 ht with rfl | ht
                  · have h3 := readEQ_len h
                    exact ⟨by simp, by simp only; omega⟩
                  · exact ih _ (by omega) t ht
              · split at ht
                · split at ht
                  · simp at ht
                  · rename_i name h r he
                    have h2 := (tagT_suf he).len
                    rcases List.mem_cons.1 ht with rfl | ht
                    · exact ⟨by simp, by simp⟩
                    · exact ih _ (by omega) t ht
                · rcases List.mem_cons.1 ht with rfl | ht
                  · exact h6
                  · exact ih _ (by simp only [List.length_cons]; omega) t ht
theorem page_small (s : Bs) : ∀ t ∈ pageT s, SmT s.length t := pageF_small s.length _ s (Nat.le_refl _)
theorem stepD_bold (k : Dk) (t : Tok) (m : Int) (h : 0 ≤ k.bold ∧ k.bold ≤ m ∧ 0 ≤ k.slant ∧ k.slant ≤ m) : 0 ≤ (stepD k t).bold ∧ (stepD k t).bold ≤ m + 1 ∧ 0 ≤ (stepD k t).slant ∧ (stepD k t).slant ≤ m + 1 := by
  obtain ⟨h1, h2, h3, h4⟩ := h
  have hE : ∀ k : Dk, (endD k).bold = k.bold ∧ (endD k).slant = k.slant := fun k => by unfold endD; split <;> exact ⟨rfl, rfl⟩
  unfold stepD
  split
  · split <;> (refine ⟨?_, ?_, ?_, ?_⟩ <;> (try simp only) <;> omega)
  · split
    · refine ⟨?_, ?_, ?_, ?_⟩ <;> simp only [textD] <;> omega
    · split
      · unfold openD
        split
        · simp only [(hE k).1, (hE k).2]; omega
        · split
          · first | omega | (simp only; omega)
          · split
            · first | omega | (simp only; omega)
            · split
              · first | omega | (simp only; omega)
              · split
                · simp only [(hE _).1, (hE _).2]; omega
                · split <;> first | omega | (simp only; omega)
      · split
        · unfold shutD
          split
          · simp only [(hE k).1, (hE k).2]; omega
          · split
            · first | omega | (simp only; omega)
            · split
              · first | omega | (simp only; omega)
              · split <;> first | omega | (simp only; omega)
        · omega
theorem pageQ_len (n : Nat) : ∀ s : Bs, (pageF n s).length ≤ 2 * n := by
  induction n with
  | zero => intro s; simp [pageF]
  | succ n ih =>
    intro s
    rw [pageF, List.length_append]
    have h1 : (if s.takeWhile (· != 60) = [] then [] else [tText (readE (s.takeWhile (· != 60)))]).length ≤ 1 := by split <;> simp
    have h2 : ∀ (t : Tok) (r : Bs), (t :: pageF n r).length ≤ 2 * n + 1 := fun t r => by have := ih r; simp; omega
    have h3 : (match s.dropWhile (· != 60) with
      | [] => ([] : List Tok)
      | c :: u =>
        if sCom.isPrefixOf (c :: u) = true then tOther :: pageF n (cutC (u.drop 3))
        else match u with
          | [] => tText [60] :: pageF n []
          | d :: v =>
            if d = 33 ∨ d = 63 then tOther :: pageF n (cut1 62 (c :: d :: v)).2.1
            else if isLt d = true then match tagT (d :: v) with
              | none => []
              | some (name, h, r) => ⟨2, name, [], readE h⟩ :: pageF n r
            else if d = 47 ∧ (v.head?.map isLt) = some true then match tagT v with
              | none => []
              | some (name, _, r) => ⟨3, name, [], []⟩ :: pageF n r
            else tText [60] :: pageF n (d :: v)).length ≤ 2 * n + 1 := by
      repeat' split
      all_goals first | exact h2 _ _ | simp
    exact Nat.le_trans (Nat.add_le_add h1 h3) (by omega)
theorem page_len (s : Bs) : (pageT s).length ≤ 2 * (s.length + 1) := pageQ_len _ _
end Go.Mh
