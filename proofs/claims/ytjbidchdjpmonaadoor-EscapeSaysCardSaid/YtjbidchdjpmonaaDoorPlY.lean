/- Whatever a page is, what is made of it is a document; how long a document's page is: in plain terms. No program in sight. -/
import Derived.Test.YtjbidchdjpmonaaDoorPlZ
namespace Go.Mh

theorem chr1_ok (c : UInt8) : 32 ≤ (chr1 c).toNat ∧ (chr1 c).toNat ≤ 126 := by
  unfold chr1
  split
  · decide
  · split
    · decide
    · rename_i h
      rw [UInt8.lt_iff_toNat_lt, UInt8.lt_iff_toNat_lt] at h
      have : (32 : UInt8).toNat = 32 := rfl
      have : (126 : UInt8).toNat = 126 := rfl
      omega
theorem item_mk10 {m : Int} (h0 : 0 ≤ m) (h3 : m ≤ 3) : chkItem ⟨10, m, []⟩ = 0 := by
  unfold chkItem
  have : ((10 : UInt8).toNat : Int) = 10 := rfl
  simp only [this]
  rw [if_neg (by simp), if_neg (by omega), if_neg (by simp)]
theorem item_mkc {c : UInt8} {m : Int} {l : Bs} (h : 32 ≤ c.toNat ∧ c.toNat ≤ 126) (h0 : 0 ≤ m) (h3 : m ≤ 3) (hl : l = [] ∨ may l = true) : chkItem ⟨c, m, l⟩ = 0 := by
  unfold chkItem
  simp only
  rw [if_neg (by omega), if_neg (by omega), if_neg]
  rintro ⟨h1, h2⟩
  rcases hl with hl | hl
  · exact h1 hl
  · rcases h2 with h2 | h2
    · omega
    · rw [hl] at h2; simp at h2

structure DkOk (k : Dk) : Prop where
  its : ∀ x ∈ k.d, chkItem x = 0
  k0 : 0 ≤ k.kind
  k3 : k.kind ≤ 3
  ln : k.link = [] ∨ may k.link = true
  fl : k.from' ≤ k.d.length
  fe : ∀ x, (k.d.take k.from').getLast? = some x → (x.c.toNat : Int) = 10

theorem dk0_ok : DkOk dk0 := ⟨by simp [dk0], by simp [dk0], by simp [dk0], Or.inl rfl, by simp [dk0], by simp [dk0]⟩
theorem end_ok {k : Dk} (h : DkOk k) : DkOk (endD k) ∧ (endD k).from' = (endD k).d.length := by
  unfold endD
  split
  · rename_i hc
    refine ⟨⟨fun x hx => ?_, by simp, by simp, h.ln, by simp, fun x hx => ?_⟩, by simp⟩
    · rcases List.mem_append.1 hx with hx | hx
      · exact h.its x hx
      · simp at hx; subst hx; exact item_mk10 h.k0 h.k3
    · simp only at hx
      rw [List.take_of_length_le (by simp)] at hx
      simp at hx
      rw [← hx]
      rfl
  · rename_i hc
    have := h.fl
    exact ⟨⟨h.its, by simp, by simp, h.ln, h.fl, h.fe⟩, by simp only; omega⟩
theorem clean_ok (s : Bs) : cleanT s = [] ∨ may (cleanT s) = true := by
  unfold cleanT
  split
  · rename_i h; exact Or.inr h
  · exact Or.inl rfl
theorem blockOf_range {n : Bs} {b : Int} (h : blockOf n = some b) : 0 ≤ b ∧ b ≤ 3 := by
  unfold blockOf at h
  split at h; · simp at h; omega
  split at h; · simp at h; omega
  split at h; · simp at h; omega
  split at h; · simp at h; omega
  split at h; · simp at h; omega
  simp at h
theorem step_ok {k : Dk} (h : DkOk k) (t : Tok) : DkOk (stepD k t) := by
  unfold stepD
  split
  · split
    · exact ⟨h.its, h.k0, h.k3, h.ln, h.fl, h.fe⟩
    · exact h
  · split
    · unfold textD
      refine ⟨fun x hx => ?_, h.k0, h.k3, h.ln, by have := h.fl; simp; omega, fun x hx => ?_⟩
      · rcases List.mem_append.1 hx with hx | hx
        · exact h.its x hx
        · obtain ⟨c, _, rfl⟩ := List.mem_map.1 hx
          exact item_mkc (chr1_ok c) (by unfold marksD; split <;> split <;> omega) (by unfold marksD; split <;> split <;> omega) h.ln
      · simp only at hx
        rw [List.take_append_of_le_length h.fl] at hx
        exact h.fe x hx
    · split
      · unfold openD
        obtain ⟨he, hf⟩ := end_ok h
        split
        · rename_i b hb
          obtain ⟨b0, b3⟩ := blockOf_range hb
          exact ⟨he.its, b0, b3, he.ln, he.fl, he.fe⟩
        · split
          · exact ⟨h.its, h.k0, h.k3, h.ln, h.fl, h.fe⟩
          · split
            · exact ⟨h.its, h.k0, h.k3, h.ln, h.fl, h.fe⟩
            · split
              · exact ⟨h.its, h.k0, h.k3, clean_ok _, h.fl, h.fe⟩
              · split
                · have h2 : DkOk { k with inn := true } := ⟨h.its, h.k0, h.k3, h.ln, h.fl, h.fe⟩
                  obtain ⟨he2, _⟩ := end_ok h2
                  exact ⟨he2.its, h.k0, h.k3, he2.ln, he2.fl, he2.fe⟩
                · split
                  · exact ⟨h.its, h.k0, h.k3, h.ln, h.fl, h.fe⟩
                  · exact h
      · split
        · unfold shutD
          split
          · exact (end_ok h).1
          · split
            · exact ⟨h.its, h.k0, h.k3, h.ln, h.fl, h.fe⟩
            · split
              · exact ⟨h.its, h.k0, h.k3, h.ln, h.fl, h.fe⟩
              · split
                · exact ⟨h.its, h.k0, h.k3, Or.inl rfl, h.fl, h.fe⟩
                · exact h
        · exact h

theorem fin_ok {k : Dk} (h : DkOk k) (he : (finD k).2 = 0) : chkDoc (finD k).1 = 0 := by
  obtain ⟨h1, h2⟩ := end_ok h
  unfold finD at he ⊢
  by_cases hd : (endD k).d = []
  · simp only [if_pos hd] at he ⊢
    simp
    decide
  · simp only [if_neg hd] at he ⊢
    split at he
    · simp at he
    · rename_i hl
      rw [if_neg hl]
      refine doc_mk h1.its (by simp only; omega) ?_
      have hls := List.getLast?_eq_some_getLast hd
      refine ⟨_, _, dropLast_snoc hls, h1.fe _ ?_⟩
      rw [h2, List.take_length]
      exact hls
theorem sanL_ok (l : List Tok) : ∀ k : Dk, DkOk k → (sanL k l).2 = 0 → chkDoc (sanL k l).1 = 0 := by
  induction l with
  | nil => intro k h he; exact fin_ok h he
  | cons t l ih =>
    intro k h he
    simp only [sanL] at he ⊢
    split at he
    · simp at he
    · rename_i hl
      rw [if_neg hl]
      exact ih _ (step_ok h t) he
/-- What is made of a page is a document. -/
theorem law_sane (b : Bs) (he : (sanP b).2 = 0) : chkDoc (sanP b).1 = 0 := by
  unfold sanP at he ⊢
  split at he
  · simp at he
  · rename_i hl
    rw [if_neg hl]
    exact sanL_ok _ _ dk0_ok he
theorem sanP_err (b : Bs) : (sanP b).2 = 0 ∨ sanP b = ([], 2) := by
  have hl : ∀ (l : List Tok) (k : Dk), (sanL k l).2 = 0 ∨ sanL k l = ([], 2) := by
    intro l
    induction l with
    | nil =>
      intro k
      simp only [sanL]
      unfold finD
      by_cases h : 80 < (if (endD k).d = [] then [(⟨10, 0, []⟩ : It)] else (endD k).d).length
      · rw [if_pos h]; exact Or.inr rfl
      · rw [if_neg h]; exact Or.inl rfl
    | cons t l ih => intro k; simp only [sanL]; split; exact Or.inr rfl; exact ih _
  unfold sanP
  split
  · exact Or.inr rfl
  · exact hl _ _

/- How long a page is. -/
theorem run1_len (x : It) (t : Bs) (hx : x.l.length ≤ 24) : (run1 x t).length ≤ 173 + 6 * t.length := by
  have h1 := (write_len x.l).2
  have h2 := (write_len t).2
  have e1 : (tagO x).length ≤ 161 := by
    unfold tagO
    by_cases a : x.l = [] <;> by_cases b : isB x.m = true <;> by_cases c : isI x.m = true <;> simp [a, b, c, sAo, opn, nB, nI] <;> omega
  have e2 : (tagS x).length ≤ 12 := by
    unfold tagS
    by_cases a : x.l = [] <;> by_cases b : isB x.m = true <;> by_cases c : isI x.m = true <;> simp [a, b, c, cls, nB, nI, nA]
  simp only [run1, List.length_append]
  omega
theorem blk_len (l : List It) : ∀ (cur : It) (t : Bs), cur.l.length ≤ 24 → (∀ x ∈ l, x.l.length ≤ 24) → (blk cur t l).length ≤ 173 + 6 * t.length + 179 * l.length := by
  induction l with
  | nil => intro cur t hc _; exact run1_len cur t hc
  | cons x l ih =>
    intro cur t hc hl
    have hx := hl x (List.mem_cons_self ..)
    have hlT : ∀ y ∈ l, y.l.length ≤ 24 := fun y hy => hl y (List.mem_cons_of_mem _ hy)
    unfold blk
    split
    · have := ih cur (t ++ [x.c]) hc hlT
      simp at this ⊢
      omega
    · have h1 := ih x [x.c] hx hlT
      have h2 := run1_len cur t hc
      simp at h1 ⊢
      omega
theorem blockX_len (l : List It) (hl : ∀ x ∈ l, x.l.length ≤ 24) : (blockX l).length ≤ 179 * l.length := by
  cases l with
  | nil => simp [blockX]
  | cons x l =>
    have := blk_len l x [x.c] (hl x (List.mem_cons_self ..)) (fun y hy => hl y (List.mem_cons_of_mem _ hy))
    simp [blockX] at this ⊢
    omega
theorem pageS_len (d : List It) : ∀ (list : Bool) (acc : List It), (∀ x ∈ acc, x.l.length ≤ 24) → (∀ x ∈ d, x.l.length ≤ 24) → (pageS list acc d).length ≤ 5 + 179 * (acc.length + d.length) := by
  have hn : ∀ m : Int, (nameOf m).length ≤ 2 := fun m => by unfold nameOf; split; decide; split; decide; split <;> decide
  induction d with
  | nil => intro list acc _ _; cases list <;> simp [pageS, cls, nUl]
  | cons x d ih =>
    intro list acc ha hd
    have hdT : ∀ y ∈ d, y.l.length ≤ 24 := fun y hy => hd y (List.mem_cons_of_mem _ hy)
    unfold pageS
    split
    · have h1 := ih (decide (x.m = 2)) [] (by simp) hdT
      have h2 := blockX_len acc ha
      have h3 := hn x.m
      have h4 : (ulT list (decide (x.m = 2))).length ≤ 5 := by unfold ulT; split; simp; split <;> decide
      simp [opn, cls] at h1 ⊢
      omega
    · have := ih list (acc ++ [x]) (fun y hy => by
        rcases List.mem_append.1 hy with hy | hy
        · exact ha y hy
        · simp at hy; subst hy; exact hd y (List.mem_cons_self ..)) hdT
      simp at this ⊢
      omega
theorem may_len {l : Bs} (h : may l = true) : l.length ≤ 24 := by
  unfold may at h
  simp only [Bool.and_eq_true, decide_eq_true_eq] at h
  exact h.1.1.2
theorem pageX_len {d : List It} (hd : chkDoc d = 0) : (pageX d).length ≤ 20000 := by
  obtain ⟨h1, h2, _⟩ := doc_facts hd
  have := pageS_len d false [] (by simp) (fun x hx => by
    rcases (item_parts (h1 x hx)).2.1 with e | e
    · rw [e]; simp
    · exact may_len e)
  unfold pageX
  simp at this
  omega
theorem law_backP {d : List It} (hd : chkDoc d = 0) : sanP (pageX d) = (d, 0) := by
  have := pageX_len hd
  unfold sanP
  rw [if_neg (by omega)]
  exact law_back hd
end Go.Mh
