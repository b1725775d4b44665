/- Made: what holds ahead of each round. Plain. -/
import Derived.Test.YtgodceplajkcdaaPlC
namespace Go.Mh

/-- Parts that Made is called with. -/
structure Lok (L : List Pt) : Prop where
  fm : ∀ p ∈ L, Fm p
  keep : ∀ p ∈ L, p.k = 1 → 0 < p.n
  len : L.length ≤ 1000
  n : ∀ p ∈ L, p.n ≤ 100
  its : ∀ p ∈ L, p.its.length ≤ 100

theorem Fm.n0 {p : Pt} (h : Fm p) : 0 ≤ p.n := by
  rcases h with ⟨c, n, h, rfl⟩ | ⟨l, rfl⟩ | ⟨n, h, rfl⟩
  · exact h
  · exact Int.le_refl _
  · exact h
theorem Fm.its0 {p : Pt} (h : Fm p) (hk : p.k ≠ 2) : p.its = [] := by
  rcases h with ⟨c, n, h, rfl⟩ | ⟨l, rfl⟩ | ⟨n, h, rfl⟩
  · rfl
  · exact absurd rfl hk
  · rfl

/-- What is made so far holds numbers of at most N. -/
def Low (O : List Pt) (N : Nat) : Prop := ∀ q ∈ O, q.k ≠ 2 → q.its = [] ∧ 0 ≤ q.n ∧ q.n ≤ (N : Int)
theorem Low.mono {O : List Pt} {N M : Nat} (h : Low O N) (hm : N ≤ M) : Low O M := fun q hq hk => by obtain ⟨h1, h2, h3⟩ := h q hq hk; exact ⟨h1, h2, by omega⟩
theorem alike_k {a b : Pt} (h : alikeP a b = true) : a.k = b.k := by simp [alikeP] at h; exact h.1.1.1.1

theorem addP_low {O : List Pt} {N M : Nat} {p : Pt} (h : Low O N) (hp : p.k ≠ 2 → p.its = [] ∧ 0 ≤ p.n ∧ p.n ≤ (M : Int)) : Low (addP O p) (N + M) := by
  have h' : Low O (N + M) := h.mono (by omega)
  unfold addP
  split
  · exact h'
  · split
    · rename_i q hq
      split
      · rename_i ha
        intro r hr hk
        rw [List.mem_append, List.mem_singleton] at hr
        rcases hr with hr | rfl
        · exact h' r (List.dropLast_subset _ hr) hk
        · simp only at hk ⊢
          obtain ⟨h1, h2, h3⟩ := h q (List.mem_of_getLast? hq) hk
          obtain ⟨g1, g2, g3⟩ := hp (by rw [← alike_k ha]; exact hk)
          exact ⟨by rw [h1, g1]; rfl, by omega, by omega⟩
      · intro r hr hk
        rw [List.mem_append, List.mem_singleton] at hr
        rcases hr with hr | rfl
        · exact h' r hr hk
        · obtain ⟨g1, g2, g3⟩ := hp hk
          exact ⟨g1, g2, by omega⟩
    · intro r hr hk
      rw [List.mem_append, List.mem_singleton] at hr
      rcases hr with hr | rfl
      · exact h' r hr hk
      · obtain ⟨g1, g2, g3⟩ := hp hk
        exact ⟨g1, g2, by omega⟩
theorem addP_len (O : List Pt) (p : Pt) : (addP O p).length ≤ O.length + 1 := by
  unfold addP
  split
  · omega
  · split
    · split
      · simp
      · simp
    · simp
theorem addP_last {O : List Pt} {p r : Pt} (h : (addP O p).getLast? = some r) : O.getLast? = some r ∨ r.k = p.k := by
  unfold addP at h
  split at h
  · exact Or.inl h
  · split at h
    · split at h
      · rename_i ha
        simp at h
        rw [← h]
        exact Or.inr (alike_k ha)
      · simp at h
        rw [← h]
        exact Or.inr rfl
    · simp at h
      rw [← h]
      exact Or.inr rfl
theorem addP_keepEnds {O : List Pt} {p : Pt} (hk : p.k = 1) (hn : 0 < p.n) : EndsK (addP O p) := by
  intro r hr
  unfold addP at hr
  rw [if_neg (by rintro (⟨_, h⟩ | ⟨h, _⟩) <;> omega)] at hr
  split at hr
  · split at hr
    · rename_i ha
      simp at hr
      rw [← hr]
      exact (alike_k ha).trans hk
    · simp at hr
      rw [← hr]
      exact hk
  · simp at hr
    rw [← hr]
    exact hk

structure MadeI (L O : List Pt) (i : Nat) : Prop where
  le : i ≤ L.length
  eq : mk2 O [] 0 (L.drop i) = madeP L
  len : O.length ≤ 2 * i
  low : Low O (100 * i)
  ends : ∀ p, L[i]? = some p → p.k ≠ 1 → EndsK O

structure MadeJ (L O : List Pt) (i j : Nat) (its : List It) (n : Int) : Prop where
  ij : i ≤ j
  le : j ≤ L.length
  eq : mk2 O its n (L.drop j) = madeP L
  len : O.length ≤ 2 * i
  low : Low O (100 * i)
  ends : EndsK O
  il : its.length + 100 * i ≤ 100 * j
  n0 : 0 ≤ n
  n1 : n + 100 * i ≤ 100 * j

theorem drop_at {α : Type} {L : List α} {i : Nat} {p : α} (h : L[i]? = some p) : L.drop i = p :: L.drop (i + 1) := by
  obtain ⟨hl, rfl⟩ := List.getElem?_eq_some_iff.1 h
  exact List.drop_eq_getElem_cons hl

theorem made_start (L : List Pt) : MadeI L [] 0 := ⟨Nat.zero_le _, rfl, Nat.le_refl _, fun q hq => by simp at hq, fun p _ _ q hq => by simp at hq⟩
theorem made_end {L O : List Pt} (h : MadeI L O L.length) : O = madeP L := by
  have := h.eq
  rw [List.drop_length] at this
  simpa [mk2, addP_put_nil, addP_cut_zero] using this
theorem made_keep {L O : List Pt} {i : Nat} {p : Pt} (hL : Lok L) (h : MadeI L O i) (hp : L[i]? = some p) (hk : p.k = 1) : MadeI L (addP O p) (i + 1) := by
  have hm := List.mem_of_getElem? hp
  have hl := (List.getElem?_eq_some_iff.1 hp).1
  refine ⟨hl, ?_, by have := addP_len O p; have := h.len; omega, ?_, fun _ _ _ => addP_keepEnds hk (hL.keep p hm hk)⟩
  · have := h.eq
    rw [drop_at hp] at this
    simpa [mk2, hk, addP_put_nil, addP_cut_zero] using this
  · exact addP_low (M := 100) h.low fun h2 => ⟨(hL.fm p hm).its0 h2, (hL.fm p hm).n0, hL.n p hm⟩
theorem made_open {L O : List Pt} {i : Nat} {p : Pt} (h : MadeI L O i) (hp : L[i]? = some p) (hk : p.k ≠ 1) : MadeJ L O i i [] 0 :=
  ⟨Nat.le_refl _, h.le, h.eq, h.len, h.low, h.ends p hp hk, by simp, Int.le_refl _, by simp⟩
theorem made_step {L O : List Pt} {i j : Nat} {its : List It} {n : Int} {p : Pt} (hL : Lok L) (h : MadeJ L O i j its n) (hp : L[j]? = some p) (hk : p.k ≠ 1) : MadeJ L O i (j + 1) (its ++ p.its) (n + p.n) := by
  have hm := List.mem_of_getElem? hp
  have hl := (List.getElem?_eq_some_iff.1 hp).1
  have h1 := hL.n p hm
  have h2 := hL.its p hm
  have h3 := (hL.fm p hm).n0
  have h4 := h.il
  have h5 := h.n1
  have h6 := h.ij
  refine ⟨by omega, hl, ?_, h.len, h.low, h.ends, by simp; omega, by have := h.n0; omega, by omega⟩
  have := h.eq
  rw [drop_at hp] at this
  simpa [mk2, hk] using this
theorem made_shut {L O : List Pt} {i j : Nat} {its : List It} {n : Int} (h : MadeJ L O i j its n) (hij : i < j) (hx : ∀ p, L[j]? = some p → p.k = 1) : MadeI L (addP (addP O (putP its)) (cutP n)) j := by
  refine ⟨h.le, ?_, ?_, ?_, fun p hp hk => absurd (hx p hp) hk⟩
  · rw [← h.eq]
    rcases Nat.lt_or_ge j L.length with hl | hl
    · obtain ⟨p, hp⟩ : ∃ p, L[j]? = some p := ⟨_, List.getElem?_eq_getElem hl⟩
      rw [drop_at hp, mk2_keep O its n p _ (hx p hp)]
    · rw [List.drop_eq_nil_of_le hl, mk2_end O its n]
  · have h1 := addP_len (addP O (putP its)) (cutP n)
    have h2 := addP_len O (putP its)
    have := h.len
    omega
  · have h1 := addP_low (p := putP its) (M := 0) h.low fun hk => absurd rfl hk
    have hn := h.n0
    have hn1 := h.n1
    have h2 := addP_low (p := cutP n) (M := n.toNat) h1 fun _ => ⟨rfl, hn, by simp only [cutP]; omega⟩
    exact h2.mono (by omega)
theorem made_keep_q {L O : List Pt} {i : Nat} {p : Pt} (hL : Lok L) (h : MadeI L O i) (hk : p.k = 1) : ∀ q, O.getLast? = some q → alikeP q p = true → p.k ≠ 2 ∧ q.its = [] ∧ 0 ≤ q.n ∧ q.n ≤ 1000000 := fun q hq ha => by
  have hk2 : q.k ≠ 2 := by rw [alike_k ha]; omega
  obtain ⟨h1, h2, h3⟩ := h.low q (List.mem_of_getLast? hq) hk2
  have := h.le
  have := hL.len
  exact ⟨by omega, h1, h2, by omega⟩
theorem made_put_q {L O : List Pt} {i j : Nat} {its : List It} {n : Int} (h : MadeJ L O i j its n) : ∀ q, O.getLast? = some q → alikeP q (putP its) = true → (putP its).k ≠ 2 ∧ q.its = [] ∧ 0 ≤ q.n ∧ q.n ≤ 1000000 := fun q hq ha => by
  have h1 := alike_k ha
  rw [h.ends q hq] at h1
  simp [putP] at h1
theorem made_cut_q {L O : List Pt} {i j : Nat} {its : List It} {n : Int} (h : MadeJ L O i j its n) : ∀ q, (addP O (putP its)).getLast? = some q → alikeP q (cutP n) = true → (cutP n).k ≠ 2 ∧ q.its = [] ∧ 0 ≤ q.n ∧ q.n ≤ 1000000 := fun q hq ha => by
  have h1 := alike_k ha
  rcases addP_last hq with h2 | h2
  · rw [h.ends q h2] at h1
    simp [cutP] at h1
  · rw [h2] at h1
    simp [cutP, putP] at h1
end Go.Mh
