/- The references on operations, row by row: they answer the same. No program in sight. -/
import Derived.Test.YtckdlhgeelhnmaaGreatPlA
namespace Go.Mh

abbrev Row := List Ac × Ac
def rowsA : List Ac → List Ac → List Row
  | _, [] => []
  | ps, .put x :: l => rowsA (ps ++ [.put x]) l
  | ps, .keep c :: l => (ps, .keep c) :: rowsA [] l
  | ps, .cut :: l => (ps, .cut) :: rowsA [] l
theorem rowsA_len (l : List Ac) (ps : List Ac) : (rowsA ps l).length = frm l := by
  induction l generalizing ps with
  | nil => rfl
  | cons a l ih => cases a <;> simp [rowsA, frm, ih]

def own2 : Ac → Ac → List Ac × List Ac
  | .keep u, .keep t => ([.keep u], [.keep (overK t u)])
  | .cut, .keep _ => ([.cut], [])
  | .keep _, .cut => ([], [.cut])
  | _, _ => ([], [])
def rowT (s t : Row) : List Ac × List Ac := (s.1 ++ List.replicate t.1.length keep0 ++ (own2 s.2 t.2).1, List.replicate s.1.length keep0 ++ t.1 ++ (own2 s.2 t.2).2)
def turnR : List Row → List Row → List Ac × List Ac
  | s :: p, t :: q => ((rowT s t).1 ++ (turnR p q).1, (rowT s t).2 ++ (turnR p q).2)
  | _, _ => ([], [])

theorem turnR_rows : ∀ a b, frm a = frm b → EndA a → EndA b → ∀ ps qs : List Ac, (qs = [] ∨ ∀ x a', a ≠ .put x :: a') →
    turnR (rowsA ps a) (rowsA qs b) = (ps ++ List.replicate qs.length keep0 ++ (turnA a b).1, List.replicate ps.length keep0 ++ qs ++ (turnA a b).2) := by
  have base : ∀ {s t : Ac} {a b : List Ac}, frm a = frm b → (∀ x, s ≠ .put x) → (∀ x, t ≠ .put x) → EndA (s :: a) → EndA (t :: b) →
      (EndA a → EndA b → ∀ ps qs : List Ac, (qs = [] ∨ ∀ x a', a ≠ .put x :: a') → turnR (rowsA ps a) (rowsA qs b) = (ps ++ List.replicate qs.length keep0 ++ (turnA a b).1, List.replicate ps.length keep0 ++ qs ++ (turnA a b).2)) →
      turnR (rowsA [] a) (rowsA [] b) = turnA a b := by
    intro s t a b hf hs ht ha hb h
    by_cases h0 : a = []
    · subst h0
      by_cases h1 : b = []
      · subst h1; rfl
      · have := (hb.tail h1).frm; simp [frm] at hf; omega
    · by_cases h1 : b = []
      · subst h1; have := (ha.tail h0).frm; simp [frm] at hf; omega
      · have := h (ha.tail h0) (hb.tail h1) [] [] (Or.inl rfl)
        simpa using this
  refine turn_ind ?_ ?_ ?_ ?_ ?_ ?_ ?_
  · intro h; exact absurd rfl h.ne
  · intro x a b _ h ha hb ps qs hq
    rcases hq with rfl | hq
    · have := h ha.not_put hb (ps ++ [.put x]) [] (Or.inl rfl)
      rw [turn_p, rowsA, this]
      simp [List.replicate_succ', keep0]
    · exact absurd rfl (hq x a)
  · intro y a b hn _ h ha hb ps qs _
    have := h ha hb.not_put ps (qs ++ [.put y]) (Or.inr hn)
    rw [turn_q hn, rowsA, this]
    simp [List.replicate_succ', keep0]
  · intro u t a b hf h ha hb ps qs _
    rw [turn_kk]
    simp only [rowsA, turnR, rowT, own2]
    rw [base hf (by simp) (by simp) ha hb h]
    simp
  · intro t a b hf h ha hb ps qs _
    rw [turn_ck]
    simp only [rowsA, turnR, rowT, own2]
    rw [base hf (by simp) (by simp) ha hb h]
    simp
  · intro u a b hf h ha hb ps qs _
    rw [turn_kc]
    simp only [rowsA, turnR, rowT, own2]
    rw [base hf (by simp) (by simp) ha hb h]
    simp
  · intro a b hf h ha hb ps qs _
    rw [turn_cc]
    simp only [rowsA, turnR, rowT, own2]
    rw [base hf (by simp) (by simp) ha hb h]
    simp

theorem turnR_eq {a b : List Ac} (hf : frm a = frm b) (ha : EndA a) (hb : EndA b) : turnR (rowsA [] a) (rowsA [] b) = turnA a b := by
  have := turnR_rows a b hf ha hb [] [] (Or.inl rfl); simpa using this

def joinC : Ac → Ac → List Ac
  | .keep u, .keep t => [.keep (bothK u t)]
  | .keep _, .cut => [.cut]
  | .put x, .keep t => [.put (markI x t)]
  | _, _ => []
def joinR : List Ac → List Row → List Ac
  | [], _ => []
  | .cut :: a, q => .cut :: joinR a q
  | s :: a, q => match q with
    | [] => []
    | t :: q => t.1 ++ joinC s t.2 ++ joinR a q

theorem joinR_rows : ∀ a b, too a = frm b → EndA a → EndA b → ∀ qs : List Ac, (qs = [] ∨ ∀ a', a ≠ .cut :: a') → joinR a (rowsA qs b) = qs ++ joinA a b := by
  have base : ∀ {s t : Ac} {a b : List Ac}, too a = frm b → EndA (s :: a) → EndA (t :: b) →
      (EndA a → EndA b → ∀ qs : List Ac, (qs = [] ∨ ∀ a', a ≠ .cut :: a') → joinR a (rowsA qs b) = qs ++ joinA a b) → joinR a (rowsA [] b) = joinA a b := by
    intro s t a b hf ha hb h
    by_cases h0 : a = []
    · subst h0
      by_cases h1 : b = []
      · subst h1; rfl
      · have := (hb.tail h1).frm; simp [too] at hf; omega
    · by_cases h1 : b = []
      · subst h1; have := (ha.tail h0).too; simp [frm] at hf; omega
      · have := h (ha.tail h0) (hb.tail h1) [] (Or.inl rfl)
        simpa using this
  refine join_ind ?_ ?_ ?_ ?_ ?_ ?_ ?_
  · intro h; exact absurd rfl h.ne
  · intro a b hf h ha hb qs hq
    rcases hq with rfl | hq
    · rw [join_c, joinR, h ha.not_cut hb [] (Or.inl rfl)]; rfl
    · exact absurd rfl (hq a)
  · intro y a b hn _ h ha hb qs _
    have := h ha hb.not_put (qs ++ [Ac.put y]) (Or.inr hn)
    rw [join_q hn, rowsA, this]
    simp
  · intro u t a b hf h ha hb qs _
    rw [join_kk]
    simp only [rowsA, joinR, joinC]
    rw [base hf ha hb h]
    simp
  · intro u a b hf h ha hb qs _
    rw [join_kc]
    simp only [rowsA, joinR, joinC]
    rw [base hf ha hb h]
    simp
  · intro x t a b hf h ha hb qs _
    rw [join_pk]
    simp only [rowsA, joinR, joinC]
    rw [base hf ha hb h]
    simp
  · intro x a b hf h ha hb qs _
    rw [join_pc]
    simp only [rowsA, joinR, joinC]
    rw [base hf ha hb h]
    simp
theorem joinR_eq {a b : List Ac} (hf : too a = frm b) (ha : EndA a) (hb : EndA b) : joinR a (rowsA [] b) = joinA a b := by
  by_cases h : ∃ a', a = .cut :: a'
  · have := joinR_rows a b hf ha hb [] (Or.inl rfl); simpa using this
  · have := joinR_rows a b hf ha hb [] (Or.inl rfl); simpa using this

/- Arithmetic of the references: what is taken off is what is set in both. -/
theorem sub_band : ∀ a b : Fin 4, (a.val : Int) - band (a.val : Int) (b.val : Int) = bnot (a.val : Int) (b.val : Int) := by decide
theorem sub_band_of {a b : Int} (h0 : 0 ≤ a) (h1 : a ≤ 3) (h2 : 0 ≤ b) (h3 : b ≤ 3) : a - band a b = bnot a b := by
  obtain ⟨x, rfl⟩ := small4 h0 h1
  obtain ⟨y, rfl⟩ := small4 h2 h3
  exact sub_band x y
end Go.Mh
