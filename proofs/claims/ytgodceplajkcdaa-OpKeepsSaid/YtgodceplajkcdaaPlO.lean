/- Plain functions on parts and operations. -/
import Derived.Test.YtgodceplajkcdaaPlD
import Derived.WalkSmall
namespace Go.Mh

abbrev band (a b : Int) : Int := Go.bits Go.BinOp.and Go.IntKind.i64 a b
abbrev bor (a b : Int) : Int := Go.bits Go.BinOp.or Go.IntKind.i64 a b
abbrev bnot (a b : Int) : Int := Go.bits Go.BinOp.andNot Go.IntKind.i64 a b

/-- A part's answer: 0 (OK), 1 (ErrText), 2 (ErrMany), 3 (ErrRange), 4 (ErrForm). -/
def chkPt (p : Pt) : Int :=
  if p.k = 1 then
    if p.set < 0 ∨ 3 < p.set ∨ p.clr < 0 ∨ 3 < p.clr ∨ band p.set p.clr ≠ 0 then 3
    else if p.l ≠ [] ∧ (p.to = false ∨ may p.l = false) then 4
    else if p.n < 1 ∨ 80 < p.n then 3
    else if p.its ≠ [] then 4 else 0
  else if p.k = 2 then
    if p.its = [] ∨ 80 < p.its.length then 2
    else if chkItems p.its ≠ 0 then chkItems p.its
    else if p.n ≠ 0 ∨ p.set ≠ 0 ∨ p.clr ≠ 0 ∨ p.to = true ∨ p.l ≠ [] then 4 else 0
  else if p.k = 3 then
    if p.n < 1 ∨ 80 < p.n then 3
    else if p.set ≠ 0 ∨ p.clr ≠ 0 ∨ p.to = true ∨ p.l ≠ [] ∨ p.its ≠ [] then 4 else 0
  else 4

theorem chkPt1 (n : Int) (its : List It) (set clr : Int) (to : Bool) (l : Bs) : chkPt ⟨1, n, its, set, clr, to, l⟩ = if set < 0 ∨ 3 < set ∨ clr < 0 ∨ 3 < clr ∨ Go.bits Go.BinOp.and Go.IntKind.i64 set clr ≠ 0 then 3
    else if l ≠ [] ∧ (to = false ∨ may l = false) then 4 else if n < 1 ∨ 80 < n then 3 else if its ≠ [] then 4 else 0 := rfl
theorem chkPt2 (n : Int) (its : List It) (set clr : Int) (to : Bool) (l : Bs) : chkPt ⟨2, n, its, set, clr, to, l⟩ = if its = [] ∨ 80 < its.length then 2 else if chkItems its ≠ 0 then chkItems its
    else if n ≠ 0 ∨ set ≠ 0 ∨ clr ≠ 0 ∨ to = true ∨ l ≠ [] then 4 else 0 := rfl
theorem chkPt3 (n : Int) (its : List It) (set clr : Int) (to : Bool) (l : Bs) : chkPt ⟨3, n, its, set, clr, to, l⟩ = if n < 1 ∨ 80 < n then 3 else if set ≠ 0 ∨ clr ≠ 0 ∨ to = true ∨ l ≠ [] ∨ its ≠ [] then 4 else 0 := rfl
theorem chkPt4 (k n : Int) (its : List It) (set clr : Int) (to : Bool) (l : Bs) (h1 : ¬k = 1) (h2 : ¬k = 2) (h3 : ¬k = 3) : chkPt ⟨k, n, its, set, clr, to, l⟩ = 4 := by simp [chkPt, h1, h2, h3]

theorem band_small : ∀ a b : Fin 4, band (a.val : Int) (b.val : Int) = ((a.val &&& b.val : Nat) : Int) := by decide
theorem bor_small : ∀ a b : Fin 4, bor (a.val : Int) (b.val : Int) = ((a.val ||| b.val : Nat) : Int) := by decide
theorem bnot_small : ∀ a b : Fin 4, bnot (a.val : Int) (b.val : Int) = ((a.val - (a.val &&& b.val) : Nat) : Int) := by decide

theorem small4 {a : Int} (h0 : 0 ≤ a) (h3 : a ≤ 3) : ∃ x : Fin 4, a = (x.val : Int) := ⟨⟨a.toNat, by omega⟩, by simp; omega⟩
theorem band_nn {a b : Int} (h0 : 0 ≤ a) (h1 : a ≤ 3) (h2 : 0 ≤ b) (h3 : b ≤ 3) : 0 ≤ Go.bits Go.BinOp.and Go.IntKind.i64 a b := by
  obtain ⟨x, rfl⟩ := small4 h0 h1
  obtain ⟨y, rfl⟩ := small4 h2 h3
  have h : Go.bits Go.BinOp.and Go.IntKind.i64 (x.val : Int) (y.val : Int) = _ := band_small x y
  rw [h]
  omega

/-- Check goes on at the parts l, n items so far. -/
def chkPts : Int → List Pt → Int
  | _, [] => 0
  | n, p :: l => if chkPt p ≠ 0 then chkPt p else if 80 < n + p.n then 2 else chkPts (n + p.n) l

def chkOp (o : List Pt) : Int :=
  if o = [] ∨ 40 < o.length then 2
  else if chkPts 0 o ≠ 0 then chkPts 0 o
  else match o.getLast? with
    | none => 4
    | some p => if p.k = 1 then 0 else 4

theorem chkPt_n {p : Pt} (h : chkPt p = 0) : 0 ≤ p.n ∧ p.n ≤ 80 := by
  obtain ⟨k, n, its, set, clr, to, l⟩ := p
  simp only [chkPt] at h
  split at h
  · split at h; · simp at h
    split at h; · simp at h
    split at h; · simp at h
    simp; omega
  · split at h
    · split at h; · simp at h
      split at h; · rename_i hne; exact absurd h hne
      split at h; · simp at h
      rename_i hx
      simp at hx ⊢
      omega
    · split at h
      · split at h; · simp at h
        simp; omega
      · simp at h

theorem chkPts_step {L : List Pt} {k : Nat} {p : Pt} (n : Int) (hk : L[k]? = some p) : chkPts n (L.drop k) = if chkPt p ≠ 0 then chkPt p else if 80 < n + p.n then 2 else chkPts (n + p.n) (L.drop (k + 1)) := by
  obtain ⟨hlt, rfl⟩ := List.getElem?_eq_some_iff.1 hk
  rw [List.drop_eq_getElem_cons hlt]
  rfl

theorem chkOp_many {L : List Pt} (h : L = [] ∨ 40 < L.length) : chkOp L = 2 := by simp [chkOp, h]
theorem chkOp_bad {L : List Pt} (h : ¬(L = [] ∨ 40 < L.length)) (hb : chkPts 0 L ≠ 0) : chkOp L = chkPts 0 L := by simp only [chkOp, if_neg h, if_pos hb]
theorem chkOp_last {L : List Pt} {p : Pt} (h : ¬(L = [] ∨ 40 < L.length)) (hb : chkPts 0 L = 0) (hp : L[L.length - 1]? = some p) : chkOp L = if p.k = 1 then 0 else 4 := by
  have hl : L.getLast? = some p := by rw [List.getLast?_eq_getElem?]; exact hp
  simp only [chkOp, if_neg h, hl]
  rw [if_neg (by simp [hb])]

end Go.Mh
