/- A document written as a page, run by run, in plain terms: it is the page. No program in sight. -/
import Derived.Test.YtjbidchdjpmonaaDoorPlY
namespace Go.Mh

/-- What is inside, and a run behind it. -/
def fl1 (inside text : Bs) (last : It) : Bs := if text = [] then inside else inside ++ run1 last text
def pageR (ls : Bool) (inside text : Bs) (last : It) : List It → Bs
  | [] => if ls = true then cls nUl else []
  | x :: d =>
    if (x.c.toNat : Int) = 10 then ulT ls (decide (x.m = 2)) ++ (opn (nameOf x.m) ++ (fl1 inside text last ++ (cls (nameOf x.m) ++ pageR (decide (x.m = 2)) [] [] last d)))
    else if text ≠ [] ∧ (x.m ≠ last.m ∨ x.l ≠ last.l) then pageR ls (inside ++ run1 last text) [x.c] x d
    else pageR ls inside (text ++ [x.c]) x d

theorem run1_same {x y : It} (hm : x.m = y.m) (hl : x.l = y.l) (t : Bs) : run1 x t = run1 y t := by
  unfold run1 tagO tagS
  rw [hm, hl]
theorem blk_same (l : List It) : ∀ {x y : It} (_ : x.m = y.m) (_ : x.l = y.l) (t : Bs), blk x t l = blk y t l := by
  induction l with
  | nil => intro x y hm hl t; exact run1_same hm hl t
  | cons z l ih =>
    intro x y hm hl t
    simp only [blk]
    rw [hm, hl, ih hm hl, run1_same hm hl]
/-- What stands in the block so far. -/
def InB (acc : List It) (inside text : Bs) (last : It) : Prop := ∀ l, blockX (acc ++ l) = inside ++ (if text = [] then blockX l else blk last text l)
theorem InB.nil (last : It) : InB [] [] [] last := fun l => by simp
theorem InB.fl {acc : List It} {inside text : Bs} {last : It} (h : InB acc inside text last) : blockX acc = fl1 inside text last := by
  have := h []
  rw [List.append_nil] at this
  rw [this]
  unfold fl1
  split <;> simp [blockX, blk]
theorem InB.brk {acc : List It} {inside text : Bs} {last x : It} (h : InB acc inside text last) (ht : text ≠ []) (hx : x.m ≠ last.m ∨ x.l ≠ last.l) : InB (acc ++ [x]) (inside ++ run1 last text) [x.c] x := fun l => by
  have hn : ¬ (x.m = last.m ∧ x.l = last.l) := fun ⟨a, b⟩ => by rcases hx with e | e; exact e a; exact e b
  rw [List.append_assoc, h]
  rw [if_neg ht, if_neg (by simp)]
  simp only [List.singleton_append, blk]
  rw [if_neg hn, List.append_assoc]
theorem InB.go {acc : List It} {inside text : Bs} {last x : It} (h : InB acc inside text last) (hx : ¬ (text ≠ [] ∧ (x.m ≠ last.m ∨ x.l ≠ last.l))) : InB (acc ++ [x]) inside (text ++ [x.c]) x := fun l => by
  rw [List.append_assoc, h]
  rw [if_neg (by simp : ¬ text ++ [x.c] = [])]
  congr 1
  by_cases ht : text = []
  · subst ht; simp [blockX]
  · rw [if_neg ht]
    have e : x.m = last.m ∧ x.l = last.l := by
      constructor
      · exact Decidable.not_not.1 fun e => hx ⟨ht, Or.inl e⟩
      · exact Decidable.not_not.1 fun e => hx ⟨ht, Or.inr e⟩
    simp only [List.singleton_append, blk]
    rw [if_pos e]
    exact (blk_same l e.1 e.2 _).symm
theorem pageR_eq (d : List It) : ∀ (ls : Bool) (acc : List It) (inside text : Bs) (last : It), InB acc inside text last → pageS ls acc d = pageR ls inside text last d := by
  induction d with
  | nil => intro ls acc inside text last h; rfl
  | cons x d ih =>
    intro ls acc inside text last h
    rw [pageS, pageR]
    split
    · rw [h.fl, ih _ [] [] [] last (InB.nil last)]
    · split
      · rename_i hx
        exact ih _ _ _ _ _ (h.brk hx.1 hx.2)
      · rename_i hx
        exact ih _ _ _ _ _ (h.go hx)
theorem law_pageR (d : List It) (last : It) : pageX d = pageR false [] [] last d := pageR_eq d false [] [] [] last (InB.nil last)
/-- A run as the document writes it: from the inside out. -/
def nest (x : It) (t : Bs) : Bs :=
  let s := writeE t
  let s := if 2 ≤ x.m then [60, 105, 62] ++ s ++ [60, 47, 105, 62] else s
  let s := if x.m % 2 = 1 then [60, 98, 62] ++ s ++ [60, 47, 98, 62] else s
  if x.l ≠ [] then [60, 97, 32, 104, 114, 101, 102, 61, 34] ++ writeE x.l ++ [34, 62] ++ s ++ [60, 47, 97, 62] else s
theorem nest_eq {x : It} (t : Bs) (h0 : 0 ≤ x.m) (h3 : x.m ≤ 3) : nest x t = run1 x t := by
  obtain ⟨c, m, l⟩ := x
  simp only at h0 h3
  unfold nest run1 tagO tagS
  have b0 : isB 0 = false := by decide
  have b1 : isB 1 = true := by decide
  have b2 : isB 2 = false := by decide
  have b3 : isB 3 = true := by decide
  have i0 : isI 0 = false := by decide
  have i1 : isI 1 = false := by decide
  have i2 : isI 2 = true := by decide
  have i3 : isI 3 = true := by decide
  rcases (by omega : m = 0 ∨ m = 1 ∨ m = 2 ∨ m = 3) with rfl | rfl | rfl | rfl <;> by_cases hl : l = [] <;> simp [hl, b0, b1, b2, b3, i0, i1, i2, i3, opn, cls, nA, nB, nI, sAo]
end Go.Mh
