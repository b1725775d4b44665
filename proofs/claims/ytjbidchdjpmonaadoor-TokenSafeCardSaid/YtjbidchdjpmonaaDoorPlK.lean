/- Of what is written of a document: its tags are its own, each that is opened is shut, in order; its texts are its characters. In plain terms. No program in sight. -/
import Derived.Test.YtjbidchdjpmonaaDoorPlY
namespace Go.Mh

def ownNames : List Bs := [nP, nH1, nH2, nLi, nUl, nA, nB, nI]
/-- What the law looks for, token by token: what is open, the text so far. -/
def safeT (op : List Bs) (tx : Bs) : List Tok → Option (List Bs × Bs)
  | [] => some (op, tx)
  | t :: l =>
    if t.k = 1 then safeT op (tx ++ t.text) l
    else if t.k = 2 then
      (if t.name ∉ ownNames ∨ (t.name = nA) ≠ (t.href ≠ []) ∨ (t.href ≠ [] ∧ may t.href = false) ∨ t.name ∈ op then none else safeT (op ++ [t.name]) tx l)
    else if t.k = 3 then (if op.getLast? = some t.name then safeT op.dropLast tx l else none)
    else none

theorem safe_text (op : List Bs) (tx t : Bs) (l : List Tok) : safeT op tx (tText t :: l) = safeT op (tx ++ t) l := by
  simp only [safeT]; rw [if_pos (show (tText t).k = 1 from rfl)]; rfl
theorem safe_opn {op : List Bs} {n : Bs} (tx : Bs) (l : List Tok) (h1 : n ∈ ownNames) (h2 : n ≠ nA) (h3 : n ∉ op) : safeT op tx (tkO n :: l) = safeT (op ++ [n]) tx l := by
  simp only [safeT]
  rw [if_neg (show ¬ (tkO n).k = 1 by simp [tkO]), if_pos (show (tkO n).k = 2 from rfl), if_neg]
  · rfl
  · simp [tkO, h1, h2, h3]
theorem safe_a {op : List Bs} {h : Bs} (tx : Bs) (l : List Tok) (h1 : h ≠ []) (h2 : may h = true) (h3 : nA ∉ op) : safeT op tx (tkA h :: l) = safeT (op ++ [nA]) tx l := by
  simp only [safeT]
  rw [if_neg (show ¬ (tkA h).k = 1 by simp [tkA]), if_pos (show (tkA h).k = 2 from rfl), if_neg]
  · rfl
  · have : nA ∈ ownNames := by decide
    simp [tkA, h1, h2, h3, this]
theorem safe_cls (op : List Bs) (n : Bs) (tx : Bs) (l : List Tok) : safeT (op ++ [n]) tx (tkS n :: l) = safeT op tx l := by
  simp only [safeT]
  rw [if_neg (show ¬ (tkS n).k = 1 by simp [tkS]), if_neg (show ¬ (tkS n).k = 2 by simp [tkS]), if_pos (show (tkS n).k = 3 from rfl), if_pos (by simp [tkS])]
  simp

theorem nn_ne : nA ≠ nB ∧ nA ≠ nI ∧ nB ≠ nI ∧ nB ≠ nA ∧ nI ≠ nA := by decide
theorem safe_run (op : List Bs) (tx : Bs) (x : It) (t : Bs) (l : List Tok) (ha : nA ∉ op) (hb : nB ∉ op) (hi : nI ∉ op) (hx : x.l = [] ∨ may x.l = true) : safeT op tx (tokR x t ++ l) = safeT op (tx ++ t) l := by
  obtain ⟨n1, n2, n3, n4, n5⟩ := nn_ne
  have hbm : nB ∈ ownNames := by decide
  have him : nI ∈ ownNames := by decide
  unfold tokR tokO tokS
  by_cases e1 : x.l = [] <;> by_cases e2 : isB x.m = true <;> by_cases e3 : isI x.m = true
  all_goals
    simp only [e1, e2, e3, if_true, if_false, List.nil_append, List.append_nil, List.cons_append, Bool.false_eq_true]
    try (have hm : may x.l = true := by rcases hx with h | h; exact absurd h e1; exact h)
  · rw [safe_opn _ _ hbm n4 hb, safe_opn _ _ him n5 (by simp [hi, n3.symm]), safe_text, safe_cls, safe_cls]
  · rw [safe_opn _ _ hbm n4 hb, safe_text, safe_cls]
  · rw [safe_opn _ _ him n5 hi, safe_text, safe_cls]
  · rw [safe_text]
  · rw [safe_a _ _ e1 hm ha, safe_opn _ _ hbm n4 (by simp [hb, n4]), safe_opn _ _ him n5 (by simp [hi, n5, n3.symm]), safe_text, safe_cls, safe_cls, safe_cls]
  · rw [safe_a _ _ e1 hm ha, safe_opn _ _ hbm n4 (by simp [hb, n4]), safe_text, safe_cls, safe_cls]
  · rw [safe_a _ _ e1 hm ha, safe_opn _ _ him n5 (by simp [hi, n5]), safe_text, safe_cls, safe_cls]
  · rw [safe_a _ _ e1 hm ha, safe_text, safe_cls]
theorem safe_blk (l : List It) : ∀ (op : List Bs) (tx : Bs) (cur : It) (t : Bs) (r : List Tok), nA ∉ op → nB ∉ op → nI ∉ op → (cur.l = [] ∨ may cur.l = true) → (∀ x ∈ l, x.l = [] ∨ may x.l = true) →
    safeT op tx (tokB cur t l ++ r) = safeT op (tx ++ (t ++ l.map It.c)) r := by
  induction l with
  | nil => intro op tx cur t r ha hb hi hc _; simp only [tokB, List.map_nil, List.append_nil]; exact safe_run op tx cur t r ha hb hi hc
  | cons x l ih =>
    intro op tx cur t r ha hb hi hc hl
    have hx := hl x (List.mem_cons_self ..)
    have hlT : ∀ y ∈ l, y.l = [] ∨ may y.l = true := fun y hy => hl y (List.mem_cons_of_mem _ hy)
    unfold tokB
    split
    · rw [ih _ _ _ _ _ ha hb hi hc hlT]; simp
    · rw [List.append_assoc, safe_run _ _ _ _ _ ha hb hi hc, ih _ _ _ _ _ ha hb hi hx hlT]; simp
theorem safe_block (l : List It) (op : List Bs) (tx : Bs) (r : List Tok) (ha : nA ∉ op) (hb : nB ∉ op) (hi : nI ∉ op) (hl : ∀ x ∈ l, x.l = [] ∨ may x.l = true) :
    safeT op tx (tokX l ++ r) = safeT op (tx ++ l.map It.c) r := by
  cases l with
  | nil => simp [tokX]
  | cons x l =>
    have := safe_blk l op tx x [x.c] r ha hb hi (hl x (List.mem_cons_self ..)) (fun y hy => hl y (List.mem_cons_of_mem _ hy))
    simpa [tokX] using this

/-- The characters but the ends of blocks. -/
def chars (d : List It) : Bs := (d.map It.c).filter (· != 10)
theorem safe_doc (todo : List It) : ∀ (list : Bool) (acc : List It) (tx : Bs), (∀ x ∈ acc, (x.l = [] ∨ may x.l = true) ∧ ¬ (x.c.toNat : Int) = 10) → (∀ x ∈ todo, x.l = [] ∨ may x.l = true) →
    (acc ++ todo = [] ∨ ∃ d' x, acc ++ todo = d' ++ [x] ∧ (x.c.toNat : Int) = 10) → safeT (if list = true then [nUl] else []) tx (tokP list acc todo) = some ([], tx ++ chars (acc ++ todo)) := by
  have hnm : ∀ m : Int, nameOf m ∈ ownNames ∧ nameOf m ≠ nA ∧ nameOf m ≠ nUl ∧ nA ≠ nameOf m ∧ nB ≠ nameOf m ∧ nI ≠ nameOf m := fun m => by
    unfold nameOf; split; decide; split; decide; split <;> decide
  have hu1 : nUl ∈ ownNames := by decide
  have hu2 : nUl ≠ nA ∧ nA ≠ nUl ∧ nB ≠ nUl ∧ nI ≠ nUl := by decide
  have c10 : ∀ x : It, (x.c.toNat : Int) = 10 ↔ x.c = 10 := fun x => by
    constructor
    · intro h; apply UInt8.toNat_inj.1; have : (10 : UInt8).toNat = 10 := rfl; omega
    · intro h; rw [h]; rfl
  induction todo with
  | nil =>
    intro list acc tx ha _ he
    have hacc : acc = [] := by
      rcases he with he | ⟨d', x, he, h10⟩
      · simpa using he
      · simp at he; exact absurd h10 (ha x (by rw [he]; simp)).2
    subst hacc
    cases list with
    | false => simp [tokP, safeT, chars]
    | true =>
      have := safe_cls [] nUl tx []
      simp only [List.nil_append] at this
      simp only [tokP, if_true]
      rw [this]; simp [safeT, chars]
  | cons x todo ih =>
    intro list acc tx ha hd he
    have hdT : ∀ y ∈ todo, y.l = [] ∨ may y.l = true := fun y hy => hd y (List.mem_cons_of_mem _ hy)
    have hend : (([] : List It) ++ todo = [] ∨ ∃ d' z, ([] : List It) ++ todo = d' ++ [z] ∧ (z.c.toNat : Int) = 10) := by
      by_cases ht : todo = []
      · left; simp [ht]
      · right
        rcases he with he | ⟨d', z, he, hz⟩
        · simp at he
        · have e3 := dropLast_snoc (l := todo) (q := todo.getLast ht) (List.getLast?_eq_some_getLast ht)
          have e4 : acc ++ x :: todo = (acc ++ x :: todo.dropLast) ++ [todo.getLast ht] := by
            conv => lhs; rw [e3]
            simp
          rw [he] at e4
          have e5 := List.append_inj_right' e4 rfl
          simp at e5
          exact ⟨todo.dropLast, todo.getLast ht, by rw [List.nil_append]; exact e3, by rw [← e5]; exact hz⟩
    unfold tokP
    by_cases h10 : (x.c.toNat : Int) = 10
    · rw [if_pos h10]
      obtain ⟨m1, m2, m3, m4, m5, m6⟩ := hnm x.m
      have eu : ∀ r : List Tok, safeT (if list = true then [nUl] else []) tx (tokU list (decide (x.m = 2)) ++ r) = safeT (if decide (x.m = 2) = true then [nUl] else []) tx r := fun r => by
        unfold tokU
        cases list <;> cases hm : decide (x.m = 2)
        · simp
        · simp only [Bool.false_eq_true, if_false, if_true]
          rw [if_neg (by simp), List.singleton_append, safe_opn _ _ hu1 hu2.1 (by simp)]; rfl
        · simp only [Bool.false_eq_true, if_false, if_true]
          rw [List.singleton_append]
          have := safe_cls [] nUl tx r
          simpa using this
        · simp
      have hacc : ∀ y ∈ acc, y.l = [] ∨ may y.l = true := fun y hy => (ha y hy).1
      have hop : ∀ n : Bs, n ≠ nUl → n ≠ nameOf x.m → n ∉ ((if decide (x.m = 2) = true then [nUl] else []) ++ [nameOf x.m]) := fun n h1 h2 => by
        split <;> simp [h1, h2]
      rw [eu, safe_opn _ _ m1 m2 (by split <;> simp [m3]), safe_block acc _ _ _ (hop nA hu2.2.1 m4) (hop nB hu2.2.2.1 m5) (hop nI hu2.2.2.2 m6) hacc, safe_cls, ih _ [] _ (by simp) hdT hend]
      have e1 : (acc.map It.c).filter (· != 10) = acc.map It.c := List.filter_eq_self.2 fun c hc => by
        obtain ⟨y, hy, rfl⟩ := List.mem_map.1 hc
        have := (ha y hy).2
        rw [c10] at this
        simpa using this
      have hx10 := (c10 x).1 h10
      simp only [chars, List.map_append, List.filter_append, List.map_cons, List.filter_cons, hx10, e1]
      simp
    · rw [if_neg h10, ih list (acc ++ [x]) tx (fun y hy => by
        rcases List.mem_append.1 hy with hy | hy
        · exact ha y hy
        · simp at hy; subst hy; exact ⟨hd y (List.mem_cons_self ..), h10⟩) hdT (by simpa using he)]
      simp
theorem law_safe {d : List It} (hd : chkDoc d = 0) : safeT [] [] (pageT (pageX d)) = some ([], chars d) := by
  obtain ⟨h1, h2, d', x, h3, h4⟩ := doc_facts hd
  rw [page_pageX hd]
  have := safe_doc d false [] [] (by simp) (fun x hx => (item_parts (h1 x hx)).2.1) (Or.inr ⟨d', x, by simpa using h3, h4⟩)
  simpa using this
end Go.Mh
