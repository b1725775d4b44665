/- Documents written as pages, and what such a page is taken apart to, in plain terms. No program in sight. -/
import Derived.Test.YtjbidchdjpmonaaDoorPlX
import Derived.Test.YtjbidchdjpmonaaDoorPlA
namespace Go.Mh

def nP : Bs := [112]
def nH1 : Bs := [104, 49]
def nLi : Bs := [108, 105]
def nH2 : Bs := [104, 50]
def nUl : Bs := [117, 108]
def nA : Bs := [97]
def nB : Bs := [98]
def nI : Bs := [105]
def nameOf (m : Int) : Bs := if m = 0 then nP else if m = 1 then nH1 else if m = 2 then nLi else nH2
def opn (n : Bs) : Bs := 60 :: (n ++ [62])
def cls (n : Bs) : Bs := 60 :: 47 :: (n ++ [62])
def sAo : Bs := [60, 97, 32, 104, 114, 101, 102, 61, 34]
def isB (m : Int) : Bool := band m 1 != 0
def isI (m : Int) : Bool := band m 2 != 0
def tagO (x : It) : Bs := (if x.l = [] then [] else sAo ++ (writeE x.l ++ [34, 62])) ++ ((if isB x.m = true then opn nB else []) ++ (if isI x.m = true then opn nI else []))
def tagS (x : It) : Bs := (if isI x.m = true then cls nI else []) ++ ((if isB x.m = true then cls nB else []) ++ (if x.l = [] then [] else cls nA))
def run1 (x : It) (t : Bs) : Bs := tagO x ++ (writeE t ++ tagS x)
def blk (cur : It) (t : Bs) : List It → Bs
  | [] => run1 cur t
  | x :: l => if x.m = cur.m ∧ x.l = cur.l then blk cur (t ++ [x.c]) l else run1 cur t ++ blk x [x.c] l
def blockX : List It → Bs
  | [] => []
  | x :: l => blk x [x.c] l
def ulT (list is : Bool) : Bs := if is = list then [] else if is = true then opn nUl else cls nUl
def pageS (list : Bool) (acc : List It) : List It → Bs
  | [] => if list = true then cls nUl else []
  | x :: d => if (x.c.toNat : Int) = 10 then ulT list (decide (x.m = 2)) ++ (opn (nameOf x.m) ++ (blockX acc ++ (cls (nameOf x.m) ++ pageS (decide (x.m = 2)) [] d))) else pageS list (acc ++ [x]) d
def pageX (d : List It) : Bs := pageS false [] d

/- What it is taken apart to. -/
def tkO (n : Bs) : Tok := ⟨2, n, [], []⟩
def tkS (n : Bs) : Tok := ⟨3, n, [], []⟩
def tkA (l : Bs) : Tok := ⟨2, nA, [], l⟩
def tokO (x : It) : List Tok := (if x.l = [] then [] else [tkA x.l]) ++ ((if isB x.m = true then [tkO nB] else []) ++ (if isI x.m = true then [tkO nI] else []))
def tokS (x : It) : List Tok := (if isI x.m = true then [tkS nI] else []) ++ ((if isB x.m = true then [tkS nB] else []) ++ (if x.l = [] then [] else [tkS nA]))
def tokR (x : It) (t : Bs) : List Tok := tokO x ++ (tText t :: tokS x)
def tokB (cur : It) (t : Bs) : List It → List Tok
  | [] => tokR cur t
  | x :: l => if x.m = cur.m ∧ x.l = cur.l then tokB cur (t ++ [x.c]) l else tokR cur t ++ tokB x [x.c] l
def tokX : List It → List Tok
  | [] => []
  | x :: l => tokB x [x.c] l
def tokU (list is : Bool) : List Tok := if is = list then [] else if is = true then [tkO nUl] else [tkS nUl]
def tokP (list : Bool) (acc : List It) : List It → List Tok
  | [] => if list = true then [tkS nUl] else []
  | x :: d => if (x.c.toNat : Int) = 10 then tokU list (decide (x.m = 2)) ++ (tkO (nameOf x.m) :: (tokX acc ++ (tkS (nameOf x.m) :: tokP (decide (x.m = 2)) [] d))) else tokP list (acc ++ [x]) d

/-- A name of a tag. -/
def NameOk (n : Bs) : Prop := ∃ c r, n = c :: r ∧ isLt c = true ∧ n.all nb2 = true ∧ lower n = n
theorem name_ok : NameOk nP ∧ NameOk nH1 ∧ NameOk nLi ∧ NameOk nH2 ∧ NameOk nUl ∧ NameOk nA ∧ NameOk nB ∧ NameOk nI := by
  refine ⟨⟨_, _, rfl, ?_⟩, ⟨_, _, rfl, ?_⟩, ⟨_, _, rfl, ?_⟩, ⟨_, _, rfl, ?_⟩, ⟨_, _, rfl, ?_⟩, ⟨_, _, rfl, ?_⟩, ⟨_, _, rfl, ?_⟩, ⟨_, _, rfl, ?_⟩⟩ <;> decide
theorem nameOf_ok (m : Int) : NameOk (nameOf m) := by
  obtain ⟨h1, h2, h3, h4, _⟩ := name_ok
  unfold nameOf
  split; exact h1
  split; exact h2
  split; exact h3
  exact h4

theorem tw_stop {p : UInt8 → Bool} {n : Bs} (h : n.all p = true) {c : UInt8} (hc : p c = false) (r : Bs) : (n ++ c :: r).takeWhile p = n ∧ (n ++ c :: r).dropWhile p = c :: r := by
  induction n with
  | nil => simp [hc]
  | cons a n ih =>
    simp only [List.all_cons, Bool.and_eq_true] at h
    obtain ⟨i1, i2⟩ := ih h.2
    simp [h.1, i1, i2]

theorem attr_shut (r href : Bs) (found : Bool) : attrT (62 :: r) href found = some (href, r) := by
  rw [attrT_eq]
  have : (62 :: r : Bs).dropWhile sk2 = 62 :: r := by simp [sk2, isSp]
  rw [this]
  simp

theorem page_lt (u : Bs) : pageT (60 :: u) = markT (60 :: u) := by
  rw [pageT_eq]; simp
theorem lt_ne {c : UInt8} (h : isLt c = true) : c ≠ 33 ∧ c ≠ 63 ∧ c ≠ 47 := by
  refine ⟨?_, ?_, ?_⟩ <;> (rintro rfl; exact absurd h (by decide))

theorem page_opn {n : Bs} (h : NameOk n) (r : Bs) : pageT (opn n ++ r) = tkO n :: pageT r := by
  obtain ⟨c, m, rfl, hc, ha, hl⟩ := h
  obtain ⟨t1, t2⟩ := tw_stop ha (c := 62) (by decide) r
  have htag : tagT (c :: m ++ 62 :: r) = some (c :: m, [], r) := by
    unfold tagT
    rw [t1, t2, attr_shut, hl]
  obtain ⟨g1, g2, _⟩ := lt_ne hc
  have hs : opn (c :: m) ++ r = 60 :: (c :: m ++ 62 :: r) := by simp [opn]
  rw [hs, page_lt]
  have hcom : sCom.isPrefixOf (60 :: (c :: m ++ 62 :: r)) = false := by
    have : ((33 : UInt8) == c) = false := by simpa using fun e => g1 e.symm
    simp [sCom, List.isPrefixOf, this]
  simp only [List.cons_append] at htag hcom ⊢
  simp only [markT]
  rw [if_neg (by rw [hcom]; simp), if_neg (by simp [g1, g2]), if_pos hc, htag]
  rfl

theorem page_cls {n : Bs} (h : NameOk n) (r : Bs) : pageT (cls n ++ r) = tkS n :: pageT r := by
  obtain ⟨c, m, rfl, hc, ha, hl⟩ := h
  obtain ⟨t1, t2⟩ := tw_stop ha (c := 62) (by decide) r
  have htag : tagT (c :: m ++ 62 :: r) = some (c :: m, [], r) := by
    unfold tagT
    rw [t1, t2, attr_shut, hl]
  have hs : cls (c :: m) ++ r = 60 :: 47 :: (c :: m ++ 62 :: r) := by simp [cls]
  rw [hs, page_lt]
  have hcom : sCom.isPrefixOf (60 :: 47 :: (c :: m ++ 62 :: r)) = false := by simp [sCom, List.isPrefixOf]
  simp only [List.cons_append] at htag hcom ⊢
  simp only [markT]
  rw [if_neg (by rw [hcom]; simp), if_neg (by decide), if_neg (by decide), if_pos (by simp [hc]), htag]
  rfl

theorem page_a (l r : Bs) : pageT (sAo ++ (writeE l ++ [34, 62]) ++ r) = tkA l :: pageT r := by
  have h34 := (write_safe l).2.2
  have hs : sAo ++ (writeE l ++ [34, 62]) ++ r = 60 :: 97 :: 32 :: 104 :: 114 :: 101 :: 102 :: 61 :: 34 :: (writeE l ++ 34 :: 62 :: r) := by simp [sAo]
  have hcut : cut1 34 (writeE l ++ 34 :: 62 :: r) = (writeE l, 62 :: r, true) := by
    have hall : (writeE l).all (· != 34) = true := by
      rw [List.all_eq_true]; intro x hx; simp; rintro rfl; exact h34 hx
    obtain ⟨t1, t2⟩ := tw_stop hall (c := 34) (by simp) (62 :: r)
    unfold cut1
    rw [if_pos (by simp), t1, t2]
    rfl
  have hval : valOf (61 :: 34 :: (writeE l ++ 34 :: 62 :: r)) = (writeE l, 62 :: r) := by
    have b1 : blanks (61 :: 34 :: (writeE l ++ 34 :: 62 :: r)) = 61 :: 34 :: (writeE l ++ 34 :: 62 :: r) := by simp [blanks, isSp]
    have b2 : blanks (34 :: (writeE l ++ 34 :: 62 :: r)) = 34 :: (writeE l ++ 34 :: 62 :: r) := by simp [blanks, isSp]
    unfold valOf
    rw [b1]
    simp only
    unfold valueT
    rw [b2]
    simp [hcut]
  have hattr : attrT (32 :: 104 :: 114 :: 101 :: 102 :: 61 :: 34 :: (writeE l ++ 34 :: 62 :: r)) [] false = some (writeE l, r) := by
    rw [attrT_eq]
    have e1 : (32 :: 104 :: 114 :: 101 :: 102 :: 61 :: 34 :: (writeE l ++ 34 :: 62 :: r) : Bs).dropWhile sk2 = 104 :: 114 :: 101 :: 102 :: 61 :: 34 :: (writeE l ++ 34 :: 62 :: r) := by simp [sk2, isSp]
    have e2 : (114 :: 101 :: 102 :: 61 :: 34 :: (writeE l ++ 34 :: 62 :: r) : Bs).dropWhile nb3 = 61 :: 34 :: (writeE l ++ 34 :: 62 :: r) := by simp [nb3, isSp]
    have e3 : (114 :: 101 :: 102 :: 61 :: 34 :: (writeE l ++ 34 :: 62 :: r) : Bs).takeWhile nb3 = [114, 101, 102] := by simp [nb3, isSp]
    have e4 : lower [104, 114, 101, 102] = sHref := by decide
    rw [e1]
    simp only
    rw [e2, e3, hval, e4, if_neg (by decide)]
    simp [attr_shut]
  have htag : tagT (97 :: 32 :: 104 :: 114 :: 101 :: 102 :: 61 :: 34 :: (writeE l ++ 34 :: 62 :: r)) = some (nA, writeE l, r) := by
    have e1 : (97 :: 32 :: 104 :: 114 :: 101 :: 102 :: 61 :: 34 :: (writeE l ++ 34 :: 62 :: r) : Bs).dropWhile nb2 = 32 :: 104 :: 114 :: 101 :: 102 :: 61 :: 34 :: (writeE l ++ 34 :: 62 :: r) := by simp [nb2, isSp]
    have e2 : (97 :: 32 :: 104 :: 114 :: 101 :: 102 :: 61 :: 34 :: (writeE l ++ 34 :: 62 :: r) : Bs).takeWhile nb2 = [97] := by simp [nb2, isSp]
    have e3 : lower [97] = nA := by decide
    unfold tagT
    rw [e1, e2, hattr, e3]
  rw [hs, page_lt]
  have hcom : sCom.isPrefixOf (60 :: 97 :: 32 :: 104 :: 114 :: 101 :: 102 :: 61 :: 34 :: (writeE l ++ 34 :: 62 :: r)) = false := by simp [sCom, List.isPrefixOf]
  simp only [markT]
  rw [if_neg (by rw [hcom]; simp), if_neg (by decide), if_pos (by decide), htag]
  simp [tkA, read_write]

/-- What begins with a sign that opens. -/
def Lt0 (s : Bs) : Prop := ∃ r, s = 60 :: r
theorem page_text {t r : Bs} (ht : t ≠ []) (hr : Lt0 r) : pageT (writeE t ++ r) = tText t :: pageT r := by
  obtain ⟨r', rfl⟩ := hr
  have hall : (writeE t).all (· != 60) = true := by
    rw [List.all_eq_true]; intro x hx; simp; rintro rfl; exact (write_safe t).1 hx
  obtain ⟨t1, t2⟩ := tw_stop hall (c := 60) (by simp) r'
  rw [pageT_eq, t1, t2, if_neg (write_ne ht), read_write, pageT_eq (60 :: r')]
  simp

theorem isBI : ∀ m : Fin 4, (m.val = 0 ↔ (isB (m.val : Int) = false ∧ isI (m.val : Int) = false)) := by decide
theorem plainM {m : Int} (h0 : 0 ≤ m) (h3 : m ≤ 3) (hb : isB m = false) (hi : isI m = false) : m = 0 := by
  obtain ⟨x, rfl⟩ := small4 h0 h3
  have := (isBI x).2 ⟨hb, hi⟩
  omega

theorem tagS_lt (x : It) (r : Bs) (h : Lt0 r) : Lt0 (tagS x ++ r) := by
  unfold tagS
  by_cases h1 : isI x.m = true
  · exact ⟨_, by simp [h1, cls]; rfl⟩
  · by_cases h2 : isB x.m = true
    · exact ⟨_, by simp [h1, h2, cls]; rfl⟩
    · by_cases h3 : x.l = []
      · simpa [h1, h2, h3] using h
      · exact ⟨_, by simp [h1, h2, h3, cls]; rfl⟩
theorem tagO_lt (x : It) (r : Bs) (h : ¬ (x.m = 0 ∧ x.l = [])) (hx : x.Mk) : Lt0 (tagO x ++ r) := by
  unfold tagO
  by_cases h1 : x.l = []
  · by_cases h2 : isB x.m = true
    · exact ⟨_, by simp [h1, h2, opn]; rfl⟩
    · by_cases h3 : isI x.m = true
      · exact ⟨_, by simp [h1, h2, h3, opn]; rfl⟩
      · exact absurd ⟨plainM hx.1 hx.2 (by simpa using h2) (by simpa using h3), h1⟩ h
  · exact ⟨_, by simp [h1, sAo]; rfl⟩
theorem tagS_lt2 (x : It) (r : Bs) (h : ¬ (x.m = 0 ∧ x.l = [])) (hx : x.Mk) : Lt0 (tagS x ++ r) := by
  unfold tagS
  by_cases h1 : isI x.m = true
  · exact ⟨_, by simp [h1, cls]; rfl⟩
  · by_cases h2 : isB x.m = true
    · exact ⟨_, by simp [h1, h2, cls]; rfl⟩
    · by_cases h3 : x.l = []
      · exact absurd ⟨plainM hx.1 hx.2 (by simpa using h2) (by simpa using h1), h3⟩ h
      · exact ⟨_, by simp [h1, h2, h3, cls]; rfl⟩

theorem page_tagO (x : It) (r : Bs) : pageT (tagO x ++ r) = tokO x ++ pageT r := by
  obtain ⟨_, _, _, _, _, _, hb, hi⟩ := name_ok
  have e3 : ∀ s : Bs, pageT ((if isI x.m = true then opn nI else []) ++ s) = (if isI x.m = true then [tkO nI] else []) ++ pageT s := fun s => by
    by_cases h : isI x.m = true
    · simp only [if_pos h]; rw [page_opn hi]; rfl
    · simp [h]
  have e2 : ∀ s : Bs, pageT ((if isB x.m = true then opn nB else []) ++ s) = (if isB x.m = true then [tkO nB] else []) ++ pageT s := fun s => by
    by_cases h : isB x.m = true
    · simp only [if_pos h]; rw [page_opn hb]; rfl
    · simp [h]
  have e1 : ∀ s : Bs, pageT ((if x.l = [] then [] else sAo ++ (writeE x.l ++ [34, 62])) ++ s) = (if x.l = [] then [] else [tkA x.l]) ++ pageT s := fun s => by
    by_cases h : x.l = []
    · simp [h]
    · simp only [if_neg h]; rw [page_a]; rfl
  unfold tagO tokO
  rw [List.append_assoc, e1, List.append_assoc, e2, e3]
  simp
theorem page_tagS (x : It) (r : Bs) : pageT (tagS x ++ r) = tokS x ++ pageT r := by
  obtain ⟨_, _, _, _, _, ha, hb, hi⟩ := name_ok
  have e3 : ∀ s : Bs, pageT ((if isI x.m = true then cls nI else []) ++ s) = (if isI x.m = true then [tkS nI] else []) ++ pageT s := fun s => by
    by_cases h : isI x.m = true
    · simp only [if_pos h]; rw [page_cls hi]; rfl
    · simp [h]
  have e2 : ∀ s : Bs, pageT ((if isB x.m = true then cls nB else []) ++ s) = (if isB x.m = true then [tkS nB] else []) ++ pageT s := fun s => by
    by_cases h : isB x.m = true
    · simp only [if_pos h]; rw [page_cls hb]; rfl
    · simp [h]
  have e1 : ∀ s : Bs, pageT ((if x.l = [] then [] else cls nA) ++ s) = (if x.l = [] then [] else [tkS nA]) ++ pageT s := fun s => by
    by_cases h : x.l = []
    · simp [h]
    · simp only [if_neg h]; rw [page_cls ha]; rfl
  unfold tagS tokS
  rw [List.append_assoc, e3, List.append_assoc, e2, e1]
  simp
theorem page_run (x : It) {t r : Bs} (ht : t ≠ []) (hr : Lt0 (tagS x ++ r)) : pageT (run1 x t ++ r) = tokR x t ++ pageT r := by
  unfold run1 tokR
  rw [List.append_assoc, page_tagO, List.append_assoc, page_text ht hr, page_tagS]
  simp

theorem blk_lt (cur : It) (t : Bs) (l : List It) (r : Bs) (h : ¬ (cur.m = 0 ∧ cur.l = [])) (hx : cur.Mk) : Lt0 (blk cur t l ++ r) := by
  induction l generalizing t with
  | nil =>
    obtain ⟨s, hs⟩ := tagO_lt cur (writeE t ++ tagS cur ++ r) h hx
    exact ⟨s, by rw [← hs]; simp [blk, run1]⟩
  | cons x l ih =>
    unfold blk
    split
    · exact ih _
    · obtain ⟨s, hs⟩ := tagO_lt cur (writeE t ++ tagS cur ++ (blk x [x.c] l ++ r)) h hx
      exact ⟨s, by rw [← hs]; simp [run1]⟩
theorem page_blk (cur : It) (t : Bs) (l : List It) (r : Bs) (ht : t ≠ []) (hc : cur.Mk) (hl : ∀ x ∈ l, x.Mk) (hr : Lt0 r) : pageT (blk cur t l ++ r) = tokB cur t l ++ pageT r := by
  induction l generalizing cur t with
  | nil => exact page_run cur ht (tagS_lt cur r hr)
  | cons x l ih =>
    have hx := hl x (List.mem_cons_self ..)
    have hlT : ∀ y ∈ l, y.Mk := fun y hy => hl y (List.mem_cons_of_mem _ hy)
    unfold blk tokB
    by_cases h : x.m = cur.m ∧ x.l = cur.l
    · rw [if_pos h, if_pos h]; exact ih cur _ (by simp) hc hlT
    · rw [if_neg h, if_neg h, List.append_assoc, List.append_assoc, ← ih x [x.c] (by simp) hx hlT]
      refine page_run cur ht ?_
      by_cases hp : cur.m = 0 ∧ cur.l = []
      · have hxp : ¬ (x.m = 0 ∧ x.l = []) := fun e => h ⟨by rw [e.1, hp.1], by rw [e.2, hp.2]⟩
        exact tagS_lt cur _ (blk_lt x _ l r hxp hx)
      · exact tagS_lt2 cur _ hp hc
theorem page_block (l : List It) (r : Bs) (hl : ∀ x ∈ l, x.Mk) (hr : Lt0 r) : pageT (blockX l ++ r) = tokX l ++ pageT r := by
  cases l with
  | nil => rfl
  | cons x l => exact page_blk x [x.c] l r (by simp) (hl x (List.mem_cons_self ..)) (fun y hy => hl y (List.mem_cons_of_mem _ hy)) hr

theorem page_pageS (d : List It) : ∀ (list : Bool) (acc : List It), (∀ x ∈ acc, x.Mk) → (∀ x ∈ d, x.Mk) → pageT (pageS list acc d) = tokP list acc d := by
  obtain ⟨_, _, _, _, hu, _⟩ := name_ok
  induction d with
  | nil =>
    intro list acc _ _
    cases list
    · rfl
    · have := page_cls hu []
      simp only [List.append_nil] at this
      simp only [pageS, tokP, if_true]
      rw [this]; rfl
  | cons x d ih =>
    intro list acc ha hd
    have hdT : ∀ y ∈ d, y.Mk := fun y hy => hd y (List.mem_cons_of_mem _ hy)
    unfold pageS tokP
    by_cases h10 : (x.c.toNat : Int) = 10
    · rw [if_pos h10, if_pos h10]
      have eu : ∀ s : Bs, pageT (ulT list (decide (x.m = 2)) ++ s) = tokU list (decide (x.m = 2)) ++ pageT s := fun s => by
        unfold ulT tokU
        split
        · rfl
        · split
          · rw [page_opn hu]; rfl
          · rw [page_cls hu]; rfl
      rw [eu, page_opn (nameOf_ok _), page_block acc (cls (nameOf x.m) ++ pageS (decide (x.m = 2)) [] d) ha ⟨_, rfl⟩, page_cls (nameOf_ok _), ih _ [] (by simp) hdT]
    · rw [if_neg h10, if_neg h10]
      refine ih _ _ (fun y hy => ?_) hdT
      rcases List.mem_append.1 hy with hy | hy
      · exact ha y hy
      · simp at hy; subst hy; exact hd y (List.mem_cons_self ..)
theorem page_pageX {d : List It} (hd : chkDoc d = 0) : pageT (pageX d) = tokP false [] d := page_pageS d false [] (by simp) (doc_mks hd)
end Go.Mh
