/- Pages made documents, in plain terms: what is written of a document is read as itself; whatever a page is, a document is made of it. No program in sight. -/
import Derived.Test.YtjbidchdjpmonaaDoorPlG
namespace Go.Mh

def tset (c : UInt8) : Bool := c == 32 || c == 9 || c == 13 || c == 10 || c == 12
def trimT (s : Bs) : Bs := ((s.dropWhile tset).reverse.dropWhile tset).reverse
def cleanT (s : Bs) : Bs := if may (trimT s) = true then trimT s else []

structure Dk where
  d : List It
  from' : Nat
  kind : Int
  inn : Bool
  bold : Int
  slant : Int
  link : Bs
  gone : Bs
def dk0 : Dk := ⟨[], 0, 0, false, 0, 0, [], []⟩

def nDiv : Bs := [100, 105, 118]
def nStrong : Bs := [115, 116, 114, 111, 110, 103]
def nEm : Bs := [101, 109]
def nBr : Bs := [98, 114]
def blockOf (n : Bs) : Option Int := if n = nP then some 0 else if n = nH1 then some 1 else if n = nLi then some 2 else if n = nH2 then some 3 else if n = nDiv then some 0 else none
def hiddenL : List Bs := [[115, 99, 114, 105, 112, 116], [115, 116, 121, 108, 101], [116, 101, 109, 112, 108, 97, 116, 101], [115, 118, 103], [109, 97, 116, 104], [105, 102, 114, 97, 109, 101], [116, 105, 116, 108, 101], [116, 101, 120, 116, 97, 114, 101, 97], [110, 111, 115, 99, 114, 105, 112, 116]]
def endD (k : Dk) : Dk := if k.inn = true ∨ k.from' < k.d.length then { k with d := k.d ++ [⟨10, k.kind, []⟩], from' := k.d.length + 1, inn := false, kind := 0 } else { k with inn := false, kind := 0 }
theorem endD_in {k : Dk} (h : k.inn = true) : endD k = { k with d := k.d ++ [⟨10, k.kind, []⟩], from' := k.d.length + 1, inn := false, kind := 0 } := by
  unfold endD; rw [if_pos (Or.inl h)]
def chr1 (c : UInt8) : UInt8 := if c = 9 ∨ c = 10 ∨ c = 13 ∨ c = 12 then 32 else if c < 32 ∨ 126 < c then 63 else c
def marksD (k : Dk) : Int := (if 0 < k.bold then 1 else 0) + (if 0 < k.slant then 2 else 0)
def textD (k : Dk) (s : Bs) : Dk := { k with d := k.d ++ s.map fun c => ⟨chr1 c, marksD k, k.link⟩ }
def openD (k : Dk) (t : Tok) : Dk := match blockOf t.name with
  | some b => { endD k with kind := b, inn := true }
  | none =>
    if t.name = nB ∨ t.name = nStrong then { k with bold := k.bold + 1 }
    else if t.name = nI ∨ t.name = nEm then { k with slant := k.slant + 1 }
    else if t.name = nA then { k with link := cleanT t.href }
    else if t.name = nBr then { endD { k with inn := true } with kind := k.kind }
    else if t.name ∈ hiddenL then { k with gone := t.name } else k
def shutD (k : Dk) (n : Bs) : Dk := match blockOf n with
  | some _ => endD k
  | none =>
    if n = nB ∨ n = nStrong then { k with bold := max 0 (k.bold - 1) }
    else if n = nI ∨ n = nEm then { k with slant := max 0 (k.slant - 1) }
    else if n = nA then { k with link := [] } else k
def stepD (k : Dk) (t : Tok) : Dk :=
  if k.gone ≠ [] then (if t.k = 3 ∧ t.name = k.gone then { k with gone := [] } else k)
  else if t.k = 1 then textD k t.text
  else if t.k = 2 then openD k t
  else if t.k = 3 then shutD k t.name else k
def finD (k : Dk) : List It × Int :=
  if 80 < (if (endD k).d = [] then [⟨10, 0, []⟩] else (endD k).d).length then ([], 2) else (if (endD k).d = [] then [⟨10, 0, []⟩] else (endD k).d, 0)
def sanL (k : Dk) : List Tok → List It × Int
  | [] => finD k
  | t :: l => if 80 < (stepD k t).d.length then ([], 2) else sanL (stepD k t) l
def sanP (b : Bs) : List It × Int := if 20000 < b.length then ([], 2) else sanL dk0 (pageT b)

/- Read as itself. -/
/-- At work on a block of its kind, with what stands in it so far. -/
def atWork (d : List It) (f : Nat) (kind : Int) (inn : Bool) : Dk := ⟨d, f, kind, inn, 0, 0, [], []⟩

theorem char_ok {x : It} (h : chkItem x = 0) (hc : ¬ (x.c.toNat : Int) = 10) : chr1 x.c = x.c := by
  unfold chkItem at h
  split at h; · simp at h
  rename_i h1
  have hb : 32 ≤ x.c.toNat ∧ x.c.toNat ≤ 126 := by omega
  unfold chr1
  have e9 : ∀ n : UInt8, n.toNat < 32 → x.c ≠ n := fun n hn e => by rw [e] at hb; omega
  rw [if_neg, if_neg]
  · rw [UInt8.lt_iff_toNat_lt, UInt8.lt_iff_toNat_lt]
    have : (32 : UInt8).toNat = 32 := rfl
    have : (126 : UInt8).toNat = 126 := rfl
    omega
  · rintro (h | h | h | h)
    · exact e9 9 (by decide) h
    · exact e9 10 (by decide) h
    · exact e9 13 (by decide) h
    · exact e9 12 (by decide) h

theorem marks_eq {m : Int} (h0 : 0 ≤ m) (h3 : m ≤ 3) : (if isB m = true then (1 : Int) else 0) + (if isI m = true then 2 else 0) = m := by
  obtain ⟨x, rfl⟩ := small4 h0 h3
  have : ∀ x : Fin 4, (if isB (x.val : Int) = true then (1 : Int) else 0) + (if isI (x.val : Int) = true then 2 else 0) = (x.val : Int) := by decide
  exact this x

theorem okC_tset {c : UInt8} (h : okC c = true) : tset c = false := by
  unfold okC at h
  simp only [Bool.and_eq_true] at h
  have h32 : (32 : UInt8) < c := by simpa using h.1.1.1.1.1.1.1
  unfold tset
  rw [UInt8.lt_iff_toNat_lt] at h32
  have e : ∀ n : UInt8, n.toNat ≤ 32 → (c == n) = false := fun n hn => by
    rw [beq_eq_false_iff_ne]; rintro rfl
    have : (32 : UInt8).toNat = 32 := rfl
    omega
  rw [e 32 (by decide), e 9 (by decide), e 13 (by decide), e 10 (by decide), e 12 (by decide)]
  rfl
theorem may_ok {l : Bs} (h : may l = true) : ∀ c ∈ l, okC c = true := by
  unfold may at h
  simp only [Bool.and_eq_true] at h
  exact List.all_eq_true.1 h.1.2
theorem dw_none {p : UInt8 → Bool} {l : Bs} (h : ∀ c ∈ l, p c = false) : l.dropWhile p = l := by
  cases l with
  | nil => rfl
  | cons c l => simp [h c (List.mem_cons_self ..)]
theorem clean_may {l : Bs} (h : may l = true) : cleanT l = l := by
  have hs : ∀ c ∈ l, tset c = false := fun c hc => okC_tset (may_ok h c hc)
  have e : trimT l = l := by
    unfold trimT
    rw [dw_none hs, dw_none (fun c hc => hs c (List.mem_reverse.1 hc)), List.reverse_reverse]
  unfold cleanT
  rw [e, if_pos h]

theorem blockOf_n : blockOf nP = some 0 ∧ blockOf nH1 = some 1 ∧ blockOf nLi = some 2 ∧ blockOf nH2 = some 3 ∧ blockOf nUl = none ∧ blockOf nA = none ∧ blockOf nB = none ∧ blockOf nI = none := by decide
theorem blockOf_name {m : Int} (h0 : 0 ≤ m) (h3 : m ≤ 3) : blockOf (nameOf m) = some m := by
  obtain ⟨x, rfl⟩ := small4 h0 h3
  have : ∀ x : Fin 4, blockOf (nameOf (x.val : Int)) = some (x.val : Int) := by decide
  exact this x

section
variable {d : List It} {f : Nat} {kd : Int} {inn : Bool}

theorem sanL_cons {k : Dk} {t : Tok} {l : List Tok} (h : (stepD k t).d.length ≤ 80) : sanL k (t :: l) = sanL (stepD k t) l := by
  simp only [sanL]; rw [if_neg (by omega)]

/-- A run of characters. -/
theorem san_run (cur : It) (t : Bs) (rest : List Tok) (hmk : cur.Mk) (hl : cur.l = [] ∨ may cur.l = true) (ht : ∀ c ∈ t, chr1 c = c) (h80 : d.length + t.length ≤ 80) :
    sanL (atWork d f kd inn) (tokR cur t ++ rest) = sanL (atWork (d ++ t.map fun c => ⟨c, cur.m, cur.l⟩) f kd inn) rest := by
  obtain ⟨_, _, _, _, _, ba, bb, bi⟩ := blockOf_n
  have hd : d.length ≤ 80 := by omega
  -- the three tags that open
  have o1 : ∀ (k : Dk) (r : List Tok), k.gone = [] → k.d.length ≤ 80 → k.link = [] → sanL k ((if cur.l = [] then [] else [tkA cur.l]) ++ r) = sanL { k with link := cur.l } r := fun k r hg hk hk2 => by
    by_cases e : cur.l = []
    · simp only [if_pos e, List.nil_append]; rw [e, ← hk2]
    · have hm : may cur.l = true := by rcases hl with h | h; exact absurd h e; exact h
      have es : stepD k (tkA cur.l) = { k with link := cur.l } := by simp [stepD, hg, tkA, openD, ba, clean_may hm]; rw [if_neg (by decide), if_neg (by decide)]
      simp only [if_neg e, List.singleton_append]
      rw [sanL_cons (by rw [es]; exact hk), es]
  have o2 : ∀ (k : Dk) (r : List Tok), k.gone = [] → k.d.length ≤ 80 → k.bold = 0 → sanL k ((if isB cur.m = true then [tkO nB] else []) ++ r) = sanL { k with bold := if isB cur.m = true then 1 else 0 } r := fun k r hg hk hb => by
    by_cases e : isB cur.m = true
    · have es : stepD k (tkO nB) = { k with bold := 1 } := by simp [stepD, hg, tkO, openD, bb, hb]
      simp only [if_pos e, List.singleton_append]
      rw [sanL_cons (by rw [es]; exact hk), es]
    · simp only [if_neg e, List.nil_append]; rw [← hb]
  have o3 : ∀ (k : Dk) (r : List Tok), k.gone = [] → k.d.length ≤ 80 → k.slant = 0 → sanL k ((if isI cur.m = true then [tkO nI] else []) ++ r) = sanL { k with slant := if isI cur.m = true then 1 else 0 } r := fun k r hg hk hb => by
    by_cases e : isI cur.m = true
    · have es : stepD k (tkO nI) = { k with slant := 1 } := by
        simp only [stepD, hg, tkO, openD, bi, hb]
        rw [if_neg (by simp), if_neg (by decide), if_pos (by decide), if_neg (by decide), if_pos (by decide)]
        simp
      simp only [if_pos e, List.singleton_append]
      rw [sanL_cons (by rw [es]; exact hk), es]
    · simp only [if_neg e, List.nil_append]; rw [← hb]
  -- the three that shut
  have s1 : ∀ (k : Dk) (r : List Tok), k.gone = [] → k.d.length ≤ 80 → k.link = cur.l → sanL k ((if cur.l = [] then [] else [tkS nA]) ++ r) = sanL { k with link := [] } r := fun k r hg hk hk2 => by
    by_cases e : cur.l = []
    · simp only [if_pos e, List.nil_append]; rw [e] at hk2; rw [← hk2]
    · have es : stepD k (tkS nA) = { k with link := [] } := by simp [stepD, hg, tkS, shutD, ba]; rw [if_neg (by decide), if_neg (by decide)]
      simp only [if_neg e, List.singleton_append]
      rw [sanL_cons (by rw [es]; exact hk), es]
  have s2 : ∀ (k : Dk) (r : List Tok), k.gone = [] → k.d.length ≤ 80 → k.bold = (if isB cur.m = true then 1 else 0) → sanL k ((if isB cur.m = true then [tkS nB] else []) ++ r) = sanL { k with bold := 0 } r := fun k r hg hk hb => by
    by_cases e : isB cur.m = true
    · rw [if_pos e] at hb
      have es : stepD k (tkS nB) = { k with bold := 0 } := by simp [stepD, hg, tkS, shutD, bb, hb]
      simp only [if_pos e, List.singleton_append]
      rw [sanL_cons (by rw [es]; exact hk), es]
    · rw [if_neg e] at hb; simp only [if_neg e, List.nil_append]; rw [← hb]
  have s3 : ∀ (k : Dk) (r : List Tok), k.gone = [] → k.d.length ≤ 80 → k.slant = (if isI cur.m = true then 1 else 0) → sanL k ((if isI cur.m = true then [tkS nI] else []) ++ r) = sanL { k with slant := 0 } r := fun k r hg hk hb => by
    by_cases e : isI cur.m = true
    · rw [if_pos e] at hb
      have es : stepD k (tkS nI) = { k with slant := 0 } := by
        simp only [stepD, hg, tkS, shutD, bi, hb]
        rw [if_neg (by simp), if_neg (by decide), if_neg (by decide), if_pos (by decide), if_neg (by decide), if_pos (by decide)]
        rfl
      simp only [if_pos e, List.singleton_append]
      rw [sanL_cons (by rw [es]; exact hk), es]
    · rw [if_neg e] at hb; simp only [if_neg e, List.nil_append]; rw [← hb]
  unfold tokR tokO tokS
  rw [List.append_assoc, List.append_assoc, List.append_assoc, o1 _ _ rfl hd rfl, o2 _ _ rfl hd rfl, o3 _ _ rfl hd rfl]
  have hmarks : marksD { atWork d f kd inn with link := cur.l, bold := (if isB cur.m = true then 1 else 0), slant := (if isI cur.m = true then 1 else 0) } = cur.m := by
    have hm := marks_eq hmk.1 hmk.2
    by_cases e1 : isB cur.m = true <;> by_cases e2 : isI cur.m = true <;> simpa [marksD, e1, e2] using hm
  have htext : stepD { atWork d f kd inn with link := cur.l, bold := (if isB cur.m = true then 1 else 0), slant := (if isI cur.m = true then 1 else 0) } (tText t) =
      { atWork (d ++ t.map fun c => ⟨c, cur.m, cur.l⟩) f kd inn with link := cur.l, bold := (if isB cur.m = true then 1 else 0), slant := (if isI cur.m = true then 1 else 0) } := by
    have hmap : (t.map fun c => (⟨chr1 c, cur.m, cur.l⟩ : It)) = t.map fun c => ⟨c, cur.m, cur.l⟩ := List.map_congr_left fun c hc => by rw [ht c hc]
    have e0 : ∀ k : Dk, k.gone = [] → stepD k (tText t) = textD k t := fun k hg => by unfold stepD; rw [if_neg (by simp [hg]), if_pos (show (tText t).k = 1 from rfl)]; rfl
    rw [e0 _ rfl]
    unfold textD
    rw [hmarks]
    simp only [hmap]
    rfl
  rw [List.cons_append, sanL_cons (by rw [htext]; simp [atWork]; omega), htext]
  have hd2 : (d ++ t.map fun c => (⟨c, cur.m, cur.l⟩ : It)).length ≤ 80 := by simp; omega
  rw [List.append_assoc, s3 _ _ rfl hd2 rfl, List.append_assoc, s2 _ _ rfl hd2 rfl, s1 _ _ rfl hd2 rfl]
  rfl

theorem san_blk (l : List It) (cur : It) (t : Bs) (rest : List Tok) (hmk : cur.Mk) (hcl : cur.l = [] ∨ may cur.l = true) (ht : ∀ c ∈ t, chr1 c = c) (hl : ∀ x ∈ l, x.Mk ∧ (x.l = [] ∨ may x.l = true) ∧ chr1 x.c = x.c) (h80 : d.length + t.length + l.length ≤ 80) :
    sanL (atWork d f kd inn) (tokB cur t l ++ rest) = sanL (atWork (d ++ (t.map (fun c => ⟨c, cur.m, cur.l⟩) ++ l)) f kd inn) rest := by
  induction l generalizing d cur t with
  | nil => simp at h80; rw [tokB, san_run cur t rest hmk hcl ht h80]; simp
  | cons x l ih =>
    simp at h80
    obtain ⟨h1, h2, h3⟩ := hl x (List.mem_cons_self ..)
    have hlT : ∀ y ∈ l, y.Mk ∧ (y.l = [] ∨ may y.l = true) ∧ chr1 y.c = y.c := fun y hy => hl y (List.mem_cons_of_mem _ hy)
    unfold tokB
    by_cases e : x.m = cur.m ∧ x.l = cur.l
    · rw [if_pos e, ih cur (t ++ [x.c]) hmk hcl (fun c hc => by
        rcases List.mem_append.1 hc with hc | hc
        · exact ht c hc
        · simp at hc; subst hc; exact h3) hlT (by simp; omega)]
      congr 2
      rw [List.map_append, ← e.1, ← e.2]
      simp
    · rw [if_neg e, List.append_assoc, san_run cur t _ hmk hcl ht (by omega), ih x [x.c] h1 h2 (fun c hc => by simp at hc; subst hc; exact h3) hlT (by simp; omega)]
      congr 2
      simp
theorem san_block (l : List It) (rest : List Tok) (hl : ∀ x ∈ l, x.Mk ∧ (x.l = [] ∨ may x.l = true) ∧ chr1 x.c = x.c) (h80 : d.length + l.length ≤ 80) :
    sanL (atWork d f kd inn) (tokX l ++ rest) = sanL (atWork (d ++ l) f kd inn) rest := by
  cases l with
  | nil => simp [tokX]
  | cons x l =>
    obtain ⟨h1, h2, h3⟩ := hl x (List.mem_cons_self ..)
    simp at h80
    have := san_blk (d := d) (f := f) (kd := kd) (inn := inn) l x [x.c] rest h1 h2 (fun c hc => by simp at hc; subst hc; exact h3) (fun y hy => hl y (List.mem_cons_of_mem _ hy)) (by simp; omega)
    simpa [tokX] using this

theorem san_ul (k : Dk) (list is : Bool) (r : List Tok) (hg : k.gone = []) (hk : k.d.length ≤ 80) : sanL k (tokU list is ++ r) = sanL k r := by
  obtain ⟨_, _, _, _, bu, _⟩ := blockOf_n
  unfold tokU
  split
  · rfl
  · split
    · have es : stepD k (tkO nUl) = k := by
        simp only [stepD, hg, tkO, openD, bu]
        rw [if_neg (by simp), if_neg (by decide), if_pos (by decide), if_neg (by decide), if_neg (by decide), if_neg (by decide), if_neg (by decide)]
        exact if_neg (by decide)
      rw [List.singleton_append, sanL_cons (by rw [es]; exact hk), es]
    · have es : stepD k (tkS nUl) = k := by
        simp only [stepD, hg, tkS, shutD, bu]
        rw [if_neg (by simp), if_neg (by decide), if_neg (by decide), if_pos (by decide), if_neg (by decide), if_neg (by decide), if_neg (by decide)]
      rw [List.singleton_append, sanL_cons (by rw [es]; exact hk), es]

theorem item_parts {x : It} (h : chkItem x = 0) : x.Mk ∧ (x.l = [] ∨ may x.l = true) ∧ ((x.c.toNat : Int) = 10 → x.l = []) := by
  refine ⟨item_mk h, ?_, ?_⟩
  · unfold chkItem at h
    split at h; · simp at h
    split at h; · simp at h
    split at h; · simp at h
    rename_i h3
    by_cases e : x.l = []
    · exact Or.inl e
    · right
      cases hm : may x.l with
      | true => rfl
      | false => exact absurd ⟨e, Or.inr hm⟩ h3
  · unfold chkItem at h
    split at h; · simp at h
    split at h; · simp at h
    split at h; · simp at h
    rename_i h3
    intro h10
    exact Decidable.not_not.1 fun e => h3 ⟨e, Or.inl h10⟩

/-- What is written of a document is read as itself: its tokens, from a block on. -/
theorem san_doc (todo : List It) : ∀ (list : Bool) (done acc : List It), (∀ x ∈ acc, chkItem x = 0 ∧ ¬ (x.c.toNat : Int) = 10) → (∀ x ∈ todo, chkItem x = 0) → (done ++ (acc ++ todo)).length ≤ 80 →
    (acc ++ todo = [] ∨ ∃ d' x, acc ++ todo = d' ++ [x] ∧ (x.c.toNat : Int) = 10) → sanL (atWork done done.length 0 false) (tokP list acc todo) = finD (atWork (done ++ (acc ++ todo)) (done ++ (acc ++ todo)).length 0 false) := by
  induction todo with
  | nil =>
    intro list done acc ha _ h80 he
    have hacc : acc = [] := by
      rcases he with he | ⟨d', x, he, h10⟩
      · simpa using he
      · simp at he
        exact absurd h10 (ha x (by rw [he]; simp)).2
    subst hacc
    simp only [List.append_nil] at h80 ⊢
    have := san_ul (atWork done done.length 0 false) list false [] rfl h80
    cases list with
    | false => rfl
    | true =>
      have e : tokP true [] [] = tokU true false ++ [] := rfl
      rw [e, this]; rfl
  | cons x todo ih =>
    intro list done acc ha hd h80 he
    have hx := hd x (List.mem_cons_self ..)
    have hdT : ∀ y ∈ todo, chkItem y = 0 := fun y hy => hd y (List.mem_cons_of_mem _ hy)
    obtain ⟨hmk, hlk, h10l⟩ := item_parts hx
    unfold tokP
    by_cases h10 : (x.c.toNat : Int) = 10
    · rw [if_pos h10]
      simp at h80
      have hd80 : done.length ≤ 80 := by omega
      rw [san_ul _ _ _ _ rfl hd80]
      have hb := blockOf_name hmk.1 hmk.2
      have hend : endD (atWork done done.length 0 false) = atWork done done.length 0 false := by
        unfold endD atWork; rw [if_neg (by simp)]
      have e1 : stepD (atWork done done.length 0 false) (tkO (nameOf x.m)) = atWork done done.length x.m true := by
        unfold stepD
        rw [if_neg (by simp [atWork]), if_neg (by simp [tkO]), if_pos (by simp [tkO])]
        unfold openD
        simp only [tkO, hb]
        rw [hend]
        rfl
      rw [sanL_cons (by rw [e1]; exact hd80), e1]
      have hacc : ∀ y ∈ acc, y.Mk ∧ (y.l = [] ∨ may y.l = true) ∧ chr1 y.c = y.c := fun y hy => by
        obtain ⟨q1, q2, _⟩ := item_parts (ha y hy).1
        exact ⟨q1, q2, char_ok (ha y hy).1 (ha y hy).2⟩
      rw [san_block acc _ hacc (by omega)]
      have hxe : x = ⟨10, x.m, []⟩ := by
        obtain ⟨c, m, l⟩ := x
        have hl := h10l h10
        simp only at hl h10 ⊢
        subst hl
        have : c = 10 := by
          apply UInt8.toNat_inj.1
          have : (10 : UInt8).toNat = 10 := rfl
          omega
        rw [this]
      have e2 : stepD (atWork (done ++ acc) done.length x.m true) (tkS (nameOf x.m)) = atWork (done ++ (acc ++ [x])) (done ++ (acc ++ [x])).length 0 false := by
        unfold stepD
        rw [if_neg (by simp [atWork]), if_neg (by simp [tkS]), if_neg (by simp [tkS]), if_pos (by simp [tkS])]
        unfold shutD
        simp only [tkS, hb]
        rw [endD_in rfl]
        simp only [atWork]
        conv => rhs; rw [hxe]
        simp [Nat.add_assoc]
      rw [sanL_cons (by rw [e2]; simp [atWork]; omega), e2]
      have := ih (decide (x.m = 2)) (done ++ (acc ++ [x])) [] (by simp) hdT (by simp; omega) (by
        by_cases ht : todo = []
        · left; simp [ht]
        · right
          rcases he with he | ⟨d', z, he, hz⟩
          · simp at he
          · have e3 := dropLast_snoc (l := todo) (q := todo.getLast ht) (List.getLast?_eq_some_getLast ht)
            have e4 : acc ++ x :: todo = (acc ++ x :: todo.dropLast) ++ [todo.getLast ht] := by
              conv => lhs; rw [e3]
              simp
            rw [he] at e4
            have e5 := List.append_inj_right' e4 rfl
            simp at e5
            exact ⟨todo.dropLast, todo.getLast ht, by rw [List.nil_append]; exact e3, by rw [← e5]; exact hz⟩)
      rw [this]
      congr 1
      simp
    · rw [if_neg h10]
      have := ih list done (acc ++ [x]) (fun y hy => by
        rcases List.mem_append.1 hy with hy | hy
        · exact ha y hy
        · simp at hy; subst hy; exact ⟨hx, h10⟩) hdT (by simpa using h80) (by simpa using he)
      rw [this]
      congr 1
      simp
end

theorem law_back {d : List It} (hd : chkDoc d = 0) : sanL dk0 (pageT (pageX d)) = (d, 0) := by
  obtain ⟨h1, h2, d', x, h3, h4⟩ := doc_facts hd
  have hne : d ≠ [] := by rw [h3]; simp
  rw [page_pageX hd]
  have := san_doc d false [] [] (by simp) h1 (by simpa using h2) (Or.inr ⟨d', x, by simpa using h3, h4⟩)
  have e0 : atWork [] ([] : List It).length 0 false = dk0 := rfl
  rw [e0] at this
  rw [this]
  unfold finD
  have hend : endD (atWork ([] ++ ([] ++ d)) ([] ++ ([] ++ d)).length 0 false) = atWork d d.length 0 false := by
    unfold endD atWork; rw [if_neg (by simp)]; simp
  rw [hend]
  simp only [atWork]
  have : ¬ 80 < d.length := by omega
  simp [hne, this]
/-- Unlike documents are written as unlike pages. -/
theorem law_one {d c : List It} (hd : chkDoc d = 0) (hc : chkDoc c = 0) : pageX d = pageX c ↔ d = c := by
  constructor
  · intro h
    have := law_back hd
    rw [h, law_back hc] at this
    exact (Prod.mk.inj this).1.symm
  · intro h; rw [h]
end Go.Mh
