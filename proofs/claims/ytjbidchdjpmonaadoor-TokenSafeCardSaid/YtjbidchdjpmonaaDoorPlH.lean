/- Pages of two documents; the page of a text; what is hidden: plain laws. No program in sight. -/
import Derived.Test.YtjbidchdjpmonaaDoorPlK
import Derived.Test.YtjbidchdjpmonaaDoorPlTP
namespace Go.Mh

/- Two documents, one behind the other. -/
def bodyS (list : Bool) (acc : List It) : List It → Bs
  | [] => []
  | x :: d => if (x.c.toNat : Int) = 10 then ulT list (decide (x.m = 2)) ++ (opn (nameOf x.m) ++ (blockX acc ++ (cls (nameOf x.m) ++ bodyS (decide (x.m = 2)) [] d))) else bodyS list (acc ++ [x]) d
def endL (list : Bool) : List It → Bool
  | [] => list
  | x :: d => if (x.c.toNat : Int) = 10 then endL (decide (x.m = 2)) d else endL list d
/-- A document ends with the end of a block. -/
def Ends10 (d : List It) : Prop := d = [] ∨ ∃ d' x, d = d' ++ [x] ∧ (x.c.toNat : Int) = 10
theorem Ends10.tail {x : It} {d : List It} (h : Ends10 (x :: d)) : Ends10 d := by
  by_cases hd : d = []
  · exact Or.inl hd
  · right
    rcases h with h | ⟨d', z, h, hz⟩
    · simp at h
    · have e3 := dropLast_snoc (l := d) (q := d.getLast hd) (List.getLast?_eq_some_getLast hd)
      have e4 : x :: d = (x :: d.dropLast) ++ [d.getLast hd] := by
        conv => lhs; rw [e3]
        simp
      rw [h] at e4
      have e5 := List.append_inj_right' e4 rfl
      simp at e5
      exact ⟨d.dropLast, d.getLast hd, e3, by rw [← e5]; exact hz⟩
theorem pageS_app (a : List It) : ∀ (list : Bool) (acc b : List It), Ends10 a → (a = [] → acc = []) → pageS list acc (a ++ b) = bodyS list acc a ++ pageS (endL list a) [] b := by
  induction a with
  | nil => intro list acc b _ h; rw [h rfl]; rfl
  | cons x a ih =>
    intro list acc b he _
    simp only [List.cons_append, pageS, bodyS, endL]
    by_cases h10 : (x.c.toNat : Int) = 10
    · simp only [if_pos h10]
      rw [ih _ [] b he.tail (fun _ => rfl)]
      simp
    · simp only [if_neg h10]
      have hne : a ≠ [] := by
        rintro rfl
        rcases he with he | ⟨d', z, he, hz⟩
        · simp at he
        · cases d' with
          | nil => simp at he; subst he; exact h10 hz
          | cons y d' => simp at he
      exact ih _ _ b he.tail (fun e => absurd e hne)
theorem doc_ends {d : List It} (h : chkDoc d = 0) : Ends10 d := by
  obtain ⟨_, _, d', x, h3, h4⟩ := doc_facts h; exact Or.inr ⟨d', x, h3, h4⟩
theorem pageX_app {a : List It} (h : chkDoc a = 0) (b : List It) : pageX (a ++ b) = bodyS false [] a ++ pageS (endL false a) [] b := pageS_app a false [] b (doc_ends h) (fun _ => rfl)
theorem pageX_body {a : List It} (h : chkDoc a = 0) : pageX a = bodyS false [] a ++ (if endL false a = true then cls nUl else []) := by
  have := pageX_app h []
  rw [List.append_nil] at this
  rw [this]
  cases endL false a <;> rfl

/-- How a page begins: with a list, or with another block. -/
theorem pageS_begin (d : List It) : ∀ (acc : List It), Ends10 d → d ≠ [] → (∀ x ∈ d, x.Mk) → (∃ R, pageS false acc d = opn nUl ++ R ∧ pageS true acc d = R) ∨ (∃ m R, m ≠ 2 ∧ pageS false acc d = opn (nameOf m) ++ R ∧ pageS true acc d = cls nUl ++ (opn (nameOf m) ++ R)) := by
  induction d with
  | nil => intro acc _ h; exact absurd rfl h
  | cons x d ih =>
    intro acc he _ hm
    by_cases h10 : (x.c.toNat : Int) = 10
    · simp only [pageS, if_pos h10]
      by_cases h2 : x.m = 2
      · left
        refine ⟨_, by simp [ulT, h2]; rfl, by simp [ulT, h2]⟩
      · right
        refine ⟨x.m, _, h2, by simp [ulT, h2]; rfl, by simp [ulT, h2]⟩
    · simp only [pageS, if_neg h10]
      have hne : d ≠ [] := by
        rintro rfl
        rcases he with he | ⟨d', z, he, hz⟩
        · simp at he
        · cases d' with
          | nil => simp at he; subst he; exact h10 hz
          | cons y d' => simp at he
      exact ih _ he.tail hne (fun y hy => hm y (List.mem_cons_of_mem _ hy))

/-- How it ends, behind the last block. -/
theorem bodyS_end (d : List It) : ∀ (list : Bool) (acc : List It), Ends10 d → d ≠ [] → (∃ m R, bodyS list acc d = R ++ cls (nameOf m) ∧ endL list d = decide (m = 2)) := by
  induction d with
  | nil => intro _ _ _ h; exact absurd rfl h
  | cons x d ih =>
    intro list acc he _
    by_cases h10 : (x.c.toNat : Int) = 10
    · simp only [bodyS, endL, if_pos h10]
      by_cases hd : d = []
      · subst hd
        exact ⟨x.m, ulT list (decide (x.m = 2)) ++ (opn (nameOf x.m) ++ blockX acc), by simp [bodyS], rfl⟩
      · obtain ⟨m, R, e1, e2⟩ := ih (decide (x.m = 2)) [] he.tail hd
        exact ⟨m, ulT list (decide (x.m = 2)) ++ (opn (nameOf x.m) ++ (blockX acc ++ (cls (nameOf x.m) ++ R))), by rw [e1]; simp, e2⟩
    · simp only [bodyS, endL, if_neg h10]
      have hne : d ≠ [] := by
        rintro rfl
        rcases he with he | ⟨d', z, he, hz⟩
        · simp at he
        · cases d' with
          | nil => simp at he; subst he; exact h10 hz
          | cons y d' => simp at he
      exact ih _ _ he.tail hne

def ulO : Bs := [60, 117, 108, 62]
def ulS : Bs := [60, 47, 117, 108, 62]
/-- The page of two documents, one behind the other. -/
theorem law_blocks {a b : List It} (ha : chkDoc a = 0) (hb : chkDoc b = 0) : (ulS.isSuffixOf (pageX a) = true ∧ ulO.isPrefixOf (pageX b) = true ∧ ∃ s t, pageX a = s ++ ulS ∧ pageX b = ulO ++ t ∧ pageX (a ++ b) = s ++ t) ∨
    (¬ (ulS.isSuffixOf (pageX a) = true ∧ ulO.isPrefixOf (pageX b) = true) ∧ pageX (a ++ b) = pageX a ++ pageX b) := by
  have hane : a ≠ [] := by obtain ⟨_, _, d', x, h3, _⟩ := doc_facts ha; rw [h3]; simp
  have hbne : b ≠ [] := by obtain ⟨_, _, d', x, h3, _⟩ := doc_facts hb; rw [h3]; simp
  obtain ⟨m, R, e1, e2⟩ := bodyS_end a false [] (doc_ends ha) hane
  have hbody := pageX_body ha
  have happ := pageX_app ha b
  have hcl : cls nUl = ulS := by decide
  have hop : opn nUl = ulO := by decide
  have hnp : ∀ m : Int, m ≠ 2 → ∀ R : Bs, ulO.isPrefixOf (opn (nameOf m) ++ R) = false := fun m hm R => by
    unfold nameOf
    split
    · rfl
    · split
      · rfl
      · first | rfl | (rw [if_neg hm]; rfl)
  have hns : ∀ m : Int, ∀ R : Bs, ulS.isSuffixOf (R ++ cls (nameOf m)) = false := fun m R => by
    unfold List.isSuffixOf
    rw [List.reverse_append]
    unfold nameOf
    split
    · rfl
    · split
      · rfl
      · split <;> rfl
  rcases pageS_begin b [] (doc_ends hb) hbne (doc_mks hb) with ⟨T, b1, b2⟩ | ⟨m2, T, hm2, b1, b2⟩
  · cases hl : endL false a with
    | true =>
      left
      rw [hl] at hbody happ
      rw [if_pos rfl, hcl] at hbody
      rw [b2] at happ
      have hpb : pageX b = ulO ++ T := by rw [← hop]; exact b1
      refine ⟨?_, ?_, _, T, hbody, hpb, happ⟩
      · rw [hbody, List.isSuffixOf_iff_suffix]; exact ⟨_, rfl⟩
      · rw [hpb, List.isPrefixOf_iff_prefix]; exact ⟨_, rfl⟩
    | false =>
      right
      rw [hl] at hbody happ
      simp only [Bool.false_eq_true, if_false, List.append_nil] at hbody
      refine ⟨fun h => ?_, by rw [happ, hbody]; rfl⟩
      rw [hbody, e1, hns] at h
      simp at h
  · right
    refine ⟨fun h => ?_, ?_⟩
    · have hpb : pageX b = opn (nameOf m2) ++ T := b1
      rw [hpb, hnp m2 hm2] at h
      simp at h
    · cases hl : endL false a with
      | true =>
        rw [hl] at hbody happ
        rw [if_pos rfl] at hbody
        rw [happ, hbody, b2]
        have hpb : pageX b = opn (nameOf m2) ++ T := b1
        rw [hpb]; simp
      | false =>
        rw [hl] at hbody happ
        simp only [Bool.false_eq_true, if_false, List.append_nil] at hbody
        rw [happ, hbody]; rfl

/- The page of a text. -/
theorem page_only {s : Bs} (hs : s ≠ []) : pageT (writeE s) = [tText s] := by
  have hall : (writeE s).dropWhile (· != 60) = [] := by
    have : ∀ l : Bs, (∀ x ∈ l, (x != 60) = true) → l.dropWhile (· != 60) = [] := by
      intro l
      induction l with
      | nil => intro _; rfl
      | cons c l ih => intro h; simp [h c (List.mem_cons_self ..)]; exact ih fun x hx => h x (List.mem_cons_of_mem _ hx)
    refine this _ fun x hx => ?_
    simp
    rintro rfl
    exact (write_safe s).1 hx
  obtain ⟨_, _, t3⟩ := tw_all hall []
  rw [pageT_eq, hall, t3, if_neg (write_ne hs), read_write]
  rfl
def textDoc (s : Bs) : List It := s.map (fun c => ⟨chr1 c, 0, []⟩) ++ [⟨10, 0, []⟩]
theorem law_text {s : Bs} (hs : s ≠ []) (hl : s.length ≤ 79) : sanP (writeE s) = (textDoc s, 0) ∧ sanP ([60, 100, 105, 118, 62] ++ writeE s) = (textDoc s, 0) := by
  have hw := (write_len s).2
  have hpos : 0 < s.length := List.length_pos_iff.2 hs
  have htx : ∀ k : Dk, k.gone = [] → stepD k (tText s) = textD k s := fun k hg => by unfold stepD; rw [if_neg (by simp [hg]), if_pos (show (tText s).k = 1 from rfl)]; rfl
  have hfin : ∀ k : Dk, k.gone = [] → k.d = [] → k.from' = 0 → k.kind = 0 → k.bold = 0 → k.slant = 0 → k.link = [] → sanL k [tText s] = (textDoc s, 0) := fun k h0 h1 h2 h3 h4 h5 h6 => by
    rw [sanL_cons (by rw [htx k h0]; simp [textD, h1]; omega), htx k h0]
    have hd : (textD k s).d = s.map fun c => ⟨chr1 c, 0, []⟩ := by simp [textD, marksD, h1, h4, h5, h6]
    have hend : (endD (textD k s)).d = textDoc s := by
      unfold endD
      rw [if_pos (Or.inr (by rw [hd]; simp only [textD, h2, List.length_map]; exact hpos))]
      simp only [hd, textDoc]
      simp [textD, h3]
    simp only [sanL]
    unfold finD
    rw [hend]
    have hne : textDoc s ≠ [] := by simp [textDoc]
    have hlen : ¬ 80 < (textDoc s).length := by simp [textDoc]; omega
    simp [hne, hlen]
  constructor
  · unfold sanP
    rw [if_neg (by omega), page_only hs]
    exact hfin dk0 rfl rfl rfl rfl rfl rfl rfl
  · have hdiv : NameOk nDiv := ⟨100, [105, 118], rfl, by decide, by decide, by decide⟩
    unfold sanP
    rw [if_neg (by simp; omega)]
    have e : ([60, 100, 105, 118, 62] : Bs) ++ writeE s = opn nDiv ++ writeE s := rfl
    have es : stepD dk0 (tkO nDiv) = ⟨[], 0, 0, true, 0, 0, [], []⟩ := rfl
    rw [e, page_opn hdiv, page_only hs, sanL_cons (by rw [es]; simp), es]
    exact hfin _ rfl rfl rfl rfl rfl rfl rfl

/- What is hidden. -/
def nU : Bs := [117]
def nSpan : Bs := [115, 112, 97, 110]
def nScript : Bs := [115, 99, 114, 105, 112, 116]
def nStyle : Bs := [115, 116, 121, 108, 101]
/-- A text without a sign that opens, and what begins with one behind it. -/
theorem page_raw {a r : Bs} (ha : 60 ∉ a) (hr : Lt0 r) : pageT (a ++ r) = (if a = [] then [] else [tText (readE a)]) ++ pageT r := by
  obtain ⟨r', rfl⟩ := hr
  have hall : a.all (· != 60) = true := by
    rw [List.all_eq_true]; intro x hx; simp; rintro rfl; exact ha hx
  obtain ⟨t1, t2⟩ := tw_stop hall (c := 60) (by simp) r'
  rw [pageT_eq, t1, t2, page_lt]
def hid1 (inside : Bs) : Bs := opn nScript ++ (inside ++ cls nScript)
def styO : Bs := [60, 83, 84, 89, 76, 69, 32, 120, 61, 121, 62]
def hid2 (inside : Bs) : Bs := styO ++ (inside ++ cls nStyle)
def hid3 : Bs := opn nU ++ cls nU
def hid4 : Bs := opn nSpan
theorem page_sty (r : Bs) : pageT (styO ++ r) = tkO nStyle :: pageT r := by
  have hs : styO ++ r = 60 :: 83 :: 84 :: 89 :: 76 :: 69 :: 32 :: 120 :: 61 :: 121 :: 62 :: r := rfl
  have hval : valOf (61 :: 121 :: 62 :: r) = ([121], 62 :: r) := by
    have b1 : blanks (61 :: 121 :: 62 :: r) = 61 :: 121 :: 62 :: r := by simp [blanks, isSp]
    have b2 : blanks (121 :: 62 :: r) = 121 :: 62 :: r := by simp [blanks, isSp]
    unfold valOf
    rw [b1]
    simp only
    unfold valueT
    rw [b2]
    simp [nb1, isSp]
  have hattr : attrT (32 :: 120 :: 61 :: 121 :: 62 :: r) [] false = some ([], r) := by
    rw [attrT_eq]
    have e1 : (32 :: 120 :: 61 :: 121 :: 62 :: r : Bs).dropWhile sk2 = 120 :: 61 :: 121 :: 62 :: r := by simp [sk2, isSp]
    have e2 : (61 :: 121 :: 62 :: r : Bs).dropWhile nb3 = 61 :: 121 :: 62 :: r := by simp [nb3, isSp]
    have e3 : (61 :: 121 :: 62 :: r : Bs).takeWhile nb3 = [] := by simp [nb3, isSp]
    have e4 : ¬ (lower [120] = sHref) := by decide
    rw [e1]
    simp only
    rw [e2, e3, hval, if_neg (by decide)]
    simp [e4, attr_shut]
  have htag : tagT (83 :: 84 :: 89 :: 76 :: 69 :: 32 :: 120 :: 61 :: 121 :: 62 :: r) = some (nStyle, [], r) := by
    have e1 : (83 :: 84 :: 89 :: 76 :: 69 :: 32 :: 120 :: 61 :: 121 :: 62 :: r : Bs).dropWhile nb2 = 32 :: 120 :: 61 :: 121 :: 62 :: r := by simp [nb2, isSp]
    have e2 : (83 :: 84 :: 89 :: 76 :: 69 :: 32 :: 120 :: 61 :: 121 :: 62 :: r : Bs).takeWhile nb2 = [83, 84, 89, 76, 69] := by simp [nb2, isSp]
    have e3 : lower [83, 84, 89, 76, 69] = nStyle := by decide
    unfold tagT
    rw [e1, e2, hattr, e3]
  rw [hs, page_lt]
  have hcom : sCom.isPrefixOf (60 :: 83 :: 84 :: 89 :: 76 :: 69 :: 32 :: 120 :: 61 :: 121 :: 62 :: r) = false := by simp [sCom, List.isPrefixOf]
  simp only [markT]
  rw [if_neg (by rw [hcom]; simp), if_neg (by decide), if_pos (by decide), htag]
  rfl

/-- A state at which nothing is hidden, and that is not too long. -/
def Fit (k : Dk) : Prop := k.gone = [] ∧ k.d.length ≤ 80
theorem step_none {k : Dk} (hg : k.gone = []) {n : Bs} (hn : n = nU ∨ n = nSpan) : stepD k (tkO n) = k ∧ stepD k (tkS n) = k := by
  have hb : blockOf n = none ∧ ¬ (n = nB ∨ n = nStrong) ∧ ¬ (n = nI ∨ n = nEm) ∧ ¬ n = nA ∧ ¬ n = nBr ∧ ¬ n ∈ hiddenL := by rcases hn with rfl | rfl <;> decide
  obtain ⟨h1, h2, h3, h4, h5, h6⟩ := hb
  constructor
  · simp only [stepD, hg, tkO, openD, h1, if_neg h2, if_neg h3, if_neg h4, if_neg h5]; simp [h6]
  · simp only [stepD, hg, tkS, shutD, h1, if_neg h2, if_neg h3, if_neg h4]; simp
theorem step_hide {k : Dk} (hg : k.gone = []) {n : Bs} (hn : n = nScript ∨ n = nStyle) : stepD k (tkO n) = { k with gone := n } ∧ (∀ t, stepD { k with gone := n } (tText t) = { k with gone := n }) ∧ stepD { k with gone := n } (tkS n) = k := by
  have hb : blockOf n = none ∧ ¬ (n = nB ∨ n = nStrong) ∧ ¬ (n = nI ∨ n = nEm) ∧ ¬ n = nA ∧ ¬ n = nBr ∧ n ∈ hiddenL ∧ n ≠ [] := by rcases hn with rfl | rfl <;> decide
  obtain ⟨h1, h2, h3, h4, h5, h6, h7⟩ := hb
  refine ⟨?_, fun t => ?_, ?_⟩
  · simp only [stepD, hg, tkO, openD, h1, if_neg h2, if_neg h3, if_neg h4, if_neg h5]; simp [h6]
  · simp [stepD, h7, tText]
  · obtain ⟨kd, kf, kk, ki, kb, ks, kl, kg⟩ := k
    simp only at hg
    subst hg
    simp [stepD, h7, tkS]
theorem san_hid {k : Dk} (h : Fit k) {inside x b : Bs} (hin : 60 ∉ inside) (hx : x = hid1 inside ∨ x = hid2 inside ∨ x = hid3 ∨ x = hid4) : sanL k (pageT (x ++ b)) = sanL k (pageT b) := by
  obtain ⟨hg, hl⟩ := h
  have nu : NameOk nU := ⟨_, _, rfl, by decide, by decide, by decide⟩
  have ns : NameOk nSpan := ⟨_, _, rfl, by decide, by decide, by decide⟩
  have nsc : NameOk nScript := ⟨_, _, rfl, by decide, by decide, by decide⟩
  have nst : NameOk nStyle := ⟨_, _, rfl, by decide, by decide, by decide⟩
  have hide : ∀ n : Bs, (n = nScript ∨ n = nStyle) → NameOk n → sanL k (tkO n :: pageT (inside ++ (cls n ++ b))) = sanL k (pageT b) := fun n hn hok => by
    obtain ⟨s1, s2, s3⟩ := step_hide hg hn
    rw [page_raw (r := cls n ++ b) hin ⟨_, rfl⟩, page_cls hok, sanL_cons (by rw [s1]; exact hl), s1]
    by_cases he : inside = []
    · rw [if_pos he, List.nil_append, sanL_cons (by rw [s3]; exact hl), s3]
    · rw [if_neg he, List.singleton_append, sanL_cons (by rw [s2]; exact hl), s2, sanL_cons (by rw [s3]; exact hl), s3]
  rcases hx with rfl | rfl | rfl | rfl
  · unfold hid1
    rw [List.append_assoc, List.append_assoc, page_opn nsc]
    exact hide nScript (Or.inl rfl) nsc
  · unfold hid2
    rw [List.append_assoc, List.append_assoc, page_sty]
    exact hide nStyle (Or.inr rfl) nst
  · unfold hid3
    obtain ⟨s1, s2⟩ := step_none hg (n := nU) (Or.inl rfl)
    rw [List.append_assoc, page_opn nu, page_cls nu, sanL_cons (by rw [s1]; exact hl), s1, sanL_cons (by rw [s2]; exact hl), s2]
  · unfold hid4
    obtain ⟨s1, _⟩ := step_none hg (n := nSpan) (Or.inr rfl)
    rw [page_opn ns, sanL_cons (by rw [s1]; exact hl), s1]
/-- What stands in what is hidden doesn't matter. -/
theorem law_hides {a b inside x : Bs} (ha : 60 ∉ a) (hin : 60 ∉ inside) (hla : a.length ≤ 5000) (hlb : b.length ≤ 5000) (hli : inside.length ≤ 5000) (hx : x = hid1 inside ∨ x = hid2 inside ∨ x = hid3 ∨ x = hid4) :
    sanP (a ++ (opn nU ++ (x ++ b))) = sanP (a ++ (opn nU ++ b)) := by
  have nu : NameOk nU := ⟨_, _, rfl, by decide, by decide, by decide⟩
  have hxl : x.length ≤ 5030 := by rcases hx with rfl | rfl | rfl | rfl <;> simp [hid1, hid2, hid3, hid4, opn, cls, styO, nScript, nStyle, nU, nSpan] <;> omega
  unfold sanP
  rw [if_neg (by simp [opn, nU]; omega), if_neg (by simp [opn, nU]; omega), page_raw (r := opn nU ++ (x ++ b)) ha ⟨_, rfl⟩, page_raw (r := opn nU ++ b) ha ⟨_, rfl⟩, page_opn nu, page_opn nu]
  by_cases he : a = []
  · rw [if_pos he, List.nil_append, List.nil_append]
    obtain ⟨s1, _⟩ := step_none (k := dk0) rfl (n := nU) (Or.inl rfl)
    rw [sanL_cons (by rw [s1]; simp [dk0]), sanL_cons (by rw [s1]; simp [dk0]), s1]
    exact san_hid ⟨rfl, by simp [dk0]⟩ hin hx
  · rw [if_neg he, List.singleton_append, List.singleton_append]
    have htx : stepD dk0 (tText (readE a)) = textD dk0 (readE a) := rfl
    simp only [sanL]
    rw [htx]
    split
    · rfl
    · rename_i h80
      have hg : (textD dk0 (readE a)).gone = [] := rfl
      obtain ⟨s1, _⟩ := step_none hg (n := nU) (Or.inl rfl)
      rw [s1, if_neg h80, if_neg h80]
      exact san_hid ⟨hg, by omega⟩ hin hx
end Go.Mh
