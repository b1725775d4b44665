/- Where a page ends with a whole tag what stands behind it is taken apart by itself: the plain law. No program in sight. -/
import Derived.Test.YtkekjddkbmmckaaGreatPlT
namespace Go.Mh

def qTag : Bs := [60, 113, 62]
def tokQ : Tok := ⟨2, [113], [], []⟩
/-- Nothing, or a last sign that shuts. -/
def Gt (a : Bs) : Prop := ∀ t c, a = t ++ [c] → c = 62
theorem gt_nil : Gt [] := fun t c h => by simp at h
theorem Gt.tail {c : UInt8} {r : Bs} (h : Gt (c :: r)) : Gt r := fun t d e => h (c :: t) d (by rw [e]; rfl)
theorem Gt.app {t r : Bs} (h : Gt (t ++ r)) : Gt r := fun u d e => h (t ++ u) d (by rw [e]; simp)
theorem Gt.suf {r s : Bs} (h : Gt s) (k : Suf r s) : Gt r := by
  rcases k with rfl | ⟨t, rfl⟩
  · exact gt_nil
  · exact h.app
theorem Gt.mem {s : Bs} (h : Gt s) (hn : s ≠ []) : 62 ∈ s := by
  have e := List.dropLast_concat_getLast hn
  have := h _ _ e.symm
  rw [← this]
  exact List.getLast_mem hn
theorem Gt.one {c : UInt8} (h : Gt [c]) : c = 62 := h [] c rfl

theorem tw_app {p : UInt8 → Bool} {s : Bs} (h : s.dropWhile p ≠ []) (x : Bs) : (s ++ x).takeWhile p = s.takeWhile p ∧ (s ++ x).dropWhile p = s.dropWhile p ++ x := by
  induction s with
  | nil => simp at h
  | cons c s ih =>
    simp only [List.cons_append, List.takeWhile_cons, List.dropWhile_cons] at h ⊢
    by_cases hc : p c = true
    · simp only [hc, if_true] at h ⊢
      obtain ⟨h1, h2⟩ := ih h
      exact ⟨by rw [h1], h2⟩
    · simp [hc]
theorem tw_all {p : UInt8 → Bool} {s : Bs} (h : s.dropWhile p = []) (x : Bs) : (s ++ x).takeWhile p = s ++ x.takeWhile p ∧ (s ++ x).dropWhile p = x.dropWhile p ∧ s.takeWhile p = s := by
  induction s with
  | nil => simp
  | cons c s ih =>
    simp only [List.cons_append, List.takeWhile_cons, List.dropWhile_cons] at h ⊢
    by_cases hc : p c = true
    · simp only [hc, if_true] at h ⊢
      obtain ⟨h1, h2, h3⟩ := ih h
      exact ⟨by rw [h1], h2, by rw [h3]⟩
    · simp [hc] at h

theorem page_q (b : Bs) : markT (qTag ++ b) = tokQ :: pageT b := by
  have h1 : sCom.isPrefixOf (60 :: 113 :: 62 :: b) = false := by simp [sCom, List.isPrefixOf]
  have h2 : tagT (113 :: 62 :: b) = some ([113], [], b) := by
    have e1 : (113 :: 62 :: b : Bs).dropWhile nb2 = 62 :: b := by simp [nb2, isSp]
    have e2 : (113 :: 62 :: b : Bs).takeWhile nb2 = [113] := by simp [nb2, isSp]
    have e3 : (62 :: b : Bs).dropWhile sk2 = 62 :: b := by simp [sk2, isSp]
    have e4 : lower [113] = [113] := by decide
    unfold tagT
    rw [e1, e2, attrT_eq, e3, e4]
    simp
  show markT (60 :: 113 :: 62 :: b) = _
  simp only [markT, h1, h2]
  simp [isLt, tokQ, readE, readS]

theorem page_q_p (b : Bs) : pageT (qTag ++ b) = tokQ :: pageT b := by
  rw [pageT_eq]
  have e1 : (qTag ++ b).takeWhile (· != 60) = [] := by simp [qTag]
  have e2 : (qTag ++ b).dropWhile (· != 60) = qTag ++ b := by simp [qTag]
  rw [e1, e2, page_q]
  rfl

/- Comments. -/
def pEnd : Bs := [45, 45, 62]
def foundC : Bs → Bool
  | [] => false
  | c :: r => pEnd.isPrefixOf (c :: r) || foundC r
theorem foundC_len {s : Bs} (h : foundC s = true) : 3 ≤ s.length := by
  induction s with
  | nil => simp [foundC] at h
  | cons c r ih =>
    simp only [foundC, Bool.or_eq_true] at h
    rcases h with h | h
    · have := (List.isPrefixOf_iff_prefix.1 h).length_le; simpa [pEnd] using this
    · have := ih h; simp; omega
theorem pre_app {p s x : Bs} (h : p.isPrefixOf s = true) : p.isPrefixOf (s ++ x) = true := by
  obtain ⟨t, rfl⟩ := List.isPrefixOf_iff_prefix.1 h
  rw [List.isPrefixOf_iff_prefix]
  exact ⟨t ++ x, by simp⟩
theorem pre_back {p s x : Bs} (h : p.isPrefixOf (s ++ x) = true) (hl : p.length ≤ s.length) : p.isPrefixOf s = true := by
  rw [List.isPrefixOf_iff_prefix] at h ⊢
  exact List.prefix_of_prefix_length_le h (List.prefix_append s x) hl
theorem cutC_app {s : Bs} (h : foundC s = true) (x : Bs) : cutC (s ++ x) = cutC s ++ x := by
  induction s with
  | nil => simp [foundC] at h
  | cons c r ih =>
    simp only [foundC, Bool.or_eq_true] at h
    by_cases hp : pEnd.isPrefixOf (c :: r) = true
    · have hl := (List.isPrefixOf_iff_prefix.1 hp).length_le
      have hp2 := pre_app (x := x) hp
      simp only [List.cons_append] at hp2 ⊢
      unfold pEnd at hp hp2
      simp only [cutC, if_pos hp, if_pos hp2]
      simp [pEnd] at hl
      rw [List.drop_append_of_le_length (by omega)]
    · have hr : foundC r = true := by rcases h with h | h; exact absurd h hp; exact h
      have hl := foundC_len hr
      have hp2 : ¬ pEnd.isPrefixOf (c :: r ++ x) = true := fun e => hp (pre_back e (by simp [pEnd]; omega))
      simp only [List.cons_append] at hp2 ⊢
      unfold pEnd at hp hp2
      simp only [cutC, if_neg hp, if_neg hp2]
      exact ih hr
theorem cutC_none {s : Bs} (h : foundC s = false) : cutC s = [] := by
  induction s with
  | nil => rfl
  | cons c r ih =>
    simp only [foundC, Bool.or_eq_false_iff] at h
    unfold pEnd at h
    simp only [cutC, h.1]
    simpa using ih h.2
theorem foundC_q {s : Bs} (hg : Gt s) (h : foundC s = false) : foundC (s ++ qTag) = false := by
  induction s with
  | nil => decide
  | cons c r ih =>
    simp only [foundC, Bool.or_eq_false_iff] at h
    simp only [List.cons_append, foundC, Bool.or_eq_false_iff]
    refine ⟨?_, ih hg.tail h.2⟩
    by_cases hl : 3 ≤ (c :: r).length
    · cases hp : pEnd.isPrefixOf (c :: (r ++ qTag)) with
      | false => rfl
      | true => exact absurd (pre_back (s := c :: r) hp hl) (by simp [h.1])
    · cases r with
      | nil => rw [hg.one]; decide
      | cons d r =>
        cases r with
        | nil => rw [hg.tail.one]; simp [pEnd, List.isPrefixOf]
        | cons e r => simp at hl

/- Tags. -/
theorem dw_gt {p : UInt8 → Bool} (hp : p 62 = false) {s : Bs} (hg : Gt s) (hn : s ≠ []) : s.dropWhile p ≠ [] := dw_ne (hg.mem hn) hp

theorem valOf_app {m : Bs} (hg : Gt m) (hn : m ≠ []) : ((valOf m).2 ≠ [] ∧ ∀ x, valOf (m ++ x) = ((valOf m).1, (valOf m).2 ++ x)) ∨ ((valOf m).2 = [] ∧ (valOf (m ++ qTag)).2 = []) := by
  have hb := dw_gt (p := isSp) (by decide) hg hn
  have hba : ∀ x, blanks (m ++ x) = blanks m ++ x := fun x => (tw_app hb x).2
  have hgb : Gt (blanks m) := hg.suf (suf_dw _ _)
  cases h : blanks m with
  | nil => unfold blanks at h; exact absurd h hb
  | cons c r =>
    rw [h] at hgb
    by_cases hc : c = 61
    · subst hc
      have hrn : r ≠ [] := by rintro rfl; have := hgb.one; simp at this
      have hgr := hgb.tail
      have e : ∀ x, valOf (m ++ x) = valueT (r ++ x) := fun x => by unfold valOf; rw [hba, h]; simp
      have e0 : valOf m = valueT r := by have := e []; simpa using this
      rw [e0]
      simp only [e]
      have hb2 := dw_gt (p := isSp) (by decide) hgr hrn
      have hba2 : ∀ x, blanks (r ++ x) = blanks r ++ x := fun x => (tw_app hb2 x).2
      have hgb2 : Gt (blanks r) := hgr.suf (suf_dw _ _)
      cases h2 : blanks r with
      | nil => unfold blanks at h2; exact absurd h2 hb2
      | cons c2 r2 =>
        rw [h2] at hgb2
        by_cases hq : c2 = 34 ∨ c2 = 39
        · have e2 : ∀ x, valueT (r ++ x) = ((cut1 c2 (r2 ++ x)).1, (cut1 c2 (r2 ++ x)).2.1) := fun x => by unfold valueT; rw [hba2, h2]; simp [hq]
          have e20 : valueT r = ((cut1 c2 r2).1, (cut1 c2 r2).2.1) := by have := e2 []; simpa using this
          rw [e20]
          simp only [e2]
          by_cases hm : c2 ∈ r2
          · left
            have hd : r2.dropWhile (· != c2) ≠ [] := dw_ne hm (by simp)
            have hgd : Gt (r2.dropWhile (· != c2)) := hgb2.tail.suf (suf_dw _ _)
            obtain ⟨c3, r3, e3⟩ : ∃ c3 r3, r2.dropWhile (· != c2) = c3 :: r3 := by
              cases h3 : r2.dropWhile (· != c2) with
              | nil => exact absurd h3 hd
              | cons a b => exact ⟨a, b, rfl⟩
            have hc3 : c3 = c2 := by
              have := List.head?_dropWhile_not (· != c2) r2
              rw [e3] at this
              simpa using this
            have hr3 : r3 ≠ [] := by
              rintro rfl
              rw [e3, hc3] at hgd
              have := hgd.one
              rcases hq with rfl | rfl <;> simp at this
            have e4 : cut1 c2 r2 = (r2.takeWhile (· != c2), r3, true) := by unfold cut1; rw [if_pos hm, e3]; rfl
            refine ⟨by rw [e4]; exact hr3, fun x => ?_⟩
            have hm2 : c2 ∈ r2 ++ x := List.mem_append_left _ hm
            obtain ⟨t1, t2⟩ := tw_app hd x
            have e5 : cut1 c2 (r2 ++ x) = (r2.takeWhile (· != c2), r3 ++ x, true) := by unfold cut1; rw [if_pos hm2, t1, t2, e3]; rfl
            rw [e4, e5]
          · right
            have hm2 : c2 ∉ r2 ++ qTag := by
              intro hh
              rcases List.mem_append.1 hh with hh | hh
              · exact hm hh
              · simp [qTag] at hh
                rcases hq with rfl | rfl <;> simp at hh
            constructor
            · unfold cut1; rw [if_neg hm]
            · unfold cut1; rw [if_neg hm2]
        · left
          have hdn := dw_gt (p := nb1) (by decide) hgb2 (by simp)
          have e2 : ∀ x, valueT (r ++ x) = (((c2 :: r2) ++ x).takeWhile nb1, ((c2 :: r2) ++ x).dropWhile nb1) := fun x => by unfold valueT; rw [hba2, h2]; simp [hq]
          have e20 : valueT r = ((c2 :: r2).takeWhile nb1, (c2 :: r2).dropWhile nb1) := by have := e2 []; simpa using this
          rw [e20]
          refine ⟨hdn, fun x => ?_⟩
          rw [e2]
          obtain ⟨t1, t2⟩ := tw_app hdn x
          rw [t1, t2]
    · left
      have e : ∀ x, valOf (m ++ x) = ([], m ++ x) := fun x => by unfold valOf; rw [hba, h]; simp [hc]
      have e0 : valOf m = ([], m) := by have := e []; simpa using this
      rw [e0]
      exact ⟨hn, fun x => e x⟩

theorem attrT_nil (href : Bs) (found : Bool) : attrT [] href found = none := rfl

theorem attrT_app (n : Nat) : ∀ (s href : Bs) (found : Bool), s.length ≤ n → Gt s → s ≠ [] →
    (∀ h r, attrT s href found = some (h, r) → ∀ x, attrT (s ++ x) href found = some (h, r ++ x)) ∧ (attrT s href found = none → attrT (s ++ qTag) href found = none) := by
  induction n with
  | zero => intro s href found hl _ hn; exact absurd (List.eq_nil_of_length_eq_zero (by omega)) hn
  | succ n ih =>
    intro s href found hl hg hn
    have hd := dw_gt (p := sk2) (by decide) hg hn
    have hda : ∀ x, (s ++ x).dropWhile sk2 = s.dropWhile sk2 ++ x := fun x => (tw_app hd x).2
    have hgd : Gt (s.dropWhile sk2) := hg.suf (suf_dw _ _)
    have hle := dw_le sk2 s
    cases h : s.dropWhile sk2 with
    | nil => exact absurd h hd
    | cons c r =>
      rw [h] at hgd hle
      by_cases hc : c = 62
      · have e : ∀ x, attrT (s ++ x) href found = some (href, r ++ x) := fun x => by rw [attrT_eq, hda, h]; simp [hc]
        have e0 : attrT s href found = some (href, r) := by have := e []; simpa using this
        refine ⟨fun h2 r2 he x => ?_, fun he => ?_⟩
        · rw [e0] at he; simp at he; obtain ⟨rfl, rfl⟩ := he; exact e x
        · rw [e0] at he; simp at he
      · have hrn : r ≠ [] := by rintro rfl; exact hc hgd.one
        have hd3 := dw_gt (p := nb3) (by decide) hgd.tail hrn
        have t3 := fun x => tw_app hd3 x
        have hg3 : Gt (r.dropWhile nb3) := hgd.tail.suf (suf_dw _ _)
        have hl3 := dw_le nb3 r
        have e : ∀ x, attrT (s ++ x) href found = attrT (valOf (r.dropWhile nb3 ++ x)).2 (if lower (c :: r.takeWhile nb3) = sHref ∧ found = false then (valOf (r.dropWhile nb3 ++ x)).1 else href) (if lower (c :: r.takeWhile nb3) = sHref ∧ found = false then true else found) := fun x => by
          rw [attrT_eq, hda, h]; simp only [List.cons_append, if_neg hc, (t3 x).1, (t3 x).2]
        have e0 : attrT s href found = attrT (valOf (r.dropWhile nb3)).2 (if lower (c :: r.takeWhile nb3) = sHref ∧ found = false then (valOf (r.dropWhile nb3)).1 else href) (if lower (c :: r.takeWhile nb3) = sHref ∧ found = false then true else found) := by have := e []; simpa using this
        simp at hle
        rcases valOf_app hg3 hd3 with ⟨hv1, hv2⟩ | ⟨hv1, hv2⟩
        · have hs := suf_valOf (r.dropWhile nb3)
          have := hs.len
          obtain ⟨i1, i2⟩ := ih (valOf (r.dropWhile nb3)).2 (if lower (c :: r.takeWhile nb3) = sHref ∧ found = false then (valOf (r.dropWhile nb3)).1 else href) (if lower (c :: r.takeWhile nb3) = sHref ∧ found = false then true else found) (by omega) (hg3.suf hs) hv1
          refine ⟨fun h2 r2 he x => ?_, fun he => ?_⟩
          · rw [e, hv2]; rw [e0] at he; exact i1 h2 r2 he x
          · rw [e, hv2]; rw [e0] at he; exact i2 he
        · refine ⟨fun h2 r2 he x => ?_, fun he => ?_⟩
          · rw [e0, hv1, attrT_nil] at he; simp at he
          · rw [e, hv2, attrT_nil]

theorem tagT_app {s : Bs} (hg : Gt s) (hn : s ≠ []) : (∀ n h r, tagT s = some (n, h, r) → ∀ x, tagT (s ++ x) = some (n, h, r ++ x)) ∧ (tagT s = none → tagT (s ++ qTag) = none) := by
  have hd := dw_gt (p := nb2) (by decide) hg hn
  have t := fun x => tw_app hd x
  obtain ⟨i1, i2⟩ := attrT_app _ (s.dropWhile nb2) [] false (Nat.le_refl _) (hg.suf (suf_dw _ _)) hd
  refine ⟨fun n h r he x => ?_, fun he => ?_⟩
  · unfold tagT at he ⊢
    rw [(t x).1, (t x).2]
    cases ha : attrT (s.dropWhile nb2) [] false with
    | none => rw [ha] at he; simp at he
    | some y =>
      obtain ⟨h', r'⟩ := y
      rw [ha] at he
      simp at he
      obtain ⟨rfl, rfl, rfl⟩ := he
      rw [i1 _ _ ha x]
  · unfold tagT at he ⊢
    rw [(t qTag).1, (t qTag).2]
    cases ha : attrT (s.dropWhile nb2) [] false with
    | none => rw [i2 ha]
    | some y => rw [ha] at he; simp at he

theorem cancel_one {t x y z : List Tok} (h : t ++ x = t ++ y ++ z) : x = y ++ z := by
  rw [List.append_assoc] at h
  exact List.append_cancel_left h

theorem parts_all (n : Nat) : ∀ a : Bs, a.length ≤ n → Gt a → pageT (a ++ qTag) = pageT a ++ [tokQ] → ∀ b, pageT (a ++ (qTag ++ b)) = pageT a ++ tokQ :: pageT b := by
  induction n with
  | zero =>
    intro a hl _ _ b
    obtain rfl : a = [] := List.eq_nil_of_length_eq_zero (by omega)
    rw [List.nil_append, page_q_p]; rfl
  | succ n ih =>
    intro a hl hg hyp b
    by_cases hd : a.dropWhile (· != 60) = []
    · obtain ⟨t1, t2, t3⟩ := tw_all hd (qTag ++ b)
      rw [pageT_eq (a ++ _), t1, t2, pageT_eq a, hd, t3]
      have e1 : (qTag ++ b).takeWhile (· != 60) = [] := by simp [qTag]
      have e2 : (qTag ++ b).dropWhile (· != 60) = qTag ++ b := by simp [qTag]
      rw [e1, e2, page_q]
      simp [markT]
    · have t := fun x => tw_app hd x
      rw [pageT_eq (a ++ _), (t _).1, (t _).2, pageT_eq a] at hyp
      rw [pageT_eq (a ++ _), (t _).1, (t _).2, pageT_eq a, List.append_assoc]
      have hyp2 := cancel_one hyp
      congr 1
      clear hyp t
      have hgd : Gt (a.dropWhile (· != 60)) := hg.suf (suf_dw _ _)
      have hle := dw_le (· != 60) a
      cases h : a.dropWhile (· != 60) with
      | nil => exact absurd h hd
      | cons c u =>
        have hc : c = 60 := by
          have := List.head?_dropWhile_not (· != 60) a
          rw [h] at this
          simpa using this
        subst hc
        rw [h] at hgd hyp2 hle
        clear h hd
        simp at hle
        cases u with
        | nil => have := hgd.one; simp at this
        | cons d v =>
          have hgu := hgd.tail
          simp at hle
          have hsc : ∀ x, sCom.isPrefixOf (60 :: d :: v ++ x) = sCom.isPrefixOf (60 :: d :: v) := by
            intro x
            cases v with
            | nil => rw [hgu.one]; simp [sCom, List.isPrefixOf]
            | cons e v =>
              cases v with
              | nil => rw [hgu.tail.one]; simp [sCom, List.isPrefixOf]
              | cons f v => simp [sCom, List.isPrefixOf]
          simp only [List.cons_append] at hsc hyp2 ⊢
          simp only [markT, hsc] at hyp2 ⊢
          by_cases hcom : sCom.isPrefixOf (60 :: d :: v) = true
          · simp only [if_pos hcom, List.cons_append, List.cons.injEq, true_and] at hyp2 ⊢
            have hl3 := (List.isPrefixOf_iff_prefix.1 hcom).length_le
            simp [sCom] at hl3
            have hdr : ∀ x : Bs, (d :: (v ++ x)).drop 3 = (d :: v).drop 3 ++ x := fun x => by
              rw [← List.cons_append, List.drop_append_of_le_length (by simp; omega)]
            rw [hdr] at hyp2
            rw [hdr]
            have hg3 : Gt ((d :: v).drop 3) := hgu.suf (suf_drop 3 _)
            cases hf : foundC ((d :: v).drop 3) with
            | true =>
              rw [cutC_app hf] at hyp2
              rw [cutC_app hf]
              have hs := cutC_suf ((d :: v).drop 3)
              have := Suf.len hs
              rw [List.length_drop] at this
              simp only [List.length_cons] at this
              exact ih _ (by omega) (hg3.suf hs) hyp2 b
            | false =>
              rw [cutC_none hf, cutC_none (foundC_q hg3 hf)] at hyp2
              simp [pageT_nil] at hyp2
          · simp only [if_neg hcom] at hyp2 ⊢
            by_cases hbang : d = 33 ∨ d = 63
            · simp only [if_pos hbang, List.cons_append, List.cons.injEq, true_and] at hyp2 ⊢
              have hmem : (62 : UInt8) ∈ (60 :: d :: v) := List.mem_cons_of_mem _ (hgu.mem (by simp))
              have hdn : (60 :: d :: v).dropWhile (· != 62) ≠ [] := dw_ne hmem (by simp)
              have hcut : ∀ x, (cut1 62 (60 :: d :: (v ++ x))).2.1 = (cut1 62 (60 :: d :: v)).2.1 ++ x := by
                intro x
                have hmem2 : (62 : UInt8) ∈ (60 :: d :: (v ++ x)) := by rw [← List.cons_append, ← List.cons_append]; exact List.mem_append_left _ hmem
                have e := (tw_app hdn x).2
                simp only [List.cons_append] at e
                simp only [cut1, if_pos hmem, if_pos hmem2, e]
                rw [List.tail_append_of_ne_nil hdn]
              rw [hcut] at hyp2
              rw [hcut]
              refine ih _ ?_ (hgd.suf (suf_cut1 62 _)) hyp2 b
              have hll : (cut1 62 (60 :: d :: v)).2.1.length ≤ v.length + 1 := by
                unfold cut1
                rw [if_pos hmem]
                have := dw_le (· != 62) (60 :: d :: v)
                simp at this ⊢; omega
              omega
            · simp only [if_neg hbang] at hyp2 ⊢
              by_cases hlt : isLt d = true
              · simp only [if_pos hlt] at hyp2 ⊢
                obtain ⟨i1, i2⟩ := tagT_app hgu (by simp)
                simp only [List.cons_append] at i1 i2
                cases ht : tagT (d :: v) with
                | none => rw [i2 ht, ht] at hyp2; simp at hyp2
                | some y =>
                  obtain ⟨nm, hr, r⟩ := y
                  rw [i1 _ _ _ ht, ht] at hyp2
                  rw [i1 _ _ _ ht]
                  simp only [List.cons_append, List.cons.injEq, true_and] at hyp2 ⊢
                  have hs := tagT_suf ht
                  have := hs.len
                  simp at this
                  exact ih _ (by omega) (hgu.suf hs) hyp2 b
              · simp only [if_neg hlt] at hyp2 ⊢
                by_cases hcl : d = 47 ∧ (v.head?.map isLt) = some true
                · have hvn : v ≠ [] := by rintro rfl; simp at hcl
                  have hcl2 : ∀ x : Bs, d = 47 ∧ ((v ++ x).head?.map isLt) = some true := fun x => by
                    refine ⟨hcl.1, ?_⟩
                    rw [← hcl.2]
                    cases v with
                    | nil => exact absurd rfl hvn
                    | cons e v => rfl
                  simp only [if_pos hcl, if_pos (hcl2 _)] at hyp2 ⊢
                  obtain ⟨i1, i2⟩ := tagT_app hgu.tail hvn
                  cases ht : tagT v with
                  | none => rw [i2 ht, ht] at hyp2; simp at hyp2
                  | some y =>
                    obtain ⟨nm, hr, r⟩ := y
                    rw [i1 _ _ _ ht, ht] at hyp2
                    rw [i1 _ _ _ ht]
                    simp only [List.cons_append, List.cons.injEq, true_and] at hyp2 ⊢
                    have hs := tagT_suf ht
                    have := hs.len
                    exact ih _ (by omega) (hgu.tail.suf hs) hyp2 b
                · have hcl2 : ∀ x : Bs, ¬ (d = 47 ∧ ((v ++ x).head?.map isLt) = some true) := fun x hh => by
                    cases v with
                    | nil => have := hgu.one; rw [hh.1] at this; simp at this
                    | cons e v => exact hcl hh
                  simp only [if_neg hcl, if_neg (hcl2 _), List.cons_append, List.cons.injEq, true_and] at hyp2 ⊢
                  exact ih (d :: v) (by simp; omega) hgu hyp2 b

theorem law_parts {a b : Bs} (hg : a = [] ∨ ∃ t, a = t ++ [62]) (h : pageT (a ++ qTag) = pageT a ++ [tokQ]) : pageT (a ++ qTag ++ b) = pageT (a ++ qTag) ++ pageT b := by
  have hg' : Gt a := by
    rcases hg with rfl | ⟨t, rfl⟩
    · exact gt_nil
    · intro u c e
      have := List.append_inj_right' e rfl
      simpa using this.symm
  rw [List.append_assoc, parts_all _ a (Nat.le_refl _) hg' h b, h]
  simp
end Go.Mh
