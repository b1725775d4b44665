/- Pages taken apart, in plain terms; what stands behind a whole tag is taken apart by itself. No program in sight. -/
import Derived.Test.YtkekjddkbmmckaaGreatPl
namespace Go.Mh

/- Read back. -/
def eAmp : Bs := [38, 97, 109, 112, 59]
def eLt : Bs := [38, 108, 116, 59]
def eGt : Bs := [38, 103, 116, 59]
def eQuot : Bs := [38, 113, 117, 111, 116, 59]
/-- The character that stands ahead, and by how many more bytes it is written. -/
def first1 (c : UInt8) (r : Bs) : UInt8 × Nat :=
  if eAmp.isPrefixOf (c :: r) = true then (38, 4) else if eLt.isPrefixOf (c :: r) = true then (60, 3) else if eGt.isPrefixOf (c :: r) = true then (62, 3) else if eQuot.isPrefixOf (c :: r) = true then (34, 5) else (c, 0)
def readS : Nat → Bs → Bs
  | _, [] => []
  | k + 1, _ :: r => readS k r
  | 0, c :: r => (first1 c r).1 :: readS (first1 c r).2 r
def readE (s : Bs) : Bs := readS 0 s
theorem readS_drop (k : Nat) (s : Bs) : readS k s = readE (s.drop k) := by
  induction s generalizing k with
  | nil => cases k <;> simp [readS, readE]
  | cons c s ih => cases k with
    | zero => rfl
    | succ k => simp [readS, ih]
theorem readE_cons (c : UInt8) (r : Bs) : readE (c :: r) = (first1 c r).1 :: readE (r.drop (first1 c r).2) := by
  rw [← readS_drop]; rfl

/- Blanks, letters, words. -/
def isSp (c : UInt8) : Bool := c == 32 || c == 9 || c == 10 || c == 13 || c == 12
def isLt (c : UInt8) : Bool := (97 ≤ c && c ≤ 122) || (65 ≤ c && c ≤ 90)
def blanks (s : Bs) : Bs := s.dropWhile isSp
def nb1 (c : UInt8) : Bool := !(isSp c || c == 62)
def nb2 (c : UInt8) : Bool := !(isSp c || c == 47 || c == 62)
def nb3 (c : UInt8) : Bool := !(isSp c || c == 47 || c == 62 || c == 61)
def sk2 (c : UInt8) : Bool := isSp c || c == 47

/-- The value of an attribute, behind its sign; what stands behind that. -/
def valueT (s : Bs) : Bs × Bs := match blanks s with
  | [] => ([], [])
  | c :: r => if c = 34 ∨ c = 39 then ((cut1 c r).1, (cut1 c r).2.1) else ((c :: r).takeWhile nb1, (c :: r).dropWhile nb1)
def valOf (more : Bs) : Bs × Bs := match blanks more with
  | [] => ([], more)
  | c :: r => if c = 61 then valueT r else ([], more)
def sHref : Bs := [104, 114, 101, 102]
def attrF : Nat → Bs → Bs → Bool → Option (Bs × Bs)
  | 0, _, _, _ => none
  | n + 1, s, href, found => match s.dropWhile sk2 with
    | [] => none
    | c :: r => if c = 62 then some (href, r)
      else attrF n (valOf (r.dropWhile nb3)).2 (if lower (c :: r.takeWhile nb3) = sHref ∧ found = false then (valOf (r.dropWhile nb3)).1 else href) (if lower (c :: r.takeWhile nb3) = sHref ∧ found = false then true else found)
def attrT (s href : Bs) (found : Bool) : Option (Bs × Bs) := attrF (s.length + 1) s href found
/-- A tag, behind its first sign: its name, its href, what stands behind it. -/
def tagT (s : Bs) : Option (Bs × Bs × Bs) := match attrT (s.dropWhile nb2) [] false with
  | none => none
  | some (h, r) => some (lower (s.takeWhile nb2), h, r)

def cutC : Bs → Bs
  | [] => []
  | c :: r => if [45, 45, 62].isPrefixOf (c :: r) = true then r.drop 2 else cutC r
def tText (t : Bs) : Tok := ⟨1, [], t, []⟩
def tOther : Tok := ⟨4, [], [], []⟩
def sCom : Bs := [60, 33, 45, 45]
def pageF : Nat → Bs → List Tok
  | 0, _ => []
  | n + 1, s => (if s.takeWhile (· != 60) = [] then [] else [tText (readE (s.takeWhile (· != 60)))]) ++
    match s.dropWhile (· != 60) with
    | [] => []
    | c :: u =>
      if sCom.isPrefixOf (c :: u) = true then tOther :: pageF n (cutC (u.drop 3))
      else match u with
        | [] => tText [60] :: pageF n []
        | d :: v =>
          if d = 33 ∨ d = 63 then tOther :: pageF n (cut1 62 (c :: d :: v)).2.1
          else if isLt d = true then match tagT (d :: v) with
            | none => []
            | some (name, h, r) => ⟨2, name, [], readE h⟩ :: pageF n r
          else if d = 47 ∧ (v.head?.map isLt) = some true then match tagT v with
            | none => []
            | some (name, _, r) => ⟨3, name, [], []⟩ :: pageF n r
          else tText [60] :: pageF n (d :: v)
def pageT (s : Bs) : List Tok := pageF (s.length + 1) s

theorem dw_le {α : Type} (p : α → Bool) (s : List α) : (s.dropWhile p).length ≤ s.length := by
  induction s with
  | nil => simp
  | cons c s ih => simp only [List.dropWhile_cons]; split <;> simp; omega
theorem dw_ne {α : Type} {p : α → Bool} {s : List α} {x : α} (hx : x ∈ s) (hp : p x = false) : s.dropWhile p ≠ [] := by
  induction s with
  | nil => simp at hx
  | cons c s ih =>
    simp only [List.dropWhile_cons]
    split
    · rename_i hc
      rcases List.mem_cons.1 hx with rfl | hx
      · rw [hp] at hc; simp at hc
      · exact ih hx
    · simp
theorem dw_suf {α : Type} (p : α → Bool) (s : List α) : ∃ t, s = t ++ s.dropWhile p := ⟨s.takeWhile p, (List.takeWhile_append_dropWhile).symm⟩
theorem cut1_suf (c : UInt8) (s : Bs) : (cut1 c s).2.1 = [] ∨ ∃ t, s = t ++ (cut1 c s).2.1 := by
  unfold cut1
  split
  · right
    obtain ⟨t, ht⟩ := dw_suf (· != c) s
    cases h : s.dropWhile (· != c) with
    | nil => exact ⟨s, by simp⟩
    | cons d r => rw [h] at ht; exact ⟨t ++ [d], by simp [ht]⟩
  · exact Or.inl rfl
theorem cutC_suf (s : Bs) : cutC s = [] ∨ ∃ t, s = t ++ cutC s := by
  induction s with
  | nil => exact Or.inl rfl
  | cons c r ih =>
    unfold cutC
    split
    · exact Or.inr ⟨c :: r.take 2, by simp⟩
    · rcases ih with h | ⟨t, h⟩
      · exact Or.inl h
      · exact Or.inr ⟨c :: t, by rw [List.cons_append, ← h]⟩

/-- A rest: nothing, or what stands at the end. -/
def Suf (r s : Bs) : Prop := r = [] ∨ ∃ t, s = t ++ r
theorem Suf.len {r s : Bs} (h : Suf r s) : r.length ≤ s.length := by
  rcases h with rfl | ⟨t, rfl⟩ <;> simp
theorem Suf.refl (s : Bs) : Suf s s := Or.inr ⟨[], rfl⟩
theorem Suf.trans {a b c : Bs} (h : Suf a b) (k : Suf b c) : Suf a c := by
  rcases h with rfl | ⟨t, rfl⟩
  · exact Or.inl rfl
  · rcases k with k | ⟨u, rfl⟩
    · left; simp at k; exact k.2
    · exact Or.inr ⟨u ++ t, by simp⟩
theorem Suf.cons {a b : Bs} (c : UInt8) (h : Suf a b) : Suf a (c :: b) := h.trans (Or.inr ⟨[c], rfl⟩)
theorem suf_dw (p : UInt8 → Bool) (s : Bs) : Suf (s.dropWhile p) s := Or.inr (dw_suf p s)
theorem suf_cut1 (c : UInt8) (s : Bs) : Suf (cut1 c s).2.1 s := cut1_suf c s
theorem suf_drop (n : Nat) (s : Bs) : Suf (s.drop n) s := Or.inr ⟨s.take n, (List.take_append_drop n s).symm⟩

theorem suf_value (s : Bs) : Suf (valueT s).2 s := by
  unfold valueT
  have hb := suf_dw isSp s
  cases h : blanks s with
  | nil => exact Or.inl rfl
  | cons c r =>
    unfold blanks at h
    rw [h] at hb
    simp only
    split
    · exact ((suf_cut1 c r).cons c).trans hb
    · exact (suf_dw nb1 (c :: r)).trans hb
theorem suf_valOf (s : Bs) : Suf (valOf s).2 s := by
  unfold valOf
  have hb := suf_dw isSp s
  cases h : blanks s with
  | nil => exact Suf.refl s
  | cons c r =>
    unfold blanks at h
    rw [h] at hb
    simp only
    split
    · exact ((suf_value r).cons c).trans hb
    · exact Suf.refl s

theorem attrF_fuel (n m : Nat) (s href : Bs) (found : Bool) (hn : s.length < n) (hm : s.length < m) : attrF n s href found = attrF m s href found := by
  induction n generalizing m s href found with
  | zero => omega
  | succ n ih =>
    cases m with
    | zero => omega
    | succ m =>
      simp only [attrF]
      cases h : s.dropWhile sk2 with
      | nil => rfl
      | cons c r =>
        simp only
        split
        · rfl
        · have h1 : (c :: r).length ≤ s.length := by rw [← h]; exact dw_le _ _
          have h2 := (suf_valOf (r.dropWhile nb3)).len
          have h3 := dw_le nb3 r
          simp at h1
          exact ih _ _ _ _ (by omega) (by omega)
theorem attrT_eq (s href : Bs) (found : Bool) : attrT s href found = match s.dropWhile sk2 with
    | [] => none
    | c :: r => if c = 62 then some (href, r)
      else attrT (valOf (r.dropWhile nb3)).2 (if lower (c :: r.takeWhile nb3) = sHref ∧ found = false then (valOf (r.dropWhile nb3)).1 else href) (if lower (c :: r.takeWhile nb3) = sHref ∧ found = false then true else found) := by
  unfold attrT
  rw [attrF]
  cases h : s.dropWhile sk2 with
  | nil => rfl
  | cons c r =>
    simp only
    split
    · rfl
    · have h1 : (c :: r).length ≤ s.length := by rw [← h]; exact dw_le _ _
      have h2 := (suf_valOf (r.dropWhile nb3)).len
      have h3 := dw_le nb3 r
      simp at h1
      exact attrF_fuel _ _ _ _ _ (by omega) (by omega)
theorem attrT_suf (s href h r : Bs) (found : Bool) (e : attrT s href found = some (h, r)) : Suf r s := by
  generalize hn : s.length = n
  induction n using Nat.strongRecOn generalizing s href found with
  | ind n ih =>
    rw [attrT_eq] at e
    cases hd : s.dropWhile sk2 with
    | nil => rw [hd] at e; simp at e
    | cons c u =>
      rw [hd] at e
      have hs := suf_dw sk2 s
      rw [hd] at hs
      simp only at e
      split at e
      · simp at e; obtain ⟨_, rfl⟩ := e; exact ((Suf.refl u).cons c).trans hs
      · have h1 := hs.len
        have h2 := (suf_valOf (u.dropWhile nb3)).len
        have h3 := dw_le nb3 u
        simp at h1
        have h4 := ih _ (by omega) _ _ _ e rfl
        exact ((h4.trans ((suf_valOf _).trans (suf_dw nb3 u))).cons c).trans hs
theorem tagT_suf {s name h r : Bs} (e : tagT s = some (name, h, r)) : Suf r s := by
  unfold tagT at e
  cases ha : attrT (s.dropWhile nb2) [] false with
  | none => rw [ha] at e; simp at e
  | some x => rw [ha] at e; simp at e; obtain ⟨_, rfl, rfl⟩ := e; exact (attrT_suf _ _ _ _ _ ha).trans (suf_dw nb2 s)

theorem pageF_fuel (n m : Nat) (s : Bs) (hn : s.length < n) (hm : s.length < m) : pageF n s = pageF m s := by
  induction n generalizing m s with
  | zero => omega
  | succ n ih =>
    cases m with
    | zero => omega
    | succ m =>
      simp only [pageF]
      congr 1
      cases h : s.dropWhile (· != 60) with
      | nil => rfl
      | cons c u =>
        have h1 : (c :: u).length ≤ s.length := by rw [← h]; exact dw_le _ _
        simp at h1
        simp only
        have go : ∀ r : Bs, r.length ≤ u.length → pageF n r = pageF m r := fun r hr => ih _ _ (by omega) (by omega)
        split
        · rw [go _ (by have := Suf.len (cutC_suf (u.drop 3)); simp at this; omega)]
        · cases u with
          | nil => rw [go [] (by simp)]
          | cons d v =>
            simp only
            split
            · rw [go _ (by
                have h2 := (suf_cut1 62 (c :: d :: v)).len
                rcases Nat.lt_or_ge (cut1 62 (c :: d :: v)).2.1.length (c :: d :: v).length with h3 | h3
                · simp at h3 ⊢; omega
                · exfalso
                  unfold cut1 at h3
                  split at h3
                  · rename_i hmem
                    have := dw_le (· != 62) (c :: d :: v)
                    have hne : ((c :: d :: v).dropWhile (· != 62)) ≠ [] := dw_ne hmem (by simp)
                    have hpos : 0 < ((c :: d :: v).dropWhile (· != 62)).length := List.length_pos_iff.2 hne
                    simp only [List.length_tail] at h3
                    omega
                  · simp at h3)]
            · split
              · cases ht : tagT (d :: v) with
                | none => rfl
                | some x => simp only; rw [go _ (by have := (tagT_suf ht).len; simpa using this)]
              · split
                · cases ht : tagT v with
                  | none => rfl
                  | some x => simp only; rw [go _ (by have := (tagT_suf ht).len; simp; omega)]
                · rw [go (d :: v) (Nat.le_refl _)]

/-- What stands ahead of the first sign that opens. -/
def markT : Bs → List Tok
  | [] => []
  | c :: u =>
      if sCom.isPrefixOf (c :: u) = true then tOther :: pageT (cutC (u.drop 3))
      else match u with
        | [] => [tText [60]]
        | d :: v =>
          if d = 33 ∨ d = 63 then tOther :: pageT (cut1 62 (c :: d :: v)).2.1
          else if isLt d = true then match tagT (d :: v) with
            | none => []
            | some (name, h, r) => ⟨2, name, [], readE h⟩ :: pageT r
          else if d = 47 ∧ (v.head?.map isLt) = some true then match tagT v with
            | none => []
            | some (name, _, r) => ⟨3, name, [], []⟩ :: pageT r
          else tText [60] :: pageT (d :: v)
theorem pageT_eq (s : Bs) : pageT s = (if s.takeWhile (· != 60) = [] then [] else [tText (readE (s.takeWhile (· != 60)))]) ++ markT (s.dropWhile (· != 60)) := by
  unfold pageT
  rw [pageF]
  congr 1
  cases h : s.dropWhile (· != 60) with
  | nil => rfl
  | cons c u =>
    have h1 : (c :: u).length ≤ s.length := by rw [← h]; exact dw_le _ _
    simp at h1
    simp only [markT]
    have go : ∀ r : Bs, r.length ≤ u.length → pageF s.length r = pageT r := fun r hr => pageF_fuel _ _ _ (by omega) (by omega)
    split
    · rw [go _ (by have := Suf.len (cutC_suf (u.drop 3)); simp at this; omega)]
    · cases u with
      | nil => simp only; rw [go [] (by simp)]; rfl
      | cons d v =>
        simp only
        split
        · have h2 : (cut1 62 (c :: d :: v)).2.1.length ≤ (d :: v).length := by
            unfold cut1
            split
            · have := dw_le (· != 62) (c :: d :: v)
              simp at this ⊢; omega
            · simp
          rw [go _ h2]
        · split
          · cases ht : tagT (d :: v) with
            | none => rfl
            | some x => simp only; rw [go _ (by have := (tagT_suf ht).len; simpa using this)]
          · split
            · cases ht : tagT v with
              | none => rfl
              | some x => simp only; rw [go _ (by have := (tagT_suf ht).len; simp; omega)]
            · rw [go (d :: v) (Nat.le_refl _)]
theorem pageT_nil : pageT [] = [] := rfl
end Go.Mh
