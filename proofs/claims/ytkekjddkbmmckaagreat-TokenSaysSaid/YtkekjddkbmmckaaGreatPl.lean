/- The plain data of the program: items, parts, operations, tokens, entries, servers, clients, messages, worlds. No program in sight. -/
import Derived.Lib.Bytealg
import Derived.Lib.IndexAny
import Derived.WalkSmall
namespace Go.Mh

abbrev Bs := List UInt8

structure It where
  c : UInt8
  m : Int
  l : Bs
  deriving DecidableEq

structure Pt where
  k : Int
  n : Int
  its : List It
  set : Int
  clr : Int
  to : Bool
  l : Bs
  deriving DecidableEq

structure Tok where
  k : Int
  name : Bs
  text : Bs
  href : Bs
  deriving DecidableEq

structure En where
  client : Int
  seq : Int
  o : List Pt
  deriving DecidableEq

structure Srv where
  first : List It
  log : List En
  now : List It

structure Cl where
  rev : Int
  base : List It
  now : List It
  seq : Int
  sent : List Pt
  held : List Pt
  joined : Bool

structure Msg where
  rev : Int
  e : En

structure Wd where
  s : Srv
  cl : List Cl
  up : List (List Msg)
  down : List (List Msg)

structure Hap where
  kind : Int
  client : Int
  n : Int
  o : List Pt
  b : Bs

end Go.Mh
/- Plain functions on texts: cuts, small letters, where one may be led to. No program in sight. -/
namespace Go.Mh

def cut1 (c : UInt8) (l : Bs) : Bs × Bs × Bool :=
  if c ∈ l then (l.takeWhile (· != c), (l.dropWhile (· != c)).tail, true) else (l, [], false)

theorem indexByte_none {c : UInt8} : ∀ {l : Bs}, c ∉ l → Lib.indexByte l c = -1
  | [], _ => rfl
  | b :: l, h => by
    have h1 : (b == c) = false := by simp at h ⊢; exact fun e => h.1 e.symm
    have h2 : c ∉ l := fun hc => h (List.mem_cons_of_mem _ hc)
    simp [Lib.indexByte, h1, indexByte_none h2]

theorem indexByte_some {c : UInt8} : ∀ {l : Bs}, c ∈ l → Lib.indexByte l c = ((l.takeWhile (· != c)).length : Int)
  | b :: l, h => by
    by_cases hb : b = c
    · subst hb
      simp [Lib.indexByte]
    · have h1 : (b == c) = false := by simpa using hb
      have h2 : c ∈ l := by
        rcases List.mem_cons.1 h with h | h
        · exact absurd h.symm hb
        · exact h
      have ih := indexByte_some h2
      have h3 : ((l.takeWhile (· != c)).length : Int) ≠ -1 := by omega
      simp [Lib.indexByte, h1, ih, hb]

theorem take_takeWhile {α : Type} (p : α → Bool) : ∀ (l : List α), l.take (l.takeWhile p).length = l.takeWhile p
  | [] => rfl
  | b :: l => by
    by_cases hb : p b = true
    · simp [hb, take_takeWhile p l]
    · simp [hb]

theorem drop_takeWhile {α : Type} (p : α → Bool) : ∀ (l : List α), l.drop (l.takeWhile p).length = l.dropWhile p
  | [] => rfl
  | b :: l => by
    by_cases hb : p b = true
    · simp [hb, drop_takeWhile p l]
    · simp [hb]

theorem takeWhile_len_lt {c : UInt8} {l : Bs} (h : c ∈ l) : (l.takeWhile (· != c)).length < l.length := by
  induction l with
  | nil => simp at h
  | cons b l ih =>
    by_cases hb : b = c
    · subst hb; simp
    · have h2 : c ∈ l := by
        rcases List.mem_cons.1 h with h | h
        · exact absurd h.symm hb
        · exact h
      have := ih h2
      simp [hb, this]


theorem take_snoc_mem {α : Type} {p : α → Prop} {l : List α} {k : Nat} {x : α} (hk : l[k]? = some x) (h : ∀ y ∈ l.take k, p y) (hx : p x) : ∀ y ∈ l.take (k + 1), p y := by
  intro y hy
  rw [List.take_add_one, hk] at hy
  simp only [Option.toList_some, List.mem_append, List.mem_singleton] at hy
  rcases hy with hy | rfl
  · exact h y hy
  · exact hx

def lowB (c : UInt8) : UInt8 := if 65 ≤ c ∧ c ≤ 90 then c + 32 else c
def lower (l : Bs) : Bs := l.map lowB

theorem lowB_up {c : UInt8} (h1 : 65 ≤ (c.toNat : Int)) (h2 : (c.toNat : Int) ≤ 90) : ((lowB c).toNat : Int) = (c.toNat : Int) + 97 - 65 := by
  have a1 : (65 : UInt8) ≤ c := by rw [UInt8.le_iff_toNat_le]; show 65 ≤ c.toNat; omega
  have a2 : c ≤ (90 : UInt8) := by rw [UInt8.le_iff_toNat_le]; show c.toNat ≤ 90; omega
  simp [lowB, a1, a2]
  omega

theorem lowB_id {c : UInt8} (h : ¬ (65 ≤ (c.toNat : Int) ∧ (c.toNat : Int) ≤ 90)) : lowB c = c := by
  unfold lowB
  rw [if_neg]
  rintro ⟨a1, a2⟩
  rw [UInt8.le_iff_toNat_le] at a1 a2
  have : (65 : UInt8).toNat = 65 := rfl
  have : (90 : UInt8).toNat = 90 := rfl
  omega

/-- What stands ahead of the first colon, in small letters; nothing: none. -/
def scheme (s : Bs) : Bs :=
  if 58 ∈ s ∧ (s.takeWhile (· != 58)) ≠ [] ∧ Lib.containsAny (s.takeWhile (· != 58)) [47, 63, 35] = false then lower (s.takeWhile (· != 58)) else []

def okC (c : UInt8) : Bool := 32 < c && c ≤ 126 && c != 34 && c != 39 && c != 60 && c != 62 && c != 92 && c != 96

def sHttp : Bs := [104, 116, 116, 112]
def sHttps : Bs := [104, 116, 116, 112, 115]
def sMailto : Bs := [109, 97, 105, 108, 116, 111]

def may (s : Bs) : Bool := s != [] && decide (s.length ≤ 24) && s.all okC && [sHttp, sHttps, sMailto].contains (scheme s)

end Go.Mh
/- Plain functions on documents. -/
namespace Go.Mh

/-- Item's answer: 0 (OK), 1 (ErrText), 3 (ErrRange), 4 (ErrForm). -/
def chkItem (x : It) : Int :=
  if ¬ (x.c.toNat : Int) = 10 ∧ ((x.c.toNat : Int) < 32 ∨ 126 < (x.c.toNat : Int)) then 1
  else if x.m < 0 ∨ 3 < x.m then 3
  else if x.l ≠ [] ∧ ((x.c.toNat : Int) = 10 ∨ may x.l = false) then 4
  else 0

def chkItems : List It → Int
  | [] => 0
  | x :: l => if chkItem x = 0 then chkItems l else chkItem x

/-- Check's answer: besides 2 (ErrMany). -/
def chkDoc (d : List It) : Int :=
  if 80 < d.length then 2
  else if chkItems d ≠ 0 then chkItems d
  else match d.getLast? with
    | none => 4
    | some x => if (x.c.toNat : Int) = 10 then 0 else 4

theorem chkItems_none {l : List It} (h : ∀ x ∈ l, chkItem x = 0) : chkItems l = 0 := by
  induction l with
  | nil => rfl
  | cons x l ih => simp [chkItems, h x (by simp), ih fun y hy => h y (by simp [hy])]

theorem chkItems_some {l : List It} {k : Nat} {x : It} (hk : l[k]? = some x) (hx : chkItem x ≠ 0) (h : ∀ y ∈ l.take k, chkItem y = 0) : chkItems l = chkItem x := by
  induction l generalizing k with
  | nil => simp at hk
  | cons y l ih =>
    cases k with
    | zero => simp at hk; subst hk; simp [chkItems, hx]
    | succ k =>
      have hy := h y (by simp)
      simp [chkItems, hy]
      exact ih (by simpa using hk) fun z hz => h z (by simp [hz])

theorem chkItem_range (x : It) : chkItem x = 0 ∨ chkItem x = 1 ∨ chkItem x = 3 ∨ chkItem x = 4 := by
  unfold chkItem; split <;> (try split) <;> (try split) <;> simp

/-- Where the first one stands that is none; -1: nowhere. -/
def badAt (l : List It) : Int := match l.findIdx? (fun x => chkItem x != 0) with
  | some k => (k : Int)
  | none => -1

theorem badAt_none {l : List It} (h : ∀ x ∈ l, chkItem x = 0) : badAt l = -1 := by
  have : l.findIdx? (fun x => chkItem x != 0) = none := by
    rw [List.findIdx?_eq_none_iff]
    intro x hx
    simp [h x hx]
  simp [badAt, this]

theorem badAt_some {l : List It} {k : Nat} {x : It} (hk : l[k]? = some x) (hx : chkItem x ≠ 0) (h : ∀ y ∈ l.take k, chkItem y = 0) : badAt l = k := by
  obtain ⟨hlt, hxe⟩ := List.getElem?_eq_some_iff.1 hk
  have : l.findIdx? (fun x => chkItem x != 0) = some k := by
    rw [List.findIdx?_eq_some_iff_getElem]
    refine ⟨hlt, by rw [hxe]; simpa using hx, fun j hj => ?_⟩
    have := h l[j] (by rw [List.mem_take_iff_getElem]; exact ⟨j, by omega, rfl⟩)
    simp [this]
  simp [badAt, this]

/-- Does a run begin at place i? -/
def beg (L : List It) (i : Nat) : Bool := match L[i]? with
  | none => false
  | some x => i == 0 || (match L[i - 1]? with
    | none => false
    | some y => (x.c.toNat : Int) == 10 || (y.c.toNat : Int) == 10 || y.m != x.m || y.l != x.l)

def runs (L : List It) : List Int := ((List.range L.length).filter (beg L)).map Int.ofNat

theorem beg_zero {L : List It} {x : It} (h : L[0]? = some x) : beg L 0 = true := by simp [beg, h]
theorem beg_succ {L : List It} {x y : It} {j : Nat} (h : L[j + 1]? = some x) (h' : L[j]? = some y) : beg L (j + 1) = ((x.c.toNat : Int) == 10 || (y.c.toNat : Int) == 10 || y.m != x.m || y.l != x.l) := by
  simp [beg, h, h']
theorem runs_step (L : List It) (k : Nat) : ((List.range (k + 1)).filter (beg L)).map Int.ofNat = ((List.range k).filter (beg L)).map Int.ofNat ++ (if beg L k = true then [(k : Int)] else []) := by
  rw [List.range_succ, List.filter_append, List.map_append]
  by_cases h : beg L k = true <;> simp [h]
theorem chkDoc_ok {L : List It} (h : chkDoc L = 0) : L ≠ [] ∧ L.length ≤ 80 := by
  unfold chkDoc at h
  split at h
  · cases h
  · split at h
    · contradiction
    · constructor
      · rintro rfl; simp at h
      · omega

theorem not_beg {L : List It} {i : Nat} {x y : It} (h : beg L (i + 1) = false) (hx : L[i + 1]? = some x) (hy : L[i]? = some y) : ¬ (x.c.toNat : Int) = 10 ∧ ¬ (y.c.toNat : Int) = 10 ∧ x.m = y.m ∧ x.l = y.l := by
  rw [beg_succ hx hy] at h
  simp only [Bool.or_eq_false_iff, beq_eq_false_iff_ne, bne_eq_false_iff_eq] at h
  exact ⟨h.1.1.1, h.1.1.2, h.1.2.symm, h.2.symm⟩

/-- No run begins behind f and ahead of t: all is as at f. -/
theorem alike_run {L : List It} {f t : Nat} (ht : t ≤ L.length) (hno : ∀ i, f < i → i < t → beg L i = false) {i : Nat} {x y : It} (hfi : f ≤ i) (hit : i < t) (hx : L[i]? = some x) (hy : L[f]? = some y) :
    x.m = y.m ∧ x.l = y.l ∧ ((x.c.toNat : Int) = 10 → t - f ≤ 1) := by
  induction i generalizing x with
  | zero =>
    obtain rfl : f = 0 := by omega
    rw [hx] at hy
    obtain rfl := Option.some.inj hy
    refine ⟨rfl, rfl, fun hc => ?_⟩
    rcases Nat.lt_or_ge 1 t with h1 | h1
    · obtain ⟨z, hz⟩ : ∃ z, L[0 + 1]? = some z := ⟨_, List.getElem?_eq_getElem (by omega)⟩
      exact absurd hc (not_beg (hno 1 (by omega) h1) hz hx).2.1
    · omega
  | succ i ih =>
    by_cases hfe : f = i + 1
    · subst hfe
      rw [hx] at hy
      obtain rfl := Option.some.inj hy
      refine ⟨rfl, rfl, fun hc => ?_⟩
      rcases Nat.lt_or_ge (i + 2) t with h1 | h1
      · obtain ⟨z, hz⟩ : ∃ z, L[i + 1 + 1]? = some z := ⟨_, List.getElem?_eq_getElem (by omega)⟩
        exact absurd hc (not_beg (hno (i + 2) (by omega) h1) hz hx).2.1
      · omega
    · obtain ⟨z, hz⟩ : ∃ z, L[i]? = some z := ⟨_, List.getElem?_eq_getElem (by omega)⟩
      obtain ⟨a1, a2, a3, a4⟩ := not_beg (hno (i + 1) (by omega) hit) hx hz
      obtain ⟨b1, b2, _⟩ := ih (by omega) (by omega) hz
      exact ⟨a3.trans b1, a4.trans b2, fun hc => absurd hc a1⟩

/-- What a filtered range holds at k and k + 1: nothing between. -/
theorem filter_range_next (p : Nat → Bool) (n k f : Nat) (hf : ((List.range n).filter p)[k]? = some f) :
    f < n ∧ p f = true ∧ (∀ t, ((List.range n).filter p)[k + 1]? = some t → f < t ∧ t < n ∧ ∀ i, f < i → i < t → p i = false) ∧
    (((List.range n).filter p)[k + 1]? = none → ∀ i, f < i → i < n → p i = false) := by
  induction n with
  | zero => simp at hf
  | succ n ih =>
    rw [List.range_succ, List.filter_append] at hf ⊢
    by_cases hp : p n = true
    · have e : [n].filter p = [n] := by simp [hp]
      rw [e] at hf ⊢
      rcases Nat.lt_trichotomy k ((List.range n).filter p).length with hk | hk | hk
      · rw [List.getElem?_append_left hk] at hf
        obtain ⟨h1, h2, h3, h4⟩ := ih hf
        refine ⟨by omega, h2, fun t ht => ?_, fun hnone => ?_⟩
        · rcases Nat.lt_or_ge (k + 1) ((List.range n).filter p).length with hk1 | hk1
          · rw [List.getElem?_append_left hk1] at ht
            obtain ⟨a, b, c⟩ := h3 t ht
            exact ⟨a, by omega, c⟩
          · rw [List.getElem?_append_right hk1, show k + 1 - ((List.range n).filter p).length = 0 by omega] at ht
            simp at ht
            subst ht
            exact ⟨h1, by omega, h4 (List.getElem?_eq_none hk1)⟩
        · have := List.getElem?_eq_none_iff.1 hnone
          simp at this
          omega
      · rw [List.getElem?_append_right (by omega), hk] at hf
        simp at hf
        subst hf
        refine ⟨by omega, hp, fun t ht => ?_, fun _ i h1 h2 => by omega⟩
        rw [List.getElem?_append_right (by omega)] at ht
        have := (List.getElem?_eq_some_iff.1 ht).1
        simp at this
        omega
      · rw [List.getElem?_append_right (by omega)] at hf
        have := (List.getElem?_eq_some_iff.1 hf).1
        simp at this
        omega
    · have e : [n].filter p = [] := by simp [hp]
      rw [e, List.append_nil] at hf ⊢
      obtain ⟨h1, h2, h3, h4⟩ := ih hf
      refine ⟨by omega, h2, fun t ht => ?_, fun hnone i hi1 hi2 => ?_⟩
      · obtain ⟨a, b, c⟩ := h3 t ht
        exact ⟨a, by omega, c⟩
      · rcases Nat.lt_or_ge i n with hin | hin
        · exact h4 hnone i hi1 hin
        · obtain rfl : i = n := by omega
          simpa using hp

theorem runs_get {L : List It} {k : Nat} {v : Int} (h : (runs L)[k]? = some v) : ∃ f : Nat, v = (f : Int) ∧ ((List.range L.length).filter (beg L))[k]? = some f := by
  unfold runs at h
  rw [List.getElem?_map] at h
  obtain ⟨f, hf, rfl⟩ := Option.map_eq_some_iff.1 h
  exact ⟨f, rfl, hf⟩

/-- The runs: where one begins, where it ends, and that all is alike in it. -/
theorem runs_facts {L : List It} {k : Nat} {v : Int} (h : (runs L)[k]? = some v) : ∃ f t : Nat, v = (f : Int) ∧ f < t ∧ t ≤ L.length ∧
    ((∃ u, (runs L)[k + 1]? = some u ∧ u = (t : Int)) ∨ ((runs L).length = k + 1 ∧ t = L.length)) ∧
    ∀ i x y, f ≤ i → i < t → L[i]? = some x → L[f]? = some y → x.m = y.m ∧ x.l = y.l ∧ ((x.c.toNat : Int) = 10 → t - f ≤ 1) := by
  obtain ⟨f, rfl, hf⟩ := runs_get h
  obtain ⟨h1, h2, h3, h4⟩ := filter_range_next _ _ _ _ hf
  cases hn : ((List.range L.length).filter (beg L))[k + 1]? with
  | some t =>
    obtain ⟨a, b, c⟩ := h3 t hn
    refine ⟨f, t, rfl, a, by omega, Or.inl ⟨(t : Int), by unfold runs; rw [List.getElem?_map, hn]; rfl, rfl⟩, fun i x y hfi hit hx hy => alike_run (by omega) c hfi hit hx hy⟩
  | none =>
    refine ⟨f, L.length, rfl, h1, Nat.le_refl _, Or.inr ⟨?_, rfl⟩, fun i x y hfi hit hx hy => alike_run (Nat.le_refl _) (h4 hn) hfi hit hx hy⟩
    have a1 := List.getElem?_eq_none_iff.1 hn
    have a2 := (List.getElem?_eq_some_iff.1 hf).1
    simp only [runs, List.length_map]
    omega

theorem runs_zero {L : List It} (h : L ≠ []) : (runs L)[0]? = some 0 := by
  cases L with
  | nil => exact absurd rfl h
  | cons x L =>
    unfold runs
    have : beg (x :: L) 0 = true := by simp [beg]
    rw [List.length_cons, List.range_succ_eq_map, List.filter_cons, if_pos this]
    rfl

theorem runs_len (L : List It) (k : Nat) : (((List.range k).filter (beg L)).map Int.ofNat).length ≤ k := by
  rw [List.length_map]
  exact Nat.le_trans (List.length_filter_le _ _) (by simp)

end Go.Mh
/- Plain functions on parts and operations. -/
namespace Go.Mh

abbrev band (a b : Int) : Int := Go.bits Go.BinOp.and Go.IntKind.i64 a b
abbrev bor (a b : Int) : Int := Go.bits Go.BinOp.or Go.IntKind.i64 a b
abbrev bnot (a b : Int) : Int := Go.bits Go.BinOp.andNot Go.IntKind.i64 a b

/-- A part's answer: 0 (OK), 1 (ErrText), 2 (ErrMany), 3 (ErrRange), 4 (ErrForm). -/
def chkPt (p : Pt) : Int :=
  if p.k = 1 then
    if p.set < 0 ∨ 3 < p.set ∨ p.clr < 0 ∨ 3 < p.clr ∨ band p.set p.clr ≠ 0 then 3
    else if p.l ≠ [] ∧ (p.to = false ∨ may p.l = false) then 4
    else if p.n < 1 ∨ 80 < p.n then 3
    else if p.its ≠ [] then 4 else 0
  else if p.k = 2 then
    if p.its = [] ∨ 80 < p.its.length then 2
    else if chkItems p.its ≠ 0 then chkItems p.its
    else if p.n ≠ 0 ∨ p.set ≠ 0 ∨ p.clr ≠ 0 ∨ p.to = true ∨ p.l ≠ [] then 4 else 0
  else if p.k = 3 then
    if p.n < 1 ∨ 80 < p.n then 3
    else if p.set ≠ 0 ∨ p.clr ≠ 0 ∨ p.to = true ∨ p.l ≠ [] ∨ p.its ≠ [] then 4 else 0
  else 4

theorem chkPt1 (n : Int) (its : List It) (set clr : Int) (to : Bool) (l : Bs) : chkPt ⟨1, n, its, set, clr, to, l⟩ = if set < 0 ∨ 3 < set ∨ clr < 0 ∨ 3 < clr ∨ Go.bits Go.BinOp.and Go.IntKind.i64 set clr ≠ 0 then 3
    else if l ≠ [] ∧ (to = false ∨ may l = false) then 4 else if n < 1 ∨ 80 < n then 3 else if its ≠ [] then 4 else 0 := rfl
theorem chkPt2 (n : Int) (its : List It) (set clr : Int) (to : Bool) (l : Bs) : chkPt ⟨2, n, its, set, clr, to, l⟩ = if its = [] ∨ 80 < its.length then 2 else if chkItems its ≠ 0 then chkItems its
    else if n ≠ 0 ∨ set ≠ 0 ∨ clr ≠ 0 ∨ to = true ∨ l ≠ [] then 4 else 0 := rfl
theorem chkPt3 (n : Int) (its : List It) (set clr : Int) (to : Bool) (l : Bs) : chkPt ⟨3, n, its, set, clr, to, l⟩ = if n < 1 ∨ 80 < n then 3 else if set ≠ 0 ∨ clr ≠ 0 ∨ to = true ∨ l ≠ [] ∨ its ≠ [] then 4 else 0 := rfl
theorem chkPt4 (k n : Int) (its : List It) (set clr : Int) (to : Bool) (l : Bs) (h1 : ¬k = 1) (h2 : ¬k = 2) (h3 : ¬k = 3) : chkPt ⟨k, n, its, set, clr, to, l⟩ = 4 := by simp [chkPt, h1, h2, h3]

theorem band_small : ∀ a b : Fin 4, band (a.val : Int) (b.val : Int) = ((a.val &&& b.val : Nat) : Int) := by decide
theorem bor_small : ∀ a b : Fin 4, bor (a.val : Int) (b.val : Int) = ((a.val ||| b.val : Nat) : Int) := by decide
theorem bnot_small : ∀ a b : Fin 4, bnot (a.val : Int) (b.val : Int) = ((a.val - (a.val &&& b.val) : Nat) : Int) := by decide

theorem small4 {a : Int} (h0 : 0 ≤ a) (h3 : a ≤ 3) : ∃ x : Fin 4, a = (x.val : Int) := ⟨⟨a.toNat, by omega⟩, by simp; omega⟩
theorem band_nn {a b : Int} (h0 : 0 ≤ a) (h1 : a ≤ 3) (h2 : 0 ≤ b) (h3 : b ≤ 3) : 0 ≤ Go.bits Go.BinOp.and Go.IntKind.i64 a b := by
  obtain ⟨x, rfl⟩ := small4 h0 h1
  obtain ⟨y, rfl⟩ := small4 h2 h3
  have h : Go.bits Go.BinOp.and Go.IntKind.i64 (x.val : Int) (y.val : Int) = _ := band_small x y
  rw [h]
  omega

/-- Check goes on at the parts l, n items so far. -/
def chkPts : Int → List Pt → Int
  | _, [] => 0
  | n, p :: l => if chkPt p ≠ 0 then chkPt p else if 80 < n + p.n then 2 else chkPts (n + p.n) l

def chkOp (o : List Pt) : Int :=
  if o = [] ∨ 40 < o.length then 2
  else if chkPts 0 o ≠ 0 then chkPts 0 o
  else match o.getLast? with
    | none => 4
    | some p => if p.k = 1 then 0 else 4

theorem chkPt_n {p : Pt} (h : chkPt p = 0) : 0 ≤ p.n ∧ p.n ≤ 80 := by
  obtain ⟨k, n, its, set, clr, to, l⟩ := p
  simp only [chkPt] at h
  split at h
  · split at h; · simp at h
    split at h; · simp at h
    split at h; · simp at h
    simp; omega
  · split at h
    · split at h; · simp at h
      split at h; · rename_i hne; exact absurd h hne
      split at h; · simp at h
      rename_i hx
      simp at hx ⊢
      omega
    · split at h
      · split at h; · simp at h
        simp; omega
      · simp at h

theorem chkPts_step {L : List Pt} {k : Nat} {p : Pt} (n : Int) (hk : L[k]? = some p) : chkPts n (L.drop k) = if chkPt p ≠ 0 then chkPt p else if 80 < n + p.n then 2 else chkPts (n + p.n) (L.drop (k + 1)) := by
  obtain ⟨hlt, rfl⟩ := List.getElem?_eq_some_iff.1 hk
  rw [List.drop_eq_getElem_cons hlt]
  rfl

theorem chkOp_many {L : List Pt} (h : L = [] ∨ 40 < L.length) : chkOp L = 2 := by simp [chkOp, h]
theorem chkOp_bad {L : List Pt} (h : ¬(L = [] ∨ 40 < L.length)) (hb : chkPts 0 L ≠ 0) : chkOp L = chkPts 0 L := by simp only [chkOp, if_neg h, if_pos hb]
theorem chkOp_last {L : List Pt} {p : Pt} (h : ¬(L = [] ∨ 40 < L.length)) (hb : chkPts 0 L = 0) (hp : L[L.length - 1]? = some p) : chkOp L = if p.k = 1 then 0 else 4 := by
  have hl : L.getLast? = some p := by rw [List.getLast?_eq_getElem?]; exact hp
  simp only [chkOp, if_neg h, hl]
  rw [if_neg (by simp [hb])]

end Go.Mh
