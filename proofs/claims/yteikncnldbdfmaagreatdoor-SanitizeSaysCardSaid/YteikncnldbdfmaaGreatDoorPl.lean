/- The plain data of the program: items, parts, operations, tokens, entries, servers, clients, messages, worlds. No program in sight. -/
import Derived.Lib.Bytealg
import Derived.Lib.IndexAny
import Derived.WalkSmall
import Derived.Lib.IndexMore
import Derived.Lib.IndexBytes
namespace Go.Mh

abbrev Bs := List UInt8

structure It where
  c : UInt8
  m : Int
  l : Bs
  deriving DecidableEq

structure Pt where
  k : Int
  n : Int
  its : List It
  set : Int
  clr : Int
  to : Bool
  l : Bs
  deriving DecidableEq

structure Tok where
  k : Int
  name : Bs
  text : Bs
  href : Bs
  deriving DecidableEq

structure En where
  client : Int
  seq : Int
  o : List Pt
  deriving DecidableEq

structure Srv where
  first : List It
  log : List En
  now : List It

structure Cl where
  rev : Int
  base : List It
  now : List It
  seq : Int
  sent : List Pt
  held : List Pt
  joined : Bool

structure Msg where
  rev : Int
  e : En

structure Wd where
  s : Srv
  cl : List Cl
  up : List (List Msg)
  down : List (List Msg)

structure Hap where
  kind : Int
  client : Int
  n : Int
  o : List Pt
  b : Bs

end Go.Mh
/- Plain functions on texts: cuts, small letters, where one may be led to. No program in sight. -/
namespace Go.Mh

def cut1 (c : UInt8) (l : Bs) : Bs × Bs × Bool :=
  if c ∈ l then (l.takeWhile (· != c), (l.dropWhile (· != c)).tail, true) else (l, [], false)

theorem indexByte_none {c : UInt8} : ∀ {l : Bs}, c ∉ l → Lib.indexByte l c = -1
  | [], _ => rfl
  | b :: l, h => by
    have h1 : (b == c) = false := by simp at h ⊢; exact fun e => h.1 e.symm
    have h2 : c ∉ l := fun hc => h (List.mem_cons_of_mem _ hc)
    simp [Lib.indexByte, h1, indexByte_none h2]

theorem indexByte_some {c : UInt8} : ∀ {l : Bs}, c ∈ l → Lib.indexByte l c = ((l.takeWhile (· != c)).length : Int)
  | b :: l, h => by
    by_cases hb : b = c
    · subst hb
      simp [Lib.indexByte]
    · have h1 : (b == c) = false := by simpa using hb
      have h2 : c ∈ l := by
        rcases List.mem_cons.1 h with h | h
        · exact absurd h.symm hb
        · exact h
      have ih := indexByte_some h2
      have h3 : ((l.takeWhile (· != c)).length : Int) ≠ -1 := by omega
      simp [Lib.indexByte, h1, ih, hb]

theorem take_takeWhile {α : Type} (p : α → Bool) : ∀ (l : List α), l.take (l.takeWhile p).length = l.takeWhile p
  | [] => rfl
  | b :: l => by
    by_cases hb : p b = true
    · simp [hb, take_takeWhile p l]
    · simp [hb]

theorem drop_takeWhile {α : Type} (p : α → Bool) : ∀ (l : List α), l.drop (l.takeWhile p).length = l.dropWhile p
  | [] => rfl
  | b :: l => by
    by_cases hb : p b = true
    · simp [hb, drop_takeWhile p l]
    · simp [hb]

theorem takeWhile_len_lt {c : UInt8} {l : Bs} (h : c ∈ l) : (l.takeWhile (· != c)).length < l.length := by
  induction l with
  | nil => simp at h
  | cons b l ih =>
    by_cases hb : b = c
    · subst hb; simp
    · have h2 : c ∈ l := by
        rcases List.mem_cons.1 h with h | h
        · exact absurd h.symm hb
        · exact h
      have := ih h2
      simp [hb, this]


theorem take_snoc_mem {α : Type} {p : α → Prop} {l : List α} {k : Nat} {x : α} (hk : l[k]? = some x) (h : ∀ y ∈ l.take k, p y) (hx : p x) : ∀ y ∈ l.take (k + 1), p y := by
  intro y hy
  rw [List.take_add_one, hk] at hy
  simp only [Option.toList_some, List.mem_append, List.mem_singleton] at hy
  rcases hy with hy | rfl
  · exact h y hy
  · exact hx

def lowB (c : UInt8) : UInt8 := if 65 ≤ c ∧ c ≤ 90 then c + 32 else c
def lower (l : Bs) : Bs := l.map lowB

theorem lowB_up {c : UInt8} (h1 : 65 ≤ (c.toNat : Int)) (h2 : (c.toNat : Int) ≤ 90) : ((lowB c).toNat : Int) = (c.toNat : Int) + 97 - 65 := by
  have a1 : (65 : UInt8) ≤ c := by rw [UInt8.le_iff_toNat_le]; show 65 ≤ c.toNat; omega
  have a2 : c ≤ (90 : UInt8) := by rw [UInt8.le_iff_toNat_le]; show c.toNat ≤ 90; omega
  simp [lowB, a1, a2]
  omega

theorem lowB_id {c : UInt8} (h : ¬ (65 ≤ (c.toNat : Int) ∧ (c.toNat : Int) ≤ 90)) : lowB c = c := by
  unfold lowB
  rw [if_neg]
  rintro ⟨a1, a2⟩
  rw [UInt8.le_iff_toNat_le] at a1 a2
  have : (65 : UInt8).toNat = 65 := rfl
  have : (90 : UInt8).toNat = 90 := rfl
  omega

/-- What stands ahead of the first colon, in small letters; nothing: none. -/
def scheme (s : Bs) : Bs :=
  if 58 ∈ s ∧ (s.takeWhile (· != 58)) ≠ [] ∧ Lib.containsAny (s.takeWhile (· != 58)) [47, 63, 35] = false then lower (s.takeWhile (· != 58)) else []

def okC (c : UInt8) : Bool := 32 < c && c ≤ 126 && c != 34 && c != 39 && c != 60 && c != 62 && c != 92 && c != 96

def sHttp : Bs := [104, 116, 116, 112]
def sHttps : Bs := [104, 116, 116, 112, 115]
def sMailto : Bs := [109, 97, 105, 108, 116, 111]

def may (s : Bs) : Bool := s != [] && decide (s.length ≤ 24) && s.all okC && [sHttp, sHttps, sMailto].contains (scheme s)

end Go.Mh
/- Plain functions on documents. -/
namespace Go.Mh

/-- Item's answer: 0 (OK), 1 (ErrText), 3 (ErrRange), 4 (ErrForm). -/
def chkItem (x : It) : Int :=
  if ¬ (x.c.toNat : Int) = 10 ∧ ((x.c.toNat : Int) < 32 ∨ 126 < (x.c.toNat : Int)) then 1
  else if x.m < 0 ∨ 3 < x.m then 3
  else if x.l ≠ [] ∧ ((x.c.toNat : Int) = 10 ∨ may x.l = false) then 4
  else 0

def chkItems : List It → Int
  | [] => 0
  | x :: l => if chkItem x = 0 then chkItems l else chkItem x

/-- Check's answer: besides 2 (ErrMany). -/
def chkDoc (d : List It) : Int :=
  if 80 < d.length then 2
  else if chkItems d ≠ 0 then chkItems d
  else match d.getLast? with
    | none => 4
    | some x => if (x.c.toNat : Int) = 10 then 0 else 4

theorem chkItems_none {l : List It} (h : ∀ x ∈ l, chkItem x = 0) : chkItems l = 0 := by
  induction l with
  | nil => rfl
  | cons x l ih => simp [chkItems, h x (by simp), ih fun y hy => h y (by simp [hy])]

theorem chkItems_some {l : List It} {k : Nat} {x : It} (hk : l[k]? = some x) (hx : chkItem x ≠ 0) (h : ∀ y ∈ l.take k, chkItem y = 0) : chkItems l = chkItem x := by
  induction l generalizing k with
  | nil => simp at hk
  | cons y l ih =>
    cases k with
    | zero => simp at hk; subst hk; simp [chkItems, hx]
    | succ k =>
      have hy := h y (by simp)
      simp [chkItems, hy]
      exact ih (by simpa using hk) fun z hz => h z (by simp [hz])

/-- Where the first one stands that is none; -1: nowhere. -/
def badAt (l : List It) : Int := match l.findIdx? (fun x => chkItem x != 0) with
  | some k => (k : Int)
  | none => -1

theorem badAt_none {l : List It} (h : ∀ x ∈ l, chkItem x = 0) : badAt l = -1 := by
  have : l.findIdx? (fun x => chkItem x != 0) = none := by
    rw [List.findIdx?_eq_none_iff]
    intro x hx
    simp [h x hx]
  simp [badAt, this]

theorem badAt_some {l : List It} {k : Nat} {x : It} (hk : l[k]? = some x) (hx : chkItem x ≠ 0) (h : ∀ y ∈ l.take k, chkItem y = 0) : badAt l = k := by
  obtain ⟨hlt, hxe⟩ := List.getElem?_eq_some_iff.1 hk
  have : l.findIdx? (fun x => chkItem x != 0) = some k := by
    rw [List.findIdx?_eq_some_iff_getElem]
    refine ⟨hlt, by rw [hxe]; simpa using hx, fun j hj => ?_⟩
    have := h l[j] (by rw [List.mem_take_iff_getElem]; exact ⟨j, by omega, rfl⟩)
    simp [this]
  simp [badAt, this]

/-- Does a run begin at place i? -/
def beg (L : List It) (i : Nat) : Bool := match L[i]? with
  | none => false
  | some x => i == 0 || (match L[i - 1]? with
    | none => false
    | some y => (x.c.toNat : Int) == 10 || (y.c.toNat : Int) == 10 || y.m != x.m || y.l != x.l)

def runs (L : List It) : List Int := ((List.range L.length).filter (beg L)).map Int.ofNat

end Go.Mh
/- Plain functions on parts and operations. -/
namespace Go.Mh

abbrev band (a b : Int) : Int := Go.bits Go.BinOp.and Go.IntKind.i64 a b
abbrev bor (a b : Int) : Int := Go.bits Go.BinOp.or Go.IntKind.i64 a b
abbrev bnot (a b : Int) : Int := Go.bits Go.BinOp.andNot Go.IntKind.i64 a b

/-- A part's answer: 0 (OK), 1 (ErrText), 2 (ErrMany), 3 (ErrRange), 4 (ErrForm). -/
def chkPt (p : Pt) : Int :=
  if p.k = 1 then
    if p.set < 0 ∨ 3 < p.set ∨ p.clr < 0 ∨ 3 < p.clr ∨ band p.set p.clr ≠ 0 then 3
    else if p.l ≠ [] ∧ (p.to = false ∨ may p.l = false) then 4
    else if p.n < 1 ∨ 80 < p.n then 3
    else if p.its ≠ [] then 4 else 0
  else if p.k = 2 then
    if p.its = [] ∨ 80 < p.its.length then 2
    else if chkItems p.its ≠ 0 then chkItems p.its
    else if p.n ≠ 0 ∨ p.set ≠ 0 ∨ p.clr ≠ 0 ∨ p.to = true ∨ p.l ≠ [] then 4 else 0
  else if p.k = 3 then
    if p.n < 1 ∨ 80 < p.n then 3
    else if p.set ≠ 0 ∨ p.clr ≠ 0 ∨ p.to = true ∨ p.l ≠ [] ∨ p.its ≠ [] then 4 else 0
  else 4

theorem small4 {a : Int} (h0 : 0 ≤ a) (h3 : a ≤ 3) : ∃ x : Fin 4, a = (x.val : Int) := ⟨⟨a.toNat, by omega⟩, by simp; omega⟩
/-- Check goes on at the parts l, n items so far. -/
def chkPts : Int → List Pt → Int
  | _, [] => 0
  | n, p :: l => if chkPt p ≠ 0 then chkPt p else if 80 < n + p.n then 2 else chkPts (n + p.n) l

def chkOp (o : List Pt) : Int :=
  if o = [] ∨ 40 < o.length then 2
  else if chkPts 0 o ≠ 0 then chkPts 0 o
  else match o.getLast? with
    | none => 4
    | some p => if p.k = 1 then 0 else 4

end Go.Mh
/- Operations as acts, one an item: what they do, what is tidy, what is turned, what is joined. No program in sight. -/
namespace Go.Mh

/-- What a part that keeps changes. -/
structure Kd where
  set : Int
  clr : Int
  to : Bool
  l : Bs
  deriving DecidableEq

inductive Ac where
  | keep (c : Kd)
  | put (x : It)
  | cut
  deriving DecidableEq

def kd0 : Kd := ⟨0, 0, false, []⟩
def markI (x : It) (c : Kd) : It := ⟨x.c, bor (bnot x.m c.clr) c.set, if c.to = true ∧ ¬ (x.c.toNat : Int) = 10 then c.l else x.l⟩

def Pt.kd (p : Pt) : Kd := ⟨p.set, p.clr, p.to, p.l⟩
def actsP (p : Pt) : List Ac := if p.k = 1 then List.replicate p.n.toNat (.keep p.kd) else if p.k = 2 then p.its.map .put else if p.k = 3 then List.replicate p.n.toNat .cut else []
def acts (o : List Pt) : List Ac := o.flatMap actsP
def keepP (c : Kd) (n : Int) : Pt := ⟨1, n, [], c.set, c.clr, c.to, c.l⟩
def putP (l : List It) : Pt := ⟨2, 0, l, 0, 0, false, []⟩
def cutP (n : Int) : Pt := ⟨3, n, [], 0, 0, false, []⟩
/-- The form of a part. -/
def Fm (p : Pt) : Prop := (∃ c n, 0 ≤ n ∧ p = keepP c n) ∨ (∃ l, p = putP l) ∨ (∃ n, 0 ≤ n ∧ p = cutP n)

theorem acts_nil : acts [] = [] := rfl
theorem acts_cons (p : Pt) (o : List Pt) : acts (p :: o) = actsP p ++ acts o := by simp [acts]
theorem actsP_keep (c : Kd) (n : Int) : actsP (keepP c n) = List.replicate n.toNat (.keep c) := rfl
theorem actsP_put (l : List It) : actsP (putP l) = l.map .put := rfl
theorem actsP_cut (n : Int) : actsP (cutP n) = List.replicate n.toNat .cut := rfl

/- Alike, and added behind. -/
def alikeP (a b : Pt) : Bool := a.k == b.k && a.set == b.set && a.clr == b.clr && a.to == b.to && a.l == b.l
def addP (o : List Pt) (p : Pt) : List Pt :=
  if (p.k ≠ 2 ∧ p.n = 0) ∨ (p.k = 2 ∧ p.its = []) then o
  else match o.getLast? with
    | some q => if alikeP q p = true then o.dropLast ++ [{ q with n := q.n + p.n, its := q.its ++ p.its }] else o ++ [p]
    | none => o ++ [p]

/-- Made goes on: out is made, its and n are put and cut in the run that is read. -/
def mk2 (out : List Pt) (its : List It) (n : Int) : List Pt → List Pt
  | [] => addP (addP out (putP its)) (cutP n)
  | p :: l => if p.k = 1 then mk2 (addP (addP (addP out (putP its)) (cutP n)) p) [] 0 l else mk2 out (its ++ p.its) (n + p.n) l
def madeP (L : List Pt) : List Pt := mk2 [] [] 0 L

theorem addP_none (o : List Pt) (p : Pt) (h : (p.k ≠ 2 ∧ p.n = 0) ∨ (p.k = 2 ∧ p.its = [])) : addP o p = o := by simp only [addP, if_pos h]
theorem addP_put_nil (o : List Pt) : addP o (putP []) = o := addP_none o _ (Or.inr ⟨rfl, rfl⟩)
theorem addP_cut_zero (o : List Pt) : addP o (cutP 0) = o := addP_none o _ (Or.inl ⟨by decide, rfl⟩)
/- The tidy operation of acts. -/
def flush (out : List Pt) (ps : List It) (c : Nat) : List Pt := out ++ (if ps = [] then [] else [putP ps]) ++ (if c = 0 then [] else [cutP c])
def addK (out : List Pt) (k : Kd) (n : Nat) : List Pt := match out.getLast? with
  | some q => if q.k = 1 ∧ q.kd = k then out.dropLast ++ [{ q with n := q.n + n }] else out ++ [keepP k n]
  | none => out ++ [keepP k n]
def tid (out : List Pt) (ps : List It) (c : Nat) : List Ac → List Pt
  | [] => flush out ps c
  | .put x :: l => tid out (ps ++ [x]) c l
  | .cut :: l => tid out ps (c + 1) l
  | .keep k :: l => tid (addK (flush out ps c) k 1) [] 0 l
def tidyA (l : List Ac) : List Pt := tid [] [] 0 l
theorem flush_nil (out : List Pt) : flush out [] 0 = out := by simp [flush]

theorem addK_some {out : List Pt} {q : Pt} {k : Kd} (n : Nat) (h : out.getLast? = some q) (hq : q.k = 1 ∧ q.kd = k) : addK out k n = out.dropLast ++ [{ q with n := q.n + n }] := by
  simp only [addK, h, if_pos hq]
theorem addK_new {out : List Pt} {k : Kd} (n : Nat) (h : ∀ q, out.getLast? = some q → ¬ (q.k = 1 ∧ q.kd = k)) : addK out k n = out ++ [keepP k n] := by
  unfold addK
  cases hl : out.getLast? with
  | none => rfl
  | some q => simp only [if_neg (h q hl)]

theorem addK_add (out : List Pt) (k : Kd) (a b : Nat) : addK (addK out k a) k b = addK out k (a + b) := by
  by_cases h : ∃ q, out.getLast? = some q ∧ q.k = 1 ∧ q.kd = k
  · obtain ⟨q, hl, hq⟩ := h
    rw [addK_some a hl hq, addK_some (a + b) hl hq, addK_some (q := { q with n := q.n + (a : Int) }) b (by simp) ⟨hq.1, hq.2⟩]
    simp
    omega
  · have hn : ∀ q, out.getLast? = some q → ¬ (q.k = 1 ∧ q.kd = k) := fun q hl hq => h ⟨q, hl, hq⟩
    rw [addK_new a hn, addK_new (a + b) hn, addK_some (k := k) (q := keepP k a) b (by simp) ⟨rfl, rfl⟩]
    simp [keepP]

theorem tid_puts (out : List Pt) (ps qs : List It) (c : Nat) (l : List Ac) : tid out ps c (qs.map .put ++ l) = tid out (ps ++ qs) c l := by
  induction qs generalizing ps with
  | nil => simp
  | cons q qs ih => simp [tid, ih]
theorem tid_cuts (out : List Pt) (ps : List It) (c d : Nat) (l : List Ac) : tid out ps c (List.replicate d .cut ++ l) = tid out ps (c + d) l := by
  induction d generalizing c with
  | zero => simp
  | succ d ih => simp only [List.replicate_succ, List.cons_append, tid]; rw [ih, show c + 1 + d = c + (d + 1) by omega]
theorem tid_keeps (out : List Pt) (ps : List It) (c n : Nat) (k : Kd) (l : List Ac) : tid out ps c (List.replicate (n + 1) (.keep k) ++ l) = tid (addK (flush out ps c) k (n + 1)) [] 0 l := by
  induction n generalizing out ps c with
  | zero => rfl
  | succ n ih =>
    rw [List.replicate_succ, List.cons_append, tid, ih, flush_nil, addK_add, show 1 + (n + 1) = n + 1 + 1 by omega]

theorem dropLast_snoc {α : Type} {l : List α} {q : α} (h : l.getLast? = some q) : l = l.dropLast ++ [q] := by
  obtain ⟨l', rfl⟩ := List.getLast?_eq_some_iff.1 h
  simp

/- Made is tidy. -/
theorem addP_keep (o : List Pt) (c : Kd) (n : Nat) (h : 0 < n) : addP o (keepP c n) = addK o c n := by
  unfold addP addK
  have h0 : ¬ ((keepP c n).k ≠ 2 ∧ (keepP c n).n = 0 ∨ (keepP c n).k = 2 ∧ (keepP c n).its = []) := by simp [keepP]; omega
  simp only [if_neg h0]
  cases o.getLast? with
  | none => rfl
  | some q =>
    have e : (alikeP q (keepP c n) = true) ↔ (q.k = 1 ∧ q.kd = c) := by
      obtain ⟨set, clr, to, l⟩ := c
      simp [alikeP, keepP, Pt.kd, and_assoc]
    by_cases hq : q.k = 1 ∧ q.kd = c
    · simp only [if_pos hq, if_pos (e.2 hq)]
      simp [keepP]
    · simp only [if_neg hq, if_neg (fun h => hq (e.1 h))]

/-- Nothing, or a part that keeps, stands last. -/
def EndsK (out : List Pt) : Prop := ∀ q, out.getLast? = some q → q.k = 1

theorem addP_flush (out : List Pt) (ps : List It) (c : Nat) (h : EndsK out) : addP (addP out (putP ps)) (cutP c) = flush out ps c := by
  have h1 : addP out (putP ps) = out ++ (if ps = [] then [] else [putP ps]) := by
    by_cases hp : ps = []
    · simp [hp, addP_put_nil]
    · simp only [if_neg hp]
      unfold addP
      have h0 : ¬ ((putP ps).k ≠ 2 ∧ (putP ps).n = 0 ∨ (putP ps).k = 2 ∧ (putP ps).its = []) := by simp [putP, hp]
      simp only [if_neg h0]
      cases hl : out.getLast? with
      | none => rfl
      | some q =>
        have hk := h q hl
        have : ¬ (alikeP q (putP ps) = true) := by simp [alikeP, putP, hk]
        simp only [if_neg this]
  rw [h1]
  unfold flush
  by_cases hc : c = 0
  · subst hc; simp [addP_cut_zero]
  · simp only [if_neg hc]
    unfold addP
    have h0 : ¬ ((cutP c).k ≠ 2 ∧ (cutP c).n = 0 ∨ (cutP c).k = 2 ∧ (cutP c).its = []) := by simp [cutP]; omega
    simp only [if_neg h0]
    by_cases hp : ps = []
    · simp only [hp, if_true, List.append_nil]
      cases hl : out.getLast? with
      | none => rfl
      | some q =>
        have hk := h q hl
        have : ¬ (alikeP q (cutP c) = true) := by simp [alikeP, cutP, hk]
        simp only [if_neg this]
    · simp only [if_neg hp, List.getLast?_append, List.getLast?_singleton, Option.some_or]
      have : ¬ (alikeP (putP ps) (cutP c) = true) := by simp [alikeP, cutP, putP]
      simp only [if_neg this]

theorem endsK_addK (out : List Pt) (k : Kd) (n : Nat) : EndsK (addK out k n) := by
  intro q hq
  unfold addK at hq
  cases hl : out.getLast? with
  | none => simp [hl] at hq; subst hq; rfl
  | some p =>
    by_cases hp : p.k = 1 ∧ p.kd = k
    · simp only [hl, if_pos hp] at hq; simp at hq; subst hq; exact hp.1
    · simp [hl, if_neg hp] at hq; subst hq; rfl

theorem mk2_tid (L : List Pt) (out : List Pt) (ps : List It) (c : Nat) (ho : EndsK out) (h : ∀ p ∈ L, Fm p) (hk : ∀ p ∈ L, p.k = 1 → 0 < p.n) : mk2 out ps c L = tid out ps c (acts L) := by
  induction L generalizing out ps c with
  | nil => simp only [mk2, acts_nil, tid]; exact addP_flush out ps c ho
  | cons p L ih =>
    have hL : ∀ q ∈ L, Fm q := fun q hq => h q (by simp [hq])
    have hkL : ∀ q ∈ L, q.k = 1 → 0 < q.n := fun q hq => hk q (by simp [hq])
    rw [acts_cons]
    rcases h p (by simp) with ⟨k, n, hn, rfl⟩ | ⟨l, rfl⟩ | ⟨n, hn, rfl⟩
    · have hn1 : 0 < n := hk (keepP k n) (by simp) rfl
      obtain ⟨m, rfl⟩ : ∃ m : Nat, n = ((m + 1 : Nat) : Int) := ⟨(n - 1).toNat, by omega⟩
      rw [actsP_keep, Int.toNat_natCast, tid_keeps]
      have e : (keepP k ((m + 1 : Nat) : Int)).k = 1 := rfl
      rw [mk2, if_pos e, addP_flush out ps c ho, addP_keep _ _ _ (by omega)]
      exact ih _ [] 0 (endsK_addK _ _ _) hL hkL
    · rw [actsP_put, tid_puts]
      have e : ¬ (putP l).k = 1 := by simp [putP]
      rw [mk2, if_neg e]
      have := ih out (ps ++ l) c ho hL hkL
      simpa [putP] using this
    · rw [actsP_cut, tid_cuts]
      have e : ¬ (cutP n).k = 1 := by simp [cutP]
      rw [mk2, if_neg e]
      have := ih out ps (c + n.toNat) ho hL hkL
      have e2 : (c : Int) + n = ((c + n.toNat : Nat) : Int) := by omega
      simp only [cutP, List.append_nil]
      rw [e2]
      exact this

theorem madeP_tidy (L : List Pt) (h : ∀ p ∈ L, Fm p) (hk : ∀ p ∈ L, p.k = 1 → 0 < p.n) : madeP L = tidyA (acts L) :=
  mk2_tid L [] [] 0 (fun q hq => by simp at hq) h hk

end Go.Mh
/- What acts do to a document; two operations turned and joined, act by act; that they meet. No program in sight. -/
namespace Go.Mh

/- Marks, two bits. -/
def and4 (a b : Fin 4) : Fin 4 := ⟨(a.val &&& b.val) % 4, Nat.mod_lt _ (by decide)⟩
theorem band4 : ∀ a b : Fin 4, band (a.val : Int) (b.val : Int) = ((and4 a b).val : Int) := by decide
/-- A change that may be: marks within bounds, none both set and cleared, a link that may be. -/
structure Kd.Ok (c : Kd) : Prop where
  s0 : 0 ≤ c.set
  s3 : c.set ≤ 3
  c0 : 0 ≤ c.clr
  c3 : c.clr ≤ 3
  no : band c.set c.clr = 0
  ln : c.l ≠ [] → c.to = true ∧ may c.l = true

theorem Kd.Ok.fin {c : Kd} (h : c.Ok) : ∃ s z : Fin 4, c.set = (s.val : Int) ∧ c.clr = (z.val : Int) ∧ and4 s z = 0 := by
  obtain ⟨s, hs⟩ := small4 h.s0 h.s3
  obtain ⟨z, hz⟩ := small4 h.c0 h.c3
  refine ⟨s, z, hs, hz, ?_⟩
  have := h.no
  rw [hs, hz, band4] at this
  exact Fin.ext (by simpa using this)

/-- What t becomes behind s, that counts more. -/
def overK (t s : Kd) : Kd := ⟨bnot t.set (bor s.set s.clr), bnot t.clr (bor s.set s.clr), if s.to = true then false else t.to, if s.to = true then [] else t.l⟩
/-- s, and t behind it, as one. -/
def bothK (s t : Kd) : Kd := ⟨bor (bnot s.set t.clr) t.set, bor (bnot s.clr t.set) t.clr, if t.to = true then true else s.to, if t.to = true then t.l else s.l⟩

theorem fin4_ok (a : Fin 4) : 0 ≤ (a.val : Int) ∧ (a.val : Int) ≤ 3 := by omega
theorem Kd.Ok.of {c : Kd} {s z : Fin 4} (hs : c.set = (s.val : Int)) (hz : c.clr = (z.val : Int)) (h : and4 s z = 0) (ln : c.l ≠ [] → c.to = true ∧ may c.l = true) : c.Ok :=
  ⟨by rw [hs]; exact (fin4_ok s).1, by rw [hs]; exact (fin4_ok s).2, by rw [hz]; exact (fin4_ok z).1, by rw [hz]; exact (fin4_ok z).2, by rw [hs, hz, band4, h]; rfl, ln⟩

/-- Marks of an item within bounds. -/
def It.Mk (x : It) : Prop := 0 ≤ x.m ∧ x.m ≤ 3

/-- What acts make of a document. -/
def doA (d : List It) : List Ac → List It
  | [] => []
  | .put x :: l => x :: doA d l
  | .keep c :: l => (d.take 1).map (markI · c) ++ doA d.tail l
  | .cut :: l => doA d.tail l

/-- How many items acts are for; how many there are behind them. -/
def frm : List Ac → Nat
  | [] => 0
  | .put _ :: l => frm l
  | _ :: l => frm l + 1
def too : List Ac → Nat
  | [] => 0
  | .cut :: l => too l
  | _ :: l => too l + 1

def AcOk : Ac → Prop
  | .keep c => c.Ok
  | .put x => chkItem x = 0
  | .cut => True

theorem frm_append (a b : List Ac) : frm (a ++ b) = frm a + frm b := by
  induction a with
  | nil => simp [frm]
  | cons x a ih => cases x <;> simp [frm, ih] <;> omega
theorem too_append (a b : List Ac) : too (a ++ b) = too a + too b := by
  induction a with
  | nil => simp [too]
  | cons x a ih => cases x <;> simp [too, ih] <;> omega
theorem frm_puts (l : List It) : frm (l.map .put) = 0 := by induction l <;> simp [frm, *]
theorem too_puts (l : List It) : too (l.map .put) = l.length := by induction l <;> simp [too, *]
theorem frm_cuts (n : Nat) : frm (List.replicate n .cut) = n := by induction n <;> simp [frm, List.replicate_succ, *]
theorem too_cuts (n : Nat) : too (List.replicate n .cut) = 0 := by induction n <;> simp [too, List.replicate_succ, *]
theorem frm_keeps (n : Nat) (c : Kd) : frm (List.replicate n (.keep c)) = n := by induction n <;> simp [frm, List.replicate_succ, *]
theorem too_keeps (n : Nat) (c : Kd) : too (List.replicate n (.keep c)) = n := by induction n <;> simp [too, List.replicate_succ, *]

/- Turned. -/
def keep0 : Ac := .keep kd0
def turn0 : List Ac → List Ac × List Ac
  | .put y :: b => (keep0 :: (turn0 b).1, .put y :: (turn0 b).2)
  | _ => ([], [])
def turnS (s : Ac) (f : List Ac → List Ac × List Ac) : List Ac → List Ac × List Ac
  | [] => ([], [])
  | .put y :: b => (keep0 :: (turnS s f b).1, .put y :: (turnS s f b).2)
  | .keep t :: b => match s with
    | .keep u => (.keep u :: (f b).1, .keep (overK t u) :: (f b).2)
    | _ => (.cut :: (f b).1, (f b).2)
  | .cut :: b => match s with
    | .keep _ => ((f b).1, .cut :: (f b).2)
    | _ => f b
def turnA : List Ac → List Ac → List Ac × List Ac
  | [], b => turn0 b
  | .put x :: a, b => (.put x :: (turnA a b).1, keep0 :: (turnA a b).2)
  | s :: a, b => turnS s (turnA a) b

end Go.Mh
/- Two operations joined, act by act: they do what the one and then the other does; joined three in either way are the same. No program in sight. -/
namespace Go.Mh

def joinS (s : Ac) (f : List Ac → List Ac) : List Ac → List Ac
  | [] => f []
  | .put y :: b => .put y :: joinS s f b
  | .keep t :: b => match s with
    | .keep u => .keep (bothK u t) :: f b
    | .put x => .put (markI x t) :: f b
    | .cut => f b
  | .cut :: b => match s with
    | .keep _ => .cut :: f b
    | _ => f b
def joinA : List Ac → List Ac → List Ac
  | [], b => b
  | .cut :: a, b => .cut :: joinA a b
  | s :: a, b => joinS s (joinA a) b

theorem item_mk {x : It} (hx : chkItem x = 0) : x.Mk := by
  unfold chkItem at hx
  split at hx; · simp at hx
  split at hx; · simp at hx
  rename_i h; unfold It.Mk; omega

/- What is joined is the same, made tidy, whether its parts were made tidy before or not. -/
/- With one that keeps all. -/
end Go.Mh
/- Operations that are ones: what checking tells of their acts, and what is made tidy; applied, turned, joined; the laws of OpKeeps, OpNothing, OtMeets, OtJoins, OtNothing in plain terms. No program in sight. -/
namespace Go.Mh

/-- The last act keeps. -/
def EndA (l : List Ac) : Prop := ∃ l' c, l = l' ++ [.keep c]
theorem EndA.ne {l : List Ac} (h : EndA l) : l ≠ [] := by obtain ⟨l', c, rfl⟩ := h; simp
theorem EndA.cons {l : List Ac} (h : EndA l) (a : Ac) : EndA (a :: l) := by obtain ⟨l', c, rfl⟩ := h; exact ⟨a :: l', c, rfl⟩
theorem EndA.frm {l : List Ac} (h : EndA l) : 0 < Mh.frm l := by obtain ⟨l', c, rfl⟩ := h; simp [frm_append, Mh.frm]
theorem EndA.too {l : List Ac} (h : EndA l) : 0 < Mh.too l := by obtain ⟨l', c, rfl⟩ := h; simp [too_append, Mh.too]
theorem EndA.tail {a : Ac} {l : List Ac} (h : EndA (a :: l)) (hl : l ≠ []) : EndA l := by
  obtain ⟨l', c, e⟩ := h
  cases l' with
  | nil => simp at e; exact absurd e.2 hl
  | cons b l' => simp at e; exact ⟨l', c, e.2⟩
/- Turned, they end as they did, and are right. -/
/- Parts and operations that are ones. -/
/-- A part that is one, but for how much. -/
def TP (p : Pt) : Prop := (∃ c n, 0 < n ∧ c.Ok ∧ p = keepP c n) ∨ (∃ l, l ≠ [] ∧ (∀ x ∈ l, chkItem x = 0) ∧ p = putP l) ∨ (∃ n, 0 < n ∧ p = cutP n)

theorem TP.fm {p : Pt} (h : TP p) : Fm p := by
  rcases h with ⟨c, n, hn, _, rfl⟩ | ⟨l, _, _, rfl⟩ | ⟨n, hn, rfl⟩
  · exact Or.inl ⟨c, n, by omega, rfl⟩
  · exact Or.inr (Or.inl ⟨l, rfl⟩)
  · exact Or.inr (Or.inr ⟨n, by omega, rfl⟩)
theorem TP.pos {p : Pt} (h : TP p) (hk : p.k = 1) : 0 < p.n := by
  rcases h with ⟨c, n, hn, _, rfl⟩ | ⟨l, _, _, rfl⟩ | ⟨n, hn, rfl⟩
  · exact hn
  · simp [putP] at hk
  · simp [cutP] at hk
theorem TP.nn {p : Pt} (h : TP p) : 0 ≤ p.n := by
  rcases h with ⟨c, n, hn, _, rfl⟩ | ⟨l, _, _, rfl⟩ | ⟨n, hn, rfl⟩ <;> simp [keepP, putP, cutP] <;> omega

theorem chkItems_all {l : List It} (h : chkItems l = 0) : ∀ x ∈ l, chkItem x = 0 := by
  induction l with
  | nil => intro x hx; simp at hx
  | cons y l ih =>
    simp only [chkItems] at h
    split at h
    · rename_i h0
      intro x hx
      rcases List.mem_cons.1 hx with rfl | hx
      · exact h0
      · exact ih h x hx
    · rename_i h0; exact absurd h h0

theorem tp_acok {p : Pt} (h : TP p) : ∀ a ∈ actsP p, AcOk a := by
  rcases h with ⟨c, n, hn', hc, rfl⟩ | ⟨l, hl, hi, rfl⟩ | ⟨n, hn', rfl⟩
  · intro a ha; rw [actsP_keep] at ha; obtain ⟨_, rfl⟩ := List.mem_replicate.1 ha; exact hc
  · intro a ha; rw [actsP_put] at ha; obtain ⟨x, hx, rfl⟩ := List.mem_map.1 ha; exact hi x hx
  · intro a ha; rw [actsP_cut] at ha; obtain ⟨_, rfl⟩ := List.mem_replicate.1 ha; trivial
theorem acts_acok {o : List Pt} (h : ∀ p ∈ o, TP p) : ∀ a ∈ acts o, AcOk a := by
  intro a ha
  obtain ⟨p, hp, hpa⟩ := List.mem_flatMap.1 ha
  exact tp_acok (h p hp) a hpa

/-- What checking tells. -/
structure OpOk (o : List Pt) : Prop where
  tp : ∀ p ∈ o, TP p
  n80 : ∀ p ∈ o, p.n ≤ 80
  i80 : ∀ p ∈ o, p.its.length ≤ 80
  len : o.length ≤ 40
  frm : frm (acts o) ≤ 80
  fin : EndA (acts o)

theorem OpOk.ne {o : List Pt} (h : OpOk o) : o ≠ [] := by rintro rfl; exact h.fin.ne rfl
theorem OpOk.ok {o : List Pt} (h : OpOk o) : ∀ a ∈ acts o, AcOk a := acts_acok h.tp
theorem OpOk.fm {o : List Pt} (h : OpOk o) : ∀ p ∈ o, Fm p := fun p hp => (h.tp p hp).fm
theorem OpOk.made {o : List Pt} (h : OpOk o) : madeP o = tidyA (acts o) := madeP_tidy o h.fm fun p hp hk => (h.tp p hp).pos hk

/- Tidy ones. -/
/- Applied. -/
def w64 (n : Int) : Int := Go.IntKind.i64.wrap n
theorem too_bound {o : List Pt} (h : ∀ p ∈ o, TP p) (hn : ∀ p ∈ o, p.its.length ≤ 80) : too (acts o) ≤ frm (acts o) + 80 * o.length := by
  induction o with
  | nil => simp [acts_nil, too]
  | cons p o ih =>
    have := ih (fun q hq => h q (by simp [hq])) (fun q hq => hn q (by simp [hq]))
    rw [acts_cons, too_append, frm_append]
    simp only [List.length_cons]
    rcases h p (by simp) with ⟨k, n, hn', _, rfl⟩ | ⟨l, hl, _, rfl⟩ | ⟨n, hn', rfl⟩
    · rw [actsP_keep, too_keeps, frm_keeps]; omega
    · have h80 := hn (putP l) (by simp)
      simp only [putP] at h80
      rw [actsP_put, too_puts, frm_puts]; omega
    · rw [actsP_cut, too_cuts, frm_cuts]; omega

theorem OpOk.too {o : List Pt} (h : OpOk o) : Mh.too (acts o) ≤ 3280 := by
  have := too_bound h.tp h.i80; have := h.frm; have := h.len; omega
def applyP (d : List It) (o : List Pt) : List It × Int :=
  if chkDoc d ≠ 0 then ([], chkDoc d)
  else if chkOp o ≠ 0 then ([], chkOp o)
  else if frm (acts o) ≠ d.length then ([], 6)
  else if 80 < too (acts o) then ([], 2)
  else (doA d (acts o), 0)

structure Applies (d : List It) (o : List Pt) : Prop where
  doc : chkDoc d = 0
  op : chkOp o = 0
  base : frm (acts o) = d.length
  t80 : too (acts o) ≤ 80

theorem Applies.eq {d : List It} {o : List Pt} (h : Applies d o) : applyP d o = (doA d (acts o), 0) := by
  have h1 := h.t80
  simp only [applyP, h.doc, h.op, h.base]
  simp
  omega
theorem Applies.of {d : List It} {o : List Pt} (h : (applyP d o).2 = 0) : Applies d o := by
  unfold applyP at h
  split at h; · rename_i h1; exact absurd h h1
  rename_i h1
  split at h; · rename_i h2; exact absurd h h2
  rename_i h2
  split at h; · simp at h
  rename_i h3
  split at h; · simp at h
  rename_i h4
  exact ⟨Decidable.not_not.1 h1, Decidable.not_not.1 h2, Decidable.not_not.1 h3, by omega⟩

theorem doc_facts {d : List It} (h : chkDoc d = 0) : (∀ x ∈ d, chkItem x = 0) ∧ d.length ≤ 80 ∧ ∃ d' x, d = d' ++ [x] ∧ (x.c.toNat : Int) = 10 := by
  unfold chkDoc at h
  split at h; · simp at h
  rename_i h1
  split at h; · rename_i h2; exact absurd h h2
  rename_i h2
  refine ⟨chkItems_all (Decidable.not_not.1 h2), by omega, ?_⟩
  split at h
  · simp at h
  · rename_i x hx
    split at h
    · rename_i hc; exact ⟨d.dropLast, x, dropLast_snoc hx, hc⟩
    · simp at h
/- The laws on operations. -/
/- Turned and joined, with their checks. -/
def chk2 (x y : List Pt) : List Pt × List Pt × Int := if chkOp x ≠ 0 then ([], [], chkOp x) else if chkOp y ≠ 0 then ([], [], chkOp y) else (x, y, 0)
def turnP (a b : List Pt) : List Pt × List Pt × Int :=
  if chkOp a ≠ 0 then ([], [], chkOp a)
  else if chkOp b ≠ 0 then ([], [], chkOp b)
  else if frm (acts a) ≠ frm (acts b) then ([], [], 6)
  else chk2 (tidyA (turnA (acts a) (acts b)).1) (tidyA (turnA (acts a) (acts b)).2)
def joinP (a b : List Pt) : List Pt × Int :=
  if chkOp a ≠ 0 then ([], chkOp a)
  else if chkOp b ≠ 0 then ([], chkOp b)
  else if too (acts a) ≠ frm (acts b) then ([], 6)
  else if chkOp (tidyA (joinA (acts a) (acts b))) ≠ 0 then ([], chkOp (tidyA (joinA (acts a) (acts b))))
  else (tidyA (joinA (acts a) (acts b)), 0)

structure Turns (a b : List Pt) : Prop where
  ca : chkOp a = 0
  cb : chkOp b = 0
  base : frm (acts a) = frm (acts b)
  cx : chkOp (tidyA (turnA (acts a) (acts b)).1) = 0
  cy : chkOp (tidyA (turnA (acts a) (acts b)).2) = 0
theorem Turns.eq {a b : List Pt} (h : Turns a b) : turnP a b = (tidyA (turnA (acts a) (acts b)).1, tidyA (turnA (acts a) (acts b)).2, 0) := by
  simp [turnP, chk2, h.ca, h.cb, h.base, h.cx, h.cy]
theorem Turns.of {a b : List Pt} (h : (turnP a b).2.2 = 0) : Turns a b := by
  unfold turnP at h
  split at h; · rename_i h1; exact absurd h h1
  rename_i h1
  split at h; · rename_i h2; exact absurd h h2
  rename_i h2
  split at h; · simp at h
  rename_i h3
  unfold chk2 at h
  split at h; · rename_i h4; exact absurd h h4
  rename_i h4
  split at h; · rename_i h5; exact absurd h h5
  rename_i h5
  exact ⟨Decidable.not_not.1 h1, Decidable.not_not.1 h2, Decidable.not_not.1 h3, Decidable.not_not.1 h4, Decidable.not_not.1 h5⟩

structure Joins (a b : List Pt) : Prop where
  ca : chkOp a = 0
  cb : chkOp b = 0
  base : too (acts a) = frm (acts b)
  cj : chkOp (tidyA (joinA (acts a) (acts b))) = 0
theorem Joins.eq {a b : List Pt} (h : Joins a b) : joinP a b = (tidyA (joinA (acts a) (acts b)), 0) := by
  simp [joinP, h.ca, h.cb, h.base, h.cj]
theorem Joins.of {a b : List Pt} (h : (joinP a b).2 = 0) : Joins a b := by
  unfold joinP at h
  split at h; · rename_i h1; exact absurd h h1
  rename_i h1
  split at h; · rename_i h2; exact absurd h h2
  rename_i h2
  split at h; · simp at h
  rename_i h3
  split at h; · rename_i h4; exact absurd h h4
  rename_i h4
  exact ⟨Decidable.not_not.1 h1, Decidable.not_not.1 h2, Decidable.not_not.1 h3, Decidable.not_not.1 h4⟩

end Go.Mh
/- Made: what holds ahead of each round. Plain. -/
namespace Go.Mh

/-- Parts that Made is called with. -/
structure Lok (L : List Pt) : Prop where
  fm : ∀ p ∈ L, Fm p
  keep : ∀ p ∈ L, p.k = 1 → 0 < p.n
  len : L.length ≤ 1000
  n : ∀ p ∈ L, p.n ≤ 100
  its : ∀ p ∈ L, p.its.length ≤ 100

theorem Fm.n0 {p : Pt} (h : Fm p) : 0 ≤ p.n := by
  rcases h with ⟨c, n, h, rfl⟩ | ⟨l, rfl⟩ | ⟨n, h, rfl⟩
  · exact h
  · exact Int.le_refl _
  · exact h
theorem Fm.its0 {p : Pt} (h : Fm p) (hk : p.k ≠ 2) : p.its = [] := by
  rcases h with ⟨c, n, h, rfl⟩ | ⟨l, rfl⟩ | ⟨n, h, rfl⟩
  · rfl
  · exact absurd rfl hk
  · rfl

/-- What is made so far holds numbers of at most N. -/
def Low (O : List Pt) (N : Nat) : Prop := ∀ q ∈ O, q.k ≠ 2 → q.its = [] ∧ 0 ≤ q.n ∧ q.n ≤ (N : Int)
theorem Low.mono {O : List Pt} {N M : Nat} (h : Low O N) (hm : N ≤ M) : Low O M := fun q hq hk => by obtain ⟨h1, h2, h3⟩ := h q hq hk; exact ⟨h1, h2, by omega⟩
structure MadeI (L O : List Pt) (i : Nat) : Prop where
  le : i ≤ L.length
  eq : mk2 O [] 0 (L.drop i) = madeP L
  len : O.length ≤ 2 * i
  low : Low O (100 * i)
  ends : ∀ p, L[i]? = some p → p.k ≠ 1 → EndsK O

structure MadeJ (L O : List Pt) (i j : Nat) (its : List It) (n : Int) : Prop where
  ij : i ≤ j
  le : j ≤ L.length
  eq : mk2 O its n (L.drop j) = madeP L
  len : O.length ≤ 2 * i
  low : Low O (100 * i)
  ends : EndsK O
  il : its.length + 100 * i ≤ 100 * j
  n0 : 0 ≤ n
  n1 : n + 100 * i ≤ 100 * j

end Go.Mh
/- Turned and joined part by part: what the program's loops keep. No program in sight. -/
namespace Go.Mh

def pt0 : Pt := ⟨0, 0, [], 0, 0, false, []⟩
theorem actsP_none {p : Pt} (hn : p.n = 0) (hi : p.its = []) : actsP p = [] := by simp [actsP, hn, hi]

/-- A reader: what is left of the part that is read, and the parts behind. -/
structure RdOk (p : Pt) (o : List Pt) : Prop where
  left : (p.n = 0 ∧ p.its = []) ∨ TP p
  tp : ∀ x ∈ o, TP x
  n80 : p.n ≤ 80 ∧ ∀ x ∈ o, x.n ≤ 80
  i80 : p.its.length ≤ 80 ∧ ∀ x ∈ o, x.its.length ≤ 80

def rdA (p : Pt) (o : List Pt) : List Ac := actsP p ++ acts o
def moreR (p : Pt) (o : List Pt) : Bool × Pt × List Pt :=
  if p.n = 0 ∧ p.its = [] then (match o with | [] => (false, p, []) | x :: o' => (true, x, o')) else (true, p, o)
def cntR (p : Pt) (o : List Pt) : Nat := (if p.n = 0 ∧ p.its = [] then 0 else 1) + o.length

theorem TP.full {p : Pt} (h : TP p) : ¬ (p.n = 0 ∧ p.its = []) := by
  rcases h with ⟨c, n, hn, _, rfl⟩ | ⟨l, hl, _, rfl⟩ | ⟨n, hn, rfl⟩
  · simp [keepP]; omega
  · simp [putP, hl]
  · simp [cutP]; omega
theorem RdOk.nn {p : Pt} {o : List Pt} (h : RdOk p o) : 0 ≤ p.n := by
  rcases h.left with ⟨h1, _⟩ | h1
  · omega
  · exact h1.nn
theorem RdOk.start {o : List Pt} (h : OpOk o) : RdOk pt0 o := ⟨Or.inl ⟨rfl, rfl⟩, h.tp, ⟨by decide, h.n80⟩, ⟨by decide, h.i80⟩⟩
theorem RdOk.moreT {p x : Pt} {o : List Pt} (h : RdOk p (x :: o)) (he : p.n = 0 ∧ p.its = []) : RdOk x o ∧ TP x ∧ rdA x o = rdA p (x :: o) ∧ cntR x o ≤ cntR p (x :: o) := by
  refine ⟨⟨Or.inr (h.tp x (List.mem_cons_self ..)), fun y hy => h.tp y (List.mem_cons_of_mem _ hy), ⟨h.n80.2 x (List.mem_cons_self ..), fun y hy => h.n80.2 y (List.mem_cons_of_mem _ hy)⟩, ⟨h.i80.2 x (List.mem_cons_self ..), fun y hy => h.i80.2 y (List.mem_cons_of_mem _ hy)⟩⟩, h.tp x (List.mem_cons_self ..), ?_, ?_⟩
  · simp [rdA, acts_cons, actsP_none he.1 he.2]
  · have := (h.tp x (List.mem_cons_self ..)).full
    simp [cntR, he, this]; omega
theorem RdOk.full {p : Pt} {o : List Pt} (h : RdOk p o) (he : ¬ (p.n = 0 ∧ p.its = [])) : TP p := by
  rcases h.left with h1 | h1
  · exact absurd h1 he
  · exact h1
/-- What 'more' leaves. -/
theorem RdOk.more {p : Pt} {o : List Pt} (h : RdOk p o) {m : Bool} {p' : Pt} {o' : List Pt} (e : moreR p o = (m, p', o')) :
    RdOk p' o' ∧ rdA p' o' = rdA p o ∧ cntR p' o' ≤ cntR p o ∧ (m = true → TP p') ∧ (m = false → rdA p' o' = []) := by
  unfold moreR at e
  split at e
  · rename_i he
    cases o with
    | nil =>
      simp at e
      obtain ⟨rfl, rfl, rfl⟩ := e
      exact ⟨h, rfl, Nat.le_refl _, fun h => by simp at h, fun _ => by simp [rdA, actsP_none he.1 he.2, acts]⟩
    | cons x o =>
      simp at e
      obtain ⟨rfl, rfl, rfl⟩ := e
      obtain ⟨h1, h2, h3, h4⟩ := h.moreT he
      exact ⟨h1, h3, h4, fun _ => h2, fun h => by simp at h⟩
  · rename_i he
    simp at e
    obtain ⟨rfl, rfl, rfl⟩ := e
    exact ⟨h, rfl, Nat.le_refl _, fun _ => h.full he, fun h => by simp at h⟩
/- Turned, many at once. -/
/-- What a list of parts that is made must keep. -/
structure Lk (L : List Pt) : Prop where
  fm : ∀ p ∈ L, Fm p
  keep : ∀ p ∈ L, p.k = 1 → 0 < p.n
  n : ∀ p ∈ L, p.n ≤ 100
  its : ∀ p ∈ L, p.its.length ≤ 100
theorem Lk.lok {L : List Pt} (h : Lk L) (hl : L.length ≤ 1000) : Lok L := ⟨h.fm, h.keep, hl, h.n, h.its⟩
theorem Lk.nil : Lk [] := ⟨fun p h => by simp at h, fun p h => by simp at h, fun p h => by simp at h, fun p h => by simp at h⟩
/-- Ahead of each round of Turn. -/
structure TurnI (a b X Y : List Pt) (p : Pt) (o : List Pt) (q : Pt) (u : List Pt) : Prop where
  rp : RdOk p o
  rq : RdOk q u
  fr : frm (rdA p o) = frm (rdA q u)
  x : acts X ++ (turnA (rdA p o) (rdA q u)).1 = (turnA (acts a) (acts b)).1
  y : acts Y ++ (turnA (rdA p o) (rdA q u)).2 = (turnA (acts a) (acts b)).2
  lx : Lk X
  ly : Lk Y
  nx : X.length + cntR p o + cntR q u ≤ 80
  ny : Y.length + cntR p o + cntR q u ≤ 80

theorem TP.k2 {p : Pt} (h : TP p) (hk : p.k = 2) : ∃ l, l ≠ [] ∧ (∀ x ∈ l, chkItem x = 0) ∧ p = putP l := by
  rcases h with ⟨c, n, hn, _, rfl⟩ | h | ⟨n, hn, rfl⟩
  · simp [keepP] at hk
  · exact h
  · simp [cutP] at hk
theorem TP.k1 {p : Pt} (h : TP p) (hk : p.k = 1) : ∃ c n, 0 < n ∧ c.Ok ∧ p = keepP c n := by
  rcases h with h | ⟨l, _, _, rfl⟩ | ⟨n, hn, rfl⟩
  · exact h
  · simp [putP] at hk
  · simp [cutP] at hk
theorem TP.k3 {p : Pt} (h : TP p) (h1 : p.k ≠ 1) (h2 : p.k ≠ 2) : ∃ n, 0 < n ∧ p = cutP n := by
  rcases h with ⟨c, n, hn, _, rfl⟩ | ⟨l, _, _, rfl⟩ | h
  · simp [keepP] at h1
  · simp [putP] at h2
  · exact h
theorem TP.k4 {p : Pt} (h : TP p) : p.k = 1 ∨ p.k = 2 ∨ p.k = 3 := by
  rcases h with ⟨c, n, hn, _, rfl⟩ | ⟨l, _, _, rfl⟩ | ⟨n, hn, rfl⟩
  · exact Or.inl rfl
  · exact Or.inr (Or.inl rfl)
  · exact Or.inr (Or.inr rfl)
theorem RdOk.none {p : Pt} {o : List Pt} (h : RdOk p o) : RdOk pt0 o := ⟨Or.inl ⟨rfl, rfl⟩, h.tp, ⟨by decide, h.n80.2⟩, ⟨by decide, h.i80.2⟩⟩

def restN (p : Pt) (n : Int) : Pt := { p with n := p.n - n }
theorem RdOk.rest {p : Pt} {o : List Pt} (h : RdOk p o) (hp : TP p) (hk : p.k ≠ 2) {n : Int} (h0 : 0 < n) (hn : n ≤ p.n) : RdOk (restN p n) o := by
  refine ⟨?_, h.tp, ⟨by have := h.n80.1; simp only [restN]; omega, h.n80.2⟩, h.i80⟩
  by_cases e : p.n = n
  · left
    refine ⟨by simp [restN, e], ?_⟩
    exact hp.fm.its0 hk
  · right
    rcases hp with ⟨c, m, hm, hc, rfl⟩ | ⟨l, hl, _, rfl⟩ | ⟨m, hm, rfl⟩
    · simp [keepP] at hn e
      exact Or.inl ⟨c, m - n, by omega, hc, rfl⟩
    · simp [putP] at hk
    · simp [cutP] at hn e
      exact Or.inr (Or.inr ⟨m - n, by omega, rfl⟩)
theorem TurnI.fin {a b X Y : List Pt} {p : Pt} {o : List Pt} {q : Pt} {u : List Pt} (h : TurnI a b X Y p o q u) : Lok X ∧ Lok Y := ⟨h.lx.lok (by have := h.nx; omega), h.ly.lok (by have := h.ny; omega)⟩
theorem Lok.made {L : List Pt} (h : Lok L) : madeP L = tidyA (acts L) := madeP_tidy L h.fm h.keep
end Go.Mh
/- Joined part by part: what the program's loop keeps. No program in sight. -/
namespace Go.Mh

/-- Ahead of each round of Join. -/
structure JoinI (a b X : List Pt) (p : Pt) (o : List Pt) (q : Pt) (u : List Pt) : Prop where
  rp : RdOk p o
  rq : RdOk q u
  fr : too (rdA p o) = frm (rdA q u)
  x : acts X ++ joinA (rdA p o) (rdA q u) = joinA (acts a) (acts b)
  lx : Lk X
  nx : X.length + cntR p o + cntR q u ≤ 80

theorem JoinI.fin {a b X : List Pt} {p : Pt} {o : List Pt} {q : Pt} {u : List Pt} (h : JoinI a b X p o q u) : Lok X := h.lx.lok (by have := h.nx; omega)
end Go.Mh
/- Pages taken apart, in plain terms; what stands behind a whole tag is taken apart by itself. No program in sight. -/
namespace Go.Mh

/- Read back. -/
def eAmp : Bs := [38, 97, 109, 112, 59]
def eLt : Bs := [38, 108, 116, 59]
def eGt : Bs := [38, 103, 116, 59]
def eQuot : Bs := [38, 113, 117, 111, 116, 59]
/-- The character that stands ahead, and by how many more bytes it is written. -/
def first1 (c : UInt8) (r : Bs) : UInt8 × Nat :=
  if eAmp.isPrefixOf (c :: r) = true then (38, 4) else if eLt.isPrefixOf (c :: r) = true then (60, 3) else if eGt.isPrefixOf (c :: r) = true then (62, 3) else if eQuot.isPrefixOf (c :: r) = true then (34, 5) else (c, 0)
def readS : Nat → Bs → Bs
  | _, [] => []
  | k + 1, _ :: r => readS k r
  | 0, c :: r => (first1 c r).1 :: readS (first1 c r).2 r
def readE (s : Bs) : Bs := readS 0 s
theorem readS_drop (k : Nat) (s : Bs) : readS k s = readE (s.drop k) := by
  induction s generalizing k with
  | nil => cases k <;> simp [readS, readE]
  | cons c s ih => cases k with
    | zero => rfl
    | succ k => simp [readS, ih]
theorem readE_cons (c : UInt8) (r : Bs) : readE (c :: r) = (first1 c r).1 :: readE (r.drop (first1 c r).2) := by
  rw [← readS_drop]; rfl

/- Blanks, letters, words. -/
def isSp (c : UInt8) : Bool := c == 32 || c == 9 || c == 10 || c == 13 || c == 12
def isLt (c : UInt8) : Bool := (97 ≤ c && c ≤ 122) || (65 ≤ c && c ≤ 90)
def blanks (s : Bs) : Bs := s.dropWhile isSp
def nb1 (c : UInt8) : Bool := !(isSp c || c == 62)
def nb2 (c : UInt8) : Bool := !(isSp c || c == 47 || c == 62)
def nb3 (c : UInt8) : Bool := !(isSp c || c == 47 || c == 62 || c == 61)
def sk2 (c : UInt8) : Bool := isSp c || c == 47

/-- The value of an attribute, behind its sign; what stands behind that. -/
def valueT (s : Bs) : Bs × Bs := match blanks s with
  | [] => ([], [])
  | c :: r => if c = 34 ∨ c = 39 then ((cut1 c r).1, (cut1 c r).2.1) else ((c :: r).takeWhile nb1, (c :: r).dropWhile nb1)
def valOf (more : Bs) : Bs × Bs := match blanks more with
  | [] => ([], more)
  | c :: r => if c = 61 then valueT r else ([], more)
def sHref : Bs := [104, 114, 101, 102]
def attrF : Nat → Bs → Bs → Bool → Option (Bs × Bs)
  | 0, _, _, _ => none
  | n + 1, s, href, found => match s.dropWhile sk2 with
    | [] => none
    | c :: r => if c = 62 then some (href, r)
      else attrF n (valOf (r.dropWhile nb3)).2 (if lower (c :: r.takeWhile nb3) = sHref ∧ found = false then (valOf (r.dropWhile nb3)).1 else href) (if lower (c :: r.takeWhile nb3) = sHref ∧ found = false then true else found)
def attrT (s href : Bs) (found : Bool) : Option (Bs × Bs) := attrF (s.length + 1) s href found
/-- A tag, behind its first sign: its name, its href, what stands behind it. -/
def tagT (s : Bs) : Option (Bs × Bs × Bs) := match attrT (s.dropWhile nb2) [] false with
  | none => none
  | some (h, r) => some (lower (s.takeWhile nb2), h, r)

def cutC : Bs → Bs
  | [] => []
  | c :: r => if [45, 45, 62].isPrefixOf (c :: r) = true then r.drop 2 else cutC r
def tText (t : Bs) : Tok := ⟨1, [], t, []⟩
def tOther : Tok := ⟨4, [], [], []⟩
def sCom : Bs := [60, 33, 45, 45]
def pageF : Nat → Bs → List Tok
  | 0, _ => []
  | n + 1, s => (if s.takeWhile (· != 60) = [] then [] else [tText (readE (s.takeWhile (· != 60)))]) ++
    match s.dropWhile (· != 60) with
    | [] => []
    | c :: u =>
      if sCom.isPrefixOf (c :: u) = true then tOther :: pageF n (cutC (u.drop 3))
      else match u with
        | [] => tText [60] :: pageF n []
        | d :: v =>
          if d = 33 ∨ d = 63 then tOther :: pageF n (cut1 62 (c :: d :: v)).2.1
          else if isLt d = true then match tagT (d :: v) with
            | none => []
            | some (name, h, r) => ⟨2, name, [], readE h⟩ :: pageF n r
          else if d = 47 ∧ (v.head?.map isLt) = some true then match tagT v with
            | none => []
            | some (name, _, r) => ⟨3, name, [], []⟩ :: pageF n r
          else tText [60] :: pageF n (d :: v)
def pageT (s : Bs) : List Tok := pageF (s.length + 1) s

theorem dw_le {α : Type} (p : α → Bool) (s : List α) : (s.dropWhile p).length ≤ s.length := by
  induction s with
  | nil => simp
  | cons c s ih => simp only [List.dropWhile_cons]; split <;> simp; omega
theorem dw_ne {α : Type} {p : α → Bool} {s : List α} {x : α} (hx : x ∈ s) (hp : p x = false) : s.dropWhile p ≠ [] := by
  induction s with
  | nil => simp at hx
  | cons c s ih =>
    simp only [List.dropWhile_cons]
    split
    · rename_i hc
      rcases List.mem_cons.1 hx with rfl | hx
      · rw [hp] at hc; simp at hc
      · exact ih hx
    · simp
theorem dw_suf {α : Type} (p : α → Bool) (s : List α) : ∃ t, s = t ++ s.dropWhile p := ⟨s.takeWhile p, (List.takeWhile_append_dropWhile).symm⟩
theorem cut1_suf (c : UInt8) (s : Bs) : (cut1 c s).2.1 = [] ∨ ∃ t, s = t ++ (cut1 c s).2.1 := by
  unfold cut1
  split
  · right
    obtain ⟨t, ht⟩ := dw_suf (· != c) s
    cases h : s.dropWhile (· != c) with
    | nil => exact ⟨s, by simp⟩
    | cons d r => rw [h] at ht; exact ⟨t ++ [d], by simp [ht]⟩
  · exact Or.inl rfl
theorem cutC_suf (s : Bs) : cutC s = [] ∨ ∃ t, s = t ++ cutC s := by
  induction s with
  | nil => exact Or.inl rfl
  | cons c r ih =>
    unfold cutC
    split
    · exact Or.inr ⟨c :: r.take 2, by simp⟩
    · rcases ih with h | ⟨t, h⟩
      · exact Or.inl h
      · exact Or.inr ⟨c :: t, by rw [List.cons_append, ← h]⟩

/-- A rest: nothing, or what stands at the end. -/
def Suf (r s : Bs) : Prop := r = [] ∨ ∃ t, s = t ++ r
theorem Suf.len {r s : Bs} (h : Suf r s) : r.length ≤ s.length := by
  rcases h with rfl | ⟨t, rfl⟩ <;> simp
theorem Suf.refl (s : Bs) : Suf s s := Or.inr ⟨[], rfl⟩
theorem Suf.trans {a b c : Bs} (h : Suf a b) (k : Suf b c) : Suf a c := by
  rcases h with rfl | ⟨t, rfl⟩
  · exact Or.inl rfl
  · rcases k with k | ⟨u, rfl⟩
    · left; simp at k; exact k.2
    · exact Or.inr ⟨u ++ t, by simp⟩
theorem Suf.cons {a b : Bs} (c : UInt8) (h : Suf a b) : Suf a (c :: b) := h.trans (Or.inr ⟨[c], rfl⟩)
theorem suf_dw (p : UInt8 → Bool) (s : Bs) : Suf (s.dropWhile p) s := Or.inr (dw_suf p s)
theorem suf_cut1 (c : UInt8) (s : Bs) : Suf (cut1 c s).2.1 s := cut1_suf c s
theorem suf_drop (n : Nat) (s : Bs) : Suf (s.drop n) s := Or.inr ⟨s.take n, (List.take_append_drop n s).symm⟩

theorem suf_value (s : Bs) : Suf (valueT s).2 s := by
  unfold valueT
  have hb := suf_dw isSp s
  cases h : blanks s with
  | nil => exact Or.inl rfl
  | cons c r =>
    unfold blanks at h
    rw [h] at hb
    simp only
    split
    · exact ((suf_cut1 c r).cons c).trans hb
    · exact (suf_dw nb1 (c :: r)).trans hb
theorem suf_valOf (s : Bs) : Suf (valOf s).2 s := by
  unfold valOf
  have hb := suf_dw isSp s
  cases h : blanks s with
  | nil => exact Suf.refl s
  | cons c r =>
    unfold blanks at h
    rw [h] at hb
    simp only
    split
    · exact ((suf_value r).cons c).trans hb
    · exact Suf.refl s

theorem attrF_fuel (n m : Nat) (s href : Bs) (found : Bool) (hn : s.length < n) (hm : s.length < m) : attrF n s href found = attrF m s href found := by
  induction n generalizing m s href found with
  | zero => omega
  | succ n ih =>
    cases m with
    | zero => omega
    | succ m =>
      simp only [attrF]
      cases h : s.dropWhile sk2 with
      | nil => rfl
      | cons c r =>
        simp only
        split
        · rfl
        · have h1 : (c :: r).length ≤ s.length := by rw [← h]; exact dw_le _ _
          have h2 := (suf_valOf (r.dropWhile nb3)).len
          have h3 := dw_le nb3 r
          simp at h1
          exact ih _ _ _ _ (by omega) (by omega)
theorem attrT_eq (s href : Bs) (found : Bool) : attrT s href found = match s.dropWhile sk2 with
    | [] => none
    | c :: r => if c = 62 then some (href, r)
      else attrT (valOf (r.dropWhile nb3)).2 (if lower (c :: r.takeWhile nb3) = sHref ∧ found = false then (valOf (r.dropWhile nb3)).1 else href) (if lower (c :: r.takeWhile nb3) = sHref ∧ found = false then true else found) := by
  unfold attrT
  rw [attrF]
  cases h : s.dropWhile sk2 with
  | nil => rfl
  | cons c r =>
    simp only
    split
    · rfl
    · have h1 : (c :: r).length ≤ s.length := by rw [← h]; exact dw_le _ _
      have h2 := (suf_valOf (r.dropWhile nb3)).len
      have h3 := dw_le nb3 r
      simp at h1
      exact attrF_fuel _ _ _ _ _ (by omega) (by omega)
theorem attrT_suf (s href h r : Bs) (found : Bool) (e : attrT s href found = some (h, r)) : Suf r s := by
  generalize hn : s.length = n
  induction n using Nat.strongRecOn generalizing s href found with
  | ind n ih =>
    rw [attrT_eq] at e
    cases hd : s.dropWhile sk2 with
    | nil => rw [hd] at e; simp at e
    | cons c u =>
      rw [hd] at e
      have hs := suf_dw sk2 s
      rw [hd] at hs
      simp only at e
      split at e
      · simp at e; obtain ⟨_, rfl⟩ := e; exact ((Suf.refl u).cons c).trans hs
      · have h1 := hs.len
        have h2 := (suf_valOf (u.dropWhile nb3)).len
        have h3 := dw_le nb3 u
        simp at h1
        have h4 := ih _ (by omega) _ _ _ e rfl
        exact ((h4.trans ((suf_valOf _).trans (suf_dw nb3 u))).cons c).trans hs
theorem tagT_suf {s name h r : Bs} (e : tagT s = some (name, h, r)) : Suf r s := by
  unfold tagT at e
  cases ha : attrT (s.dropWhile nb2) [] false with
  | none => rw [ha] at e; simp at e
  | some x => rw [ha] at e; simp at e; obtain ⟨_, rfl, rfl⟩ := e; exact (attrT_suf _ _ _ _ _ ha).trans (suf_dw nb2 s)

theorem pageF_fuel (n m : Nat) (s : Bs) (hn : s.length < n) (hm : s.length < m) : pageF n s = pageF m s := by
  induction n generalizing m s with
  | zero => omega
  | succ n ih =>
    cases m with
    | zero => omega
    | succ m =>
      simp only [pageF]
      congr 1
      cases h : s.dropWhile (· != 60) with
      | nil => rfl
      | cons c u =>
        have h1 : (c :: u).length ≤ s.length := by rw [← h]; exact dw_le _ _
        simp at h1
        simp only
        have go : ∀ r : Bs, r.length ≤ u.length → pageF n r = pageF m r := fun r hr => ih _ _ (by omega) (by omega)
        split
        · rw [go _ (by have := Suf.len (cutC_suf (u.drop 3)); simp at this; omega)]
        · cases u with
          | nil => rw [go [] (by simp)]
          | cons d v =>
            simp only
            split
            · rw [go _ (by
                have h2 := (suf_cut1 62 (c :: d :: v)).len
                rcases Nat.lt_or_ge (cut1 62 (c :: d :: v)).2.1.length (c :: d :: v).length with h3 | h3
                · simp at h3 ⊢; omega
                · exfalso
                  unfold cut1 at h3
                  split at h3
                  · rename_i hmem
                    have := dw_le (· != 62) (c :: d :: v)
                    have hne : ((c :: d :: v).dropWhile (· != 62)) ≠ [] := dw_ne hmem (by simp)
                    have hpos : 0 < ((c :: d :: v).dropWhile (· != 62)).length := List.length_pos_iff.2 hne
                    simp only [List.length_tail] at h3
                    omega
                  · simp at h3)]
            · split
              · cases ht : tagT (d :: v) with
                | none => rfl
                | some x => simp only; rw [go _ (by have := (tagT_suf ht).len; simpa using this)]
              · split
                · cases ht : tagT v with
                  | none => rfl
                  | some x => simp only; rw [go _ (by have := (tagT_suf ht).len; simp; omega)]
                · rw [go (d :: v) (Nat.le_refl _)]

/-- What stands ahead of the first sign that opens. -/
def markT : Bs → List Tok
  | [] => []
  | c :: u =>
      if sCom.isPrefixOf (c :: u) = true then tOther :: pageT (cutC (u.drop 3))
      else match u with
        | [] => [tText [60]]
        | d :: v =>
          if d = 33 ∨ d = 63 then tOther :: pageT (cut1 62 (c :: d :: v)).2.1
          else if isLt d = true then match tagT (d :: v) with
            | none => []
            | some (name, h, r) => ⟨2, name, [], readE h⟩ :: pageT r
          else if d = 47 ∧ (v.head?.map isLt) = some true then match tagT v with
            | none => []
            | some (name, _, r) => ⟨3, name, [], []⟩ :: pageT r
          else tText [60] :: pageT (d :: v)
theorem pageT_eq (s : Bs) : pageT s = (if s.takeWhile (· != 60) = [] then [] else [tText (readE (s.takeWhile (· != 60)))]) ++ markT (s.dropWhile (· != 60)) := by
  unfold pageT
  rw [pageF]
  congr 1
  cases h : s.dropWhile (· != 60) with
  | nil => rfl
  | cons c u =>
    have h1 : (c :: u).length ≤ s.length := by rw [← h]; exact dw_le _ _
    simp at h1
    simp only [markT]
    have go : ∀ r : Bs, r.length ≤ u.length → pageF s.length r = pageT r := fun r hr => pageF_fuel _ _ _ (by omega) (by omega)
    split
    · rw [go _ (by have := Suf.len (cutC_suf (u.drop 3)); simp at this; omega)]
    · cases u with
      | nil => simp only; rw [go [] (by simp)]; rfl
      | cons d v =>
        simp only
        split
        · have h2 : (cut1 62 (c :: d :: v)).2.1.length ≤ (d :: v).length := by
            unfold cut1
            split
            · have := dw_le (· != 62) (c :: d :: v)
              simp at this ⊢; omega
            · simp
          rw [go _ h2]
        · split
          · cases ht : tagT (d :: v) with
            | none => rfl
            | some x => simp only; rw [go _ (by have := (tagT_suf ht).len; simpa using this)]
          · split
            · cases ht : tagT v with
              | none => rfl
              | some x => simp only; rw [go _ (by have := (tagT_suf ht).len; simp; omega)]
            · rw [go (d :: v) (Nat.le_refl _)]
theorem pageT_nil : pageT [] = [] := rfl
end Go.Mh
/- Package token: pages, in plain terms: what the walk needs beside. No program in sight. -/
namespace Go.Mh
theorem cutC_eq (s : Bs) : cutC s = (Lib.cut s [45, 45, 62]).2.1 := by
  induction s with
  | nil => rfl
  | cons c r ih =>
    unfold cutC
    by_cases h : [45, 45, 62].isPrefixOf (c :: r) = true
    · rw [if_pos h]
      simp only [Lib.cut, Lib.index, h, if_true]
      rfl
    · rw [if_neg h, ih]
      by_cases hn : Lib.index r [45, 45, 62] = -1
      · have hi : Lib.index (c :: r) [45, 45, 62] = -1 := by
          unfold Lib.index
          rw [if_neg h, hn]
          rfl
        unfold Lib.cut
        rw [hi, hn]
        rfl
      · have h0 := Lib.index_ge r [45, 45, 62]
        have h1 : 0 ≤ Lib.index r [45, 45, 62] := by omega
        have h2 : (Lib.index r [45, 45, 62] == -1) = false := by simpa using hn
        have hi : Lib.index (c :: r) [45, 45, 62] = Lib.index r [45, 45, 62] + 1 := by
          rw [Lib.index, if_neg h, if_neg (by simpa using hn)]
        unfold Lib.cut
        rw [hi, if_pos h1, if_pos (by omega)]
        have h3 : (Lib.index r [45, 45, 62] + 1).toNat = (Lib.index r [45, 45, 62]).toNat + 1 := by omega
        show List.drop _ r = List.drop _ (c :: r)
        rw [h3, Nat.add_right_comm, List.drop_succ_cons]
theorem valueT_len (s : Bs) : (valueT s).1.length ≤ s.length := by
  unfold valueT
  have hb := (suf_dw isSp s).len
  cases h : blanks s with
  | nil => simp
  | cons c r =>
    unfold blanks at h
    rw [h] at hb
    simp only
    split
    · unfold cut1
      split
      · have := (List.takeWhile_prefix (l := r) (· != c)).length_le
        simp at hb ⊢; omega
      · simp at hb ⊢; omega
    · have := (List.takeWhile_prefix (l := c :: r) nb1).length_le
      simp only; omega
theorem valOf_len1 (s : Bs) : (valOf s).1.length ≤ s.length := by
  unfold valOf
  have hb := (suf_dw isSp s).len
  cases h : blanks s with
  | nil => simp
  | cons c r =>
    unfold blanks at h
    rw [h] at hb
    simp only
    split
    · have := valueT_len r
      simp at hb; omega
    · simp
theorem attrF_len (n : Nat) : ∀ (s href h r : Bs) (found : Bool) (M : Nat), href.length ≤ M → s.length ≤ M → attrF n s href found = some (h, r) → h.length ≤ M := by
  induction n with
  | zero => intro s href h r found M _ _ e; simp [attrF] at e
  | succ n ih =>
    intro s href h r found M h1 h2 e
    unfold attrF at e
    have hb := (suf_dw sk2 s).len
    cases hd : s.dropWhile sk2 with
    | nil => rw [hd] at e; simp at e
    | cons c t =>
      rw [hd] at e hb
      simp only at e
      split at e
      · simp at e; obtain ⟨rfl, _⟩ := e; exact h1
      · have h3 := (suf_valOf (t.dropWhile nb3)).len
        have h4 := (suf_dw nb3 t).len
        have h5 := valOf_len1 (t.dropWhile nb3)
        simp at hb
        refine ih _ _ _ _ _ M ?_ (by omega) e
        split
        · omega
        · exact h1
theorem tagT_len {s n h r : Bs} (e : tagT s = some (n, h, r)) : h.length ≤ s.length := by
  unfold tagT at e
  cases ht : attrT (s.dropWhile nb2) [] false with
  | none => rw [ht] at e; simp at e
  | some x =>
    obtain ⟨h', r'⟩ := x
    rw [ht] at e
    simp at e
    obtain ⟨_, rfl, _⟩ := e
    have hb := (suf_dw nb2 s).len
    exact attrF_len _ _ _ _ _ _ s.length (by simp) hb ht
theorem head_dw {p : UInt8 → Bool} (s : Bs) : s.dropWhile p = [] ∨ ∃ c u, s.dropWhile p = c :: u ∧ p c = false := by
  induction s with
  | nil => exact Or.inl rfl
  | cons c s ih =>
    simp only [List.dropWhile_cons]
    split
    · exact ih
    · rename_i h; exact Or.inr ⟨c, s, rfl, by simpa using h⟩
/-- What token.Page returns. -/
def pageP (s : Bs) : List Tok × Int := if 20000 < s.length then ([], 2) else (pageT s, 0)
/-- Page, from its first sign on: one step of the loop. -/
theorem page_step {s text rest : Bs} (h1 : s.takeWhile (· != 60) = text) (h2 : s.dropWhile (· != 60) = rest) : pageT s = (if text = [] then [] else [tText (readE text)]) ++ markT rest := by
  rw [pageT_eq, h1, h2]
end Go.Mh
/- The reference Tokens, in plain terms: places in the page, and what is left behind them. No program in sight. -/
namespace Go.Mh
/-- From i on, up to k, all are p. -/
def Scan (p : UInt8 → Bool) (S : Bs) (i k : Nat) : Prop :=
  i ≤ k ∧ k ≤ S.length ∧ (S.drop i).takeWhile p = (S.take k).drop i ++ (S.drop k).takeWhile p ∧ (S.drop i).dropWhile p = (S.drop k).dropWhile p
theorem dropTk {S : Bs} {k : Nat} {c : UInt8} (hc : S[k]? = some c) : S.drop k = c :: S.drop (k + 1) := by
  have hlt := (List.getElem?_eq_some_iff.1 hc).1
  rw [List.drop_eq_getElem_cons hlt, (List.getElem?_eq_some_iff.1 hc).2]
theorem Scan.start {p : UInt8 → Bool} {S : Bs} {i : Nat} (hi : i ≤ S.length) : Scan p S i i := by
  refine ⟨Nat.le_refl _, hi, ?_, rfl⟩
  have e : (S.take i).drop i = [] := List.drop_eq_nil_of_le (by rw [List.length_take]; omega)
  rw [e]; rfl
theorem Scan.step {p : UInt8 → Bool} {S : Bs} {i k : Nat} {c : UInt8} (h : Scan p S i k) (hc : S[k]? = some c) (hp : p c = true) : Scan p S i (k + 1) := by
  obtain ⟨h1, h2, h3, h4⟩ := h
  have hlt := (List.getElem?_eq_some_iff.1 hc).1
  refine ⟨by omega, by omega, ?_, ?_⟩
  · rw [h3, dropTk hc, List.takeWhile_cons_of_pos hp, List.take_add_one, hc, List.drop_append_of_le_length (by simp; omega)]
    simp
  · rw [h4, dropTk hc, List.dropWhile_cons_of_pos hp]
theorem Scan.stop {p : UInt8 → Bool} {S : Bs} {i k : Nat} (h : Scan p S i k) (hs : k = S.length ∨ ∃ c, S[k]? = some c ∧ p c = false) : (S.drop i).takeWhile p = (S.take k).drop i ∧ (S.drop i).dropWhile p = S.drop k := by
  obtain ⟨h1, h2, h3, h4⟩ := h
  rcases hs with rfl | ⟨c, hc, hp⟩
  · rw [h3, h4]; simp
  · rw [h3, h4, dropTk hc, List.takeWhile_cons_of_neg (by simp [hp]), List.dropWhile_cons_of_neg (by simp [hp])]
    simp

def at0 (S : Bs) (i : Nat) : UInt8 := (S[i]?).getD 0
theorem at0_in {S : Bs} {i : Nat} {c : UInt8} (h : S[i]? = some c) : at0 S i = c := by unfold at0; rw [h]; rfl
theorem at0_out {S : Bs} {i : Nat} (h : S.length ≤ i) : at0 S i = 0 := by unfold at0; rw [List.getElem?_eq_none h]; rfl
/-- Behind the next t from i on; the end. -/
def fnd (S : Bs) (i : Nat) (t : Bs) : Nat := if Lib.index (S.drop i) t < 0 then S.length else i + (Lib.index (S.drop i) t).toNat + t.length
theorem occ_len {s t : Bs} {i : Nat} (h : Lib.occAt s t i = true) (hi : i ≤ s.length) : i + t.length ≤ s.length := by
  have := (List.isPrefixOf_iff_prefix.1 h).length_le
  simp at this; omega
theorem fnd_le {S : Bs} {i : Nat} (hi : i ≤ S.length) (t : Bs) : i ≤ fnd S i t ∧ fnd S i t ≤ S.length := by
  unfold fnd
  rcases Lib.index_spec (S.drop i) t with ⟨h, _⟩ | ⟨j, h, hj, ho, _⟩
  · rw [h, if_pos (by decide)]; omega
  · rw [h, if_neg (by omega)]
    have := occ_len ho hj
    simp at this hj
    simp; omega
theorem fnd_cutC {S : Bs} {i : Nat} (_ : i ≤ S.length) : S.drop (fnd S i [45, 45, 62]) = cutC (S.drop i) := by
  rw [cutC_eq]
  unfold fnd Lib.cut
  have h0 := Lib.index_ge (S.drop i) [45, 45, 62]
  split
  · rw [if_neg (by omega)]; simp
  · rw [if_pos (by omega)]
    show _ = List.drop _ (List.drop i S)
    rw [List.drop_drop]; congr 1
theorem fnd_cut1 {S : Bs} {i : Nat} (_ : i ≤ S.length) (c : UInt8) : S.drop (fnd S i [c]) = (cut1 c (S.drop i)).2.1 := by
  unfold fnd cut1
  rw [Lib.index_one]
  by_cases hm : c ∈ S.drop i
  · rw [if_pos hm, indexByte_some hm]
    rw [if_neg (by omega)]
    have e : ∀ n : Nat, S.drop (i + ((n : Nat) : Int).toNat + [c].length) = ((S.drop i).drop n).drop 1 := fun n => by
      rw [List.drop_drop, List.drop_drop]; congr 1
    rw [e, drop_takeWhile, List.drop_one]
  · rw [if_neg hm, indexByte_none hm, if_pos (by decide)]
    simp
theorem fnd_val {S : Bs} {i : Nat} (_ : i ≤ S.length) (c : UInt8) :
    (cut1 c (S.drop i)).1 = if [c].isSuffixOf ((S.take (fnd S i [c])).drop i) = true then ((S.take (fnd S i [c])).drop i).take (((S.take (fnd S i [c])).drop i).length - 1) else (S.take (fnd S i [c])).drop i := by
  unfold fnd cut1
  rw [Lib.index_one]
  by_cases hm : c ∈ S.drop i
  · rw [if_pos hm, indexByte_some hm]
    have e : (S.take (i + ((((S.drop i).takeWhile (· != c)).length : Nat) : Int).toNat + [c].length)).drop i = (S.drop i).takeWhile (· != c) ++ [c] := by
      have h1 : (S.take (i + ((((S.drop i).takeWhile (· != c)).length : Nat) : Int).toNat + [c].length)).drop i = (S.drop i).take (((S.drop i).takeWhile (· != c)).length + 1) := by
        rw [List.take_drop]; congr 2
      rw [h1, List.take_add_one, take_takeWhile]
      congr 1
      have h2 : (S.drop i)[((S.drop i).takeWhile (· != c)).length]? = ((S.drop i).dropWhile (· != c)).head? := by
        rw [← drop_takeWhile, List.head?_drop]
      rw [h2]
      cases hd : (S.drop i).dropWhile (· != c) with
      | nil => exact absurd hd (dw_ne hm (by simp))
      | cons x r =>
        rcases head_dw (p := (· != c)) (S.drop i) with h | ⟨x', u, h, hx⟩
        · rw [hd] at h; simp at h
        · rw [hd] at h; cases h; simp at hx; simp [hx]
    have h0 : ¬ ((((S.drop i).takeWhile (· != c)).length : Nat) : Int) < 0 := by omega
    simp only [if_neg h0]
    rw [e, if_pos (by simp [List.isSuffixOf])]
    simp
  · rw [if_neg hm, indexByte_none hm]
    simp only [if_pos (show (-1 : Int) < 0 by decide), List.take_length]
    rw [if_neg]
    intro h
    have := (List.isSuffixOf_iff_suffix.1 h)
    obtain ⟨t, ht⟩ := this
    exact hm (by rw [← ht]; simp)

/- What stands ahead of the next sign. -/
theorem pageTk_text {S : Bs} {i k : Nat} (h : Scan (· != 60) S i k) (hlt : i < k) (hs : k = S.length ∨ S[k]? = some 60) : pageT (S.drop i) = tText (readE ((S.take k).drop i)) :: pageT (S.drop k) := by
  obtain ⟨h1, h2⟩ := h.stop (by rcases hs with h | h; exact Or.inl h; exact Or.inr ⟨60, h, rfl⟩)
  rw [pageT_eq (S.drop i), h1, h2, if_neg (by intro e; have := congrArg List.length e; have := h.2.1; simp at *; omega)]
  rw [pageT_eq (S.drop k)]
  rcases hs with rfl | hk
  · simp
  · rw [dropTk hk]; simp
theorem page_mark {S : Bs} {i : Nat} (h : S[i]? = some 60) : pageT (S.drop i) = markT (S.drop i) := by
  rw [pageT_eq, dropTk h]; simp
theorem mark_com {S : Bs} {i : Nat} (h : S[i]? = some 60) (hc : sCom.isPrefixOf (S.drop i) = true) : i + 4 ≤ S.length ∧ pageT (S.drop i) = tOther :: pageT (S.drop (fnd S (i + 4) [45, 45, 62])) := by
  have hl : i + 4 ≤ S.length := by
    have := (List.isPrefixOf_iff_prefix.1 hc).length_le
    simp [sCom] at this; omega
  refine ⟨hl, ?_⟩
  rw [page_mark h, fnd_cutC hl]
  rw [dropTk h] at hc ⊢
  rw [markT.eq_def]
  simp only
  rw [if_pos hc, List.drop_drop]
theorem mark_bang {S : Bs} {i : Nat} {d : UInt8} (h : S[i]? = some 60) (hc : sCom.isPrefixOf (S.drop i) = false) (hd : S[i + 1]? = some d) (hb : d = 33 ∨ d = 63) : pageT (S.drop i) = tOther :: pageT (S.drop (fnd S i [62])) := by
  have hl := (List.getElem?_eq_some_iff.1 h).1
  rw [page_mark h, fnd_cut1 (by omega)]
  rw [dropTk h, dropTk hd] at hc ⊢
  rw [markT.eq_def]
  simp only
  rw [if_neg (by rw [hc]; simp), if_pos hb]
/-- Where the tag's name begins. -/
def tagAt (S : Bs) (i : Nat) : Nat := if at0 S (i + 1) = 47 then i + 2 else i + 1
theorem mark_lt {S : Bs} {i : Nat} (h : S[i]? = some 60) (hc : sCom.isPrefixOf (S.drop i) = false) (hb : ∀ d, S[i + 1]? = some d → ¬ (d = 33 ∨ d = 63)) (ht : ∀ d, S[tagAt S i]? = some d → isLt d = false) : pageT (S.drop i) = tText [60] :: pageT (S.drop (i + 1)) := by
  rw [page_mark h]
  rw [dropTk h] at hc ⊢
  rw [markT.eq_def]
  simp only
  rw [if_neg (by rw [hc]; simp)]
  cases hd : S[i + 1]? with
  | none =>
    have : S.drop (i + 1) = [] := List.drop_eq_nil_of_le (List.getElem?_eq_none_iff.1 hd)
    rw [this]; rfl
  | some d =>
    rw [dropTk hd]
    simp only
    rw [if_neg (hb d hd)]
    unfold tagAt at ht
    rw [at0_in hd] at ht
    by_cases h47 : d = 47
    · subst h47
      rw [if_neg (by decide)]
      rw [if_pos rfl] at ht
      rw [if_neg]
      rintro ⟨_, h2⟩
      cases he : S[i + 2]? with
      | none =>
        have : S.drop (i + 1 + 1) = [] := List.drop_eq_nil_of_le (List.getElem?_eq_none_iff.1 he)
        rw [this] at h2; simp at h2
      | some e =>
        rw [show i + 1 + 1 = i + 2 by omega, dropTk he] at h2
        simp at h2
        rw [ht e he] at h2; simp at h2
    · rw [if_neg h47] at ht
      rw [if_neg (by rw [ht d hd]; simp), if_neg (fun h => h47 h.1)]
theorem mark_tag {S : Bs} {i : Nat} {d : UInt8} (h : S[i]? = some 60) (hc : sCom.isPrefixOf (S.drop i) = false) (hb : ∀ d, S[i + 1]? = some d → ¬ (d = 33 ∨ d = 63)) (ht : S[tagAt S i]? = some d) (hl : isLt d = true) :
    pageT (S.drop i) = match tagT (S.drop (tagAt S i)) with
      | none => []
      | some (name, hr, r) => (if at0 S (i + 1) = 47 then ⟨3, name, [], []⟩ else ⟨2, name, [], readE hr⟩) :: pageT r := by
  have hd : ∃ e, S[i + 1]? = some e := by
    have := (List.getElem?_eq_some_iff.1 ht).1
    exact ⟨_, List.getElem?_eq_getElem (by unfold tagAt at this; split at this <;> omega)⟩
  obtain ⟨e, he⟩ := hd
  rw [page_mark h]
  rw [dropTk h] at hc ⊢
  rw [markT.eq_def]
  simp only
  rw [if_neg (by rw [hc]; simp), dropTk he]
  simp only
  rw [if_neg (hb e he)]
  unfold tagAt at ht ⊢
  rw [at0_in he] at ht ⊢
  by_cases h47 : e = 47
  · subst h47
    rw [if_pos rfl] at ht ⊢
    rw [if_neg (by decide), show i + 1 + 1 = i + 2 by omega, if_pos ⟨rfl, by rw [dropTk ht]; simp [hl]⟩]
    cases tagT (S.drop (i + 2)) with
    | none => rfl
    | some x => simp
  · rw [if_neg h47] at ht ⊢
    rw [he] at ht
    cases ht
    rw [if_pos hl, ← dropTk he]
    cases tagT (S.drop (i + 1)) with
    | none => rfl
    | some x => simp [h47]

/- A tag: its attributes, by places. -/
theorem attr_nil (href : Bs) (found : Bool) : attrT [] href found = none := rfl
theorem attr_end {S : Bs} {k : Nat} (h : S[k]? = some 62) (href : Bs) (found : Bool) : attrT (S.drop k) href found = some (href, S.drop (k + 1)) := by
  rw [dropTk h, attrT_eq, List.dropWhile_cons_of_neg (by decide)]
  rfl
theorem attr_skip {S : Bs} {k : Nat} {c : UInt8} (h : S[k]? = some c) (hc : sk2 c = true) (href : Bs) (found : Bool) : attrT (S.drop k) href found = attrT (S.drop (k + 1)) href found := by
  rw [attrT_eq (S.drop k), attrT_eq (S.drop (k + 1)), dropTk h, List.dropWhile_cons_of_pos hc]
/-- One attribute: its name from k up to k2, its value v, what stands behind it from e on. -/
theorem attr_one {S : Bs} {k k2 e : Nat} {c : UInt8} {v : Bs} (h : S[k]? = some c) (hc : sk2 c = false) (h62 : c ≠ 62) (hs : Scan nb3 S (k + 1) k2) (hst : k2 = S.length ∨ ∃ d, S[k2]? = some d ∧ nb3 d = false) (hv : valOf (S.drop k2) = (v, S.drop e)) (href : Bs) (found : Bool) :
    attrT (S.drop k) href found = attrT (S.drop e) (if lower ((S.take k2).drop k) = sHref ∧ found = false then v else href) (if lower ((S.take k2).drop k) = sHref ∧ found = false then true else found) := by
  obtain ⟨h1, h2⟩ := hs.stop hst
  have hn : (S.take k2).drop k = c :: (S.take k2).drop (k + 1) := by
    refine dropTk ?_
    rw [List.getElem?_take, if_pos (by have := hs.1; omega)]; exact h
  rw [attrT_eq, dropTk h, List.dropWhile_cons_of_neg (by rw [hc]; simp)]
  simp only
  rw [if_neg h62, h1, h2, hv, hn]
theorem val_none {S : Bs} {k j : Nat} (hs : Scan isSp S k j) (hst : j = S.length ∨ ∃ d, S[j]? = some d ∧ isSp d = false) (h : at0 S j ≠ 61) : valOf (S.drop k) = ([], S.drop k) := by
  obtain ⟨_, h2⟩ := hs.stop hst
  unfold valOf blanks
  rw [h2]
  cases hd : S[j]? with
  | none =>
    have : S.drop j = [] := List.drop_eq_nil_of_le (List.getElem?_eq_none_iff.1 hd)
    rw [this]
  | some d =>
    rw [dropTk hd]
    simp only
    rw [at0_in hd] at h
    rw [if_neg h]
theorem val_some {S : Bs} {k j : Nat} (hs : Scan isSp S k j) (hst : j = S.length ∨ ∃ d, S[j]? = some d ∧ isSp d = false) (h : at0 S j = 61) : valOf (S.drop k) = valueT (S.drop (j + 1)) ∧ S[j]? = some 61 := by
  obtain ⟨_, h2⟩ := hs.stop hst
  unfold valOf blanks
  rw [h2]
  cases hd : S[j]? with
  | none => unfold at0 at h; rw [hd] at h; simp at h
  | some d =>
    rw [at0_in hd] at h
    subst h
    rw [dropTk hd]
    exact ⟨by simp, rfl⟩
theorem value_quote {S : Bs} {k j : Nat} {q : UInt8} (hs : Scan isSp S k j) (hst : j = S.length ∨ ∃ d, S[j]? = some d ∧ isSp d = false) (h : at0 S j = q) (hq : q = 34 ∨ q = 39) :
    j + 1 ≤ S.length ∧ valueT (S.drop k) = (if [q].isSuffixOf ((S.take (fnd S (j + 1) [q])).drop (j + 1)) = true then ((S.take (fnd S (j + 1) [q])).drop (j + 1)).take (((S.take (fnd S (j + 1) [q])).drop (j + 1)).length - 1) else (S.take (fnd S (j + 1) [q])).drop (j + 1), S.drop (fnd S (j + 1) [q])) := by
  obtain ⟨_, h2⟩ := hs.stop hst
  cases hd : S[j]? with
  | none => unfold at0 at h; rw [hd] at h; rcases hq with rfl | rfl <;> simp at h
  | some d =>
    rw [at0_in hd] at h
    subst h
    have hl : j + 1 ≤ S.length := (List.getElem?_eq_some_iff.1 hd).1
    refine ⟨hl, ?_⟩
    rw [← fnd_val hl, fnd_cut1 hl]
    unfold valueT blanks
    rw [h2, dropTk hd]
    simp only
    rw [if_pos hq]
theorem value_plain {S : Bs} {k j e : Nat} (hs : Scan isSp S k j) (hst : j = S.length ∨ ∃ d, S[j]? = some d ∧ isSp d = false) (hq : ¬ (at0 S j = 34 ∨ at0 S j = 39)) (hse : Scan nb1 S j e) (hste : e = S.length ∨ ∃ d, S[e]? = some d ∧ nb1 d = false) :
    valueT (S.drop k) = ((S.take e).drop j, S.drop e) := by
  obtain ⟨_, h2⟩ := hs.stop hst
  obtain ⟨h3, h4⟩ := hse.stop hste
  unfold valueT blanks
  rw [h2]
  cases hd : S[j]? with
  | none =>
    have h0 : S.drop j = [] := List.drop_eq_nil_of_le (List.getElem?_eq_none_iff.1 hd)
    rw [h0] at h3 h4 ⊢
    rw [← h3, ← h4]; rfl
  | some d =>
    rw [at0_in hd] at hq
    rw [dropTk hd] at h3 h4 ⊢
    simp only
    rw [if_neg hq, h3, h4]
theorem tag_of {S : Bs} {i k : Nat} (hs : Scan nb2 S i k) (hst : k = S.length ∨ ∃ d, S[k]? = some d ∧ nb2 d = false) :
    tagT (S.drop i) = match attrT (S.drop k) [] false with
      | none => none
      | some (h, r) => some (lower ((S.take k).drop i), h, r) := by
  obtain ⟨h1, h2⟩ := hs.stop hst
  unfold tagT
  rw [h1, h2]
  try (cases attrT (S.drop k) [] false <;> rfl)
end Go.Mh
/- Characters that mean something: written and read, in plain terms. No program in sight. -/
namespace Go.Mh

def wr1 (c : UInt8) : Bs := if c = 38 then eAmp else if c = 60 then eLt else if c = 62 then eGt else if c = 34 then eQuot else [c]
def writeE (s : Bs) : Bs := s.flatMap wr1
theorem writeE_cons (c : UInt8) (s : Bs) : writeE (c :: s) = wr1 c ++ writeE s := by simp [writeE]
theorem writeE_append (s t : Bs) : writeE (s ++ t) = writeE s ++ writeE t := by simp [writeE]

theorem wr1_cases (c : UInt8) : (c = 38 ∧ wr1 c = eAmp) ∨ (c = 60 ∧ wr1 c = eLt) ∨ (c = 62 ∧ wr1 c = eGt) ∨ (c = 34 ∧ wr1 c = eQuot) ∨ (c ≠ 38 ∧ c ≠ 60 ∧ c ≠ 62 ∧ c ≠ 34 ∧ wr1 c = [c]) := by
  unfold wr1
  by_cases h1 : c = 38; · simp [h1]
  by_cases h2 : c = 60; · simp [h2]
  by_cases h3 : c = 62; · simp [h3]
  by_cases h4 : c = 34; · simp [h4]
  simp [h1, h2, h3, h4]

theorem wr1_len (c : UInt8) : 1 ≤ (wr1 c).length ∧ (wr1 c).length ≤ 6 := by
  rcases wr1_cases c with ⟨_, e⟩ | ⟨_, e⟩ | ⟨_, e⟩ | ⟨_, e⟩ | ⟨_, _, _, _, e⟩ <;> rw [e] <;> simp [eAmp, eLt, eGt, eQuot]
theorem write_len (s : Bs) : s.length ≤ (writeE s).length ∧ (writeE s).length ≤ 6 * s.length := by
  induction s with
  | nil => simp [writeE]
  | cons c s ih => have := wr1_len c; rw [writeE_cons]; simp; omega
/-- One character replaced by a text. -/
def rep1 (c : UInt8) (r s : Bs) : Bs := s.flatMap fun b => if b = c then r else [b]
theorem rep1_append (c : UInt8) (r s t : Bs) : rep1 c r (s ++ t) = rep1 c r s ++ rep1 c r t := by simp [rep1]
theorem rep1_one (c : UInt8) (r : Bs) (b : UInt8) : rep1 c r [b] = if b = c then r else [b] := by simp [rep1]
/-- One after the other, as the program does it. -/
theorem write_rep (s : Bs) : rep1 34 eQuot (rep1 62 eGt (rep1 60 eLt (rep1 38 eAmp s))) = writeE s := by
  induction s with
  | nil => rfl
  | cons c s ih =>
    have e : (c :: s) = [c] ++ s := rfl
    rw [e, rep1_append, rep1_append, rep1_append, rep1_append, ih, writeE_append]
    congr 1
    rcases wr1_cases c with ⟨rfl, e⟩ | ⟨rfl, e⟩ | ⟨rfl, e⟩ | ⟨rfl, e⟩ | ⟨h1, h2, h3, h4, e⟩
    · decide
    · decide
    · decide
    · decide
    · simp [rep1, writeE, e, h1, h2, h3, h4]
end Go.Mh
/- Documents written as pages, and what such a page is taken apart to, in plain terms. No program in sight. -/
namespace Go.Mh

def nP : Bs := [112]
def nH1 : Bs := [104, 49]
def nLi : Bs := [108, 105]
def nH2 : Bs := [104, 50]
def nUl : Bs := [117, 108]
def nA : Bs := [97]
def nB : Bs := [98]
def nI : Bs := [105]
def nameOf (m : Int) : Bs := if m = 0 then nP else if m = 1 then nH1 else if m = 2 then nLi else nH2
def opn (n : Bs) : Bs := 60 :: (n ++ [62])
def cls (n : Bs) : Bs := 60 :: 47 :: (n ++ [62])
def sAo : Bs := [60, 97, 32, 104, 114, 101, 102, 61, 34]
def isB (m : Int) : Bool := band m 1 != 0
def isI (m : Int) : Bool := band m 2 != 0
def tagO (x : It) : Bs := (if x.l = [] then [] else sAo ++ (writeE x.l ++ [34, 62])) ++ ((if isB x.m = true then opn nB else []) ++ (if isI x.m = true then opn nI else []))
def tagS (x : It) : Bs := (if isI x.m = true then cls nI else []) ++ ((if isB x.m = true then cls nB else []) ++ (if x.l = [] then [] else cls nA))
def run1 (x : It) (t : Bs) : Bs := tagO x ++ (writeE t ++ tagS x)
def blk (cur : It) (t : Bs) : List It → Bs
  | [] => run1 cur t
  | x :: l => if x.m = cur.m ∧ x.l = cur.l then blk cur (t ++ [x.c]) l else run1 cur t ++ blk x [x.c] l
def blockX : List It → Bs
  | [] => []
  | x :: l => blk x [x.c] l
def ulT (list is : Bool) : Bs := if is = list then [] else if is = true then opn nUl else cls nUl
def pageS (list : Bool) (acc : List It) : List It → Bs
  | [] => if list = true then cls nUl else []
  | x :: d => if (x.c.toNat : Int) = 10 then ulT list (decide (x.m = 2)) ++ (opn (nameOf x.m) ++ (blockX acc ++ (cls (nameOf x.m) ++ pageS (decide (x.m = 2)) [] d))) else pageS list (acc ++ [x]) d
def pageX (d : List It) : Bs := pageS false [] d

/- What it is taken apart to. -/
end Go.Mh
/- Pages made documents, in plain terms: what is written of a document is read as itself; whatever a page is, a document is made of it. No program in sight. -/
namespace Go.Mh

def tset (c : UInt8) : Bool := c == 32 || c == 9 || c == 13 || c == 10 || c == 12
def trimT (s : Bs) : Bs := ((s.dropWhile tset).reverse.dropWhile tset).reverse
def cleanT (s : Bs) : Bs := if may (trimT s) = true then trimT s else []

structure Dk where
  d : List It
  from' : Nat
  kind : Int
  inn : Bool
  bold : Int
  slant : Int
  link : Bs
  gone : Bs
def dk0 : Dk := ⟨[], 0, 0, false, 0, 0, [], []⟩

def nDiv : Bs := [100, 105, 118]
def nStrong : Bs := [115, 116, 114, 111, 110, 103]
def nEm : Bs := [101, 109]
def nBr : Bs := [98, 114]
def blockOf (n : Bs) : Option Int := if n = nP then some 0 else if n = nH1 then some 1 else if n = nLi then some 2 else if n = nH2 then some 3 else if n = nDiv then some 0 else none
def hiddenL : List Bs := [[115, 99, 114, 105, 112, 116], [115, 116, 121, 108, 101], [116, 101, 109, 112, 108, 97, 116, 101], [115, 118, 103], [109, 97, 116, 104], [105, 102, 114, 97, 109, 101], [116, 105, 116, 108, 101], [116, 101, 120, 116, 97, 114, 101, 97], [110, 111, 115, 99, 114, 105, 112, 116]]
def endD (k : Dk) : Dk := if k.inn = true ∨ k.from' < k.d.length then { k with d := k.d ++ [⟨10, k.kind, []⟩], from' := k.d.length + 1, inn := false, kind := 0 } else { k with inn := false, kind := 0 }
theorem endD_in {k : Dk} (h : k.inn = true) : endD k = { k with d := k.d ++ [⟨10, k.kind, []⟩], from' := k.d.length + 1, inn := false, kind := 0 } := by
  unfold endD; rw [if_pos (Or.inl h)]
def chr1 (c : UInt8) : UInt8 := if c = 9 ∨ c = 10 ∨ c = 13 ∨ c = 12 then 32 else if c < 32 ∨ 126 < c then 63 else c
def marksD (k : Dk) : Int := (if 0 < k.bold then 1 else 0) + (if 0 < k.slant then 2 else 0)
def textD (k : Dk) (s : Bs) : Dk := { k with d := k.d ++ s.map fun c => ⟨chr1 c, marksD k, k.link⟩ }
def openD (k : Dk) (t : Tok) : Dk := match blockOf t.name with
  | some b => { endD k with kind := b, inn := true }
  | none =>
    if t.name = nB ∨ t.name = nStrong then { k with bold := k.bold + 1 }
    else if t.name = nI ∨ t.name = nEm then { k with slant := k.slant + 1 }
    else if t.name = nA then { k with link := cleanT t.href }
    else if t.name = nBr then { endD { k with inn := true } with kind := k.kind }
    else if t.name ∈ hiddenL then { k with gone := t.name } else k
def shutD (k : Dk) (n : Bs) : Dk := match blockOf n with
  | some _ => endD k
  | none =>
    if n = nB ∨ n = nStrong then { k with bold := max 0 (k.bold - 1) }
    else if n = nI ∨ n = nEm then { k with slant := max 0 (k.slant - 1) }
    else if n = nA then { k with link := [] } else k
def stepD (k : Dk) (t : Tok) : Dk :=
  if k.gone ≠ [] then (if t.k = 3 ∧ t.name = k.gone then { k with gone := [] } else k)
  else if t.k = 1 then textD k t.text
  else if t.k = 2 then openD k t
  else if t.k = 3 then shutD k t.name else k
def finD (k : Dk) : List It × Int :=
  if 80 < (if (endD k).d = [] then [⟨10, 0, []⟩] else (endD k).d).length then ([], 2) else (if (endD k).d = [] then [⟨10, 0, []⟩] else (endD k).d, 0)
def sanL (k : Dk) : List Tok → List It × Int
  | [] => finD k
  | t :: l => if 80 < (stepD k t).d.length then ([], 2) else sanL (stepD k t) l
def sanP (b : Bs) : List It × Int := if 20000 < b.length then ([], 2) else sanL dk0 (pageT b)

/- Read as itself. -/
section
variable {d : List It} {f : Nat} {kd : Int} {inn : Bool}

theorem item_parts {x : It} (h : chkItem x = 0) : x.Mk ∧ (x.l = [] ∨ may x.l = true) ∧ ((x.c.toNat : Int) = 10 → x.l = []) := by
  refine ⟨item_mk h, ?_, ?_⟩
  · unfold chkItem at h
    split at h; · simp at h
    split at h; · simp at h
    split at h; · simp at h
    rename_i h3
    by_cases e : x.l = []
    · exact Or.inl e
    · right
      cases hm : may x.l with
      | true => rfl
      | false => exact absurd ⟨e, Or.inr hm⟩ h3
  · unfold chkItem at h
    split at h; · simp at h
    split at h; · simp at h
    split at h; · simp at h
    rename_i h3
    intro h10
    exact Decidable.not_not.1 fun e => h3 ⟨e, Or.inl h10⟩

end

end Go.Mh
/- What a page's tokens hold is no longer than the page. -/
namespace Go.Mh
theorem readSQ_len (s : Bs) : ∀ k, (readS k s).length ≤ s.length := by
  induction s with
  | nil => intro k; cases k <;> simp [readS]
  | cons c r ih => intro k; cases k with
    | zero => simp only [readS, List.length_cons]; have := ih (first1 c r).2; omega
    | succ k => simp only [readS, List.length_cons]; have := ih k; omega
theorem readEQ_len (s : Bs) : (readE s).length ≤ s.length := readSQ_len s 0
theorem twQ_le {α : Type} (p : α → Bool) (s : List α) : (s.takeWhile p).length ≤ s.length := by
  induction s with
  | nil => simp
  | cons c s ih => simp only [List.takeWhile_cons]; split <;> simp; omega
theorem cut1Q_len (c : UInt8) (s : Bs) : (cut1 c s).1.length ≤ s.length := by
  unfold cut1
  split
  · exact twQ_le _ _
  · exact Nat.le_refl _
theorem valueTQ_len (s : Bs) : (valueT s).1.length ≤ s.length := by
  unfold valueT
  have hb := (suf_dw isSp s).len
  cases h : blanks s with
  | nil => simp
  | cons c r =>
    unfold blanks at h
    rw [h] at hb
    simp only [List.length_cons] at hb
    dsimp only
    split
    · have := cut1Q_len c r; simp only; omega
    · have := twQ_le nb1 (c :: r); simp only [List.length_cons] at this; simp only; omega
theorem valOfQ_len (s : Bs) : (valOf s).1.length ≤ s.length := by
  unfold valOf
  have hb := (suf_dw isSp s).len
  cases h : blanks s with
  | nil => simp
  | cons c r =>
    unfold blanks at h
    rw [h] at hb
    simp only [List.length_cons] at hb
    dsimp only
    split
    · have := valueTQ_len r; omega
    · simp
theorem attrFQ_len (n : Nat) : ∀ (s href : Bs) (found : Bool) (h r : Bs) (m : Nat), attrF n s href found = some (h, r) → href.length ≤ m → s.length ≤ m → h.length ≤ m := by
  induction n with
  | zero => intro s href found h r m he; simp [attrF] at he
  | succ n ih =>
    intro s href found h r m he h1 h2
    rw [attrF] at he
    have hb := (suf_dw sk2 s).len
    cases hs : s.dropWhile sk2 with
    | nil => rw [hs] at he; simp at he
    | cons c u =>
      rw [hs] at he hb
      simp only [List.length_cons] at hb
      dsimp only at he
      split at he
      · simp only [Option.some.injEq, Prod.mk.injEq] at he; obtain ⟨rfl, _⟩ := he; exact h1
      · have hu := (suf_dw nb3 u).len
        have hv := (suf_valOf (u.dropWhile nb3)).len
        have hw := valOfQ_len (u.dropWhile nb3)
        refine ih _ _ _ h r m he ?_ (by omega)
        split
        · omega
        · exact h1
theorem tagTQ_len {s name h r : Bs} (he : tagT s = some (name, h, r)) : h.length ≤ s.length := by
  unfold tagT attrT at he
  split at he
  · simp at he
  · rename_i h' r' h2
    simp only [Option.some.injEq, Prod.mk.injEq] at he
    obtain ⟨_, rfl, _⟩ := he
    exact attrFQ_len _ _ _ _ _ _ _ h2 (by simp) (dw_le _ _)
def SmT (m : Nat) (t : Tok) : Prop := t.text.length ≤ m ∧ t.href.length ≤ m
theorem pageF_small (m n : Nat) : ∀ s : Bs, s.length ≤ m → ∀ t ∈ pageF n s, SmT m t := by
  induction n with
  | zero => intro s _ t ht; simp [pageF] at ht
  | succ n ih =>
    intro s hs t ht
    rw [pageF, List.mem_append] at ht
    rcases ht with ht | ht
    · split at ht
      · simp at ht
      · simp only [List.mem_singleton] at ht
        subst ht
        have h1 := readEQ_len (s.takeWhile (· != 60))
        have h2 := twQ_le (· != 60) s
        exact ⟨Nat.le_trans h1 (Nat.le_trans h2 hs), by simp [tText]⟩
    · have hb := (suf_dw (· != 60) s).len
      cases hd : s.dropWhile (· != 60) with
      | nil => rw [hd] at ht; simp at ht
      | cons c u =>
        rw [hd] at ht hb
        simp only [List.length_cons] at hb
        dsimp only at ht
        have hO : SmT m tOther := ⟨by simp [tOther], by simp [tOther]⟩
        have h6 : SmT m (tText [60]) := ⟨by simp [tText]; omega, by simp [tText]⟩
        split at ht
        · rcases List.mem_cons.1 ht with rfl | ht
          · exact hO
          · have h1 := (show Suf (cutC (u.drop 3)) (u.drop 3) from cutC_suf _).len
            have h2 := (suf_drop 3 u).len
            exact ih _ (by omega) t ht
        · cases u with
          | nil =>
            dsimp only at ht
            rcases List.mem_cons.1 ht with rfl | ht
            · exact h6
            · exact ih _ (by simp) t ht
          | cons d v =>
            simp only [List.length_cons] at hb
            dsimp only at ht
            split at ht
            · rcases List.mem_cons.1 ht with rfl | ht
              · exact hO
              · have h1 := (suf_cut1 62 (c :: d :: v)).len
                simp only [List.length_cons] at h1
                exact ih _ (by omega) t ht
            · split at ht
              · split at ht
                · simp at ht
                · rename_i name h r he
                  have h1 := tagTQ_len he
                  have h2 := (tagT_suf he).len
                  simp only [List.length_cons] at h1 h2
                  rcases List.mem_cons.1 ht with rfl | ht
                  · have h3 := readEQ_len h
                    exact ⟨by simp, by simp only; omega⟩
                  · exact ih _ (by omega) t ht
              · split at ht
                · split at ht
                  · simp at ht
                  · rename_i name h r he
                    have h2 := (tagT_suf he).len
                    rcases List.mem_cons.1 ht with rfl | ht
                    · exact ⟨by simp, by simp⟩
                    · exact ih _ (by omega) t ht
                · rcases List.mem_cons.1 ht with rfl | ht
                  · exact h6
                  · exact ih _ (by simp only [List.length_cons]; omega) t ht
theorem page_small (s : Bs) : ∀ t ∈ pageT s, SmT s.length t := pageF_small s.length _ s (Nat.le_refl _)
theorem stepD_bold (k : Dk) (t : Tok) (m : Int) (h : 0 ≤ k.bold ∧ k.bold ≤ m ∧ 0 ≤ k.slant ∧ k.slant ≤ m) : 0 ≤ (stepD k t).bold ∧ (stepD k t).bold ≤ m + 1 ∧ 0 ≤ (stepD k t).slant ∧ (stepD k t).slant ≤ m + 1 := by
  obtain ⟨h1, h2, h3, h4⟩ := h
  have hE : ∀ k : Dk, (endD k).bold = k.bold ∧ (endD k).slant = k.slant := fun k => by unfold endD; split <;> exact ⟨rfl, rfl⟩
  unfold stepD
  split
  · split <;> (refine ⟨?_, ?_, ?_, ?_⟩ <;> (try simp only) <;> omega)
  · split
    · refine ⟨?_, ?_, ?_, ?_⟩ <;> simp only [textD] <;> omega
    · split
      · unfold openD
        split
        · simp only [(hE k).1, (hE k).2]; omega
        · split
          · first | omega | (simp only; omega)
          · split
            · first | omega | (simp only; omega)
            · split
              · first | omega | (simp only; omega)
              · split
                · simp only [(hE _).1, (hE _).2]; omega
                · split <;> first | omega | (simp only; omega)
      · split
        · unfold shutD
          split
          · simp only [(hE k).1, (hE k).2]; omega
          · split
            · first | omega | (simp only; omega)
            · split
              · first | omega | (simp only; omega)
              · split <;> first | omega | (simp only; omega)
        · omega
theorem pageQ_len (n : Nat) : ∀ s : Bs, (pageF n s).length ≤ 2 * n := by
  induction n with
  | zero => intro s; simp [pageF]
  | succ n ih =>
    intro s
    rw [pageF, List.length_append]
    have h1 : (if s.takeWhile (· != 60) = [] then [] else [tText (readE (s.takeWhile (· != 60)))]).length ≤ 1 := by split <;> simp
    have h2 : ∀ (t : Tok) (r : Bs), (t :: pageF n r).length ≤ 2 * n + 1 := fun t r => by have := ih r; simp; omega
    have h3 : (match s.dropWhile (· != 60) with
      | [] => ([] : List Tok)
      | c :: u =>
        if sCom.isPrefixOf (c :: u) = true then tOther :: pageF n (cutC (u.drop 3))
        else match u with
          | [] => tText [60] :: pageF n []
          | d :: v =>
            if d = 33 ∨ d = 63 then tOther :: pageF n (cut1 62 (c :: d :: v)).2.1
            else if isLt d = true then match tagT (d :: v) with
              | none => []
              | some (name, h, r) => ⟨2, name, [], readE h⟩ :: pageF n r
            else if d = 47 ∧ (v.head?.map isLt) = some true then match tagT v with
              | none => []
              | some (name, _, r) => ⟨3, name, [], []⟩ :: pageF n r
            else tText [60] :: pageF n (d :: v)).length ≤ 2 * n + 1 := by
      repeat' split
      all_goals first | exact h2 _ _ | simp
    exact Nat.le_trans (Nat.add_le_add h1 h3) (by omega)
theorem page_len (s : Bs) : (pageT s).length ≤ 2 * (s.length + 1) := pageQ_len _ _
end Go.Mh
/- Whatever a page is, what is made of it is a document; how long a document's page is: in plain terms. No program in sight. -/
namespace Go.Mh

structure DkOk (k : Dk) : Prop where
  its : ∀ x ∈ k.d, chkItem x = 0
  k0 : 0 ≤ k.kind
  k3 : k.kind ≤ 3
  ln : k.link = [] ∨ may k.link = true
  fl : k.from' ≤ k.d.length
  fe : ∀ x, (k.d.take k.from').getLast? = some x → (x.c.toNat : Int) = 10

/- How long a page is. -/
theorem run1_len (x : It) (t : Bs) (hx : x.l.length ≤ 24) : (run1 x t).length ≤ 173 + 6 * t.length := by
  have h1 := (write_len x.l).2
  have h2 := (write_len t).2
  have e1 : (tagO x).length ≤ 161 := by
    unfold tagO
    by_cases a : x.l = [] <;> by_cases b : isB x.m = true <;> by_cases c : isI x.m = true <;> simp [a, b, c, sAo, opn, nB, nI] <;> omega
  have e2 : (tagS x).length ≤ 12 := by
    unfold tagS
    by_cases a : x.l = [] <;> by_cases b : isB x.m = true <;> by_cases c : isI x.m = true <;> simp [a, b, c, cls, nB, nI, nA]
  simp only [run1, List.length_append]
  omega
theorem blk_len (l : List It) : ∀ (cur : It) (t : Bs), cur.l.length ≤ 24 → (∀ x ∈ l, x.l.length ≤ 24) → (blk cur t l).length ≤ 173 + 6 * t.length + 179 * l.length := by
  induction l with
  | nil => intro cur t hc _; exact run1_len cur t hc
  | cons x l ih =>
    intro cur t hc hl
    have hx := hl x (List.mem_cons_self ..)
    have hlT : ∀ y ∈ l, y.l.length ≤ 24 := fun y hy => hl y (List.mem_cons_of_mem _ hy)
    unfold blk
    split
    · have := ih cur (t ++ [x.c]) hc hlT
      simp at this ⊢
      omega
    · have h1 := ih x [x.c] hx hlT
      have h2 := run1_len cur t hc
      simp at h1 ⊢
      omega
theorem blockX_len (l : List It) (hl : ∀ x ∈ l, x.l.length ≤ 24) : (blockX l).length ≤ 179 * l.length := by
  cases l with
  | nil => simp [blockX]
  | cons x l =>
    have := blk_len l x [x.c] (hl x (List.mem_cons_self ..)) (fun y hy => hl y (List.mem_cons_of_mem _ hy))
    simp [blockX] at this ⊢
    omega
theorem pageS_len (d : List It) : ∀ (list : Bool) (acc : List It), (∀ x ∈ acc, x.l.length ≤ 24) → (∀ x ∈ d, x.l.length ≤ 24) → (pageS list acc d).length ≤ 5 + 179 * (acc.length + d.length) := by
  have hn : ∀ m : Int, (nameOf m).length ≤ 2 := fun m => by unfold nameOf; split; decide; split; decide; split <;> decide
  induction d with
  | nil => intro list acc _ _; cases list <;> simp [pageS, cls, nUl]
  | cons x d ih =>
    intro list acc ha hd
    have hdT : ∀ y ∈ d, y.l.length ≤ 24 := fun y hy => hd y (List.mem_cons_of_mem _ hy)
    unfold pageS
    split
    · have h1 := ih (decide (x.m = 2)) [] (by simp) hdT
      have h2 := blockX_len acc ha
      have h3 := hn x.m
      have h4 : (ulT list (decide (x.m = 2))).length ≤ 5 := by unfold ulT; split; simp; split <;> decide
      simp [opn, cls] at h1 ⊢
      omega
    · have := ih list (acc ++ [x]) (fun y hy => by
        rcases List.mem_append.1 hy with hy | hy
        · exact ha y hy
        · simp at hy; subst hy; exact hd y (List.mem_cons_self ..)) hdT
      simp at this ⊢
      omega
theorem may_len {l : Bs} (h : may l = true) : l.length ≤ 24 := by
  unfold may at h
  simp only [Bool.and_eq_true, decide_eq_true_eq] at h
  exact h.1.1.2
theorem pageX_len {d : List It} (hd : chkDoc d = 0) : (pageX d).length ≤ 20000 := by
  obtain ⟨h1, h2, _⟩ := doc_facts hd
  have := pageS_len d false [] (by simp) (fun x hx => by
    rcases (item_parts (h1 x hx)).2.1 with e | e
    · rw [e]; simp
    · exact may_len e)
  unfold pageX
  simp at this
  omega
end Go.Mh
/- Where a page ends with a whole tag what stands behind it is taken apart by itself: the plain law. No program in sight. -/
namespace Go.Mh

/-- Nothing, or a last sign that shuts. -/
def Gt (a : Bs) : Prop := ∀ t c, a = t ++ [c] → c = 62
theorem Gt.tail {c : UInt8} {r : Bs} (h : Gt (c :: r)) : Gt r := fun t d e => h (c :: t) d (by rw [e]; rfl)
theorem Gt.app {t r : Bs} (h : Gt (t ++ r)) : Gt r := fun u d e => h (t ++ u) d (by rw [e]; simp)
theorem Gt.one {c : UInt8} (h : Gt [c]) : c = 62 := h [] c rfl

/- Comments. -/
/- Tags. -/
end Go.Mh
/- Pages of two documents; the page of a text; what is hidden: plain laws. No program in sight. -/
namespace Go.Mh

/- Two documents, one behind the other. -/
/-- A document ends with the end of a block. -/
def Ends10 (d : List It) : Prop := d = [] ∨ ∃ d' x, d = d' ++ [x] ∧ (x.c.toNat : Int) = 10
theorem Ends10.tail {x : It} {d : List It} (h : Ends10 (x :: d)) : Ends10 d := by
  by_cases hd : d = []
  · exact Or.inl hd
  · right
    rcases h with h | ⟨d', z, h, hz⟩
    · simp at h
    · have e3 := dropLast_snoc (l := d) (q := d.getLast hd) (List.getLast?_eq_some_getLast hd)
      have e4 : x :: d = (x :: d.dropLast) ++ [d.getLast hd] := by
        conv => lhs; rw [e3]
        simp
      rw [h] at e4
      have e5 := List.append_inj_right' e4 rfl
      simp at e5
      exact ⟨d.dropLast, d.getLast hd, e3, by rw [← e5]; exact hz⟩
/- The page of a text. -/
/- What is hidden. -/
end Go.Mh
/- What R.Read makes of a page's tokens is what the desk makes of them: plain. -/
namespace Go.Mh
theorem tagTQ_name {s name h r : Bs} (he : tagT s = some (name, h, r)) : name.length ≤ s.length := by
  unfold tagT at he
  split at he
  · simp at he
  · simp only [Option.some.injEq, Prod.mk.injEq] at he
    obtain ⟨rfl, _, _⟩ := he
    have := twQ_le nb2 s
    simpa [lower] using this
/-- A token's name is no longer than m; its kind is one of four. -/
def SmN (m : Nat) (t : Tok) : Prop := t.name.length ≤ m ∧ 1 ≤ t.k ∧ t.k ≤ 4
theorem pageF_named (m n : Nat) : ∀ s : Bs, s.length ≤ m → ∀ t ∈ pageF n s, SmN m t := by
  induction n with
  | zero => intro s _ t ht; simp [pageF] at ht
  | succ n ih =>
    intro s hs t ht
    rw [pageF, List.mem_append] at ht
    rcases ht with ht | ht
    · split at ht
      · simp at ht
      · simp only [List.mem_singleton] at ht
        subst ht
        exact ⟨by simp [tText], by simp [tText], by simp [tText]⟩
    · have hb := (suf_dw (· != 60) s).len
      cases hd : s.dropWhile (· != 60) with
      | nil => rw [hd] at ht; simp at ht
      | cons c u =>
        rw [hd] at ht hb
        simp only [List.length_cons] at hb
        dsimp only at ht
        have hO : SmN m tOther := ⟨by simp [tOther], by simp [tOther], by simp [tOther]⟩
        have h6 : SmN m (tText [60]) := ⟨by simp [tText], by simp [tText], by simp [tText]⟩
        split at ht
        · rcases List.mem_cons.1 ht with rfl | ht
          · exact hO
          · have h1 := (show Suf (cutC (u.drop 3)) (u.drop 3) from cutC_suf _).len
            have h2 := (suf_drop 3 u).len
            exact ih _ (by omega) t ht
        · cases u with
          | nil =>
            dsimp only at ht
            rcases List.mem_cons.1 ht with rfl | ht
            · exact h6
            · exact ih _ (by simp) t ht
          | cons d v =>
            simp only [List.length_cons] at hb
            dsimp only at ht
            split at ht
            · rcases List.mem_cons.1 ht with rfl | ht
              · exact hO
              · have h1 := (suf_cut1 62 (c :: d :: v)).len
                simp only [List.length_cons] at h1
                exact ih _ (by omega) t ht
            · split at ht
              · split at ht
                · simp at ht
                · rename_i name h r he
                  have h1 := tagTQ_name he
                  have h2 := (tagT_suf he).len
                  simp only [List.length_cons] at h1 h2
                  rcases List.mem_cons.1 ht with rfl | ht
                  · exact ⟨by simp only; omega, by simp, by simp⟩
                  · exact ih _ (by omega) t ht
              · split at ht
                · split at ht
                  · simp at ht
                  · rename_i name h r he
                    have h1 := tagTQ_name he
                    have h2 := (tagT_suf he).len
                    rcases List.mem_cons.1 ht with rfl | ht
                    · exact ⟨by simp only; omega, by simp, by simp⟩
                    · exact ih _ (by omega) t ht
                · rcases List.mem_cons.1 ht with rfl | ht
                  · exact h6
                  · exact ih _ (by simp only [List.length_cons]; omega) t ht
theorem page_named (s : Bs) : ∀ t ∈ pageT s, SmN s.length t := pageF_named s.length _ s (Nat.le_refl _)

/-- Where the block begins that is being filled: behind the last sign of a block's end; nothing behind it ends a block. -/
def Fo (k : Dk) : Prop := k.from' ≤ k.d.length ∧ (∀ x, (k.d.take k.from').getLast? = some x → x.c = 10) ∧ (∀ x ∈ k.d.drop k.from', x.c ≠ 10)
theorem Fo.new : Fo dk0 := ⟨by simp [dk0], by simp [dk0], by simp [dk0]⟩
theorem Fo.last {k : Dk} (h : Fo k) {x : It} (hx : k.d.getLast? = some x) : k.from' < k.d.length ↔ x.c ≠ 10 := by
  obtain ⟨h1, h2, h3⟩ := h
  constructor
  · intro hlt
    apply h3
    have e : k.d = k.d.take k.from' ++ k.d.drop k.from' := (List.take_append_drop _ _).symm
    have hne : k.d.drop k.from' ≠ [] := by simp; omega
    rw [e, List.getLast?_append] at hx
    obtain ⟨y, hy⟩ : ∃ y, (k.d.drop k.from').getLast? = some y := ⟨_, List.getLast?_eq_some_getLast hne⟩
    rw [hy] at hx
    simp at hx
    subst hx
    exact List.mem_of_getLast? hy
  · intro hc
    rcases Nat.lt_or_ge k.from' k.d.length with h | h
    · exact h
    · exfalso
      apply hc
      apply h2
      rw [List.take_of_length_le h]; exact hx
theorem Fo.nil {k : Dk} (hd : k.d = []) : ¬ k.from' < k.d.length := by
  rw [hd]; simp
theorem Fo.end' {k : Dk} (h : Fo k) : Fo (endD k) := by
  unfold endD
  split
  · refine ⟨by simp, ?_, by simp⟩
    intro x hx
    rw [List.take_of_length_le (by simp)] at hx
    simp at hx
    rw [← hx]
  · exact h
theorem chr1_ne (c : UInt8) : chr1 c ≠ 10 := by
  unfold chr1
  split
  · decide
  · rename_i h
    split
    · decide
    · intro e; exact h (Or.inr (Or.inl e))
theorem Fo.text {k : Dk} (h : Fo k) (s : Bs) : Fo (textD k s) := by
  obtain ⟨h1, h2, h3⟩ := h
  refine ⟨by simp only [textD, List.length_append]; omega, ?_, ?_⟩
  · intro x hx
    refine h2 x ?_
    simp only [textD] at hx
    rw [List.take_append_of_le_length h1] at hx
    exact hx
  · intro x hx
    simp only [textD] at hx
    rw [List.drop_append_of_le_length h1] at hx
    rcases List.mem_append.1 hx with hx | hx
    · exact h3 x hx
    · obtain ⟨c, _, rfl⟩ := List.mem_map.1 hx
      exact chr1_ne c
theorem Fo.step {k : Dk} (h : Fo k) (t : Tok) : Fo (stepD k t) := by
  have he := h.end'
  unfold stepD
  split
  · split <;> exact h
  · split
    · exact h.text _
    · split
      · unfold openD
        split
        · exact he
        · split
          · exact h
          · split
            · exact h
            · split
              · exact h
              · split
                · exact (show Fo { k with inn := true } from h).end'
                · split <;> exact h
      · split
        · unfold shutD
          split
          · exact he
          · split
            · exact h
            · split
              · exact h
              · split <;> exact h
        · exact h
/- One step of the desk, way by way. -/
section
variable {k : Dk} {t : Tok}
theorem step_gone (h : k.gone ≠ []) : stepD k t = if t.k = 3 ∧ t.name = k.gone then { k with gone := [] } else k := by unfold stepD; rw [if_pos h]
theorem step_text (h : k.gone = []) (h1 : t.k = 1) : stepD k t = textD k t.text := by unfold stepD; rw [if_neg (by simp [h]), if_pos h1]
theorem step_o2 (h : k.gone = []) (h2 : t.k = 2) : stepD k t = openD k t := by unfold stepD; rw [if_neg (by simp [h]), if_neg (by omega), if_pos h2]
theorem step_o3 (h : k.gone = []) (h3 : t.k = 3) : stepD k t = shutD k t.name := by unfold stepD; rw [if_neg (by simp [h]), if_neg (by omega), if_neg (by omega), if_pos h3]
theorem step_other (h : k.gone = []) (h4 : t.k = 4) : stepD k t = k := by unfold stepD; rw [if_neg (by simp [h]), if_neg (by omega), if_neg (by omega), if_neg (by omega)]
theorem step_blk2 (h : k.gone = []) (h2 : t.k = 2) {b : Int} (hb : blockOf t.name = some b) : stepD k t = { endD k with kind := b, inn := true } := by rw [step_o2 h h2]; unfold openD; rw [hb]
theorem step_blk3 (h : k.gone = []) (h3 : t.k = 3) {b : Int} (hb : blockOf t.name = some b) : stepD k t = endD k := by rw [step_o3 h h3]; unfold shutD; rw [hb]
theorem step_b2 (h : k.gone = []) (h2 : t.k = 2) (hb : blockOf t.name = none) (hn : t.name = nB ∨ t.name = nStrong) : stepD k t = { k with bold := k.bold + 1 } := by rw [step_o2 h h2]; unfold openD; rw [hb]; simp only; rw [if_pos hn]
theorem step_b3 (h : k.gone = []) (h3 : t.k = 3) (hb : blockOf t.name = none) (hn : t.name = nB ∨ t.name = nStrong) : stepD k t = { k with bold := max 0 (k.bold - 1) } := by rw [step_o3 h h3]; unfold shutD; rw [hb]; simp only; rw [if_pos hn]
theorem step_i2 (h : k.gone = []) (h2 : t.k = 2) (hb : blockOf t.name = none) (n1 : ¬ (t.name = nB ∨ t.name = nStrong)) (hn : t.name = nI ∨ t.name = nEm) : stepD k t = { k with slant := k.slant + 1 } := by rw [step_o2 h h2]; unfold openD; rw [hb]; simp only; rw [if_neg n1, if_pos hn]
theorem step_i3 (h : k.gone = []) (h3 : t.k = 3) (hb : blockOf t.name = none) (n1 : ¬ (t.name = nB ∨ t.name = nStrong)) (hn : t.name = nI ∨ t.name = nEm) : stepD k t = { k with slant := max 0 (k.slant - 1) } := by rw [step_o3 h h3]; unfold shutD; rw [hb]; simp only; rw [if_neg n1, if_pos hn]
theorem step_a2 (h : k.gone = []) (h2 : t.k = 2) (hb : blockOf t.name = none) (n1 : ¬ (t.name = nB ∨ t.name = nStrong)) (n2 : ¬ (t.name = nI ∨ t.name = nEm)) (hn : t.name = nA) : stepD k t = { k with link := cleanT t.href } := by rw [step_o2 h h2]; unfold openD; rw [hb]; simp only; rw [if_neg n1, if_neg n2, if_pos hn]
theorem step_a3 (h : k.gone = []) (h3 : t.k = 3) (hb : blockOf t.name = none) (n1 : ¬ (t.name = nB ∨ t.name = nStrong)) (n2 : ¬ (t.name = nI ∨ t.name = nEm)) (hn : t.name = nA) : stepD k t = { k with link := [] } := by rw [step_o3 h h3]; unfold shutD; rw [hb]; simp only; rw [if_neg n1, if_neg n2, if_pos hn]
theorem step_z3 (h : k.gone = []) (h3 : t.k = 3) (hb : blockOf t.name = none) (n1 : ¬ (t.name = nB ∨ t.name = nStrong)) (n2 : ¬ (t.name = nI ∨ t.name = nEm)) (n3 : ¬ t.name = nA) : stepD k t = k := by rw [step_o3 h h3]; unfold shutD; rw [hb]; simp only; rw [if_neg n1, if_neg n2, if_neg n3]
theorem step_br (h : k.gone = []) (h2 : t.k = 2) (hb : blockOf t.name = none) (n1 : ¬ (t.name = nB ∨ t.name = nStrong)) (n2 : ¬ (t.name = nI ∨ t.name = nEm)) (n3 : ¬ t.name = nA) (hn : t.name = nBr) : stepD k t = { endD { k with inn := true } with kind := k.kind } := by rw [step_o2 h h2]; unfold openD; rw [hb]; simp only; rw [if_neg n1, if_neg n2, if_neg n3, if_pos hn]
theorem step_hid (h : k.gone = []) (h2 : t.k = 2) (hb : blockOf t.name = none) (n1 : ¬ (t.name = nB ∨ t.name = nStrong)) (n2 : ¬ (t.name = nI ∨ t.name = nEm)) (n3 : ¬ t.name = nA) (n4 : ¬ t.name = nBr) (hn : t.name ∈ hiddenL) : stepD k t = { k with gone := t.name } := by rw [step_o2 h h2]; unfold openD; rw [hb]; simp only; rw [if_neg n1, if_neg n2, if_neg n3, if_neg n4, if_pos hn]
theorem step_z2 (h : k.gone = []) (h2 : t.k = 2) (hb : blockOf t.name = none) (n1 : ¬ (t.name = nB ∨ t.name = nStrong)) (n2 : ¬ (t.name = nI ∨ t.name = nEm)) (n3 : ¬ t.name = nA) (n4 : ¬ t.name = nBr) (n5 : ¬ t.name ∈ hiddenL) : stepD k t = k := by rw [step_o2 h h2]; unfold openD; rw [hb]; simp only; rw [if_neg n1, if_neg n2, if_neg n3, if_neg n4, if_neg n5]
end
theorem endD_keeps (k : Dk) : (endD k).bold = k.bold ∧ (endD k).slant = k.slant ∧ (endD k).link = k.link ∧ (endD k).gone = k.gone := by
  unfold endD
  split <;> exact ⟨rfl, rfl, rfl, rfl⟩
end Go.Mh
