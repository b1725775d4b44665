/- Operations as acts, one an item: what they do, what is tidy, what is turned, what is joined. No program in sight. -/
import Derived.Test.YtgodceplajkcdaaPlO
namespace Go.Mh

/-- What a part that keeps changes. -/
structure Kd where
  set : Int
  clr : Int
  to : Bool
  l : Bs
  deriving DecidableEq

inductive Ac where
  | keep (c : Kd)
  | put (x : It)
  | cut
  deriving DecidableEq

def kd0 : Kd := ⟨0, 0, false, []⟩
def markI (x : It) (c : Kd) : It := ⟨x.c, bor (bnot x.m c.clr) c.set, if c.to = true ∧ ¬ (x.c.toNat : Int) = 10 then c.l else x.l⟩

def Pt.kd (p : Pt) : Kd := ⟨p.set, p.clr, p.to, p.l⟩
def actsP (p : Pt) : List Ac := if p.k = 1 then List.replicate p.n.toNat (.keep p.kd) else if p.k = 2 then p.its.map .put else if p.k = 3 then List.replicate p.n.toNat .cut else []
def acts (o : List Pt) : List Ac := o.flatMap actsP
def keepP (c : Kd) (n : Int) : Pt := ⟨1, n, [], c.set, c.clr, c.to, c.l⟩
def putP (l : List It) : Pt := ⟨2, 0, l, 0, 0, false, []⟩
def cutP (n : Int) : Pt := ⟨3, n, [], 0, 0, false, []⟩
/-- The form of a part. -/
def Fm (p : Pt) : Prop := (∃ c n, 0 ≤ n ∧ p = keepP c n) ∨ (∃ l, p = putP l) ∨ (∃ n, 0 ≤ n ∧ p = cutP n)

theorem acts_nil : acts [] = [] := rfl
theorem acts_cons (p : Pt) (o : List Pt) : acts (p :: o) = actsP p ++ acts o := by simp [acts]
theorem acts_append (o u : List Pt) : acts (o ++ u) = acts o ++ acts u := by simp [acts]
theorem acts_one (p : Pt) : acts [p] = actsP p := by simp [acts]
theorem actsP_keep (c : Kd) (n : Int) : actsP (keepP c n) = List.replicate n.toNat (.keep c) := rfl
theorem actsP_put (l : List It) : actsP (putP l) = l.map .put := rfl
theorem actsP_cut (n : Int) : actsP (cutP n) = List.replicate n.toNat .cut := rfl

/- Alike, and added behind. -/
def alikeP (a b : Pt) : Bool := a.k == b.k && a.set == b.set && a.clr == b.clr && a.to == b.to && a.l == b.l
def addP (o : List Pt) (p : Pt) : List Pt :=
  if (p.k ≠ 2 ∧ p.n = 0) ∨ (p.k = 2 ∧ p.its = []) then o
  else match o.getLast? with
    | some q => if alikeP q p = true then o.dropLast ++ [{ q with n := q.n + p.n, its := q.its ++ p.its }] else o ++ [p]
    | none => o ++ [p]

/-- Made goes on: out is made, its and n are put and cut in the run that is read. -/
def mk2 (out : List Pt) (its : List It) (n : Int) : List Pt → List Pt
  | [] => addP (addP out (putP its)) (cutP n)
  | p :: l => if p.k = 1 then mk2 (addP (addP (addP out (putP its)) (cutP n)) p) [] 0 l else mk2 out (its ++ p.its) (n + p.n) l
def madeP (L : List Pt) : List Pt := mk2 [] [] 0 L

theorem addP_none (o : List Pt) (p : Pt) (h : (p.k ≠ 2 ∧ p.n = 0) ∨ (p.k = 2 ∧ p.its = [])) : addP o p = o := by simp only [addP, if_pos h]
theorem addP_put_nil (o : List Pt) : addP o (putP []) = o := addP_none o _ (Or.inr ⟨rfl, rfl⟩)
theorem addP_cut_zero (o : List Pt) : addP o (cutP 0) = o := addP_none o _ (Or.inl ⟨by decide, rfl⟩)
theorem mk2_keep (out : List Pt) (its : List It) (n : Int) (p : Pt) (l : List Pt) (h : p.k = 1) : mk2 out its n (p :: l) = mk2 (addP (addP out (putP its)) (cutP n)) [] 0 (p :: l) := by
  simp [mk2, h, addP_put_nil, addP_cut_zero]
theorem mk2_end (out : List Pt) (its : List It) (n : Int) : mk2 out its n [] = mk2 (addP (addP out (putP its)) (cutP n)) [] 0 [] := by
  simp [mk2, addP_put_nil, addP_cut_zero]

/- The tidy operation of acts. -/
def flush (out : List Pt) (ps : List It) (c : Nat) : List Pt := out ++ (if ps = [] then [] else [putP ps]) ++ (if c = 0 then [] else [cutP c])
def addK (out : List Pt) (k : Kd) (n : Nat) : List Pt := match out.getLast? with
  | some q => if q.k = 1 ∧ q.kd = k then out.dropLast ++ [{ q with n := q.n + n }] else out ++ [keepP k n]
  | none => out ++ [keepP k n]
def tid (out : List Pt) (ps : List It) (c : Nat) : List Ac → List Pt
  | [] => flush out ps c
  | .put x :: l => tid out (ps ++ [x]) c l
  | .cut :: l => tid out ps (c + 1) l
  | .keep k :: l => tid (addK (flush out ps c) k 1) [] 0 l
def tidyA (l : List Ac) : List Pt := tid [] [] 0 l
def nrm (ps : List It) (c : Nat) : List Ac → List Ac
  | [] => ps.map .put ++ List.replicate c .cut
  | .put x :: l => nrm (ps ++ [x]) c l
  | .cut :: l => nrm ps (c + 1) l
  | .keep k :: l => ps.map .put ++ List.replicate c .cut ++ .keep k :: nrm [] 0 l
def normA (l : List Ac) : List Ac := nrm [] 0 l

theorem flush_nil (out : List Pt) : flush out [] 0 = out := by simp [flush]

theorem addK_some {out : List Pt} {q : Pt} {k : Kd} (n : Nat) (h : out.getLast? = some q) (hq : q.k = 1 ∧ q.kd = k) : addK out k n = out.dropLast ++ [{ q with n := q.n + n }] := by
  simp only [addK, h, if_pos hq]
theorem addK_new {out : List Pt} {k : Kd} (n : Nat) (h : ∀ q, out.getLast? = some q → ¬ (q.k = 1 ∧ q.kd = k)) : addK out k n = out ++ [keepP k n] := by
  unfold addK
  cases hl : out.getLast? with
  | none => rfl
  | some q => simp only [if_neg (h q hl)]

theorem addK_add (out : List Pt) (k : Kd) (a b : Nat) : addK (addK out k a) k b = addK out k (a + b) := by
  by_cases h : ∃ q, out.getLast? = some q ∧ q.k = 1 ∧ q.kd = k
  · obtain ⟨q, hl, hq⟩ := h
    rw [addK_some a hl hq, addK_some (a + b) hl hq, addK_some (q := { q with n := q.n + (a : Int) }) b (by simp) ⟨hq.1, hq.2⟩]
    simp
    omega
  · have hn : ∀ q, out.getLast? = some q → ¬ (q.k = 1 ∧ q.kd = k) := fun q hl hq => h ⟨q, hl, hq⟩
    rw [addK_new a hn, addK_new (a + b) hn, addK_some (k := k) (q := keepP k a) b (by simp) ⟨rfl, rfl⟩]
    simp [keepP]

theorem tid_puts (out : List Pt) (ps qs : List It) (c : Nat) (l : List Ac) : tid out ps c (qs.map .put ++ l) = tid out (ps ++ qs) c l := by
  induction qs generalizing ps with
  | nil => simp
  | cons q qs ih => simp [tid, ih]
theorem tid_cuts (out : List Pt) (ps : List It) (c d : Nat) (l : List Ac) : tid out ps c (List.replicate d .cut ++ l) = tid out ps (c + d) l := by
  induction d generalizing c with
  | zero => simp
  | succ d ih => simp only [List.replicate_succ, List.cons_append, tid]; rw [ih, show c + 1 + d = c + (d + 1) by omega]
theorem tid_keeps (out : List Pt) (ps : List It) (c n : Nat) (k : Kd) (l : List Ac) : tid out ps c (List.replicate (n + 1) (.keep k) ++ l) = tid (addK (flush out ps c) k (n + 1)) [] 0 l := by
  induction n generalizing out ps c with
  | zero => rfl
  | succ n ih =>
    rw [List.replicate_succ, List.cons_append, tid, ih, flush_nil, addK_add, show 1 + (n + 1) = n + 1 + 1 by omega]

theorem tid_nrm (out : List Pt) (ps qs : List It) (c d : Nat) (l : List Ac) : tid out ps c (nrm qs d l) = tid out (ps ++ qs) (c + d) l := by
  induction l generalizing out ps qs c d with
  | nil =>
    have := tid_puts out ps qs c (List.replicate d .cut ++ [])
    simp only [nrm]
    rw [List.append_nil] at this
    rw [this]
    have h2 := tid_cuts out (ps ++ qs) c d []
    rw [List.append_nil] at h2
    rw [h2]
  | cons a l ih =>
    cases a with
    | put x => simp only [nrm, tid]; rw [ih, List.append_assoc]
    | cut => simp only [nrm, tid]; rw [ih, Nat.add_assoc]
    | keep k =>
      simp only [nrm, List.append_assoc]
      rw [tid_puts, tid_cuts]
      simp only [tid]
      rw [ih]
      rfl

theorem nrm_puts (ps qs : List It) (c : Nat) (l : List Ac) : nrm ps c (qs.map .put ++ l) = nrm (ps ++ qs) c l := by
  induction qs generalizing ps with
  | nil => simp
  | cons q qs ih => simp [nrm, ih]
theorem nrm_cuts (ps : List It) (c d : Nat) (l : List Ac) : nrm ps c (List.replicate d .cut ++ l) = nrm ps (c + d) l := by
  induction d generalizing c with
  | zero => simp
  | succ d ih => simp only [List.replicate_succ, List.cons_append, nrm]; rw [ih, show c + 1 + d = c + (d + 1) by omega]

theorem nrm_nrm (ps qs : List It) (c d : Nat) (l : List Ac) : nrm ps c (nrm qs d l) = nrm (ps ++ qs) (c + d) l := by
  induction l generalizing ps qs c d with
  | nil =>
    have := nrm_puts ps qs c (List.replicate d .cut ++ [])
    simp only [nrm]
    rw [List.append_nil] at this
    rw [this]
    have h2 := nrm_cuts (ps ++ qs) c d []
    rw [List.append_nil] at h2
    rw [h2]
    rfl
  | cons a l ih =>
    cases a with
    | put x => simp only [nrm]; rw [ih, List.append_assoc]
    | cut => simp only [nrm]; rw [ih, Nat.add_assoc]
    | keep k =>
      simp only [nrm, List.append_assoc]
      rw [nrm_puts, nrm_cuts]
      simp only [nrm]
      rw [ih]
      simp

theorem tidyA_norm (l : List Ac) : tidyA (normA l) = tidyA l := by unfold tidyA normA; rw [tid_nrm]; rfl
theorem norm_norm (l : List Ac) : normA (normA l) = normA l := by unfold normA; rw [nrm_nrm]; rfl

/-- What is put and cut in the run, as acts. -/
theorem acts_flush (out : List Pt) (ps : List It) (c : Nat) : acts (flush out ps c) = acts out ++ ps.map .put ++ List.replicate c .cut := by
  unfold flush
  rw [acts_append, acts_append]
  congr 1
  · congr 1
    by_cases h : ps = []
    · simp [h, acts_nil]
    · simp [h, acts_one, actsP_put]
  · by_cases h : c = 0
    · simp [h, acts_nil]
    · simp [h, acts_one, actsP_cut]

theorem dropLast_snoc {α : Type} {l : List α} {q : α} (h : l.getLast? = some q) : l = l.dropLast ++ [q] := by
  obtain ⟨l', rfl⟩ := List.getLast?_eq_some_iff.1 h
  simp

theorem acts_addK (out : List Pt) (k : Kd) (n : Nat) (h : ∀ p ∈ out, 0 ≤ p.n) : acts (addK out k n) = acts out ++ List.replicate n (.keep k) := by
  unfold addK
  cases hl : out.getLast? with
  | none => simp [acts_append, acts_one, actsP_keep]
  | some q =>
    by_cases hq : q.k = 1 ∧ q.kd = k
    · simp only [if_pos hq]
      have e := dropLast_snoc hl
      have hn : 0 ≤ q.n := h q (by rw [e]; simp)
      obtain ⟨h1, h2⟩ := hq
      have e2 : acts out = acts out.dropLast ++ List.replicate q.n.toNat (.keep k) := by
        rw [e, acts_append, acts_one]; simp [actsP, h1, h2]
      rw [e2, acts_append, acts_one, List.append_assoc, List.replicate_append_replicate]
      simp only [actsP, h1, if_true]
      congr 1
      have : (q.n + (n : Int)).toNat = q.n.toNat + n := by omega
      rw [this]
      congr 1
      rw [← h2]
      rfl
    · simp [if_neg hq, acts_append, acts_one, actsP_keep]

theorem addK_nn (out : List Pt) (k : Kd) (n : Nat) (h : ∀ p ∈ out, 0 ≤ p.n) : ∀ p ∈ addK out k n, 0 ≤ p.n := by
  unfold addK
  cases hl : out.getLast? with
  | none => intro p hp; simp at hp; rcases hp with hp | rfl; exact h p hp; simp [keepP]
  | some q =>
    have e := dropLast_snoc hl
    by_cases hq : q.k = 1 ∧ q.kd = k
    · simp only [if_pos hq]
      intro p hp
      simp at hp
      rcases hp with hp | rfl
      · exact h p (List.mem_of_mem_take (by rwa [List.dropLast_eq_take] at hp))
      · have := h q (by rw [e]; simp)
        show 0 ≤ q.n + (n : Int)
        omega
    · intro p hp; simp [if_neg hq] at hp; rcases hp with hp | rfl; exact h p hp; simp [keepP]

theorem flush_nn (out : List Pt) (ps : List It) (c : Nat) (h : ∀ p ∈ out, 0 ≤ p.n) : ∀ p ∈ flush out ps c, 0 ≤ p.n := by
  intro p hp
  simp only [flush, List.append_assoc, List.mem_append] at hp
  rcases hp with hp | hp | hp
  · exact h p hp
  · split at hp <;> simp at hp; subst hp; simp [putP]
  · split at hp <;> simp at hp; subst hp; simp [cutP]

theorem acts_tid (out : List Pt) (ps : List It) (c : Nat) (l : List Ac) (h : ∀ p ∈ out, 0 ≤ p.n) : acts (tid out ps c l) = acts out ++ nrm ps c l := by
  induction l generalizing out ps c with
  | nil => simp [tid, nrm, acts_flush]
  | cons a l ih =>
    cases a with
    | put x => simp only [tid, nrm]; exact ih _ _ _ h
    | cut => simp only [tid, nrm]; exact ih _ _ _ h
    | keep k =>
      simp only [tid, nrm]
      rw [ih _ _ _ (addK_nn _ _ _ (flush_nn _ _ _ h)), acts_addK _ _ _ (flush_nn _ _ _ h), acts_flush]
      simp

theorem acts_tidyA (l : List Ac) : acts (tidyA l) = normA l := by
  unfold tidyA; rw [acts_tid _ _ _ _ (by simp)]; rfl

theorem tidyA_eq {l m : List Ac} : tidyA l = tidyA m ↔ normA l = normA m := by
  constructor
  · intro h; rw [← acts_tidyA, h, acts_tidyA]
  · intro h; rw [← tidyA_norm, h, tidyA_norm]

/- Made is tidy. -/
theorem addP_keep (o : List Pt) (c : Kd) (n : Nat) (h : 0 < n) : addP o (keepP c n) = addK o c n := by
  unfold addP addK
  have h0 : ¬ ((keepP c n).k ≠ 2 ∧ (keepP c n).n = 0 ∨ (keepP c n).k = 2 ∧ (keepP c n).its = []) := by simp [keepP]; omega
  simp only [if_neg h0]
  cases o.getLast? with
  | none => rfl
  | some q =>
    have e : (alikeP q (keepP c n) = true) ↔ (q.k = 1 ∧ q.kd = c) := by
      obtain ⟨set, clr, to, l⟩ := c
      simp [alikeP, keepP, Pt.kd, and_assoc]
    by_cases hq : q.k = 1 ∧ q.kd = c
    · simp only [if_pos hq, if_pos (e.2 hq)]
      simp [keepP]
    · simp only [if_neg hq, if_neg (fun h => hq (e.1 h))]

/-- Nothing, or a part that keeps, stands last. -/
def EndsK (out : List Pt) : Prop := ∀ q, out.getLast? = some q → q.k = 1

theorem addP_flush (out : List Pt) (ps : List It) (c : Nat) (h : EndsK out) : addP (addP out (putP ps)) (cutP c) = flush out ps c := by
  have h1 : addP out (putP ps) = out ++ (if ps = [] then [] else [putP ps]) := by
    by_cases hp : ps = []
    · simp [hp, addP_put_nil]
    · simp only [if_neg hp]
      unfold addP
      have h0 : ¬ ((putP ps).k ≠ 2 ∧ (putP ps).n = 0 ∨ (putP ps).k = 2 ∧ (putP ps).its = []) := by simp [putP, hp]
      simp only [if_neg h0]
      cases hl : out.getLast? with
      | none => rfl
      | some q =>
        have hk := h q hl
        have : ¬ (alikeP q (putP ps) = true) := by simp [alikeP, putP, hk]
        simp only [if_neg this]
  rw [h1]
  unfold flush
  by_cases hc : c = 0
  · subst hc; simp [addP_cut_zero]
  · simp only [if_neg hc]
    unfold addP
    have h0 : ¬ ((cutP c).k ≠ 2 ∧ (cutP c).n = 0 ∨ (cutP c).k = 2 ∧ (cutP c).its = []) := by simp [cutP]; omega
    simp only [if_neg h0]
    by_cases hp : ps = []
    · simp only [hp, if_true, List.append_nil]
      cases hl : out.getLast? with
      | none => rfl
      | some q =>
        have hk := h q hl
        have : ¬ (alikeP q (cutP c) = true) := by simp [alikeP, cutP, hk]
        simp only [if_neg this]
    · simp only [if_neg hp, List.getLast?_append, List.getLast?_singleton, Option.some_or]
      have : ¬ (alikeP (putP ps) (cutP c) = true) := by simp [alikeP, cutP, putP]
      simp only [if_neg this]

theorem endsK_addK (out : List Pt) (k : Kd) (n : Nat) : EndsK (addK out k n) := by
  intro q hq
  unfold addK at hq
  cases hl : out.getLast? with
  | none => simp [hl] at hq; subst hq; rfl
  | some p =>
    by_cases hp : p.k = 1 ∧ p.kd = k
    · simp only [hl, if_pos hp] at hq; simp at hq; subst hq; exact hp.1
    · simp [hl, if_neg hp] at hq; subst hq; rfl

theorem mk2_tid (L : List Pt) (out : List Pt) (ps : List It) (c : Nat) (ho : EndsK out) (h : ∀ p ∈ L, Fm p) (hk : ∀ p ∈ L, p.k = 1 → 0 < p.n) : mk2 out ps c L = tid out ps c (acts L) := by
  induction L generalizing out ps c with
  | nil => simp only [mk2, acts_nil, tid]; exact addP_flush out ps c ho
  | cons p L ih =>
    have hL : ∀ q ∈ L, Fm q := fun q hq => h q (by simp [hq])
    have hkL : ∀ q ∈ L, q.k = 1 → 0 < q.n := fun q hq => hk q (by simp [hq])
    rw [acts_cons]
    rcases h p (by simp) with ⟨k, n, hn, rfl⟩ | ⟨l, rfl⟩ | ⟨n, hn, rfl⟩
    · have hn1 : 0 < n := hk (keepP k n) (by simp) rfl
      obtain ⟨m, rfl⟩ : ∃ m : Nat, n = ((m + 1 : Nat) : Int) := ⟨(n - 1).toNat, by omega⟩
      rw [actsP_keep, Int.toNat_natCast, tid_keeps]
      have e : (keepP k ((m + 1 : Nat) : Int)).k = 1 := rfl
      rw [mk2, if_pos e, addP_flush out ps c ho, addP_keep _ _ _ (by omega)]
      exact ih _ [] 0 (endsK_addK _ _ _) hL hkL
    · rw [actsP_put, tid_puts]
      have e : ¬ (putP l).k = 1 := by simp [putP]
      rw [mk2, if_neg e]
      have := ih out (ps ++ l) c ho hL hkL
      simpa [putP] using this
    · rw [actsP_cut, tid_cuts]
      have e : ¬ (cutP n).k = 1 := by simp [cutP]
      rw [mk2, if_neg e]
      have := ih out ps (c + n.toNat) ho hL hkL
      have e2 : (c : Int) + n = ((c + n.toNat : Nat) : Int) := by omega
      simp only [cutP, List.append_nil]
      rw [e2]
      exact this

theorem madeP_tidy (L : List Pt) (h : ∀ p ∈ L, Fm p) (hk : ∀ p ∈ L, p.k = 1 → 0 < p.n) : madeP L = tidyA (acts L) :=
  mk2_tid L [] [] 0 (fun q hq => by simp at hq) h hk

end Go.Mh
