/- Operations as acts, one an item: what they do, what is tidy, what is turned, what is joined. No program in sight. -/
import Derived.Test.YtkekjddkbmmckaaGreatPl
namespace Go.Mh

/-- What a part that keeps changes. -/
structure Kd where
  set : Int
  clr : Int
  to : Bool
  l : Bs
  deriving DecidableEq

inductive Ac where
  | keep (c : Kd)
  | put (x : It)
  | cut
  deriving DecidableEq

def kd0 : Kd := ⟨0, 0, false, []⟩
def markI (x : It) (c : Kd) : It := ⟨x.c, bor (bnot x.m c.clr) c.set, if c.to = true ∧ ¬ (x.c.toNat : Int) = 10 then c.l else x.l⟩

def Pt.kd (p : Pt) : Kd := ⟨p.set, p.clr, p.to, p.l⟩
def actsP (p : Pt) : List Ac := if p.k = 1 then List.replicate p.n.toNat (.keep p.kd) else if p.k = 2 then p.its.map .put else if p.k = 3 then List.replicate p.n.toNat .cut else []
def acts (o : List Pt) : List Ac := o.flatMap actsP
def keepP (c : Kd) (n : Int) : Pt := ⟨1, n, [], c.set, c.clr, c.to, c.l⟩
def putP (l : List It) : Pt := ⟨2, 0, l, 0, 0, false, []⟩
def cutP (n : Int) : Pt := ⟨3, n, [], 0, 0, false, []⟩
/-- The form of a part. -/
def Fm (p : Pt) : Prop := (∃ c n, 0 ≤ n ∧ p = keepP c n) ∨ (∃ l, p = putP l) ∨ (∃ n, 0 ≤ n ∧ p = cutP n)

theorem acts_nil : acts [] = [] := rfl
theorem acts_cons (p : Pt) (o : List Pt) : acts (p :: o) = actsP p ++ acts o := by simp [acts]
theorem acts_append (o u : List Pt) : acts (o ++ u) = acts o ++ acts u := by simp [acts]
theorem acts_one (p : Pt) : acts [p] = actsP p := by simp [acts]
theorem actsP_keep (c : Kd) (n : Int) : actsP (keepP c n) = List.replicate n.toNat (.keep c) := rfl
theorem actsP_put (l : List It) : actsP (putP l) = l.map .put := rfl
theorem actsP_cut (n : Int) : actsP (cutP n) = List.replicate n.toNat .cut := rfl

/- Alike, and added behind. -/
def alikeP (a b : Pt) : Bool := a.k == b.k && a.set == b.set && a.clr == b.clr && a.to == b.to && a.l == b.l
def addP (o : List Pt) (p : Pt) : List Pt :=
  if (p.k ≠ 2 ∧ p.n = 0) ∨ (p.k = 2 ∧ p.its = []) then o
  else match o.getLast? with
    | some q => if alikeP q p = true then o.dropLast ++ [{ q with n := q.n + p.n, its := q.its ++ p.its }] else o ++ [p]
    | none => o ++ [p]

/-- Made goes on: out is made, its and n are put and cut in the run that is read. -/
def mk2 (out : List Pt) (its : List It) (n : Int) : List Pt → List Pt
  | [] => addP (addP out (putP its)) (cutP n)
  | p :: l => if p.k = 1 then mk2 (addP (addP (addP out (putP its)) (cutP n)) p) [] 0 l else mk2 out (its ++ p.its) (n + p.n) l
def madeP (L : List Pt) : List Pt := mk2 [] [] 0 L

theorem addP_none (o : List Pt) (p : Pt) (h : (p.k ≠ 2 ∧ p.n = 0) ∨ (p.k = 2 ∧ p.its = [])) : addP o p = o := by simp only [addP, if_pos h]
theorem addP_put_nil (o : List Pt) : addP o (putP []) = o := addP_none o _ (Or.inr ⟨rfl, rfl⟩)
theorem addP_cut_zero (o : List Pt) : addP o (cutP 0) = o := addP_none o _ (Or.inl ⟨by decide, rfl⟩)
theorem mk2_keep (out : List Pt) (its : List It) (n : Int) (p : Pt) (l : List Pt) (h : p.k = 1) : mk2 out its n (p :: l) = mk2 (addP (addP out (putP its)) (cutP n)) [] 0 (p :: l) := by
  simp [mk2, h, addP_put_nil, addP_cut_zero]
theorem mk2_end (out : List Pt) (its : List It) (n : Int) : mk2 out its n [] = mk2 (addP (addP out (putP its)) (cutP n)) [] 0 [] := by
  simp [mk2, addP_put_nil, addP_cut_zero]

/- The tidy operation of acts. -/
def flush (out : List Pt) (ps : List It) (c : Nat) : List Pt := out ++ (if ps = [] then [] else [putP ps]) ++ (if c = 0 then [] else [cutP c])
def addK (out : List Pt) (k : Kd) (n : Nat) : List Pt := match out.getLast? with
  | some q => if q.k = 1 ∧ q.kd = k then out.dropLast ++ [{ q with n := q.n + n }] else out ++ [keepP k n]
  | none => out ++ [keepP k n]
def tid (out : List Pt) (ps : List It) (c : Nat) : List Ac → List Pt
  | [] => flush out ps c
  | .put x :: l => tid out (ps ++ [x]) c l
  | .cut :: l => tid out ps (c + 1) l
  | .keep k :: l => tid (addK (flush out ps c) k 1) [] 0 l
def tidyA (l : List Ac) : List Pt := tid [] [] 0 l
def nrm (ps : List It) (c : Nat) : List Ac → List Ac
  | [] => ps.map .put ++ List.replicate c .cut
  | .put x :: l => nrm (ps ++ [x]) c l
  | .cut :: l => nrm ps (c + 1) l
  | .keep k :: l => ps.map .put ++ List.replicate c .cut ++ .keep k :: nrm [] 0 l
def normA (l : List Ac) : List Ac := nrm [] 0 l

theorem flush_nil (out : List Pt) : flush out [] 0 = out := by simp [flush]

theorem addK_some {out : List Pt} {q : Pt} {k : Kd} (n : Nat) (h : out.getLast? = some q) (hq : q.k = 1 ∧ q.kd = k) : addK out k n = out.dropLast ++ [{ q with n := q.n + n }] := by
  simp only [addK, h, if_pos hq]
theorem addK_new {out : List Pt} {k : Kd} (n : Nat) (h : ∀ q, out.getLast? = some q → ¬ (q.k = 1 ∧ q.kd = k)) : addK out k n = out ++ [keepP k n] := by
  unfold addK
  cases hl : out.getLast? with
  | none => rfl
  | some q => simp only [if_neg (h q hl)]

theorem addK_add (out : List Pt) (k : Kd) (a b : Nat) : addK (addK out k a) k b = addK out k (a + b) := by
  by_cases h : ∃ q, out.getLast? = some q ∧ q.k = 1 ∧ q.kd = k
  · obtain ⟨q, hl, hq⟩ := h
    rw [addK_some a hl hq, addK_some (a + b) hl hq, addK_some (q := { q with n := q.n + (a : Int) }) b (by simp) ⟨hq.1, hq.2⟩]
    simp
    omega
  · have hn : ∀ q, out.getLast? = some q → ¬ (q.k = 1 ∧ q.kd = k) := fun q hl hq => h ⟨q, hl, hq⟩
    rw [addK_new a hn, addK_new (a + b) hn, addK_some (k := k) (q := keepP k a) b (by simp) ⟨rfl, rfl⟩]
    simp [keepP]

theorem tid_puts (out : List Pt) (ps qs : List It) (c : Nat) (l : List Ac) : tid out ps c (qs.map .put ++ l) = tid out (ps ++ qs) c l := by
  induction qs generalizing ps with
  | nil => simp
  | cons q qs ih => simp [tid, ih]
theorem tid_cuts (out : List Pt) (ps : List It) (c d : Nat) (l : List Ac) : tid out ps c (List.replicate d .cut ++ l) = tid out ps (c + d) l := by
  induction d generalizing c with
  | zero => simp
  | succ d ih => simp only [List.replicate_succ, List.cons_append, tid]; rw [ih, show c + 1 + d = c + (d + 1) by omega]
theorem tid_keeps (out : List Pt) (ps : List It) (c n : Nat) (k : Kd) (l : List Ac) : tid out ps c (List.replicate (n + 1) (.keep k) ++ l) = tid (addK (flush out ps c) k (n + 1)) [] 0 l := by
  induction n generalizing out ps c with
  | zero => rfl
  | succ n ih =>
    rw [List.replicate_succ, List.cons_append, tid, ih, flush_nil, addK_add, show 1 + (n + 1) = n + 1 + 1 by omega]

theorem tid_nrm (out : List Pt) (ps qs : List It) (c d : Nat) (l : List Ac) : tid out ps c (nrm qs d l) = tid out (ps ++ qs) (c + d) l := by
  induction l generalizing out ps qs c d with
  | nil =>
    have := tid_puts out ps qs c (List.replicate d .cut ++ [])
    simp only [nrm]
    rw [List.append_nil] at this
    rw [this]
    have h2 := tid_cuts out (ps ++ qs) c d []
    rw [List.append_nil] at h2
    rw [h2]
  | cons a l ih =>
    cases a with
    | put x => simp only [nrm, tid]; rw [ih, List.append_assoc]
    | cut => simp only [nrm, tid]; rw [ih, Nat.add_assoc]
    | keep k =>
      simp only [nrm, List.append_assoc]
      rw [tid_puts, tid_cuts]
      simp only [tid]
      rw [ih]
      rfl

theorem nrm_puts (ps qs : List It) (c : Nat) (l : List Ac) : nrm ps c (qs.map .put ++ l) = nrm (ps ++ qs) c l := by
  induction qs generalizing ps with
  | nil => simp
  | cons q qs ih => simp [nrm, ih]
theorem nrm_cuts (ps : List It) (c d : Nat) (l : List Ac) : nrm ps c (List.replicate d .cut ++ l) = nrm ps (c + d) l := by
  induction d generalizing c with
  | zero => simp
  | succ d ih => simp only [List.replicate_succ, List.cons_append, nrm]; rw [ih, show c + 1 + d = c + (d + 1) by omega]

theorem nrm_nrm (ps qs : List It) (c d : Nat) (l : List Ac) : nrm ps c (nrm qs d l) = nrm (ps ++ qs) (c + d) l := by
  induction l generalizing ps qs c d with
  | nil =>
    have := nrm_puts ps qs c (List.replicate d .cut ++ [])
    simp only [nrm]
    rw [List.append_nil] at this
    rw [this]
    have h2 := nrm_cuts (ps ++ qs) c d []
    rw [List.append_nil] at h2
    rw [h2]
    rfl
  | cons a l ih =>
    cases a with
    | put x => simp only [nrm]; rw [ih, List.append_assoc]
    | cut => simp only [nrm]; rw [ih, Nat.add_assoc]
    | keep k =>
      simp only [nrm, List.append_assoc]
      rw [nrm_puts, nrm_cuts]
      simp only [nrm]
      rw [ih]
      simp

theorem tidyA_norm (l : List Ac) : tidyA (normA l) = tidyA l := by unfold tidyA normA; rw [tid_nrm]; rfl
theorem norm_norm (l : List Ac) : normA (normA l) = normA l := by unfold normA; rw [nrm_nrm]; rfl

/-- What is put and cut in the run, as acts. -/
theorem acts_flush (out : List Pt) (ps : List It) (c : Nat) : acts (flush out ps c) = acts out ++ ps.map .put ++ List.replicate c .cut := by
  unfold flush
  rw [acts_append, acts_append]
  congr 1
  · congr 1
    by_cases h : ps = []
    · simp [h, acts_nil]
    · simp [h, acts_one, actsP_put]
  · by_cases h : c = 0
    · simp [h, acts_nil]
    · simp [h, acts_one, actsP_cut]

theorem dropLast_snoc {α : Type} {l : List α} {q : α} (h : l.getLast? = some q) : l = l.dropLast ++ [q] := by
  obtain ⟨l', rfl⟩ := List.getLast?_eq_some_iff.1 h
  simp

theorem acts_addK (out : List Pt) (k : Kd) (n : Nat) (h : ∀ p ∈ out, 0 ≤ p.n) : acts (addK out k n) = acts out ++ List.replicate n (.keep k) := by
  unfold addK
  cases hl : out.getLast? with
  | none => simp [acts_append, acts_one, actsP_keep]
  | some q =>
    by_cases hq : q.k = 1 ∧ q.kd = k
    · simp only [if_pos hq]
      have e := dropLast_snoc hl
      have hn : 0 ≤ q.n := h q (by rw [e]; simp)
      obtain ⟨h1, h2⟩ := hq
      have e2 : acts out = acts out.dropLast ++ List.replicate q.n.toNat (.keep k) := by
        rw [e, acts_append, acts_one]; simp [actsP, h1, h2]
      rw [e2, acts_append, acts_one, List.append_assoc, List.replicate_append_replicate]
      simp only [actsP, h1, if_true]
      congr 1
      have : (q.n + (n : Int)).toNat = q.n.toNat + n := by omega
      rw [this]
      congr 1
      rw [← h2]
      rfl
    · simp [if_neg hq, acts_append, acts_one, actsP_keep]

theorem addK_nn (out : List Pt) (k : Kd) (n : Nat) (h : ∀ p ∈ out, 0 ≤ p.n) : ∀ p ∈ addK out k n, 0 ≤ p.n := by
  unfold addK
  cases hl : out.getLast? with
  | none => intro p hp; simp at hp; rcases hp with hp | rfl; exact h p hp; simp [keepP]
  | some q =>
    have e := dropLast_snoc hl
    by_cases hq : q.k = 1 ∧ q.kd = k
    · simp only [if_pos hq]
      intro p hp
      simp at hp
      rcases hp with hp | rfl
      · exact h p (List.mem_of_mem_take (by rwa [List.dropLast_eq_take] at hp))
      · have := h q (by rw [e]; simp)
        show 0 ≤ q.n + (n : Int)
        omega
    · intro p hp; simp [if_neg hq] at hp; rcases hp with hp | rfl; exact h p hp; simp [keepP]

theorem flush_nn (out : List Pt) (ps : List It) (c : Nat) (h : ∀ p ∈ out, 0 ≤ p.n) : ∀ p ∈ flush out ps c, 0 ≤ p.n := by
  intro p hp
  simp only [flush, List.append_assoc, List.mem_append] at hp
  rcases hp with hp | hp | hp
  · exact h p hp
  · split at hp <;> simp at hp; subst hp; simp [putP]
  · split at hp <;> simp at hp; subst hp; simp [cutP]

theorem acts_tid (out : List Pt) (ps : List It) (c : Nat) (l : List Ac) (h : ∀ p ∈ out, 0 ≤ p.n) : acts (tid out ps c l) = acts out ++ nrm ps c l := by
  induction l generalizing out ps c with
  | nil => simp [tid, nrm, acts_flush]
  | cons a l ih =>
    cases a with
    | put x => simp only [tid, nrm]; exact ih _ _ _ h
    | cut => simp only [tid, nrm]; exact ih _ _ _ h
    | keep k =>
      simp only [tid, nrm]
      rw [ih _ _ _ (addK_nn _ _ _ (flush_nn _ _ _ h)), acts_addK _ _ _ (flush_nn _ _ _ h), acts_flush]
      simp

theorem acts_tidyA (l : List Ac) : acts (tidyA l) = normA l := by
  unfold tidyA; rw [acts_tid _ _ _ _ (by simp)]; rfl

theorem tidyA_eq {l m : List Ac} : tidyA l = tidyA m ↔ normA l = normA m := by
  constructor
  · intro h; rw [← acts_tidyA, h, acts_tidyA]
  · intro h; rw [← tidyA_norm, h, tidyA_norm]

/- Made is tidy. -/
theorem addP_keep (o : List Pt) (c : Kd) (n : Nat) (h : 0 < n) : addP o (keepP c n) = addK o c n := by
  unfold addP addK
  have h0 : ¬ ((keepP c n).k ≠ 2 ∧ (keepP c n).n = 0 ∨ (keepP c n).k = 2 ∧ (keepP c n).its = []) := by simp [keepP]; omega
  simp only [if_neg h0]
  cases o.getLast? with
  | none => rfl
  | some q =>
    have e : (alikeP q (keepP c n) = true) ↔ (q.k = 1 ∧ q.kd = c) := by
      obtain ⟨set, clr, to, l⟩ := c
      simp [alikeP, keepP, Pt.kd, and_assoc]
    by_cases hq : q.k = 1 ∧ q.kd = c
    · simp only [if_pos hq, if_pos (e.2 hq)]
      simp [keepP]
    · simp only [if_neg hq, if_neg (fun h => hq (e.1 h))]

/-- Nothing, or a part that keeps, stands last. -/
def EndsK (out : List Pt) : Prop := ∀ q, out.getLast? = some q → q.k = 1

theorem addP_flush (out : List Pt) (ps : List It) (c : Nat) (h : EndsK out) : addP (addP out (putP ps)) (cutP c) = flush out ps c := by
  have h1 : addP out (putP ps) = out ++ (if ps = [] then [] else [putP ps]) := by
    by_cases hp : ps = []
    · simp [hp, addP_put_nil]
    · simp only [if_neg hp]
      unfold addP
      have h0 : ¬ ((putP ps).k ≠ 2 ∧ (putP ps).n = 0 ∨ (putP ps).k = 2 ∧ (putP ps).its = []) := by simp [putP, hp]
      simp only [if_neg h0]
      cases hl : out.getLast? with
      | none => rfl
      | some q =>
        have hk := h q hl
        have : ¬ (alikeP q (putP ps) = true) := by simp [alikeP, putP, hk]
        simp only [if_neg this]
  rw [h1]
  unfold flush
  by_cases hc : c = 0
  · subst hc; simp [addP_cut_zero]
  · simp only [if_neg hc]
    unfold addP
    have h0 : ¬ ((cutP c).k ≠ 2 ∧ (cutP c).n = 0 ∨ (cutP c).k = 2 ∧ (cutP c).its = []) := by simp [cutP]; omega
    simp only [if_neg h0]
    by_cases hp : ps = []
    · simp only [hp, if_true, List.append_nil]
      cases hl : out.getLast? with
      | none => rfl
      | some q =>
        have hk := h q hl
        have : ¬ (alikeP q (cutP c) = true) := by simp [alikeP, cutP, hk]
        simp only [if_neg this]
    · simp only [if_neg hp, List.getLast?_append, List.getLast?_singleton, Option.some_or]
      have : ¬ (alikeP (putP ps) (cutP c) = true) := by simp [alikeP, cutP, putP]
      simp only [if_neg this]

theorem endsK_addK (out : List Pt) (k : Kd) (n : Nat) : EndsK (addK out k n) := by
  intro q hq
  unfold addK at hq
  cases hl : out.getLast? with
  | none => simp [hl] at hq; subst hq; rfl
  | some p =>
    by_cases hp : p.k = 1 ∧ p.kd = k
    · simp only [hl, if_pos hp] at hq; simp at hq; subst hq; exact hp.1
    · simp [hl, if_neg hp] at hq; subst hq; rfl

theorem mk2_tid (L : List Pt) (out : List Pt) (ps : List It) (c : Nat) (ho : EndsK out) (h : ∀ p ∈ L, Fm p) (hk : ∀ p ∈ L, p.k = 1 → 0 < p.n) : mk2 out ps c L = tid out ps c (acts L) := by
  induction L generalizing out ps c with
  | nil => simp only [mk2, acts_nil, tid]; exact addP_flush out ps c ho
  | cons p L ih =>
    have hL : ∀ q ∈ L, Fm q := fun q hq => h q (by simp [hq])
    have hkL : ∀ q ∈ L, q.k = 1 → 0 < q.n := fun q hq => hk q (by simp [hq])
    rw [acts_cons]
    rcases h p (by simp) with ⟨k, n, hn, rfl⟩ | ⟨l, rfl⟩ | ⟨n, hn, rfl⟩
    · have hn1 : 0 < n := hk (keepP k n) (by simp) rfl
      obtain ⟨m, rfl⟩ : ∃ m : Nat, n = ((m + 1 : Nat) : Int) := ⟨(n - 1).toNat, by omega⟩
      rw [actsP_keep, Int.toNat_natCast, tid_keeps]
      have e : (keepP k ((m + 1 : Nat) : Int)).k = 1 := rfl
      rw [mk2, if_pos e, addP_flush out ps c ho, addP_keep _ _ _ (by omega)]
      exact ih _ [] 0 (endsK_addK _ _ _) hL hkL
    · rw [actsP_put, tid_puts]
      have e : ¬ (putP l).k = 1 := by simp [putP]
      rw [mk2, if_neg e]
      have := ih out (ps ++ l) c ho hL hkL
      simpa [putP] using this
    · rw [actsP_cut, tid_cuts]
      have e : ¬ (cutP n).k = 1 := by simp [cutP]
      rw [mk2, if_neg e]
      have := ih out ps (c + n.toNat) ho hL hkL
      have e2 : (c : Int) + n = ((c + n.toNat : Nat) : Int) := by omega
      simp only [cutP, List.append_nil]
      rw [e2]
      exact this

theorem madeP_tidy (L : List Pt) (h : ∀ p ∈ L, Fm p) (hk : ∀ p ∈ L, p.k = 1 → 0 < p.n) : madeP L = tidyA (acts L) :=
  mk2_tid L [] [] 0 (fun q hq => by simp at hq) h hk

end Go.Mh
/- What acts do to a document; two operations turned and joined, act by act; that they meet. No program in sight. -/
namespace Go.Mh

/- Marks, two bits. -/
def and4 (a b : Fin 4) : Fin 4 := ⟨(a.val &&& b.val) % 4, Nat.mod_lt _ (by decide)⟩
def or4 (a b : Fin 4) : Fin 4 := ⟨(a.val ||| b.val) % 4, Nat.mod_lt _ (by decide)⟩
def not4 (a b : Fin 4) : Fin 4 := ⟨(a.val - (a.val &&& b.val)) % 4, Nat.mod_lt _ (by decide)⟩
theorem band4 : ∀ a b : Fin 4, band (a.val : Int) (b.val : Int) = ((and4 a b).val : Int) := by decide
theorem bor4 : ∀ a b : Fin 4, bor (a.val : Int) (b.val : Int) = ((or4 a b).val : Int) := by decide
theorem bnot4 : ∀ a b : Fin 4, bnot (a.val : Int) (b.val : Int) = ((not4 a b).val : Int) := by decide
theorem m4_turn : ∀ m sc ss tc ts : Fin 4, or4 (not4 (or4 (not4 m sc) ss) (not4 tc (or4 ss sc))) (not4 ts (or4 ss sc)) = or4 (not4 (or4 (not4 m tc) ts) sc) ss := by decide +kernel
theorem m4_join : ∀ m sc ss tc ts : Fin 4, or4 (not4 (or4 (not4 m sc) ss) tc) ts = or4 (not4 m (or4 (not4 sc ts) tc)) (or4 (not4 ss tc) ts) := by decide +kernel
theorem m4_both1 : ∀ ss tc ts uc us : Fin 4, and4 tc ts = 0 → and4 uc us = 0 → or4 (not4 (or4 (not4 ss tc) ts) uc) us = or4 (not4 ss (or4 (not4 tc us) uc)) (or4 (not4 ts uc) us) := by decide +kernel
theorem m4_disj : ∀ ss sc ts tc : Fin 4, and4 ss sc = 0 → and4 ts tc = 0 → and4 (or4 (not4 ss tc) ts) (or4 (not4 sc ts) tc) = 0 := by decide +kernel
theorem m4_disj2 : ∀ ts tc z : Fin 4, and4 ts tc = 0 → and4 (not4 ts z) (not4 tc z) = 0 := by decide +kernel

/-- A change that may be: marks within bounds, none both set and cleared, a link that may be. -/
structure Kd.Ok (c : Kd) : Prop where
  s0 : 0 ≤ c.set
  s3 : c.set ≤ 3
  c0 : 0 ≤ c.clr
  c3 : c.clr ≤ 3
  no : band c.set c.clr = 0
  ln : c.l ≠ [] → c.to = true ∧ may c.l = true

theorem Kd.Ok.fin {c : Kd} (h : c.Ok) : ∃ s z : Fin 4, c.set = (s.val : Int) ∧ c.clr = (z.val : Int) ∧ and4 s z = 0 := by
  obtain ⟨s, hs⟩ := small4 h.s0 h.s3
  obtain ⟨z, hz⟩ := small4 h.c0 h.c3
  refine ⟨s, z, hs, hz, ?_⟩
  have := h.no
  rw [hs, hz, band4] at this
  exact Fin.ext (by simpa using this)

/-- What t becomes behind s, that counts more. -/
def overK (t s : Kd) : Kd := ⟨bnot t.set (bor s.set s.clr), bnot t.clr (bor s.set s.clr), if s.to = true then false else t.to, if s.to = true then [] else t.l⟩
/-- s, and t behind it, as one. -/
def bothK (s t : Kd) : Kd := ⟨bor (bnot s.set t.clr) t.set, bor (bnot s.clr t.set) t.clr, if t.to = true then true else s.to, if t.to = true then t.l else s.l⟩

theorem fin4_ok (a : Fin 4) : 0 ≤ (a.val : Int) ∧ (a.val : Int) ≤ 3 := by omega
theorem Kd.Ok.of {c : Kd} {s z : Fin 4} (hs : c.set = (s.val : Int)) (hz : c.clr = (z.val : Int)) (h : and4 s z = 0) (ln : c.l ≠ [] → c.to = true ∧ may c.l = true) : c.Ok :=
  ⟨by rw [hs]; exact (fin4_ok s).1, by rw [hs]; exact (fin4_ok s).2, by rw [hz]; exact (fin4_ok z).1, by rw [hz]; exact (fin4_ok z).2, by rw [hs, hz, band4, h]; rfl, ln⟩

theorem kd0_ok : kd0.Ok := ⟨by decide, by decide, by decide, by decide, by decide, fun h => absurd rfl h⟩
theorem overK_ok {t s : Kd} (ht : t.Ok) (hs : s.Ok) : (overK t s).Ok := by
  obtain ⟨a, b, e1, e2, h1⟩ := ht.fin
  obtain ⟨c, d, e3, e4, _⟩ := hs.fin
  refine Kd.Ok.of (s := not4 a (or4 c d)) (z := not4 b (or4 c d)) ?_ ?_ (m4_disj2 _ _ _ h1) ?_
  · simp only [overK, e1, e3, e4]; rw [bor4, bnot4]
  · simp only [overK, e2, e3, e4]; rw [bor4, bnot4]
  · simp only [overK]
    intro h
    split at h
    · exact absurd rfl h
    · rename_i hn; simp only [if_neg hn]; exact ht.ln h
theorem bothK_ok {s t : Kd} (hs : s.Ok) (ht : t.Ok) : (bothK s t).Ok := by
  obtain ⟨a, b, e1, e2, h1⟩ := hs.fin
  obtain ⟨c, d, e3, e4, h2⟩ := ht.fin
  refine Kd.Ok.of (s := or4 (not4 a d) c) (z := or4 (not4 b c) d) ?_ ?_ (m4_disj _ _ _ _ h1 h2) ?_
  · simp only [bothK, e1, e3, e4]; rw [bnot4, bor4]
  · simp only [bothK, e2, e3, e4]; rw [bnot4, bor4]
  · simp only [bothK]
    intro h
    by_cases ht2 : t.to = true
    · simp only [if_pos ht2] at h ⊢; exact ⟨trivial, (ht.ln h).2⟩
    · simp only [if_neg ht2] at h ⊢; exact hs.ln h

theorem bothK_assoc {s t u : Kd} (hs : s.Ok) (ht : t.Ok) (hu : u.Ok) : bothK (bothK s t) u = bothK s (bothK t u) := by
  obtain ⟨a, b, e1, e2, h1⟩ := hs.fin
  obtain ⟨c, d, e3, e4, h2⟩ := ht.fin
  obtain ⟨e, f, e5, e6, h3⟩ := hu.fin
  have c2 : and4 d c = 0 := by rw [← h2]; exact Fin.ext (by simp [and4, Nat.and_comm])
  have c3 : and4 f e = 0 := by rw [← h3]; exact Fin.ext (by simp [and4, Nat.and_comm])
  simp only [bothK, e1, e2, e3, e4, e5, e6, bnot4, bor4]
  congr 1
  · rw [m4_both1 a d c f e c2 c3]
  · rw [m4_both1 b c d e f h2 h3]
  · by_cases h : u.to = true <;> simp [h]
  · by_cases h : u.to = true <;> simp [h]

/-- Marks of an item within bounds. -/
def It.Mk (x : It) : Prop := 0 ≤ x.m ∧ x.m ≤ 3

theorem markI_mk {x : It} {c : Kd} (hx : x.Mk) (hc : c.Ok) : (markI x c).Mk := by
  obtain ⟨m, hm⟩ := small4 hx.1 hx.2
  obtain ⟨a, b, e1, e2, _⟩ := hc.fin
  unfold It.Mk markI
  simp only [hm, e1, e2, bnot4, bor4]
  exact fin4_ok _

theorem mark_turn {x : It} {s t : Kd} (hx : x.Mk) (hs : s.Ok) (ht : t.Ok) : markI (markI x s) (overK t s) = markI (markI x t) s := by
  obtain ⟨m, hm⟩ := small4 hx.1 hx.2
  obtain ⟨a, b, e1, e2, h1⟩ := hs.fin
  obtain ⟨c, d, e3, e4, h2⟩ := ht.fin
  simp only [markI, overK, hm, e1, e2, e3, e4, bnot4, bor4]
  congr 1
  · rw [m4_turn]
  · by_cases h : s.to = true <;> by_cases h' : (x.c.toNat : Int) = 10 <;> by_cases h'' : t.to = true <;> simp [h, h', h'']

theorem mark_join {x : It} {s t : Kd} (hx : x.Mk) (hs : s.Ok) (ht : t.Ok) : markI (markI x s) t = markI x (bothK s t) := by
  obtain ⟨m, hm⟩ := small4 hx.1 hx.2
  obtain ⟨a, b, e1, e2, h1⟩ := hs.fin
  obtain ⟨c, d, e3, e4, h2⟩ := ht.fin
  simp only [markI, bothK, hm, e1, e2, e3, e4, bnot4, bor4]
  congr 1
  · rw [m4_join]
  · by_cases h : s.to = true <;> by_cases h' : (x.c.toNat : Int) = 10 <;> by_cases h'' : t.to = true <;> simp [h, h', h'']

theorem mark_none (x : It) (hx : x.Mk) : markI x kd0 = x := by
  obtain ⟨m, hm⟩ := small4 hx.1 hx.2
  obtain ⟨c, mm, l⟩ := x
  simp only at hm
  subst hm
  have : ∀ m : Fin 4, bor (bnot (m.val : Int) 0) 0 = (m.val : Int) := by decide
  simp [markI, kd0]
  exact this m

theorem markI_item {x : It} {c : Kd} (hx : chkItem x = 0) (hc : c.Ok) : chkItem (markI x c) = 0 := by
  have hmk : x.Mk := by
    unfold chkItem at hx
    split at hx; · simp at hx
    split at hx; · simp at hx
    rename_i h; unfold It.Mk; omega
  have hm := markI_mk hmk hc
  unfold chkItem at hx ⊢
  unfold It.Mk at hm
  split at hx; · simp at hx
  rename_i h1
  split at hx; · simp at hx
  split at hx; · simp at hx
  rename_i h3
  have e : (markI x c).c = x.c := rfl
  rw [e, if_neg h1, if_neg (by omega), if_neg]
  rintro ⟨hl, h⟩
  by_cases h10 : (x.c.toNat : Int) = 10
  · have e2 : (markI x c).l = x.l := by simp [markI, h10]
    rw [e2] at hl h
    exact h3 ⟨hl, Or.inl h10⟩
  · by_cases ht : c.to = true
    · have e2 : (markI x c).l = c.l := by simp [markI, h10, ht]
      rw [e2] at hl h
      have := (hc.ln hl).2
      simp [this, h10] at h
    · have e2 : (markI x c).l = x.l := by simp [markI, ht]
      rw [e2] at hl h
      exact h3 ⟨hl, h⟩

/-- What acts make of a document. -/
def doA (d : List It) : List Ac → List It
  | [] => []
  | .put x :: l => x :: doA d l
  | .keep c :: l => (d.take 1).map (markI · c) ++ doA d.tail l
  | .cut :: l => doA d.tail l

/-- How many items acts are for; how many there are behind them. -/
def frm : List Ac → Nat
  | [] => 0
  | .put _ :: l => frm l
  | _ :: l => frm l + 1
def too : List Ac → Nat
  | [] => 0
  | .cut :: l => too l
  | _ :: l => too l + 1

def AcOk : Ac → Prop
  | .keep c => c.Ok
  | .put x => chkItem x = 0
  | .cut => True

theorem frm_append (a b : List Ac) : frm (a ++ b) = frm a + frm b := by
  induction a with
  | nil => simp [frm]
  | cons x a ih => cases x <;> simp [frm, ih] <;> omega
theorem too_append (a b : List Ac) : too (a ++ b) = too a + too b := by
  induction a with
  | nil => simp [too]
  | cons x a ih => cases x <;> simp [too, ih] <;> omega
theorem frm_puts (l : List It) : frm (l.map .put) = 0 := by induction l <;> simp [frm, *]
theorem too_puts (l : List It) : too (l.map .put) = l.length := by induction l <;> simp [too, *]
theorem frm_cuts (n : Nat) : frm (List.replicate n .cut) = n := by induction n <;> simp [frm, List.replicate_succ, *]
theorem too_cuts (n : Nat) : too (List.replicate n .cut) = 0 := by induction n <;> simp [too, List.replicate_succ, *]
theorem frm_keeps (n : Nat) (c : Kd) : frm (List.replicate n (.keep c)) = n := by induction n <;> simp [frm, List.replicate_succ, *]
theorem too_keeps (n : Nat) (c : Kd) : too (List.replicate n (.keep c)) = n := by induction n <;> simp [too, List.replicate_succ, *]

theorem doA_puts (d : List It) (ps : List It) (l : List Ac) : doA d (ps.map .put ++ l) = ps ++ doA d l := by
  induction ps with
  | nil => rfl
  | cons p ps ih => simp [doA, ih]
theorem doA_cuts (d : List It) (n : Nat) (l : List Ac) : doA d (List.replicate n .cut ++ l) = doA (d.drop n) l := by
  induction n generalizing d with
  | zero => rfl
  | succ n ih => simp only [List.replicate_succ, List.cons_append, doA]; rw [ih, List.drop_tail]
theorem doA_keeps (d : List It) (n : Nat) (c : Kd) (l : List Ac) : doA d (List.replicate n (.keep c) ++ l) = (d.take n).map (markI · c) ++ doA (d.drop n) l := by
  induction n generalizing d with
  | zero => simp
  | succ n ih =>
    simp only [List.replicate_succ, List.cons_append, doA]
    rw [ih]
    cases d with
    | nil => simp
    | cons x d => simp

theorem doA_nrm (d : List It) (ps : List It) (c : Nat) (l : List Ac) : doA d (nrm ps c l) = ps ++ doA (d.drop c) l := by
  induction l generalizing d ps c with
  | nil => have := doA_puts d ps (List.replicate c .cut ++ []); have h2 := doA_cuts d c []; simp only [List.append_nil] at this h2; simp [nrm, this, h2, doA]
  | cons a l ih =>
    cases a with
    | put x => simp [nrm, doA, ih]
    | cut => simp only [nrm, doA]; rw [ih]; simp
    | keep k =>
      simp only [nrm, List.append_assoc]
      rw [doA_puts, doA_cuts]
      simp only [doA]
      rw [ih]
      simp
theorem doA_norm (d : List It) (l : List Ac) : doA d (normA l) = doA d l := by unfold normA; rw [doA_nrm]; simp

theorem frm_nrm (ps : List It) (c : Nat) (l : List Ac) : frm (nrm ps c l) = c + frm l := by
  induction l generalizing ps c with
  | nil => simp [nrm, frm_append, frm_puts, frm_cuts, frm]
  | cons a l ih => cases a <;> simp [nrm, frm, ih, frm_append, frm_puts, frm_cuts] <;> omega
theorem too_nrm (ps : List It) (c : Nat) (l : List Ac) : too (nrm ps c l) = ps.length + too l := by
  induction l generalizing ps c with
  | nil => simp [nrm, too_append, too_puts, too_cuts, too]
  | cons a l ih => cases a <;> simp [nrm, too, ih, too_append, too_puts, too_cuts] <;> omega
theorem frm_norm (l : List Ac) : frm (normA l) = frm l := by simp [normA, frm_nrm]
theorem too_norm (l : List Ac) : too (normA l) = too l := by simp [normA, too_nrm]

theorem doA_len (d : List It) (l : List Ac) (h : frm l ≤ d.length) : (doA d l).length = too l := by
  induction l generalizing d with
  | nil => rfl
  | cons a l ih =>
    cases a with
    | put x => simp only [frm] at h; simp [doA, too, ih d h]
    | cut => simp only [frm] at h; simp only [doA, too]; exact ih _ (by simp; omega)
    | keep c =>
      simp only [frm] at h
      simp only [doA, too, List.length_append, List.length_map, List.length_take]
      rw [ih _ (by simp; omega)]
      omega

/- Turned. -/
def keep0 : Ac := .keep kd0
def turn0 : List Ac → List Ac × List Ac
  | .put y :: b => (keep0 :: (turn0 b).1, .put y :: (turn0 b).2)
  | _ => ([], [])
def turnS (s : Ac) (f : List Ac → List Ac × List Ac) : List Ac → List Ac × List Ac
  | [] => ([], [])
  | .put y :: b => (keep0 :: (turnS s f b).1, .put y :: (turnS s f b).2)
  | .keep t :: b => match s with
    | .keep u => (.keep u :: (f b).1, .keep (overK t u) :: (f b).2)
    | _ => (.cut :: (f b).1, (f b).2)
  | .cut :: b => match s with
    | .keep _ => ((f b).1, .cut :: (f b).2)
    | _ => f b
def turnA : List Ac → List Ac → List Ac × List Ac
  | [], b => turn0 b
  | .put x :: a, b => (.put x :: (turnA a b).1, keep0 :: (turnA a b).2)
  | s :: a, b => turnS s (turnA a) b

theorem turn_p (x : It) (a b : List Ac) : turnA (.put x :: a) b = (.put x :: (turnA a b).1, keep0 :: (turnA a b).2) := rfl
theorem turn_sp (s : Ac) (hs : ∀ x, s ≠ .put x) (y : It) (a b : List Ac) : turnA (s :: a) (.put y :: b) = (keep0 :: (turnA (s :: a) b).1, .put y :: (turnA (s :: a) b).2) := by
  cases s with
  | put x => exact absurd rfl (hs x)
  | keep u => rfl
  | cut => rfl
theorem turn_0p (y : It) (b : List Ac) : turnA [] (.put y :: b) = (keep0 :: (turnA [] b).1, .put y :: (turnA [] b).2) := rfl
theorem turn_kk (u t : Kd) (a b : List Ac) : turnA (.keep u :: a) (.keep t :: b) = (.keep u :: (turnA a b).1, .keep (overK t u) :: (turnA a b).2) := rfl
theorem turn_ck (t : Kd) (a b : List Ac) : turnA (.cut :: a) (.keep t :: b) = (.cut :: (turnA a b).1, (turnA a b).2) := rfl
theorem turn_kc (u : Kd) (a b : List Ac) : turnA (.keep u :: a) (.cut :: b) = ((turnA a b).1, .cut :: (turnA a b).2) := rfl
theorem turn_cc (a b : List Ac) : turnA (.cut :: a) (.cut :: b) = turnA a b := rfl

/-- What acts turned are, by the four ways two can stand ahead: the principle of all proofs about them. -/
theorem turn_ind {P : List Ac → List Ac → Prop} (h0 : P [] []) (hp : ∀ x a b, frm a = frm b → P a b → P (.put x :: a) b)
    (hq : ∀ y a b, (∀ x a', a ≠ .put x :: a') → frm a = frm b → P a b → P a (.put y :: b))
    (hkk : ∀ u t a b, frm a = frm b → P a b → P (.keep u :: a) (.keep t :: b)) (hck : ∀ t a b, frm a = frm b → P a b → P (.cut :: a) (.keep t :: b))
    (hkc : ∀ u a b, frm a = frm b → P a b → P (.keep u :: a) (.cut :: b)) (hcc : ∀ a b, frm a = frm b → P a b → P (.cut :: a) (.cut :: b)) :
    ∀ a b, frm a = frm b → P a b := by
  intro a
  induction a with
  | nil =>
    intro b
    induction b with
    | nil => intro _; exact h0
    | cons t b ih =>
      intro h
      cases t with
      | put y => exact hq y [] b (by simp) (by simpa [frm] using h) (ih (by simpa [frm] using h))
      | keep t => simp [frm] at h
      | cut => simp [frm] at h
  | cons s a iha =>
    cases s with
    | put x => intro b h; exact hp x a b (by simpa [frm] using h) (iha b (by simpa [frm] using h))
    | keep u =>
      intro b
      induction b with
      | nil => intro h; simp [frm] at h
      | cons t b ih =>
        intro h
        cases t with
        | put y => exact hq y _ b (by simp) (by simpa [frm] using h) (ih (by simpa [frm] using h))
        | keep t => exact hkk u t a b (by simpa [frm] using h) (iha b (by simpa [frm] using h))
        | cut => exact hkc u a b (by simpa [frm] using h) (iha b (by simpa [frm] using h))
    | cut =>
      intro b
      induction b with
      | nil => intro h; simp [frm] at h
      | cons t b ih =>
        intro h
        cases t with
        | put y => exact hq y _ b (by simp) (by simpa [frm] using h) (ih (by simpa [frm] using h))
        | keep t => exact hck t a b (by simpa [frm] using h) (iha b (by simpa [frm] using h))
        | cut => exact hcc a b (by simpa [frm] using h) (iha b (by simpa [frm] using h))

theorem turn_q {y : It} {a b : List Ac} (h : ∀ x a', a ≠ .put x :: a') : turnA a (.put y :: b) = (keep0 :: (turnA a b).1, .put y :: (turnA a b).2) := by
  cases a with
  | nil => rfl
  | cons s a => exact turn_sp s (fun x e => h x a (by rw [e])) y a b

theorem turn_frm : ∀ a b, frm a = frm b → frm (turnA a b).1 = too b ∧ frm (turnA a b).2 = too a ∧ too (turnA a b).1 = too (turnA a b).2 := by
  refine turn_ind ⟨rfl, rfl, rfl⟩ ?_ ?_ ?_ ?_ ?_ ?_
  · intro x a b _ h; rw [turn_p]; simp [frm, too, keep0, h]
  · intro y a b ha _ h; rw [turn_q ha]; simp [frm, too, keep0, h]
  · intro u t a b _ h; rw [turn_kk]; simp [frm, too, h]
  · intro t a b _ h; rw [turn_ck]; simp [frm, too, h]
  · intro u a b _ h; rw [turn_kc]; simp [frm, too, h]
  · intro a b _ h; rw [turn_cc]; simp [too, h]

/-- Two operations on one document, each turned behind the other one, meet. -/
theorem turn_meets : ∀ a b, frm a = frm b → (∀ x ∈ a, AcOk x) → (∀ x ∈ b, AcOk x) → ∀ d : List It, d.length = frm a → (∀ x ∈ d, x.Mk) →
    doA (doA d a) (turnA a b).2 = doA (doA d b) (turnA a b).1 := by
  have mk : ∀ {x : It}, chkItem x = 0 → x.Mk := by
    intro x hx
    unfold chkItem at hx
    split at hx; · simp at hx
    split at hx; · simp at hx
    rename_i h; unfold It.Mk; omega
  refine turn_ind ?_ ?_ ?_ ?_ ?_ ?_ ?_
  · intro _ _ d _ _; rfl
  · intro x a b _ h ha hb d hd hm
    rw [turn_p]
    have hx : chkItem x = 0 := ha _ (List.mem_cons_self ..)
    have ih := h (fun y hy => ha y (List.mem_cons_of_mem _ hy)) hb d (by simpa [frm] using hd) hm
    simp only [doA, keep0, List.take_succ_cons, List.take_zero, List.map_cons, List.map_nil, List.tail_cons, mark_none x (mk hx)]
    simp [ih]
  · intro y a b hna _ h ha hb d hd hm
    rw [turn_q hna]
    have hy : chkItem y = 0 := hb _ (List.mem_cons_self ..)
    have ih := h ha (fun x hx => hb x (List.mem_cons_of_mem _ hx)) d hd hm
    simp only [doA, keep0, List.take_succ_cons, List.take_zero, List.map_cons, List.map_nil, List.tail_cons, mark_none y (mk hy)]
    simp [ih]
  · intro u t a b _ h ha hb d hd hm
    rw [turn_kk]
    cases d with
    | nil => simp [frm] at hd
    | cons i d =>
      have hu : u.Ok := ha _ (List.mem_cons_self ..)
      have ht : t.Ok := hb _ (List.mem_cons_self ..)
      have ih := h (fun x hx => ha x (List.mem_cons_of_mem _ hx)) (fun x hx => hb x (List.mem_cons_of_mem _ hx)) d (by simpa [frm] using hd) (fun x hx => hm x (List.mem_cons_of_mem _ hx))
      have hi := hm i (List.mem_cons_self ..)
      simp [doA, ih, mark_turn hi hu ht]
  · intro t a b _ h ha hb d hd hm
    rw [turn_ck]
    cases d with
    | nil => simp [frm] at hd
    | cons i d =>
      have ih := h (fun x hx => ha x (List.mem_cons_of_mem _ hx)) (fun x hx => hb x (List.mem_cons_of_mem _ hx)) d (by simpa [frm] using hd) (fun x hx => hm x (List.mem_cons_of_mem _ hx))
      simp [doA, ih]
  · intro u a b _ h ha hb d hd hm
    rw [turn_kc]
    cases d with
    | nil => simp [frm] at hd
    | cons i d =>
      have ih := h (fun x hx => ha x (List.mem_cons_of_mem _ hx)) (fun x hx => hb x (List.mem_cons_of_mem _ hx)) d (by simpa [frm] using hd) (fun x hx => hm x (List.mem_cons_of_mem _ hx))
      simp [doA, ih]
  · intro a b _ h ha hb d hd hm
    rw [turn_cc]
    cases d with
    | nil => simp [frm] at hd
    | cons i d =>
      have ih := h (fun x hx => ha x (List.mem_cons_of_mem _ hx)) (fun x hx => hb x (List.mem_cons_of_mem _ hx)) d (by simpa [frm] using hd) (fun x hx => hm x (List.mem_cons_of_mem _ hx))
      simp [doA, ih]

end Go.Mh
/- Two operations joined, act by act: they do what the one and then the other does; joined three in either way are the same. No program in sight. -/
namespace Go.Mh

def joinS (s : Ac) (f : List Ac → List Ac) : List Ac → List Ac
  | [] => f []
  | .put y :: b => .put y :: joinS s f b
  | .keep t :: b => match s with
    | .keep u => .keep (bothK u t) :: f b
    | .put x => .put (markI x t) :: f b
    | .cut => f b
  | .cut :: b => match s with
    | .keep _ => .cut :: f b
    | _ => f b
def joinA : List Ac → List Ac → List Ac
  | [], b => b
  | .cut :: a, b => .cut :: joinA a b
  | s :: a, b => joinS s (joinA a) b

theorem join_nil (b : List Ac) : joinA [] b = b := rfl
theorem join_c (a b : List Ac) : joinA (.cut :: a) b = .cut :: joinA a b := rfl
theorem join_kk (u t : Kd) (a b : List Ac) : joinA (.keep u :: a) (.keep t :: b) = .keep (bothK u t) :: joinA a b := rfl
theorem join_kc (u : Kd) (a b : List Ac) : joinA (.keep u :: a) (.cut :: b) = .cut :: joinA a b := rfl
theorem join_pk (x : It) (t : Kd) (a b : List Ac) : joinA (.put x :: a) (.keep t :: b) = .put (markI x t) :: joinA a b := rfl
theorem join_pc (x : It) (a b : List Ac) : joinA (.put x :: a) (.cut :: b) = joinA a b := rfl
theorem join_q {y : It} {a b : List Ac} (h : ∀ a', a ≠ .cut :: a') : joinA a (.put y :: b) = .put y :: joinA a b := by
  cases a with
  | nil => rfl
  | cons s a => cases s with
    | put x => rfl
    | keep u => rfl
    | cut => exact absurd rfl (h a)

/-- The principle of all proofs about what is joined. -/
theorem join_ind {P : List Ac → List Ac → Prop} (h0 : P [] []) (hc : ∀ a b, too a = frm b → P a b → P (.cut :: a) b)
    (hq : ∀ y a b, (∀ a', a ≠ .cut :: a') → too a = frm b → P a b → P a (.put y :: b))
    (hkk : ∀ u t a b, too a = frm b → P a b → P (.keep u :: a) (.keep t :: b)) (hkc : ∀ u a b, too a = frm b → P a b → P (.keep u :: a) (.cut :: b))
    (hpk : ∀ x t a b, too a = frm b → P a b → P (.put x :: a) (.keep t :: b)) (hpc : ∀ x a b, too a = frm b → P a b → P (.put x :: a) (.cut :: b)) :
    ∀ a b, too a = frm b → P a b := by
  intro a
  induction a with
  | nil =>
    intro b
    induction b with
    | nil => intro _; exact h0
    | cons t b ih =>
      intro h
      cases t with
      | put y => exact hq y [] b (by simp) (by simpa [frm] using h) (ih (by simpa [frm] using h))
      | keep t => simp [frm, too] at h
      | cut => simp [frm, too] at h
  | cons s a iha =>
    cases s with
    | cut => intro b h; exact hc a b (by simpa [too] using h) (iha b (by simpa [too] using h))
    | keep u =>
      intro b
      induction b with
      | nil => intro h; simp [frm, too] at h
      | cons t b ih =>
        intro h
        cases t with
        | put y => exact hq y _ b (by simp) (by simpa [frm] using h) (ih (by simpa [frm] using h))
        | keep t => exact hkk u t a b (by simpa [frm, too] using h) (iha b (by simpa [frm, too] using h))
        | cut => exact hkc u a b (by simpa [frm, too] using h) (iha b (by simpa [frm, too] using h))
    | put x =>
      intro b
      induction b with
      | nil => intro h; simp [frm, too] at h
      | cons t b ih =>
        intro h
        cases t with
        | put y => exact hq y _ b (by simp) (by simpa [frm] using h) (ih (by simpa [frm] using h))
        | keep t => exact hpk x t a b (by simpa [frm, too] using h) (iha b (by simpa [frm, too] using h))
        | cut => exact hpc x a b (by simpa [frm, too] using h) (iha b (by simpa [frm, too] using h))

theorem join_frm : ∀ a b, too a = frm b → frm (joinA a b) = frm a ∧ too (joinA a b) = too b := by
  refine join_ind ⟨rfl, rfl⟩ ?_ ?_ ?_ ?_ ?_ ?_
  · intro a b _ h; rw [join_c]; simp [frm, too, h]
  · intro y a b hn _ h; rw [join_q hn]; simp [frm, too, h]
  · intro u t a b _ h; rw [join_kk]; simp [frm, too, h]
  · intro u a b _ h; rw [join_kc]; simp [frm, too, h]
  · intro x t a b _ h; rw [join_pk]; simp [frm, too, h]
  · intro x a b _ h; rw [join_pc]; simp [frm, too, h]

theorem item_mk {x : It} (hx : chkItem x = 0) : x.Mk := by
  unfold chkItem at hx
  split at hx; · simp at hx
  split at hx; · simp at hx
  rename_i h; unfold It.Mk; omega

theorem join_ok : ∀ a b, too a = frm b → (∀ x ∈ a, AcOk x) → (∀ x ∈ b, AcOk x) → ∀ x ∈ joinA a b, AcOk x := by
  refine join_ind (fun _ h => h) ?_ ?_ ?_ ?_ ?_ ?_
  · intro a b _ h ha hb x hx
    rw [join_c] at hx
    rcases List.mem_cons.1 hx with rfl | hx
    · trivial
    · exact h (fun y hy => ha y (List.mem_cons_of_mem _ hy)) hb x hx
  · intro y a b hn _ h ha hb x hx
    rw [join_q hn] at hx
    rcases List.mem_cons.1 hx with rfl | hx
    · exact hb _ (List.mem_cons_self ..)
    · exact h ha (fun y hy => hb y (List.mem_cons_of_mem _ hy)) x hx
  · intro u t a b _ h ha hb x hx
    rw [join_kk] at hx
    rcases List.mem_cons.1 hx with rfl | hx
    · exact bothK_ok (ha (.keep u) (List.mem_cons_self ..)) (hb (.keep t) (List.mem_cons_self ..))
    · exact h (fun y hy => ha y (List.mem_cons_of_mem _ hy)) (fun y hy => hb y (List.mem_cons_of_mem _ hy)) x hx
  · intro u a b _ h ha hb x hx
    rw [join_kc] at hx
    rcases List.mem_cons.1 hx with rfl | hx
    · trivial
    · exact h (fun y hy => ha y (List.mem_cons_of_mem _ hy)) (fun y hy => hb y (List.mem_cons_of_mem _ hy)) x hx
  · intro z t a b _ h ha hb x hx
    rw [join_pk] at hx
    rcases List.mem_cons.1 hx with rfl | hx
    · exact markI_item (ha (.put z) (List.mem_cons_self ..)) (hb (.keep t) (List.mem_cons_self ..))
    · exact h (fun y hy => ha y (List.mem_cons_of_mem _ hy)) (fun y hy => hb y (List.mem_cons_of_mem _ hy)) x hx
  · intro z a b _ h ha hb x hx
    rw [join_pc] at hx
    exact h (fun y hy => ha y (List.mem_cons_of_mem _ hy)) (fun y hy => hb y (List.mem_cons_of_mem _ hy)) x hx

/-- Joined they do what the one, and then the other one, does. -/
theorem join_does : ∀ a b, too a = frm b → (∀ x ∈ a, AcOk x) → (∀ x ∈ b, AcOk x) → ∀ d : List It, d.length = frm a → (∀ x ∈ d, x.Mk) → doA d (joinA a b) = doA (doA d a) b := by
  refine join_ind ?_ ?_ ?_ ?_ ?_ ?_ ?_
  · intro _ _ d hd _; cases d with
    | nil => rfl
    | cons i d => simp [frm] at hd
  · intro a b _ h ha hb d hd hm
    rw [join_c]
    have ih := h (fun y hy => ha y (List.mem_cons_of_mem _ hy)) hb d.tail (by simp [hd, frm]) (fun x hx => hm x (List.mem_of_mem_tail hx))
    simp [doA, ih]
  · intro y a b hn _ h ha hb d hd hm
    rw [join_q hn]
    have ih := h ha (fun y hy => hb y (List.mem_cons_of_mem _ hy)) d hd hm
    simp [doA, ih]
  · intro u t a b _ h ha hb d hd hm
    rw [join_kk]
    cases d with
    | nil => simp [frm] at hd
    | cons i d =>
      have ih := h (fun y hy => ha y (List.mem_cons_of_mem _ hy)) (fun y hy => hb y (List.mem_cons_of_mem _ hy)) d (by simpa [frm] using hd) (fun x hx => hm x (List.mem_cons_of_mem _ hx))
      simp [doA, ih, mark_join (hm i (List.mem_cons_self ..)) (ha (.keep u) (List.mem_cons_self ..)) (hb (.keep t) (List.mem_cons_self ..))]
  · intro u a b _ h ha hb d hd hm
    rw [join_kc]
    cases d with
    | nil => simp [frm] at hd
    | cons i d =>
      have ih := h (fun y hy => ha y (List.mem_cons_of_mem _ hy)) (fun y hy => hb y (List.mem_cons_of_mem _ hy)) d (by simpa [frm] using hd) (fun x hx => hm x (List.mem_cons_of_mem _ hx))
      simp [doA, ih]
  · intro z t a b _ h ha hb d hd hm
    rw [join_pk]
    have ih := h (fun y hy => ha y (List.mem_cons_of_mem _ hy)) (fun y hy => hb y (List.mem_cons_of_mem _ hy)) d (by simpa [frm] using hd) hm
    simp [doA, ih]
  · intro z a b _ h ha hb d hd hm
    rw [join_pc]
    have ih := h (fun y hy => ha y (List.mem_cons_of_mem _ hy)) (fun y hy => hb y (List.mem_cons_of_mem _ hy)) d (by simpa [frm] using hd) hm
    simp [doA, ih]

/-- Joined three in either way, act by act. -/
theorem join_assoc : ∀ a b, too a = frm b → (∀ x ∈ a, AcOk x) → (∀ x ∈ b, AcOk x) → ∀ c, too b = frm c → (∀ x ∈ c, AcOk x) → joinA (joinA a b) c = joinA a (joinA b c) := by
  refine join_ind (fun _ _ c _ _ => rfl) ?_ ?_ ?_ ?_ ?_ ?_
  · intro a b _ h ha hb c hc hcc
    simp only [join_c]
    rw [h (fun y hy => ha y (List.mem_cons_of_mem _ hy)) hb c hc hcc]
  · intro y a b hn _ h ha hb c hc hcc
    rw [join_q hn]
    induction c with
    | nil => simp [too, frm] at hc
    | cons t c ihc =>
      have hcT : ∀ x ∈ c, AcOk x := fun x hx => hcc x (List.mem_cons_of_mem _ hx)
      cases t with
      | put z =>
        rw [join_q (by simp), join_q (by simp), join_q hn, ihc (by simpa [frm] using hc) hcT]
      | keep t =>
        rw [join_pk, join_pk, join_q hn, h ha (fun y hy => hb y (List.mem_cons_of_mem _ hy)) c (by simpa [frm, too] using hc) hcT]
      | cut => rw [join_pc, join_pc, h ha (fun y hy => hb y (List.mem_cons_of_mem _ hy)) c (by simpa [frm, too] using hc) hcT]
  · intro u t a b _ h ha hb c hc hcc
    rw [join_kk]
    induction c with
    | nil => simp [too, frm] at hc
    | cons v c ihc =>
      have hcT : ∀ x ∈ c, AcOk x := fun x hx => hcc x (List.mem_cons_of_mem _ hx)
      have ih := fun hc' => h (fun y hy => ha y (List.mem_cons_of_mem _ hy)) (fun y hy => hb y (List.mem_cons_of_mem _ hy)) c hc' hcT
      cases v with
      | put z => rw [join_q (by simp), join_q (by simp), join_q (by simp), ihc (by simpa [frm] using hc) hcT]
      | keep v =>
        rw [join_kk, join_kk, join_kk, ih (by simpa [frm, too] using hc), bothK_assoc (ha (.keep u) (List.mem_cons_self ..)) (hb (.keep t) (List.mem_cons_self ..)) (hcc (.keep v) (List.mem_cons_self ..))]
      | cut => rw [join_kc, join_kc, join_kc, ih (by simpa [frm, too] using hc)]
  · intro u a b _ h ha hb c hc hcc
    rw [join_kc, join_c, join_c, join_kc, h (fun y hy => ha y (List.mem_cons_of_mem _ hy)) (fun y hy => hb y (List.mem_cons_of_mem _ hy)) c (by simpa [too] using hc) hcc]
  · intro x t a b _ h ha hb c hc hcc
    rw [join_pk]
    induction c with
    | nil => simp [too, frm] at hc
    | cons v c ihc =>
      have hcT : ∀ x ∈ c, AcOk x := fun x hx => hcc x (List.mem_cons_of_mem _ hx)
      have ih := fun hc' => h (fun y hy => ha y (List.mem_cons_of_mem _ hy)) (fun y hy => hb y (List.mem_cons_of_mem _ hy)) c hc' hcT
      cases v with
      | put z => rw [join_q (by simp), join_q (by simp), join_q (by simp), ihc (by simpa [frm] using hc) hcT]
      | keep v =>
        rw [join_pk, join_kk, join_pk, ih (by simpa [frm, too] using hc), mark_join (item_mk (ha (.put x) (List.mem_cons_self ..))) (hb (.keep t) (List.mem_cons_self ..)) (hcc (.keep v) (List.mem_cons_self ..))]
      | cut => rw [join_pc, join_kc, join_pc, ih (by simpa [frm, too] using hc)]
  · intro x a b _ h ha hb c hc hcc
    rw [join_pc, join_c, join_pc, h (fun y hy => ha y (List.mem_cons_of_mem _ hy)) (fun y hy => hb y (List.mem_cons_of_mem _ hy)) c (by simpa [too] using hc) hcc]

/- What is joined is the same, made tidy, whether its parts were made tidy before or not. -/
theorem nrm_norm (ps : List It) (c : Nat) (l : List Ac) : nrm ps c (normA l) = nrm ps c l := by unfold normA; rw [nrm_nrm]; simp
theorem norm_cons {l m : List Ac} (h : normA l = normA m) (a : Ac) : normA (a :: l) = normA (a :: m) := by
  have e : ∀ ps c, nrm ps c l = nrm ps c m := fun ps c => by rw [← nrm_norm, h, nrm_norm]
  cases a <;> simp [normA, nrm, e]
theorem norm_append {l m : List Ac} (h : normA l = normA m) (a : List Ac) : normA (a ++ l) = normA (a ++ m) := by
  induction a with
  | nil => exact h
  | cons x a ih => exact norm_cons ih x
theorem norm_swap (x : It) (l : List Ac) : normA (.cut :: .put x :: l) = normA (.put x :: .cut :: l) := rfl

theorem join_cons_l {a a' : List Ac} (h : ∀ b, normA (joinA a b) = normA (joinA a' b)) (s : Ac) (b : List Ac) : normA (joinA (s :: a) b) = normA (joinA (s :: a') b) := by
  cases s with
  | cut => exact norm_cons (h b) _
  | keep u =>
    induction b with
    | nil => exact h []
    | cons t b ih => cases t with
      | put y => exact norm_cons ih _
      | keep t => exact norm_cons (h b) _
      | cut => exact norm_cons (h b) _
  | put x =>
    induction b with
    | nil => exact h []
    | cons t b ih => cases t with
      | put y => exact norm_cons ih _
      | keep t => exact norm_cons (h b) _
      | cut => exact h b
theorem join_app_l {a a' : List Ac} (h : ∀ b, normA (joinA a b) = normA (joinA a' b)) (p : List Ac) (b : List Ac) : normA (joinA (p ++ a) b) = normA (joinA (p ++ a') b) := by
  induction p generalizing b with
  | nil => exact h b
  | cons s p ih => exact join_cons_l ih s b

theorem join_swap_l (x : It) (a b : List Ac) : normA (joinA (.cut :: .put x :: a) b) = normA (joinA (.put x :: .cut :: a) b) := by
  rw [join_c]
  induction b with
  | nil => rfl
  | cons t b ih => cases t with
    | put y =>
      rw [join_q (by simp), join_q (by simp), norm_swap]
      exact norm_cons ih _
    | keep t => rw [join_pk, join_pk, norm_swap, join_c]
    | cut => rw [join_pc, join_pc, join_c]

theorem join_swaps_l (n : Nat) (x : It) (a b : List Ac) : normA (joinA (List.replicate n .cut ++ .put x :: a) b) = normA (joinA (.put x :: (List.replicate n .cut ++ a)) b) := by
  induction n generalizing b with
  | zero => rfl
  | succ n ih =>
    simp only [List.replicate_succ, List.cons_append]
    rw [join_cons_l ih .cut b]
    exact join_swap_l x _ b

theorem join_nrm_l (l : List Ac) (ps : List It) (c : Nat) (b : List Ac) : normA (joinA (nrm ps c l) b) = normA (joinA (ps.map .put ++ (List.replicate c .cut ++ l)) b) := by
  induction l generalizing ps c b with
  | nil => simp [nrm]
  | cons a l ih =>
    cases a with
    | put x =>
      rw [nrm, ih]
      simp only [List.map_append, List.map_cons, List.map_nil, List.append_assoc, List.cons_append, List.nil_append]
      refine join_app_l (fun b => ?_) _ b
      exact (join_swaps_l c x l b).symm
    | cut =>
      rw [nrm, ih, List.replicate_succ']
      simp
    | keep k =>
      simp only [nrm, List.append_assoc]
      refine join_app_l (fun b => join_app_l (fun b => join_cons_l (fun b => ?_) _ b) _ b) _ b
      rw [ih]; simp
theorem join_norm_l (a b : List Ac) : normA (joinA (normA a) b) = normA (joinA a b) := by
  unfold normA; have := join_nrm_l a [] 0 b; simpa [normA] using this

theorem join_cons_r {b b' : List Ac} (h : ∀ a, normA (joinA a b) = normA (joinA a b')) (t : Ac) (a : List Ac) : normA (joinA a (t :: b)) = normA (joinA a (t :: b')) := by
  induction a with
  | nil => exact norm_cons (h []) t
  | cons s a ih => cases s with
    | cut => exact norm_cons ih _
    | keep u => cases t with
      | put y => exact norm_cons (h (.keep u :: a)) (.put y)
      | keep t => exact norm_cons (h a) _
      | cut => exact norm_cons (h a) _
    | put x => cases t with
      | put y => exact norm_cons (h (.put x :: a)) (.put y)
      | keep t => exact norm_cons (h a) _
      | cut => exact h a
theorem join_app_r {b b' : List Ac} (h : ∀ a, normA (joinA a b) = normA (joinA a b')) (p : List Ac) (a : List Ac) : normA (joinA a (p ++ b)) = normA (joinA a (p ++ b')) := by
  induction p generalizing a with
  | nil => exact h a
  | cons s p ih => exact join_cons_r ih s a

theorem join_put_r (y : It) (a b : List Ac) : normA (joinA a (.put y :: b)) = normA (.put y :: joinA a b) := by
  induction a with
  | nil => rfl
  | cons s a ih => cases s with
    | cut => rw [join_c, join_c, ← norm_swap]; exact norm_cons ih _
    | keep u => rfl
    | put x => rfl
theorem join_swap_r (y : It) (a b : List Ac) : normA (joinA a (.cut :: .put y :: b)) = normA (joinA a (.put y :: .cut :: b)) := by
  rw [join_put_r]
  induction a with
  | nil => rfl
  | cons s a ih => cases s with
    | cut => rw [join_c, join_c, ← norm_swap]; exact norm_cons ih _
    | keep u =>
      rw [join_kc, join_kc, ← norm_swap]
      exact norm_cons (join_put_r y a b) _
    | put x => rw [join_pc, join_pc]; exact join_put_r y a b
theorem join_swaps_r (n : Nat) (y : It) (a b : List Ac) : normA (joinA a (List.replicate n .cut ++ .put y :: b)) = normA (joinA a (.put y :: (List.replicate n .cut ++ b))) := by
  induction n generalizing a with
  | zero => rfl
  | succ n ih =>
    simp only [List.replicate_succ, List.cons_append]
    rw [join_cons_r ih .cut a]
    exact join_swap_r y a _
theorem join_nrm_r (l : List Ac) (ps : List It) (c : Nat) (a : List Ac) : normA (joinA a (nrm ps c l)) = normA (joinA a (ps.map .put ++ (List.replicate c .cut ++ l))) := by
  induction l generalizing ps c a with
  | nil => simp [nrm]
  | cons x l ih =>
    cases x with
    | put x =>
      rw [nrm, ih]
      simp only [List.map_append, List.map_cons, List.map_nil, List.append_assoc, List.cons_append, List.nil_append]
      refine join_app_r (fun a => ?_) _ a
      exact (join_swaps_r c x a l).symm
    | cut =>
      rw [nrm, ih, List.replicate_succ']
      simp
    | keep k =>
      simp only [nrm, List.append_assoc]
      refine join_app_r (fun a => join_app_r (fun a => join_cons_r (fun a => ?_) _ a) _ a) _ a
      rw [ih]; simp
theorem join_norm_r (a b : List Ac) : normA (joinA a (normA b)) = normA (joinA a b) := by
  have := join_nrm_r b [] 0 a; simpa [normA] using this

/- With one that keeps all. -/
theorem bothK_0r {s : Kd} (hs : s.Ok) : bothK s kd0 = s := by
  obtain ⟨a, b, e1, e2, h1⟩ := hs.fin
  obtain ⟨s1, s2, s3, s4⟩ := s
  simp only at e1 e2
  subst e1 e2
  have : ∀ m : Fin 4, bor (bnot (m.val : Int) 0) 0 = (m.val : Int) := by decide
  simp [bothK, kd0]
  exact ⟨this a, this b⟩
theorem bothK_0l {s : Kd} (hs : s.Ok) : bothK kd0 s = s := by
  obtain ⟨a, b, e1, e2, h1⟩ := hs.fin
  have hl := hs.ln
  obtain ⟨s1, s2, s3, s4⟩ := s
  simp only at e1 e2 hl
  subst e1 e2
  have : ∀ m n : Fin 4, bor (bnot 0 (m.val : Int)) (n.val : Int) = (n.val : Int) := by decide
  simp only [bothK, kd0, Kd.mk.injEq]
  refine ⟨this b a, this a b, ?_, ?_⟩
  · cases s3 <;> rfl
  · by_cases h : s4 = []
    · simp [h]
    · simp [(hl h).1]
theorem overK_0 {t : Kd} (ht : t.Ok) : overK t kd0 = t := by
  obtain ⟨a, b, e1, e2, h1⟩ := ht.fin
  obtain ⟨s1, s2, s3, s4⟩ := t
  simp only at e1 e2
  subst e1 e2
  have : ∀ m : Fin 4, bnot (m.val : Int) (bor 0 0) = (m.val : Int) := by decide
  simp [overK, kd0]
  exact ⟨this a, this b⟩

theorem join_keeps_r (a : List Ac) (ha : ∀ x ∈ a, AcOk x) : joinA a (List.replicate (too a) keep0) = a := by
  induction a with
  | nil => rfl
  | cons s a ih =>
    have ih := ih fun x hx => ha x (List.mem_cons_of_mem _ hx)
    have h := ha s (List.mem_cons_self ..)
    cases s with
    | cut => rw [join_c]; simp only [too]; rw [ih]
    | keep u => simp only [too, List.replicate_succ, keep0]; rw [join_kk, bothK_0r h]; exact congrArg _ ih
    | put x => simp only [too, List.replicate_succ, keep0]; rw [join_pk, mark_none x (item_mk h)]; exact congrArg _ ih
theorem join_keeps_l (a : List Ac) (ha : ∀ x ∈ a, AcOk x) : joinA (List.replicate (frm a) keep0) a = a := by
  induction a with
  | nil => rfl
  | cons s a ih =>
    have ih := ih fun x hx => ha x (List.mem_cons_of_mem _ hx)
    have h := ha s (List.mem_cons_self ..)
    cases s with
    | cut => simp only [frm, List.replicate_succ, keep0]; rw [join_kc]; exact congrArg _ ih
    | keep u => simp only [frm, List.replicate_succ, keep0]; rw [join_kk, bothK_0l h]; exact congrArg _ ih
    | put x =>
      simp only [frm]
      rw [join_q (by intro a' h; cases hf : frm a <;> simp [hf, List.replicate_succ, keep0] at h), ih]
theorem turn_keeps (a : List Ac) (ha : ∀ x ∈ a, AcOk x) : turnA a (List.replicate (frm a) keep0) = (a, List.replicate (too a) keep0) := by
  induction a with
  | nil => rfl
  | cons s a ih =>
    have ih := ih fun x hx => ha x (List.mem_cons_of_mem _ hx)
    have h := ha s (List.mem_cons_self ..)
    cases s with
    | put x => rw [turn_p]; simp only [frm, too]; rw [ih]; rfl
    | keep u =>
      simp only [frm, too, List.replicate_succ, keep0] at ih ⊢
      rw [turn_kk, ih]
      simp only [overK]
      obtain ⟨c, d, e3, e4, h2⟩ := Kd.Ok.fin h
      have hz : ∀ m n : Fin 4, bnot 0 (bor (m.val : Int) (n.val : Int)) = 0 := by decide
      simp [kd0, e3, e4, hz]
    | cut => simp only [frm, too, List.replicate_succ, keep0] at ih ⊢; rw [turn_ck, ih]

theorem norm_keeps (n : Nat) (k : Kd) : normA (List.replicate n (.keep k)) = List.replicate n (.keep k) := by
  induction n with
  | zero => rfl
  | succ n ih => simp only [List.replicate_succ, normA, nrm, List.map_nil, List.replicate_zero, List.nil_append]; exact congrArg _ ih
theorem tidy_keeps (n : Nat) (k : Kd) : tidyA (List.replicate (n + 1) (.keep k)) = [keepP k ((n + 1 : Nat) : Int)] := by
  have := tid_keeps [] [] 0 n k []
  rw [List.append_nil] at this
  unfold tidyA
  rw [this]
  simp [tid, flush, addK]
end Go.Mh
/- Operations that are ones: what checking tells of their acts, and what is made tidy; applied, turned, joined; the laws of OpKeeps, OpNothing, OtMeets, OtJoins, OtNothing in plain terms. No program in sight. -/
namespace Go.Mh

/-- The last act keeps. -/
def EndA (l : List Ac) : Prop := ∃ l' c, l = l' ++ [.keep c]
theorem EndA.ne {l : List Ac} (h : EndA l) : l ≠ [] := by obtain ⟨l', c, rfl⟩ := h; simp
theorem EndA.cons {l : List Ac} (h : EndA l) (a : Ac) : EndA (a :: l) := by obtain ⟨l', c, rfl⟩ := h; exact ⟨a :: l', c, rfl⟩
theorem EndA.frm {l : List Ac} (h : EndA l) : 0 < Mh.frm l := by obtain ⟨l', c, rfl⟩ := h; simp [frm_append, Mh.frm]
theorem EndA.too {l : List Ac} (h : EndA l) : 0 < Mh.too l := by obtain ⟨l', c, rfl⟩ := h; simp [too_append, Mh.too]
theorem EndA.tail {a : Ac} {l : List Ac} (h : EndA (a :: l)) (hl : l ≠ []) : EndA l := by
  obtain ⟨l', c, e⟩ := h
  cases l' with
  | nil => simp at e; exact absurd e.2 hl
  | cons b l' => simp at e; exact ⟨l', c, e.2⟩
theorem EndA.keep1 (c : Kd) : EndA [.keep c] := ⟨[], c, rfl⟩
theorem EndA.not_put {x : It} {l : List Ac} (h : EndA (.put x :: l)) : EndA l := by
  refine h.tail ?_
  rintro rfl
  obtain ⟨l', c, e⟩ := h
  cases l' with
  | nil => simp at e
  | cons b l' => simp at e
theorem EndA.not_cut {l : List Ac} (h : EndA (.cut :: l)) : EndA l := by
  refine h.tail ?_
  rintro rfl
  obtain ⟨l', c, e⟩ := h
  cases l' with
  | nil => simp at e
  | cons b l' => simp at e
theorem EndA.keep_or {c : Kd} {l : List Ac} (h : EndA (.keep c :: l)) : l = [] ∨ EndA l := by
  by_cases hl : l = []
  · exact Or.inl hl
  · exact Or.inr (h.tail hl)
theorem endA_append {m : List Ac} (h : EndA m) (l : List Ac) : EndA (l ++ m) := by obtain ⟨l', c, rfl⟩ := h; exact ⟨l ++ l', c, by simp⟩

/- Turned, they end as they did, and are right. -/
theorem turn_end : ∀ a b, frm a = frm b → EndA a → EndA b → EndA (turnA a b).1 ∧ EndA (turnA a b).2 := by
  refine turn_ind ?_ ?_ ?_ ?_ ?_ ?_ ?_
  · intro h _; exact absurd rfl h.ne
  · intro x a b _ h ha hb; rw [turn_p]; obtain ⟨h1, h2⟩ := h ha.not_put hb; exact ⟨h1.cons _, h2.cons _⟩
  · intro y a b hn _ h ha hb; rw [turn_q hn]; obtain ⟨h1, h2⟩ := h ha hb.not_put; exact ⟨h1.cons _, h2.cons _⟩
  · intro u t a b hf h ha hb
    rw [turn_kk]
    rcases ha.keep_or with rfl | ha'
    · rcases hb.keep_or with rfl | hb'
      · exact ⟨EndA.keep1 _, EndA.keep1 _⟩
      · have := hb'.frm; simp [frm] at hf; omega
    · rcases hb.keep_or with rfl | hb'
      · have := ha'.frm; simp [frm] at hf; omega
      · obtain ⟨h1, h2⟩ := h ha' hb'; exact ⟨h1.cons _, h2.cons _⟩
  · intro t a b hf h ha hb
    rw [turn_ck]
    have ha' := ha.not_cut
    rcases hb.keep_or with rfl | hb'
    · have := ha'.frm; simp [frm] at hf; omega
    · obtain ⟨h1, h2⟩ := h ha' hb'; exact ⟨h1.cons _, h2⟩
  · intro u a b hf h ha hb
    rw [turn_kc]
    have hb' := hb.not_cut
    rcases ha.keep_or with rfl | ha'
    · have := hb'.frm; simp [frm] at hf; omega
    · obtain ⟨h1, h2⟩ := h ha' hb'; exact ⟨h1, h2.cons _⟩
  · intro a b hf h ha hb
    rw [turn_cc]
    exact h ha.not_cut hb.not_cut

theorem keep0_ok : AcOk keep0 := kd0_ok
theorem turn_ok : ∀ a b, frm a = frm b → (∀ x ∈ a, AcOk x) → (∀ x ∈ b, AcOk x) → (∀ x ∈ (turnA a b).1, AcOk x) ∧ ∀ x ∈ (turnA a b).2, AcOk x := by
  have tl : ∀ {a : Ac} {l : List Ac}, (∀ x ∈ a :: l, AcOk x) → ∀ x ∈ l, AcOk x := fun h x hx => h x (List.mem_cons_of_mem _ hx)
  have cn : ∀ {a : Ac} {l : List Ac}, AcOk a → (∀ x ∈ l, AcOk x) → ∀ x ∈ a :: l, AcOk x := fun h0 h x hx => by
    rcases List.mem_cons.1 hx with rfl | hx
    · exact h0
    · exact h x hx
  refine turn_ind ?_ ?_ ?_ ?_ ?_ ?_ ?_
  · intro h _; exact ⟨h, h⟩
  · intro x a b _ h ha hb; rw [turn_p]; obtain ⟨h1, h2⟩ := h (tl ha) hb; exact ⟨cn (ha _ (List.mem_cons_self ..)) h1, cn keep0_ok h2⟩
  · intro y a b hn _ h ha hb; rw [turn_q hn]; obtain ⟨h1, h2⟩ := h ha (tl hb); exact ⟨cn keep0_ok h1, cn (hb _ (List.mem_cons_self ..)) h2⟩
  · intro u t a b _ h ha hb
    rw [turn_kk]
    obtain ⟨h1, h2⟩ := h (tl ha) (tl hb)
    have hu : u.Ok := ha (.keep u) (List.mem_cons_self ..)
    have ht : t.Ok := hb (.keep t) (List.mem_cons_self ..)
    exact ⟨cn hu h1, cn (overK_ok ht hu) h2⟩
  · intro t a b _ h ha hb; rw [turn_ck]; obtain ⟨h1, h2⟩ := h (tl ha) (tl hb); exact ⟨cn trivial h1, h2⟩
  · intro u a b _ h ha hb; rw [turn_kc]; obtain ⟨h1, h2⟩ := h (tl ha) (tl hb); exact ⟨h1, cn trivial h2⟩
  · intro a b _ h ha hb; rw [turn_cc]; exact h (tl ha) (tl hb)

theorem join_end : ∀ a b, too a = frm b → EndA a → EndA b → EndA (joinA a b) := by
  refine join_ind ?_ ?_ ?_ ?_ ?_ ?_ ?_
  · intro h _; exact absurd rfl h.ne
  · intro a b _ h ha hb; rw [join_c]; exact (h ha.not_cut hb).cons _
  · intro y a b hn _ h ha hb; rw [join_q hn]; exact (h ha hb.not_put).cons _
  · intro u t a b hf h ha hb
    rw [join_kk]
    rcases ha.keep_or with rfl | ha'
    · rcases hb.keep_or with rfl | hb'
      · exact EndA.keep1 _
      · have := hb'.frm; simp [too] at hf; omega
    · rcases hb.keep_or with rfl | hb'
      · have := ha'.too; simp [frm] at hf; omega
      · exact (h ha' hb').cons _
  · intro u a b hf h ha hb
    rw [join_kc]
    have hb' := hb.not_cut
    rcases ha.keep_or with rfl | ha'
    · have := hb'.frm; simp [too] at hf; omega
    · exact (h ha' hb').cons _
  · intro x t a b hf h ha hb
    rw [join_pk]
    have ha' := ha.not_put
    rcases hb.keep_or with rfl | hb'
    · have := ha'.too; simp [frm] at hf; omega
    · exact (h ha' hb').cons _
  · intro x a b hf h ha hb
    rw [join_pc]
    exact h ha.not_put hb.not_cut

/- Parts and operations that are ones. -/
/-- A part that is one, but for how much. -/
def TP (p : Pt) : Prop := (∃ c n, 0 < n ∧ c.Ok ∧ p = keepP c n) ∨ (∃ l, l ≠ [] ∧ (∀ x ∈ l, chkItem x = 0) ∧ p = putP l) ∨ (∃ n, 0 < n ∧ p = cutP n)

theorem TP.fm {p : Pt} (h : TP p) : Fm p := by
  rcases h with ⟨c, n, hn, _, rfl⟩ | ⟨l, _, _, rfl⟩ | ⟨n, hn, rfl⟩
  · exact Or.inl ⟨c, n, by omega, rfl⟩
  · exact Or.inr (Or.inl ⟨l, rfl⟩)
  · exact Or.inr (Or.inr ⟨n, by omega, rfl⟩)
theorem TP.pos {p : Pt} (h : TP p) (hk : p.k = 1) : 0 < p.n := by
  rcases h with ⟨c, n, hn, _, rfl⟩ | ⟨l, _, _, rfl⟩ | ⟨n, hn, rfl⟩
  · exact hn
  · simp [putP] at hk
  · simp [cutP] at hk
theorem TP.nn {p : Pt} (h : TP p) : 0 ≤ p.n := by
  rcases h with ⟨c, n, hn, _, rfl⟩ | ⟨l, _, _, rfl⟩ | ⟨n, hn, rfl⟩ <;> simp [keepP, putP, cutP] <;> omega

theorem chkItems_all {l : List It} (h : chkItems l = 0) : ∀ x ∈ l, chkItem x = 0 := by
  induction l with
  | nil => intro x hx; simp at hx
  | cons y l ih =>
    simp only [chkItems] at h
    split at h
    · rename_i h0
      intro x hx
      rcases List.mem_cons.1 hx with rfl | hx
      · exact h0
      · exact ih h x hx
    · rename_i h0; exact absurd h h0

theorem chkPt_tp {p : Pt} (h : chkPt p = 0) : TP p ∧ p.n ≤ 80 ∧ p.its.length ≤ 80 := by
  obtain ⟨k, n, its, set, clr, to, l⟩ := p
  simp only [chkPt] at h
  split at h
  · rename_i hk; subst hk
    split at h; · simp at h
    rename_i h1
    split at h; · simp at h
    rename_i h2
    split at h; · simp at h
    rename_i h3
    split at h; · simp at h
    rename_i h4
    simp at h4
    subst h4
    refine ⟨Or.inl ⟨⟨set, clr, to, l⟩, n, by omega, ⟨by simp; omega, by simp; omega, by simp; omega, by simp; omega, ?_, ?_⟩, rfl⟩, by simp; omega, by simp⟩
    · simp only [not_or] at h1; exact Decidable.not_not.1 h1.2.2.2.2
    · intro hl
      simp only at hl ⊢
      have := fun hh => h2 ⟨hl, hh⟩
      constructor
      · cases to
        · exact absurd (Or.inl rfl) this
        · rfl
      · cases hm : may l
        · exact absurd (Or.inr hm) this
        · rfl
  · split at h
    · rename_i hk; subst hk
      split at h; · simp at h
      rename_i h1
      split at h; · rename_i h2; exact absurd h h2
      rename_i h2
      split at h; · simp at h
      rename_i h3
      simp only [not_or, Decidable.not_not] at h3 h1 h2
      obtain ⟨rfl, rfl, rfl, h4, rfl⟩ := h3
      have : to = false := by simpa using h4
      subst this
      exact ⟨Or.inr (Or.inl ⟨its, h1.1, chkItems_all h2, rfl⟩), by simp, by simp; omega⟩
    · split at h
      · rename_i hk; subst hk
        split at h; · simp at h
        rename_i h1
        split at h; · simp at h
        rename_i h3
        simp only [not_or, Decidable.not_not] at h3
        obtain ⟨rfl, rfl, h4, rfl, rfl⟩ := h3
        have : to = false := by simpa using h4
        subst this
        exact ⟨Or.inr (Or.inr ⟨n, by omega, rfl⟩), by simp; omega, by simp⟩
      · simp at h

theorem tp_chk {p : Pt} (h : TP p) (hn : p.n ≤ 80) : chkPt p = if p.its.length ≤ 80 then 0 else 2 := by
  rcases h with ⟨c, n, hn', hc, rfl⟩ | ⟨l, hl, hi, rfl⟩ | ⟨n, hn', rfl⟩
  · have hn2 : n ≤ 80 := hn
    have e := chkPt1 n [] c.set c.clr c.to c.l
    show chkPt ⟨1, n, [], c.set, c.clr, c.to, c.l⟩ = _
    rw [e, if_neg, if_neg, if_neg (by omega)]
    · simp [keepP]
    · rintro ⟨h1, h2⟩
      have := hc.ln h1
      simp [this.1, this.2] at h2
    · have h0 := hc.s0; have h1 := hc.s3; have h2 := hc.c0; have h3 := hc.c3; have h4 := hc.no
      simp only [not_or, Decidable.not_not]
      exact ⟨by omega, by omega, by omega, by omega, h4⟩
  · show chkPt ⟨2, 0, l, 0, 0, false, []⟩ = _
    rw [chkPt2]
    by_cases h80 : l.length ≤ 80
    · rw [if_neg (by simp [hl]; omega), if_neg (by rw [chkItems_none hi]; simp), if_neg (by simp)]
      simp [putP, h80]
    · rw [if_pos (Or.inr (by omega))]; simp [putP, h80]
  · have hn2 : n ≤ 80 := hn
    show chkPt ⟨3, n, [], 0, 0, false, []⟩ = _
    rw [chkPt3, if_neg (by omega), if_neg (by simp)]
    simp [cutP]

theorem frm_actsP {p : Pt} (h : Fm p) : (frm (actsP p) : Int) = p.n := by
  rcases h with ⟨c, n, hn, rfl⟩ | ⟨l, rfl⟩ | ⟨n, hn, rfl⟩
  · rw [actsP_keep, frm_keeps]; simp [keepP]; omega
  · rw [actsP_put, frm_puts]; simp [putP]
  · rw [actsP_cut, frm_cuts]; simp [cutP]; omega

theorem tp_acok {p : Pt} (h : TP p) : ∀ a ∈ actsP p, AcOk a := by
  rcases h with ⟨c, n, hn', hc, rfl⟩ | ⟨l, hl, hi, rfl⟩ | ⟨n, hn', rfl⟩
  · intro a ha; rw [actsP_keep] at ha; obtain ⟨_, rfl⟩ := List.mem_replicate.1 ha; exact hc
  · intro a ha; rw [actsP_put] at ha; obtain ⟨x, hx, rfl⟩ := List.mem_map.1 ha; exact hi x hx
  · intro a ha; rw [actsP_cut] at ha; obtain ⟨_, rfl⟩ := List.mem_replicate.1 ha; trivial
theorem acts_acok {o : List Pt} (h : ∀ p ∈ o, TP p) : ∀ a ∈ acts o, AcOk a := by
  intro a ha
  obtain ⟨p, hp, hpa⟩ := List.mem_flatMap.1 ha
  exact tp_acok (h p hp) a hpa

theorem chkPts_zero {n : Int} {o : List Pt} (h : chkPts n o = 0) : (∀ p ∈ o, chkPt p = 0) ∧ (o ≠ [] → n + (frm (acts o) : Int) ≤ 80) := by
  induction o generalizing n with
  | nil => exact ⟨fun p hp => by simp at hp, fun h => absurd rfl h⟩
  | cons p o ih =>
    simp only [chkPts] at h
    split at h
    · rename_i h0; exact absurd h h0
    · rename_i h0
      split at h
      · simp at h
      · rename_i h80
        have h0' : chkPt p = 0 := Decidable.not_not.1 h0
        obtain ⟨h1, h2⟩ := ih h
        refine ⟨fun q hq => ?_, fun _ => ?_⟩
        · rcases List.mem_cons.1 hq with rfl | hq
          · exact h0'
          · exact h1 q hq
        · have e := frm_actsP (chkPt_tp h0').1.fm
          rw [acts_cons, frm_append]
          by_cases ho : o = []
          · subst ho; simp [acts_nil, frm]; omega
          · have := h2 ho; simp; omega

theorem chkPts_mk {n : Int} {o : List Pt} (h : ∀ p ∈ o, chkPt p = 0) (hn : n + (frm (acts o) : Int) ≤ 80) : chkPts n o = 0 := by
  induction o generalizing n with
  | nil => rfl
  | cons p o ih =>
    have h0 := h p (by simp)
    have e := frm_actsP (chkPt_tp h0).1.fm
    rw [acts_cons, frm_append] at hn
    simp only [chkPts, h0]
    rw [if_neg (by simp), if_neg (by simp at hn; omega)]
    exact ih (fun q hq => h q (by simp [hq])) (by simp at hn; omega)

/-- What checking tells. -/
structure OpOk (o : List Pt) : Prop where
  tp : ∀ p ∈ o, TP p
  n80 : ∀ p ∈ o, p.n ≤ 80
  i80 : ∀ p ∈ o, p.its.length ≤ 80
  len : o.length ≤ 40
  frm : frm (acts o) ≤ 80
  fin : EndA (acts o)

theorem OpOk.ne {o : List Pt} (h : OpOk o) : o ≠ [] := by rintro rfl; exact h.fin.ne rfl
theorem OpOk.ok {o : List Pt} (h : OpOk o) : ∀ a ∈ acts o, AcOk a := acts_acok h.tp
theorem OpOk.fm {o : List Pt} (h : OpOk o) : ∀ p ∈ o, Fm p := fun p hp => (h.tp p hp).fm
theorem OpOk.made {o : List Pt} (h : OpOk o) : madeP o = tidyA (acts o) := madeP_tidy o h.fm fun p hp hk => (h.tp p hp).pos hk

theorem chkOp_ok {o : List Pt} (h : chkOp o = 0) : OpOk o := by
  unfold chkOp at h
  split at h; · simp at h
  rename_i h1
  split at h; · rename_i h2; exact absurd h h2
  rename_i h2
  have h2' : chkPts 0 o = 0 := Decidable.not_not.1 h2
  obtain ⟨h3, h4⟩ := chkPts_zero h2'
  have hne : o ≠ [] := fun e => h1 (Or.inl e)
  have hfr := h4 hne
  refine ⟨fun p hp => (chkPt_tp (h3 p hp)).1, fun p hp => (chkPt_tp (h3 p hp)).2.1, fun p hp => (chkPt_tp (h3 p hp)).2.2, by omega, by omega, ?_⟩
  split at h
  · simp at h
  · rename_i p hp
    split at h
    · rename_i hk
      have hmem : p ∈ o := List.mem_of_getLast? hp
      have htp := (chkPt_tp (h3 p hmem)).1
      have e := dropLast_snoc hp
      rw [e, acts_append, acts_one]
      refine endA_append ?_ _
      rcases htp with ⟨c, n, hn, _, rfl⟩ | ⟨l, _, _, rfl⟩ | ⟨n, hn, rfl⟩
      · rw [actsP_keep]
        obtain ⟨m, rfl⟩ : ∃ m : Nat, n = ((m + 1 : Nat) : Int) := ⟨(n - 1).toNat, by omega⟩
        rw [Int.toNat_natCast, List.replicate_succ']
        exact ⟨_, c, rfl⟩
      · simp [putP] at hk
      · simp [cutP] at hk
    · simp at h

theorem chkOp_mk {o : List Pt} (hne : o ≠ []) (hl : o.length ≤ 40) (h : ∀ p ∈ o, chkPt p = 0) (hn : frm (acts o) ≤ 80) (he : EndsK o) : chkOp o = 0 := by
  obtain ⟨q, hq⟩ : ∃ q, o.getLast? = some q := by
    cases hh : o.getLast? with
    | none => exact absurd (List.getLast?_eq_none_iff.1 hh) hne
    | some q => exact ⟨q, rfl⟩
  unfold chkOp
  rw [if_neg (by simp [hne]; omega), if_neg (by rw [chkPts_mk h (by omega)]; simp)]
  simp [hq, he q hq]

theorem frm_mem {o : List Pt} (h : ∀ p ∈ o, Fm p) {p : Pt} (hp : p ∈ o) : p.n ≤ frm (acts o) := by
  induction o with
  | nil => simp at hp
  | cons q o ih =>
    rw [acts_cons, frm_append]
    rcases List.mem_cons.1 hp with rfl | hp
    · have := frm_actsP (h p (by simp)); omega
    · have := ih (fun r hr => h r (by simp [hr])) hp; omega

/- Tidy ones. -/
theorem tid_tp (out : List Pt) (ps : List It) (c : Nat) (l : List Ac) (ho : ∀ p ∈ out, TP p) (hp : ∀ x ∈ ps, chkItem x = 0) (hl : ∀ a ∈ l, AcOk a) : ∀ p ∈ tid out ps c l, TP p := by
  have hfl : ∀ (out : List Pt) (ps : List It) (c : Nat), (∀ p ∈ out, TP p) → (∀ x ∈ ps, chkItem x = 0) → ∀ p ∈ flush out ps c, TP p := by
    intro out ps c ho hp p hm
    simp only [flush, List.append_assoc, List.mem_append] at hm
    rcases hm with hm | hm | hm
    · exact ho p hm
    · split at hm
      · simp at hm
      · rename_i hne; simp at hm; subst hm; exact Or.inr (Or.inl ⟨ps, hne, hp, rfl⟩)
    · split at hm
      · simp at hm
      · rename_i hne; simp at hm; subst hm; exact Or.inr (Or.inr ⟨c, by omega, rfl⟩)
  induction l generalizing out ps c with
  | nil => exact hfl out ps c ho hp
  | cons a l ih =>
    have hlT : ∀ a ∈ l, AcOk a := fun x hx => hl x (List.mem_cons_of_mem _ hx)
    have ha := hl a (List.mem_cons_self ..)
    cases a with
    | put x =>
      refine ih out (ps ++ [x]) c ho (fun y hy => ?_) hlT
      rcases List.mem_append.1 hy with hy | hy
      · exact hp y hy
      · simp at hy; subst hy; exact ha
    | cut => exact ih out ps (c + 1) ho hp hlT
    | keep k =>
      refine ih _ [] 0 ?_ (by simp) hlT
      have hf := hfl out ps c ho hp
      intro p hm
      by_cases h : ∃ q, (flush out ps c).getLast? = some q ∧ q.k = 1 ∧ q.kd = k
      · obtain ⟨q, hq, h1⟩ := h
        rw [addK_some 1 hq h1] at hm
        rcases List.mem_append.1 hm with hm | hm
        · exact hf p (List.mem_of_mem_take (by rwa [List.dropLast_eq_take] at hm))
        · simp at hm
          subst hm
          rcases hf q (List.mem_of_getLast? hq) with ⟨c', n, hn, hc', rfl⟩ | ⟨_, _, _, rfl⟩ | ⟨_, _, rfl⟩
          · exact Or.inl ⟨c', n + 1, by omega, hc', rfl⟩
          · simp [putP] at h1
          · simp [cutP] at h1
      · rw [addK_new 1 (fun q hq h1 => h ⟨q, hq, h1⟩)] at hm
        rcases List.mem_append.1 hm with hm | hm
        · exact hf p hm
        · simp at hm; subst hm; exact Or.inl ⟨k, 1, by omega, ha, rfl⟩

theorem tid_app (out : List Pt) (ps : List It) (c : Nat) (l m : List Ac) : ∃ out' ps' c', tid out ps c (l ++ m) = tid out' ps' c' m := by
  induction l generalizing out ps c with
  | nil => exact ⟨out, ps, c, rfl⟩
  | cons a l ih => cases a with
    | put x => exact ih out (ps ++ [x]) c
    | cut => exact ih out ps (c + 1)
    | keep k => exact ih _ [] 0

theorem tidyA_ends {l : List Ac} (h : EndA l) : EndsK (tidyA l) ∧ tidyA l ≠ [] := by
  obtain ⟨l', c, rfl⟩ := h
  obtain ⟨out, ps, n, e⟩ := tid_app [] [] 0 l' [.keep c]
  unfold tidyA
  rw [e]
  simp only [tid, flush_nil]
  refine ⟨endsK_addK _ _ _, ?_⟩
  intro h0
  by_cases h : ∃ q, (flush out ps n).getLast? = some q ∧ q.k = 1 ∧ q.kd = c
  · obtain ⟨q, hq, h1⟩ := h
    rw [addK_some 1 hq h1] at h0
    simp at h0
  · rw [addK_new 1 (fun q hq h1 => h ⟨q, hq, h1⟩)] at h0
    simp at h0

/-- What a tidy operation's check says: right, or too many. -/
theorem tidyA_chk {l : List Ac} (hok : ∀ a ∈ l, AcOk a) (he : EndA l) (hf : frm l ≤ 80) : chkOp (tidyA l) = 0 ∨ chkOp (tidyA l) = 2 := by
  have htp : ∀ p ∈ tidyA l, TP p := tid_tp [] [] 0 l (by simp) (by simp) hok
  obtain ⟨h1, h2⟩ := tidyA_ends he
  have hfr : frm (acts (tidyA l)) ≤ 80 := by rw [acts_tidyA, frm_norm]; exact hf
  have hn : ∀ p ∈ tidyA l, p.n ≤ 80 := fun p hp => by have := frm_mem (fun q hq => (htp q hq).fm) hp; omega
  by_cases hl : (tidyA l).length ≤ 40
  · by_cases hb : ∀ p ∈ tidyA l, p.its.length ≤ 80
    · left
      exact chkOp_mk h2 hl (fun p hp => by rw [tp_chk (htp p hp) (hn p hp), if_pos (hb p hp)]) hfr h1
    · right
      have hx : ∀ (n : Int) (o : List Pt), (∀ p ∈ o, TP p) → (∀ p ∈ o, p.n ≤ 80) → (¬ ∀ p ∈ o, p.its.length ≤ 80) → chkPts n o = 2 := by
        intro n o
        induction o generalizing n with
        | nil => intro _ _ h; simp at h
        | cons p o ih =>
          intro ht hn h
          simp only [chkPts]
          rw [tp_chk (ht p (by simp)) (hn p (by simp))]
          by_cases hp : p.its.length ≤ 80
          · rw [if_pos hp, if_neg (by simp)]
            split
            · rfl
            · refine ih _ (fun q hq => ht q (by simp [hq])) (fun q hq => hn q (by simp [hq])) (fun hall => h ?_)
              intro q hq
              rcases List.mem_cons.1 hq with rfl | hq
              · exact hp
              · exact hall q hq
          · rw [if_neg hp, if_pos (by decide)]
      have h3 := hx 0 (tidyA l) htp hn hb
      rw [chkOp_bad (by simp [h2]; omega) (by rw [h3]; decide), h3]
  · right; exact chkOp_many (Or.inr (by omega))

theorem tidyA_chk0 {l : List Ac} (hok : ∀ a ∈ l, AcOk a) (he : EndA l) (hf : frm l ≤ 80) (ht : too l ≤ 80) (hl : (tidyA l).length ≤ 40) : chkOp (tidyA l) = 0 := by
  have htp : ∀ p ∈ tidyA l, TP p := tid_tp [] [] 0 l (by simp) (by simp) hok
  obtain ⟨h1, h2⟩ := tidyA_ends he
  have hfr : frm (acts (tidyA l)) ≤ 80 := by rw [acts_tidyA, frm_norm]; exact hf
  have hto : too (acts (tidyA l)) ≤ 80 := by rw [acts_tidyA, too_norm]; exact ht
  have hn : ∀ p ∈ tidyA l, p.n ≤ 80 := fun p hp => by have := frm_mem (fun q hq => (htp q hq).fm) hp; omega
  refine chkOp_mk h2 hl (fun p hp => ?_) hfr h1
  rw [tp_chk (htp p hp) (hn p hp), if_pos]
  have hx : ∀ (o : List Pt), (∀ p ∈ o, TP p) → ∀ p ∈ o, p.its.length ≤ too (acts o) := by
    intro o
    induction o with
    | nil => intro _ p hp; simp at hp
    | cons q o ih =>
      intro ht p hp
      rw [acts_cons, too_append]
      rcases List.mem_cons.1 hp with rfl | hp
      · rcases ht p (by simp) with ⟨c', n, hn, hc', rfl⟩ | ⟨l, _, _, rfl⟩ | ⟨_, _, rfl⟩
        · simp [keepP]
        · rw [actsP_put, too_puts]; simp [putP]
        · simp [cutP]
      · have := ih (fun r hr => ht r (by simp [hr])) p hp; omega
  have := hx _ htp p hp
  omega

/-- Made tidy an operation has no more parts than before. -/
theorem tid_len (L : List Pt) (out : List Pt) (ps : List It) (c : Nat) (h : ∀ p ∈ L, TP p) : (tid out ps c (acts L)).length ≤ out.length + (if ps = [] then 0 else 1) + (if c = 0 then 0 else 1) + L.length := by
  have hfl : ∀ (out : List Pt) (ps : List It) (c : Nat), (flush out ps c).length = out.length + (if ps = [] then 0 else 1) + (if c = 0 then 0 else 1) := by
    intro out ps c
    unfold flush
    by_cases h1 : ps = [] <;> by_cases h2 : c = 0 <;> simp [h1, h2]
  induction L generalizing out ps c with
  | nil => simp [acts_nil, tid, hfl]
  | cons p L ih =>
    have hL : ∀ q ∈ L, TP q := fun q hq => h q (by simp [hq])
    rw [acts_cons]
    rcases h p (by simp) with ⟨k, n, hn, _, rfl⟩ | ⟨l, hl, _, rfl⟩ | ⟨n, hn, rfl⟩
    · obtain ⟨m, rfl⟩ : ∃ m : Nat, n = ((m + 1 : Nat) : Int) := ⟨(n - 1).toNat, by omega⟩
      rw [actsP_keep, Int.toNat_natCast, tid_keeps]
      have h1 := ih (addK (flush out ps c) k (m + 1)) [] 0 hL
      have h2 : (addK (flush out ps c) k (m + 1)).length ≤ (flush out ps c).length + 1 := by
        by_cases h : ∃ q, (flush out ps c).getLast? = some q ∧ q.k = 1 ∧ q.kd = k
        · obtain ⟨q, hq, h1⟩ := h
          rw [addK_some _ hq h1]; simp
        · rw [addK_new _ (fun q hq h1 => h ⟨q, hq, h1⟩)]; simp
      rw [hfl] at h2
      simp at h1 ⊢
      omega
    · rw [actsP_put, tid_puts]
      have h1 := ih out (ps ++ l) c hL
      have : (if ps ++ l = [] then 0 else 1) ≤ (if ps = [] then 0 else 1) + 1 := by split <;> split <;> omega
      simp only [List.length_cons]
      omega
    · rw [actsP_cut, tid_cuts]
      have h1 := ih out ps (c + n.toNat) hL
      have : (if c + n.toNat = 0 then 0 else 1) ≤ (if c = 0 then 0 else 1) + 1 := by split <;> split <;> omega
      simp only [List.length_cons]
      omega

theorem tidy_ok {o : List Pt} (h : OpOk o) (ht : too (acts o) ≤ 80) : chkOp (tidyA (acts o)) = 0 := by
  refine tidyA_chk0 h.ok h.fin h.frm ht ?_
  have := tid_len o [] [] 0 h.tp
  have := h.len
  unfold tidyA
  simp at *
  omega

/- Applied. -/
def w64 (n : Int) : Int := Go.IntKind.i64.wrap n
def longs (f t : Int) : List Pt → Int × Int
  | [] => (f, t)
  | p :: l => if p.k = 1 then longs (w64 (f + p.n)) (w64 (t + p.n)) l else if p.k = 2 then longs f (w64 (t + p.its.length)) l else if p.k = 3 then longs (w64 (f + p.n)) t l else longs f t l

theorem w64_small {n : Int} (h0 : 0 ≤ n) (h1 : n ≤ 100000) : w64 n = n := by
  have : Go.IntKind.i64.wrap n = n := by
    simp [Go.IntKind.wrap, Go.IntKind.bits, Go.IntKind.signed]
    omega
  exact this

theorem longs_ok (o : List Pt) (f t : Int) (hf : 0 ≤ f) (ht : 0 ≤ t) (h : ∀ p ∈ o, TP p) (hff : f + frm (acts o) ≤ 100000) (htt : t + too (acts o) ≤ 100000) : longs f t o = (f + frm (acts o), t + too (acts o)) := by
  induction o generalizing f t with
  | nil => simp [longs, acts_nil, frm, too]
  | cons p o ih =>
    have hT : ∀ q ∈ o, TP q := fun q hq => h q (by simp [hq])
    rw [acts_cons, frm_append] at hff
    rw [acts_cons, too_append] at htt
    rw [acts_cons, frm_append, too_append]
    rcases h p (by simp) with ⟨k, n, hn, _, rfl⟩ | ⟨l, hl, _, rfl⟩ | ⟨n, hn, rfl⟩
    · rw [actsP_keep, frm_keeps] at hff
      rw [actsP_keep, too_keeps] at htt
      rw [actsP_keep, frm_keeps, too_keeps]
      have e : longs f t (keepP k n :: o) = longs (w64 (f + n)) (w64 (t + n)) o := by simp [longs, keepP]
      rw [e, w64_small (by omega) (by omega), w64_small (by omega) (by omega), ih _ _ (by omega) (by omega) hT (by omega) (by omega)]
      simp only [Prod.mk.injEq]
      omega
    · rw [actsP_put, frm_puts] at hff
      rw [actsP_put, too_puts] at htt
      rw [actsP_put, frm_puts, too_puts]
      have e : longs f t (putP l :: o) = longs f (w64 (t + l.length)) o := by simp [longs, putP]
      rw [e, w64_small (by omega) (by omega), ih _ _ (by omega) (by omega) hT (by omega) (by omega)]
      simp only [Prod.mk.injEq]
      omega
    · rw [actsP_cut, frm_cuts] at hff
      rw [actsP_cut, too_cuts] at htt
      rw [actsP_cut, frm_cuts, too_cuts]
      have e : longs f t (cutP n :: o) = longs (w64 (f + n)) t o := by simp [longs, cutP]
      rw [e, w64_small (by omega) (by omega), ih _ _ (by omega) (by omega) hT (by omega) (by omega)]
      simp only [Prod.mk.injEq]
      omega

theorem too_bound {o : List Pt} (h : ∀ p ∈ o, TP p) (hn : ∀ p ∈ o, p.its.length ≤ 80) : too (acts o) ≤ frm (acts o) + 80 * o.length := by
  induction o with
  | nil => simp [acts_nil, too]
  | cons p o ih =>
    have := ih (fun q hq => h q (by simp [hq])) (fun q hq => hn q (by simp [hq]))
    rw [acts_cons, too_append, frm_append]
    simp only [List.length_cons]
    rcases h p (by simp) with ⟨k, n, hn', _, rfl⟩ | ⟨l, hl, _, rfl⟩ | ⟨n, hn', rfl⟩
    · rw [actsP_keep, too_keeps, frm_keeps]; omega
    · have h80 := hn (putP l) (by simp)
      simp only [putP] at h80
      rw [actsP_put, too_puts, frm_puts]; omega
    · rw [actsP_cut, too_cuts, frm_cuts]; omega

theorem OpOk.too {o : List Pt} (h : OpOk o) : Mh.too (acts o) ≤ 3280 := by
  have := too_bound h.tp h.i80; have := h.frm; have := h.len; omega
theorem OpOk.longs {o : List Pt} (h : OpOk o) : Mh.longs 0 0 o = ((Mh.frm (acts o) : Int), (Mh.too (acts o) : Int)) := by
  have h1 := h.frm; have h2 := h.too
  rw [longs_ok o 0 0 (by omega) (by omega) h.tp (by omega) (by omega)]; simp

def applyP (d : List It) (o : List Pt) : List It × Int :=
  if chkDoc d ≠ 0 then ([], chkDoc d)
  else if chkOp o ≠ 0 then ([], chkOp o)
  else if frm (acts o) ≠ d.length then ([], 6)
  else if 80 < too (acts o) then ([], 2)
  else (doA d (acts o), 0)

structure Applies (d : List It) (o : List Pt) : Prop where
  doc : chkDoc d = 0
  op : chkOp o = 0
  base : frm (acts o) = d.length
  t80 : too (acts o) ≤ 80

theorem Applies.eq {d : List It} {o : List Pt} (h : Applies d o) : applyP d o = (doA d (acts o), 0) := by
  have h1 := h.t80
  simp only [applyP, h.doc, h.op, h.base]
  simp
  omega
theorem Applies.of {d : List It} {o : List Pt} (h : (applyP d o).2 = 0) : Applies d o := by
  unfold applyP at h
  split at h; · rename_i h1; exact absurd h h1
  rename_i h1
  split at h; · rename_i h2; exact absurd h h2
  rename_i h2
  split at h; · simp at h
  rename_i h3
  split at h; · simp at h
  rename_i h4
  exact ⟨Decidable.not_not.1 h1, Decidable.not_not.1 h2, Decidable.not_not.1 h3, by omega⟩

theorem doc_facts {d : List It} (h : chkDoc d = 0) : (∀ x ∈ d, chkItem x = 0) ∧ d.length ≤ 80 ∧ ∃ d' x, d = d' ++ [x] ∧ (x.c.toNat : Int) = 10 := by
  unfold chkDoc at h
  split at h; · simp at h
  rename_i h1
  split at h; · rename_i h2; exact absurd h h2
  rename_i h2
  refine ⟨chkItems_all (Decidable.not_not.1 h2), by omega, ?_⟩
  split at h
  · simp at h
  · rename_i x hx
    split at h
    · rename_i hc; exact ⟨d.dropLast, x, dropLast_snoc hx, hc⟩
    · simp at h
theorem doc_mk {d : List It} (h : ∀ x ∈ d, chkItem x = 0) (hl : d.length ≤ 80) (he : ∃ d' x, d = d' ++ [x] ∧ (x.c.toNat : Int) = 10) : chkDoc d = 0 := by
  obtain ⟨d', x, rfl, hc⟩ := he
  unfold chkDoc
  rw [if_neg (by omega), if_neg (by rw [chkItems_none h]; simp)]
  simp [hc]

theorem do_items {d : List It} {l : List Ac} (hd : ∀ x ∈ d, chkItem x = 0) (hl : ∀ a ∈ l, AcOk a) : ∀ x ∈ doA d l, chkItem x = 0 := by
  induction l generalizing d with
  | nil => intro x hx; simp [doA] at hx
  | cons a l ih =>
    have hlT : ∀ a ∈ l, AcOk a := fun x hx => hl x (List.mem_cons_of_mem _ hx)
    have ha := hl a (List.mem_cons_self ..)
    have hdT : ∀ x ∈ d.tail, chkItem x = 0 := fun x hx => hd x (List.mem_of_mem_tail hx)
    cases a with
    | put y =>
      intro x hx
      simp only [doA] at hx
      rcases List.mem_cons.1 hx with rfl | hx
      · exact ha
      · exact ih hd hlT x hx
    | cut => intro x hx; exact ih hdT hlT x hx
    | keep k =>
      intro x hx
      simp only [doA] at hx
      rcases List.mem_append.1 hx with hx | hx
      · obtain ⟨y, hy, rfl⟩ := List.mem_map.1 hx
        exact markI_item (hd y (List.mem_of_mem_take hy)) ha
      · exact ih hdT hlT x hx

theorem doA_append (d : List It) (l m : List Ac) : doA d (l ++ m) = doA d l ++ doA (d.drop (frm l)) m := by
  induction l generalizing d with
  | nil => simp [doA, frm]
  | cons a l ih =>
    cases a with
    | put y => simp [doA, frm, ih]
    | cut => simp only [List.cons_append, doA, frm]; rw [ih, List.drop_tail]
    | keep k => simp only [List.cons_append, doA, frm]; rw [ih, List.drop_tail]; simp

theorem do_last {d d' : List It} {x : It} {l : List Ac} (hd : d = d' ++ [x]) (he : EndA l) (hf : frm l = d.length) : ∃ e' c, doA d l = e' ++ [markI x c] := by
  obtain ⟨l', c, rfl⟩ := he
  rw [doA_append]
  have : frm l' = d'.length := by subst hd; simp [frm_append, frm] at hf; omega
  rw [this, hd]
  refine ⟨doA (d' ++ [x]) l', c, ?_⟩
  simp [doA]

theorem do_doc {d : List It} {l : List Ac} (hd : chkDoc d = 0) (hl : ∀ a ∈ l, AcOk a) (he : EndA l) (hf : frm l = d.length) (ht : too l ≤ 80) : chkDoc (doA d l) = 0 := by
  obtain ⟨h1, h2, d', x, h3, h4⟩ := doc_facts hd
  refine doc_mk (do_items h1 hl) (by rw [doA_len d l (by omega)]; exact ht) ?_
  obtain ⟨e', c, e⟩ := do_last h3 he hf
  exact ⟨e', markI x c, e, h4⟩

theorem Applies.res {d : List It} {o : List Pt} (h : Applies d o) : chkDoc (doA d (acts o)) = 0 ∧ (doA d (acts o)).length = too (acts o) := by
  have hk := chkOp_ok h.op
  exact ⟨do_doc h.doc hk.ok hk.fin h.base h.t80, doA_len _ _ (by have := h.base; omega)⟩
theorem doc_mks {d : List It} (hd : chkDoc d = 0) : ∀ x ∈ d, x.Mk := fun x hx => item_mk ((doc_facts hd).1 x hx)

/- The laws on operations. -/
theorem law_keeps {d : List It} {o : List Pt} (h : Applies d o) : chkOp (madeP o) = 0 ∧ madeP (madeP o) = madeP o ∧ applyP d (madeP o) = (doA d (acts o), 0) := by
  have hk := chkOp_ok h.op
  have h1 : chkOp (madeP o) = 0 := by rw [hk.made]; exact tidy_ok hk h.t80
  have hk1 := chkOp_ok h1
  refine ⟨h1, ?_, ?_⟩
  · rw [hk1.made, hk.made, acts_tidyA, tidyA_norm]
  · have ha : acts (madeP o) = normA (acts o) := by rw [hk.made, acts_tidyA]
    have : Applies d (madeP o) := ⟨h.doc, h1, by rw [ha, frm_norm]; exact h.base, by rw [ha, too_norm]; exact h.t80⟩
    rw [this.eq, ha, doA_norm]

def keepAll (n : Nat) : List Pt := [keepP kd0 n]
theorem keepAll_ok {n : Nat} (h1 : 1 ≤ n) (h2 : n ≤ 80) : chkOp (keepAll n) = 0 := by
  refine chkOp_mk (by simp [keepAll]) (by simp [keepAll]) ?_ ?_ ?_
  · intro p hp
    simp [keepAll] at hp
    subst hp
    rw [tp_chk (Or.inl ⟨kd0, n, by omega, kd0_ok, rfl⟩) (by simp [keepP]; omega)]
    simp [keepP]
  · simp [keepAll, acts_one, actsP_keep, frm_keeps]; omega
  · intro q hq; simp [keepAll] at hq; subst hq; rfl
theorem acts_keepAll (n : Nat) : acts (keepAll n) = List.replicate n keep0 := by simp [keepAll, acts_one, actsP_keep, keep0]
theorem doA_keepAll (d : List It) (n : Nat) (hn : d.length ≤ n) (hd : ∀ x ∈ d, x.Mk) : doA d (List.replicate n keep0) = d := by
  have := doA_keeps d n kd0 []
  rw [List.append_nil] at this
  show doA d (List.replicate n (.keep kd0)) = d
  rw [this]
  simp only [doA, List.append_nil, List.take_of_length_le hn]
  conv => rhs; rw [← List.map_id d]
  exact List.map_congr_left fun x hx => mark_none x (hd x hx)
theorem law_nothing {d : List It} (hd : chkDoc d = 0) : applyP d (keepAll d.length) = (d, 0) := by
  obtain ⟨h1, h2, d', x, h3, h4⟩ := doc_facts hd
  have hl : 1 ≤ d.length := by rw [h3]; simp
  have : Applies d (keepAll d.length) := ⟨hd, keepAll_ok hl h2, by rw [acts_keepAll]; simp [keep0, frm_keeps], by rw [acts_keepAll]; simp [keep0, too_keeps]; exact h2⟩
  rw [this.eq, acts_keepAll, doA_keepAll d _ (Nat.le_refl _) (doc_mks hd)]

/- Turned and joined, with their checks. -/
def chk2 (x y : List Pt) : List Pt × List Pt × Int := if chkOp x ≠ 0 then ([], [], chkOp x) else if chkOp y ≠ 0 then ([], [], chkOp y) else (x, y, 0)
def turnP (a b : List Pt) : List Pt × List Pt × Int :=
  if chkOp a ≠ 0 then ([], [], chkOp a)
  else if chkOp b ≠ 0 then ([], [], chkOp b)
  else if frm (acts a) ≠ frm (acts b) then ([], [], 6)
  else chk2 (tidyA (turnA (acts a) (acts b)).1) (tidyA (turnA (acts a) (acts b)).2)
def joinP (a b : List Pt) : List Pt × Int :=
  if chkOp a ≠ 0 then ([], chkOp a)
  else if chkOp b ≠ 0 then ([], chkOp b)
  else if too (acts a) ≠ frm (acts b) then ([], 6)
  else if chkOp (tidyA (joinA (acts a) (acts b))) ≠ 0 then ([], chkOp (tidyA (joinA (acts a) (acts b))))
  else (tidyA (joinA (acts a) (acts b)), 0)

structure Turns (a b : List Pt) : Prop where
  ca : chkOp a = 0
  cb : chkOp b = 0
  base : frm (acts a) = frm (acts b)
  cx : chkOp (tidyA (turnA (acts a) (acts b)).1) = 0
  cy : chkOp (tidyA (turnA (acts a) (acts b)).2) = 0
theorem Turns.eq {a b : List Pt} (h : Turns a b) : turnP a b = (tidyA (turnA (acts a) (acts b)).1, tidyA (turnA (acts a) (acts b)).2, 0) := by
  simp [turnP, chk2, h.ca, h.cb, h.base, h.cx, h.cy]
theorem Turns.of {a b : List Pt} (h : (turnP a b).2.2 = 0) : Turns a b := by
  unfold turnP at h
  split at h; · rename_i h1; exact absurd h h1
  rename_i h1
  split at h; · rename_i h2; exact absurd h h2
  rename_i h2
  split at h; · simp at h
  rename_i h3
  unfold chk2 at h
  split at h; · rename_i h4; exact absurd h h4
  rename_i h4
  split at h; · rename_i h5; exact absurd h h5
  rename_i h5
  exact ⟨Decidable.not_not.1 h1, Decidable.not_not.1 h2, Decidable.not_not.1 h3, Decidable.not_not.1 h4, Decidable.not_not.1 h5⟩

structure Joins (a b : List Pt) : Prop where
  ca : chkOp a = 0
  cb : chkOp b = 0
  base : too (acts a) = frm (acts b)
  cj : chkOp (tidyA (joinA (acts a) (acts b))) = 0
theorem Joins.eq {a b : List Pt} (h : Joins a b) : joinP a b = (tidyA (joinA (acts a) (acts b)), 0) := by
  simp [joinP, h.ca, h.cb, h.base, h.cj]
theorem Joins.of {a b : List Pt} (h : (joinP a b).2 = 0) : Joins a b := by
  unfold joinP at h
  split at h; · rename_i h1; exact absurd h h1
  rename_i h1
  split at h; · rename_i h2; exact absurd h h2
  rename_i h2
  split at h; · simp at h
  rename_i h3
  split at h; · rename_i h4; exact absurd h h4
  rename_i h4
  exact ⟨Decidable.not_not.1 h1, Decidable.not_not.1 h2, Decidable.not_not.1 h3, Decidable.not_not.1 h4⟩

/-- Turned operations, where none has too many. -/
theorem turnP_err {a b : List Pt} (ha : chkOp a = 0) (hb : chkOp b = 0) (hf : frm (acts a) = frm (acts b)) (hta : too (acts a) ≤ 80) (htb : too (acts b) ≤ 80) : (turnP a b).2.2 = 0 ∨ (turnP a b).2.2 = 2 := by
  have ka := chkOp_ok ha
  have kb := chkOp_ok hb
  obtain ⟨f1, f2, _⟩ := turn_frm _ _ hf
  obtain ⟨e1, e2⟩ := turn_end _ _ hf ka.fin kb.fin
  obtain ⟨o1, o2⟩ := turn_ok _ _ hf ka.ok kb.ok
  have c1 := tidyA_chk o1 e1 (by omega)
  have c2 := tidyA_chk o2 e2 (by omega)
  simp only [turnP, ha, hb, hf, chk2]
  rcases c1 with c1 | c1 <;> rcases c2 with c2 | c2 <;> simp [c1, c2]

theorem law_meets {d : List It} {a b : List Pt} (ha : Applies d a) (hb : Applies d b) : ((turnP a b).2.2 = 2) ∨ (Turns a b ∧
    (applyP (doA d (acts a)) (turnP a b).2.1).2 = (applyP (doA d (acts b)) (turnP a b).1).2 ∧ ((applyP (doA d (acts a)) (turnP a b).2.1).2 = 0 ∨ (applyP (doA d (acts a)) (turnP a b).2.1).2 = 2) ∧
    (applyP (doA d (acts a)) (turnP a b).2.1).1 = (applyP (doA d (acts b)) (turnP a b).1).1) := by
  have hf : frm (acts a) = frm (acts b) := by rw [ha.base, hb.base]
  rcases turnP_err ha.op hb.op hf ha.t80 hb.t80 with h0 | h2
  · right
    have ht := Turns.of h0
    have ka := chkOp_ok ha.op
    have kb := chkOp_ok hb.op
    obtain ⟨f1, f2, f3⟩ := turn_frm _ _ hf
    refine ⟨ht, ?_⟩
    rw [ht.eq]
    obtain ⟨r1, l1⟩ := ha.res
    obtain ⟨r2, l2⟩ := hb.res
    have hm := turn_meets _ _ hf ka.ok kb.ok d ha.base.symm (doc_mks ha.doc)
    simp only [applyP, r1, r2, ht.cx, ht.cy, acts_tidyA, frm_norm, too_norm, f1, f2, f3, l1, l2, doA_norm, hm]
    by_cases h80 : 80 < too (turnA (acts a) (acts b)).2 <;> simp [h80]
  · exact Or.inl h2

theorem joinP_err {a b : List Pt} (ha : chkOp a = 0) (hb : chkOp b = 0) (hf : too (acts a) = frm (acts b)) : (joinP a b).2 = 0 ∨ (joinP a b).2 = 2 := by
  have ka := chkOp_ok ha
  have kb := chkOp_ok hb
  obtain ⟨f1, f2⟩ := join_frm _ _ hf
  have c1 := tidyA_chk (join_ok _ _ hf ka.ok kb.ok) (join_end _ _ hf ka.fin kb.fin) (by have := ka.frm; omega)
  simp only [joinP, ha, hb, hf]
  rcases c1 with c1 | c1 <;> simp [c1]

theorem law_joins {d : List It} {a b : List Pt} (ha : Applies d a) (hb : Applies (doA d (acts a)) b) : ((joinP a b).2 = 2) ∨ (Joins a b ∧ Applies d (joinP a b).1 ∧ doA d (acts (joinP a b).1) = doA (doA d (acts a)) (acts b)) := by
  have hf : too (acts a) = frm (acts b) := by rw [hb.base, ha.res.2]
  rcases joinP_err ha.op hb.op hf with h0 | h2
  · right
    have hj := Joins.of h0
    have ka := chkOp_ok ha.op
    have kb := chkOp_ok hb.op
    obtain ⟨f1, f2⟩ := join_frm _ _ hf
    refine ⟨hj, ?_⟩
    rw [hj.eq]
    refine ⟨⟨ha.doc, hj.cj, ?_, ?_⟩, ?_⟩
    · rw [acts_tidyA, frm_norm, f1]; exact ha.base
    · rw [acts_tidyA, too_norm, f2]; exact hb.t80
    · rw [acts_tidyA, doA_norm]; exact join_does _ _ hf ka.ok kb.ok d ha.base.symm (doc_mks ha.doc)
  · exact Or.inl h2

/-- Joined three in either way. -/
theorem law_joins3 {a b c : List Pt} (hab : Joins a b) (hbc : Joins b c) (hm : Joins (joinP a b).1 c) : joinP a (joinP b c).1 = joinP (joinP a b).1 c := by
  have e1 := hab.eq
  have e2 := hbc.eq
  have e3 := hm.eq
  rw [e1] at e3 hm
  rw [e1, e2, e3]
  have ka := chkOp_ok hab.ca
  have kb := chkOp_ok hab.cb
  have kc := chkOp_ok hbc.cb
  simp only at hm ⊢
  rw [acts_tidyA] at *
  have f2 := (join_frm _ _ hbc.base).1
  have hj : tidyA (joinA (acts a) (normA (joinA (acts b) (acts c)))) = tidyA (joinA (normA (joinA (acts a) (acts b))) (acts c)) := by
    rw [tidyA_eq, join_norm_l, join_norm_r, join_assoc _ _ hab.base ka.ok kb.ok _ hbc.base kc.ok]
  have hmj := hm.cj
  rw [acts_tidyA] at hmj
  have : Joins a (tidyA (joinA (acts b) (acts c))) := ⟨hab.ca, hbc.cj, by rw [acts_tidyA, frm_norm, f2]; exact hab.base, by rw [acts_tidyA, hj]; exact hmj⟩
  rw [this.eq, acts_tidyA, hj]

/-- Behind, and joined with, one that keeps all. -/
theorem law_ot_nothing {o : List Pt} (h : chkOp o = 0) (ht : chkOp (madeP o) = 0) (h80 : too (acts o) ≤ 80) :
    turnP o (keepAll (frm (acts o))) = (madeP o, keepAll (too (acts o)), 0) ∧ joinP o (keepAll (too (acts o))) = (madeP o, 0) ∧ joinP (keepAll (frm (acts o))) o = (madeP o, 0) := by
  have ko := chkOp_ok h
  have k1 := keepAll_ok ko.fin.frm ko.frm
  have k2 := keepAll_ok ko.fin.too h80
  have em := ko.made
  have hk : ∀ n, tidyA (List.replicate (n + 1) keep0) = keepAll (n + 1) := fun n => tidy_keeps n kd0
  obtain ⟨m, hm⟩ : ∃ m, too (acts o) = m + 1 := ⟨too (acts o) - 1, by have := ko.fin.too; omega⟩
  have t1 := turn_keeps _ ko.ok
  have a1 := join_keeps_r _ ko.ok
  have a2 := join_keeps_l _ ko.ok
  have ff : ∀ n, frm (List.replicate n keep0) = n := fun n => frm_keeps n kd0
  have tt : ∀ n, too (List.replicate n keep0) = n := fun n => too_keeps n kd0
  refine ⟨?_, ?_, ?_⟩
  · have : Turns o (keepAll (frm (acts o))) := ⟨h, k1, by rw [acts_keepAll, ff], by rw [acts_keepAll, t1]; simp only; rw [← em]; exact ht, by rw [acts_keepAll, t1]; simp only; rw [hm, hk, ← hm]; exact k2⟩
    rw [this.eq, acts_keepAll, t1, em]
    simp only
    rw [hm, hk]
  · have : Joins o (keepAll (too (acts o))) := ⟨h, k2, by rw [acts_keepAll, ff], by rw [acts_keepAll, a1, ← em]; exact ht⟩
    rw [this.eq, acts_keepAll, a1, em]
  · have : Joins (keepAll (frm (acts o))) o := ⟨k1, h, by rw [acts_keepAll, tt], by rw [acts_keepAll, a2, ← em]; exact ht⟩
    rw [this.eq, acts_keepAll, a2, em]

end Go.Mh
/- Made: what holds ahead of each round. Plain. -/
namespace Go.Mh

/-- Parts that Made is called with. -/
structure Lok (L : List Pt) : Prop where
  fm : ∀ p ∈ L, Fm p
  keep : ∀ p ∈ L, p.k = 1 → 0 < p.n
  len : L.length ≤ 1000
  n : ∀ p ∈ L, p.n ≤ 100
  its : ∀ p ∈ L, p.its.length ≤ 100

theorem Fm.n0 {p : Pt} (h : Fm p) : 0 ≤ p.n := by
  rcases h with ⟨c, n, h, rfl⟩ | ⟨l, rfl⟩ | ⟨n, h, rfl⟩
  · exact h
  · exact Int.le_refl _
  · exact h
theorem Fm.its0 {p : Pt} (h : Fm p) (hk : p.k ≠ 2) : p.its = [] := by
  rcases h with ⟨c, n, h, rfl⟩ | ⟨l, rfl⟩ | ⟨n, h, rfl⟩
  · rfl
  · exact absurd rfl hk
  · rfl

/-- What is made so far holds numbers of at most N. -/
def Low (O : List Pt) (N : Nat) : Prop := ∀ q ∈ O, q.k ≠ 2 → q.its = [] ∧ 0 ≤ q.n ∧ q.n ≤ (N : Int)
theorem Low.mono {O : List Pt} {N M : Nat} (h : Low O N) (hm : N ≤ M) : Low O M := fun q hq hk => by obtain ⟨h1, h2, h3⟩ := h q hq hk; exact ⟨h1, h2, by omega⟩
theorem alike_k {a b : Pt} (h : alikeP a b = true) : a.k = b.k := by simp [alikeP] at h; exact h.1.1.1.1

theorem addP_low {O : List Pt} {N M : Nat} {p : Pt} (h : Low O N) (hp : p.k ≠ 2 → p.its = [] ∧ 0 ≤ p.n ∧ p.n ≤ (M : Int)) : Low (addP O p) (N + M) := by
  have h' : Low O (N + M) := h.mono (by omega)
  unfold addP
  split
  · exact h'
  · split
    · rename_i q hq
      split
      · rename_i ha
        intro r hr hk
        rw [List.mem_append, List.mem_singleton] at hr
        rcases hr with hr | rfl
        · exact h' r (List.dropLast_subset _ hr) hk
        · simp only at hk ⊢
          obtain ⟨h1, h2, h3⟩ := h q (List.mem_of_getLast? hq) hk
          obtain ⟨g1, g2, g3⟩ := hp (by rw [← alike_k ha]; exact hk)
          exact ⟨by rw [h1, g1]; rfl, by omega, by omega⟩
      · intro r hr hk
        rw [List.mem_append, List.mem_singleton] at hr
        rcases hr with hr | rfl
        · exact h' r hr hk
        · obtain ⟨g1, g2, g3⟩ := hp hk
          exact ⟨g1, g2, by omega⟩
    · intro r hr hk
      rw [List.mem_append, List.mem_singleton] at hr
      rcases hr with hr | rfl
      · exact h' r hr hk
      · obtain ⟨g1, g2, g3⟩ := hp hk
        exact ⟨g1, g2, by omega⟩
theorem addP_len (O : List Pt) (p : Pt) : (addP O p).length ≤ O.length + 1 := by
  unfold addP
  split
  · omega
  · split
    · split
      · simp
      · simp
    · simp
theorem addP_last {O : List Pt} {p r : Pt} (h : (addP O p).getLast? = some r) : O.getLast? = some r ∨ r.k = p.k := by
  unfold addP at h
  split at h
  · exact Or.inl h
  · split at h
    · split at h
      · rename_i ha
        simp at h
        rw [← h]
        exact Or.inr (alike_k ha)
      · simp at h
        rw [← h]
        exact Or.inr rfl
    · simp at h
      rw [← h]
      exact Or.inr rfl
theorem addP_keepEnds {O : List Pt} {p : Pt} (hk : p.k = 1) (hn : 0 < p.n) : EndsK (addP O p) := by
  intro r hr
  unfold addP at hr
  rw [if_neg (by rintro (⟨_, h⟩ | ⟨h, _⟩) <;> omega)] at hr
  split at hr
  · split at hr
    · rename_i ha
      simp at hr
      rw [← hr]
      exact (alike_k ha).trans hk
    · simp at hr
      rw [← hr]
      exact hk
  · simp at hr
    rw [← hr]
    exact hk

structure MadeI (L O : List Pt) (i : Nat) : Prop where
  le : i ≤ L.length
  eq : mk2 O [] 0 (L.drop i) = madeP L
  len : O.length ≤ 2 * i
  low : Low O (100 * i)
  ends : ∀ p, L[i]? = some p → p.k ≠ 1 → EndsK O

structure MadeJ (L O : List Pt) (i j : Nat) (its : List It) (n : Int) : Prop where
  ij : i ≤ j
  le : j ≤ L.length
  eq : mk2 O its n (L.drop j) = madeP L
  len : O.length ≤ 2 * i
  low : Low O (100 * i)
  ends : EndsK O
  il : its.length + 100 * i ≤ 100 * j
  n0 : 0 ≤ n
  n1 : n + 100 * i ≤ 100 * j

theorem drop_at {α : Type} {L : List α} {i : Nat} {p : α} (h : L[i]? = some p) : L.drop i = p :: L.drop (i + 1) := by
  obtain ⟨hl, rfl⟩ := List.getElem?_eq_some_iff.1 h
  exact List.drop_eq_getElem_cons hl

theorem made_start (L : List Pt) : MadeI L [] 0 := ⟨Nat.zero_le _, rfl, Nat.le_refl _, fun q hq => by simp at hq, fun p _ _ q hq => by simp at hq⟩
theorem made_end {L O : List Pt} (h : MadeI L O L.length) : O = madeP L := by
  have := h.eq
  rw [List.drop_length] at this
  simpa [mk2, addP_put_nil, addP_cut_zero] using this
theorem made_keep {L O : List Pt} {i : Nat} {p : Pt} (hL : Lok L) (h : MadeI L O i) (hp : L[i]? = some p) (hk : p.k = 1) : MadeI L (addP O p) (i + 1) := by
  have hm := List.mem_of_getElem? hp
  have hl := (List.getElem?_eq_some_iff.1 hp).1
  refine ⟨hl, ?_, by have := addP_len O p; have := h.len; omega, ?_, fun _ _ _ => addP_keepEnds hk (hL.keep p hm hk)⟩
  · have := h.eq
    rw [drop_at hp] at this
    simpa [mk2, hk, addP_put_nil, addP_cut_zero] using this
  · exact addP_low (M := 100) h.low fun h2 => ⟨(hL.fm p hm).its0 h2, (hL.fm p hm).n0, hL.n p hm⟩
theorem made_open {L O : List Pt} {i : Nat} {p : Pt} (h : MadeI L O i) (hp : L[i]? = some p) (hk : p.k ≠ 1) : MadeJ L O i i [] 0 :=
  ⟨Nat.le_refl _, h.le, h.eq, h.len, h.low, h.ends p hp hk, by simp, Int.le_refl _, by simp⟩
theorem made_step {L O : List Pt} {i j : Nat} {its : List It} {n : Int} {p : Pt} (hL : Lok L) (h : MadeJ L O i j its n) (hp : L[j]? = some p) (hk : p.k ≠ 1) : MadeJ L O i (j + 1) (its ++ p.its) (n + p.n) := by
  have hm := List.mem_of_getElem? hp
  have hl := (List.getElem?_eq_some_iff.1 hp).1
  have h1 := hL.n p hm
  have h2 := hL.its p hm
  have h3 := (hL.fm p hm).n0
  have h4 := h.il
  have h5 := h.n1
  have h6 := h.ij
  refine ⟨by omega, hl, ?_, h.len, h.low, h.ends, by simp; omega, by have := h.n0; omega, by omega⟩
  have := h.eq
  rw [drop_at hp] at this
  simpa [mk2, hk] using this
theorem made_shut {L O : List Pt} {i j : Nat} {its : List It} {n : Int} (h : MadeJ L O i j its n) (hij : i < j) (hx : ∀ p, L[j]? = some p → p.k = 1) : MadeI L (addP (addP O (putP its)) (cutP n)) j := by
  refine ⟨h.le, ?_, ?_, ?_, fun p hp hk => absurd (hx p hp) hk⟩
  · rw [← h.eq]
    rcases Nat.lt_or_ge j L.length with hl | hl
    · obtain ⟨p, hp⟩ : ∃ p, L[j]? = some p := ⟨_, List.getElem?_eq_getElem hl⟩
      rw [drop_at hp, mk2_keep O its n p _ (hx p hp)]
    · rw [List.drop_eq_nil_of_le hl, mk2_end O its n]
  · have h1 := addP_len (addP O (putP its)) (cutP n)
    have h2 := addP_len O (putP its)
    have := h.len
    omega
  · have h1 := addP_low (p := putP its) (M := 0) h.low fun hk => absurd rfl hk
    have hn := h.n0
    have hn1 := h.n1
    have h2 := addP_low (p := cutP n) (M := n.toNat) h1 fun _ => ⟨rfl, hn, by simp only [cutP]; omega⟩
    exact h2.mono (by omega)
theorem made_keep_q {L O : List Pt} {i : Nat} {p : Pt} (hL : Lok L) (h : MadeI L O i) (hk : p.k = 1) : ∀ q, O.getLast? = some q → alikeP q p = true → p.k ≠ 2 ∧ q.its = [] ∧ 0 ≤ q.n ∧ q.n ≤ 1000000 := fun q hq ha => by
  have hk2 : q.k ≠ 2 := by rw [alike_k ha]; omega
  obtain ⟨h1, h2, h3⟩ := h.low q (List.mem_of_getLast? hq) hk2
  have := h.le
  have := hL.len
  exact ⟨by omega, h1, h2, by omega⟩
theorem made_put_q {L O : List Pt} {i j : Nat} {its : List It} {n : Int} (h : MadeJ L O i j its n) : ∀ q, O.getLast? = some q → alikeP q (putP its) = true → (putP its).k ≠ 2 ∧ q.its = [] ∧ 0 ≤ q.n ∧ q.n ≤ 1000000 := fun q hq ha => by
  have h1 := alike_k ha
  rw [h.ends q hq] at h1
  simp [putP] at h1
theorem made_cut_q {L O : List Pt} {i j : Nat} {its : List It} {n : Int} (h : MadeJ L O i j its n) : ∀ q, (addP O (putP its)).getLast? = some q → alikeP q (cutP n) = true → (cutP n).k ≠ 2 ∧ q.its = [] ∧ 0 ≤ q.n ∧ q.n ≤ 1000000 := fun q hq ha => by
  have h1 := alike_k ha
  rcases addP_last hq with h2 | h2
  · rw [h.ends q h2] at h1
    simp [cutP] at h1
  · rw [h2] at h1
    simp [cutP, putP] at h1
end Go.Mh
/- Turned and joined part by part: what the program's loops keep. No program in sight. -/
namespace Go.Mh

def pt0 : Pt := ⟨0, 0, [], 0, 0, false, []⟩
theorem actsP_none {p : Pt} (hn : p.n = 0) (hi : p.its = []) : actsP p = [] := by simp [actsP, hn, hi]

/-- A reader: what is left of the part that is read, and the parts behind. -/
structure RdOk (p : Pt) (o : List Pt) : Prop where
  left : (p.n = 0 ∧ p.its = []) ∨ TP p
  tp : ∀ x ∈ o, TP x
  n80 : p.n ≤ 80 ∧ ∀ x ∈ o, x.n ≤ 80
  i80 : p.its.length ≤ 80 ∧ ∀ x ∈ o, x.its.length ≤ 80

def rdA (p : Pt) (o : List Pt) : List Ac := actsP p ++ acts o
def moreR (p : Pt) (o : List Pt) : Bool × Pt × List Pt :=
  if p.n = 0 ∧ p.its = [] then (match o with | [] => (false, p, []) | x :: o' => (true, x, o')) else (true, p, o)
def cntR (p : Pt) (o : List Pt) : Nat := (if p.n = 0 ∧ p.its = [] then 0 else 1) + o.length

theorem TP.full {p : Pt} (h : TP p) : ¬ (p.n = 0 ∧ p.its = []) := by
  rcases h with ⟨c, n, hn, _, rfl⟩ | ⟨l, hl, _, rfl⟩ | ⟨n, hn, rfl⟩
  · simp [keepP]; omega
  · simp [putP, hl]
  · simp [cutP]; omega
theorem RdOk.nn {p : Pt} {o : List Pt} (h : RdOk p o) : 0 ≤ p.n := by
  rcases h.left with ⟨h1, _⟩ | h1
  · omega
  · exact h1.nn
theorem RdOk.start {o : List Pt} (h : OpOk o) : RdOk pt0 o := ⟨Or.inl ⟨rfl, rfl⟩, h.tp, ⟨by decide, h.n80⟩, ⟨by decide, h.i80⟩⟩
theorem RdOk.moreT {p x : Pt} {o : List Pt} (h : RdOk p (x :: o)) (he : p.n = 0 ∧ p.its = []) : RdOk x o ∧ TP x ∧ rdA x o = rdA p (x :: o) ∧ cntR x o ≤ cntR p (x :: o) := by
  refine ⟨⟨Or.inr (h.tp x (List.mem_cons_self ..)), fun y hy => h.tp y (List.mem_cons_of_mem _ hy), ⟨h.n80.2 x (List.mem_cons_self ..), fun y hy => h.n80.2 y (List.mem_cons_of_mem _ hy)⟩, ⟨h.i80.2 x (List.mem_cons_self ..), fun y hy => h.i80.2 y (List.mem_cons_of_mem _ hy)⟩⟩, h.tp x (List.mem_cons_self ..), ?_, ?_⟩
  · simp [rdA, acts_cons, actsP_none he.1 he.2]
  · have := (h.tp x (List.mem_cons_self ..)).full
    simp [cntR, he, this]; omega
theorem RdOk.full {p : Pt} {o : List Pt} (h : RdOk p o) (he : ¬ (p.n = 0 ∧ p.its = [])) : TP p := by
  rcases h.left with h1 | h1
  · exact absurd h1 he
  · exact h1
/-- What 'more' leaves. -/
theorem RdOk.more {p : Pt} {o : List Pt} (h : RdOk p o) {m : Bool} {p' : Pt} {o' : List Pt} (e : moreR p o = (m, p', o')) :
    RdOk p' o' ∧ rdA p' o' = rdA p o ∧ cntR p' o' ≤ cntR p o ∧ (m = true → TP p') ∧ (m = false → rdA p' o' = []) := by
  unfold moreR at e
  split at e
  · rename_i he
    cases o with
    | nil =>
      simp at e
      obtain ⟨rfl, rfl, rfl⟩ := e
      exact ⟨h, rfl, Nat.le_refl _, fun h => by simp at h, fun _ => by simp [rdA, actsP_none he.1 he.2, acts]⟩
    | cons x o =>
      simp at e
      obtain ⟨rfl, rfl, rfl⟩ := e
      obtain ⟨h1, h2, h3, h4⟩ := h.moreT he
      exact ⟨h1, h3, h4, fun _ => h2, fun h => by simp at h⟩
  · rename_i he
    simp at e
    obtain ⟨rfl, rfl, rfl⟩ := e
    exact ⟨h, rfl, Nat.le_refl _, fun _ => h.full he, fun h => by simp at h⟩
/-- How much is left, for the loop's end. -/
def wgtR (p : Pt) (o : List Pt) : Nat := 1000 * o.length + p.n.toNat + p.its.length
theorem RdOk.wgt {p : Pt} {o : List Pt} (h : RdOk p o) {m : Bool} {p' : Pt} {o' : List Pt} (e : moreR p o = (m, p', o')) : wgtR p' o' ≤ wgtR p o := by
  unfold moreR at e
  split at e
  · cases o with
    | nil => simp at e; obtain ⟨rfl, rfl, rfl⟩ := e; exact Nat.le_refl _
    | cons x o =>
      simp at e
      obtain ⟨rfl, rfl, rfl⟩ := e
      have h1 := h.n80.2 x (List.mem_cons_self ..)
      have h2 := h.i80.2 x (List.mem_cons_self ..)
      simp [wgtR]; omega
  · simp at e; obtain ⟨rfl, rfl, rfl⟩ := e; exact Nat.le_refl _

/- Turned, many at once. -/
theorem turn_ps (l : List It) (a b : List Ac) : turnA (l.map .put ++ a) b = (l.map .put ++ (turnA a b).1, List.replicate l.length keep0 ++ (turnA a b).2) := by
  induction l with
  | nil => rfl
  | cons x l ih => simp only [List.map_cons, List.cons_append, turn_p, ih, List.length_cons, List.replicate_succ]
theorem turn_qs (l : List It) (a b : List Ac) (h : ∀ x a', a ≠ .put x :: a') : turnA a (l.map .put ++ b) = (List.replicate l.length keep0 ++ (turnA a b).1, l.map .put ++ (turnA a b).2) := by
  induction l with
  | nil => rfl
  | cons x l ih => simp only [List.map_cons, List.cons_append, turn_q h, ih, List.length_cons, List.replicate_succ]
theorem turn_kks (n : Nat) (u t : Kd) (a b : List Ac) : turnA (List.replicate n (.keep u) ++ a) (List.replicate n (.keep t) ++ b) = (List.replicate n (.keep u) ++ (turnA a b).1, List.replicate n (.keep (overK t u)) ++ (turnA a b).2) := by
  induction n with
  | zero => rfl
  | succ n ih => simp only [List.replicate_succ, List.cons_append, turn_kk, ih]
theorem turn_cks (n : Nat) (t : Kd) (a b : List Ac) : turnA (List.replicate n .cut ++ a) (List.replicate n (.keep t) ++ b) = (List.replicate n .cut ++ (turnA a b).1, (turnA a b).2) := by
  induction n with
  | zero => rfl
  | succ n ih => simp only [List.replicate_succ, List.cons_append, turn_ck, ih]
theorem turn_kcs (n : Nat) (u : Kd) (a b : List Ac) : turnA (List.replicate n (.keep u) ++ a) (List.replicate n .cut ++ b) = ((turnA a b).1, List.replicate n .cut ++ (turnA a b).2) := by
  induction n with
  | zero => rfl
  | succ n ih => simp only [List.replicate_succ, List.cons_append, turn_kc, ih]
theorem turn_ccs (n : Nat) (a b : List Ac) : turnA (List.replicate n .cut ++ a) (List.replicate n .cut ++ b) = turnA a b := by
  induction n with
  | zero => rfl
  | succ n ih => simp only [List.replicate_succ, List.cons_append, turn_cc, ih]

/-- What a list of parts that is made must keep. -/
structure Lk (L : List Pt) : Prop where
  fm : ∀ p ∈ L, Fm p
  keep : ∀ p ∈ L, p.k = 1 → 0 < p.n
  n : ∀ p ∈ L, p.n ≤ 100
  its : ∀ p ∈ L, p.its.length ≤ 100
theorem Lk.lok {L : List Pt} (h : Lk L) (hl : L.length ≤ 1000) : Lok L := ⟨h.fm, h.keep, hl, h.n, h.its⟩
theorem Lk.nil : Lk [] := ⟨fun p h => by simp at h, fun p h => by simp at h, fun p h => by simp at h, fun p h => by simp at h⟩
theorem Lk.snoc {L : List Pt} (h : Lk L) {p : Pt} (h1 : Fm p) (h2 : p.k = 1 → 0 < p.n) (h3 : p.n ≤ 100) (h4 : p.its.length ≤ 100) : Lk (L ++ [p]) := by
  refine ⟨fun q hq => ?_, fun q hq => ?_, fun q hq => ?_, fun q hq => ?_⟩ <;> (rcases List.mem_append.1 hq with hq | hq)
  · exact h.fm q hq
  · simp at hq; subst hq; exact h1
  · exact h.keep q hq
  · simp at hq; subst hq; exact h2
  · exact h.n q hq
  · simp at hq; subst hq; exact h3
  · exact h.its q hq
  · simp at hq; subst hq; exact h4

def overP (t s : Pt) : Pt := ⟨t.k, t.n, t.its, bnot t.set (bor s.set s.clr), bnot t.clr (bor s.set s.clr), if s.to = true then false else t.to, if s.to = true then [] else t.l⟩
def bothP (s t : Pt) : Pt := ⟨s.k, s.n, s.its, bor (bnot s.set t.clr) t.set, bor (bnot s.clr t.set) t.clr, if t.to = true then true else s.to, if t.to = true then t.l else s.l⟩
theorem overP_keep (c d : Kd) (n m : Int) : overP (keepP c n) (keepP d m) = keepP (overK c d) n := rfl
theorem bothP_keep (c d : Kd) (n m : Int) : bothP (keepP c n) (keepP d m) = keepP (bothK c d) n := rfl

/-- Ahead of each round of Turn. -/
structure TurnI (a b X Y : List Pt) (p : Pt) (o : List Pt) (q : Pt) (u : List Pt) : Prop where
  rp : RdOk p o
  rq : RdOk q u
  fr : frm (rdA p o) = frm (rdA q u)
  x : acts X ++ (turnA (rdA p o) (rdA q u)).1 = (turnA (acts a) (acts b)).1
  y : acts Y ++ (turnA (rdA p o) (rdA q u)).2 = (turnA (acts a) (acts b)).2
  lx : Lk X
  ly : Lk Y
  nx : X.length + cntR p o + cntR q u ≤ 80
  ny : Y.length + cntR p o + cntR q u ≤ 80

theorem turnI_start {a b : List Pt} (ha : OpOk a) (hb : OpOk b) (hf : frm (acts a) = frm (acts b)) : TurnI a b [] [] pt0 a pt0 b := by
  have h1 := ha.len
  have h2 := hb.len
  exact ⟨RdOk.start ha, RdOk.start hb, hf, rfl, rfl, Lk.nil, Lk.nil, by simp [cntR, pt0]; omega, by simp [cntR, pt0]; omega⟩
theorem turnI_more {a b X Y : List Pt} {p : Pt} {o : List Pt} {q : Pt} {u : List Pt} (h : TurnI a b X Y p o q u) {m m2 : Bool} {p' q' : Pt} {o' u' : List Pt} (e : moreR p o = (m, p', o')) (e2 : moreR q u = (m2, q', u')) :
    TurnI a b X Y p' o' q' u' ∧ (m = true → TP p') ∧ (m = false → rdA p' o' = []) ∧ (m2 = true → TP q') ∧ (m2 = false → rdA q' u' = []) := by
  obtain ⟨h1, h2, h3, h4, h5⟩ := h.rp.more e
  obtain ⟨g1, g2, g3, g4, g5⟩ := h.rq.more e2
  have n1 := h.nx
  have n2 := h.ny
  exact ⟨⟨h1, g1, by rw [h2, g2]; exact h.fr, by rw [h2, g2]; exact h.x, by rw [h2, g2]; exact h.y, h.lx, h.ly, by omega, by omega⟩, h4, h5, g4, g5⟩

theorem TP.k2 {p : Pt} (h : TP p) (hk : p.k = 2) : ∃ l, l ≠ [] ∧ (∀ x ∈ l, chkItem x = 0) ∧ p = putP l := by
  rcases h with ⟨c, n, hn, _, rfl⟩ | h | ⟨n, hn, rfl⟩
  · simp [keepP] at hk
  · exact h
  · simp [cutP] at hk
theorem TP.k1 {p : Pt} (h : TP p) (hk : p.k = 1) : ∃ c n, 0 < n ∧ c.Ok ∧ p = keepP c n := by
  rcases h with h | ⟨l, _, _, rfl⟩ | ⟨n, hn, rfl⟩
  · exact h
  · simp [putP] at hk
  · simp [cutP] at hk
theorem TP.k3 {p : Pt} (h : TP p) (h1 : p.k ≠ 1) (h2 : p.k ≠ 2) : ∃ n, 0 < n ∧ p = cutP n := by
  rcases h with ⟨c, n, hn, _, rfl⟩ | ⟨l, _, _, rfl⟩ | h
  · simp [keepP] at h1
  · simp [putP] at h2
  · exact h
theorem TP.k4 {p : Pt} (h : TP p) : p.k = 1 ∨ p.k = 2 ∨ p.k = 3 := by
  rcases h with ⟨c, n, hn, _, rfl⟩ | ⟨l, _, _, rfl⟩ | ⟨n, hn, rfl⟩
  · exact Or.inl rfl
  · exact Or.inr (Or.inl rfl)
  · exact Or.inr (Or.inr rfl)
theorem TP.pos2 {p : Pt} (h : TP p) (hk : p.k ≠ 2) : 0 < p.n := by
  rcases h with ⟨c, n, hn, _, rfl⟩ | ⟨l, _, _, rfl⟩ | ⟨n, hn, rfl⟩
  · exact hn
  · simp [putP] at hk
  · exact hn
theorem rdA_pt0 (o : List Pt) : rdA pt0 o = acts o := rfl
theorem rdA_put (l : List It) (o : List Pt) : rdA (putP l) o = l.map .put ++ acts o := rfl
theorem rdA_keep (c : Kd) (n : Int) (o : List Pt) : rdA (keepP c n) o = List.replicate n.toNat (.keep c) ++ acts o := rfl
theorem rdA_cut (n : Int) (o : List Pt) : rdA (cutP n) o = List.replicate n.toNat .cut ++ acts o := rfl
theorem cntR_pt0 (o : List Pt) : cntR pt0 o = o.length := by simp [cntR, pt0]
theorem cntR_full {p : Pt} (h : TP p) (o : List Pt) : cntR p o = 1 + o.length := by simp only [cntR, if_neg h.full]
theorem RdOk.none {p : Pt} {o : List Pt} (h : RdOk p o) : RdOk pt0 o := ⟨Or.inl ⟨rfl, rfl⟩, h.tp, ⟨by decide, h.n80.2⟩, ⟨by decide, h.i80.2⟩⟩

theorem turnI_p {a b X Y : List Pt} {p : Pt} {o : List Pt} {q : Pt} {u : List Pt} (h : TurnI a b X Y p o q u) (hp : TP p) (hk : p.k = 2) :
    TurnI a b (X ++ [p]) (Y ++ [keepP kd0 p.its.length]) pt0 o q u := by
  obtain ⟨l, hl, hi, rfl⟩ := hp.k2 hk
  have hi8 := h.rp.i80.1
  have e := turn_ps l (acts o) (rdA q u)
  have hx := h.x; have hy := h.y; have hf := h.fr
  rw [rdA_put] at hx hy hf
  rw [e] at hx hy
  have n1 := h.nx; have n2 := h.ny
  rw [cntR_full hp] at n1 n2
  have hpos : 0 < l.length := List.length_pos_iff.2 hl
  refine ⟨h.rp.none, h.rq, ?_, ?_, ?_, h.lx.snoc hp.fm (fun e => by simp [putP] at e) (by simp [putP]) (by simp [putP] at hi8 ⊢; omega), h.ly.snoc (Or.inl ⟨kd0, _, by omega, rfl⟩) (fun _ => by simp only [keepP, putP]; omega) (by simp only [keepP, putP] at hi8 ⊢; omega) (by simp [keepP]), ?_, ?_⟩
  · rw [rdA_pt0, ← hf, frm_append, frm_puts]; omega
  · rw [rdA_pt0, acts_append, acts_one, actsP_put, ← hx]; simp
  · rw [rdA_pt0, acts_append, acts_one, actsP_keep, ← hy]; simp [putP, keep0]
  · rw [cntR_pt0]; simp; omega
  · rw [cntR_pt0]; simp; omega
theorem turnI_q {a b X Y : List Pt} {p : Pt} {o : List Pt} {q : Pt} {u : List Pt} (h : TurnI a b X Y p o q u) (hn : ∀ x a', rdA p o ≠ .put x :: a') (hq : TP q) (hk : q.k = 2) :
    TurnI a b (X ++ [keepP kd0 q.its.length]) (Y ++ [q]) p o pt0 u := by
  obtain ⟨l, hl, hi, rfl⟩ := hq.k2 hk
  have hi8 := h.rq.i80.1
  have e := turn_qs l (rdA p o) (acts u) hn
  have hx := h.x; have hy := h.y; have hf := h.fr
  rw [rdA_put] at hx hy hf
  rw [e] at hx hy
  have n1 := h.nx; have n2 := h.ny
  rw [cntR_full hq] at n1 n2
  have hpos : 0 < l.length := List.length_pos_iff.2 hl
  refine ⟨h.rp, h.rq.none, ?_, ?_, ?_, h.lx.snoc (Or.inl ⟨kd0, _, by omega, rfl⟩) (fun _ => by simp only [keepP, putP]; omega) (by simp only [keepP, putP] at hi8 ⊢; omega) (by simp [keepP]), h.ly.snoc hq.fm (fun e => by simp [putP] at e) (by simp [putP]) (by simp [putP] at hi8 ⊢; omega), ?_, ?_⟩
  · rw [rdA_pt0, hf, frm_append, frm_puts]; omega
  · rw [rdA_pt0, acts_append, acts_one, actsP_keep, ← hx]; simp [putP, keep0]
  · rw [rdA_pt0, acts_append, acts_one, actsP_put, ← hy]; simp
  · rw [cntR_pt0]; simp; omega
  · rw [cntR_pt0]; simp; omega
/-- Ahead of a part that is not put nothing is put. -/
theorem noput {p : Pt} {o : List Pt} (h : TP p ∧ p.k ≠ 2 ∨ rdA p o = []) : ∀ x a', rdA p o ≠ .put x :: a' := by
  intro x a' e
  rcases h with ⟨h, hk⟩ | h
  · rcases h with ⟨c, n, hn, _, rfl⟩ | ⟨l, _, _, rfl⟩ | ⟨n, hn, rfl⟩
    · obtain ⟨m, hm⟩ : ∃ m, n.toNat = m + 1 := ⟨n.toNat - 1, by omega⟩
      rw [rdA_keep, hm] at e; simp [List.replicate_succ] at e
    · simp [putP] at hk
    · obtain ⟨m, hm⟩ : ∃ m, n.toNat = m + 1 := ⟨n.toNat - 1, by omega⟩
      rw [rdA_cut, hm] at e; simp [List.replicate_succ] at e
  · rw [h] at e; simp at e
theorem frm_pos {p : Pt} {o : List Pt} (h : TP p) (hk : p.k ≠ 2) : 0 < frm (rdA p o) := by
  rcases h with ⟨c, n, hn, _, rfl⟩ | ⟨l, _, _, rfl⟩ | ⟨n, hn, rfl⟩
  · rw [rdA_keep, frm_append, frm_keeps]; omega
  · simp [putP] at hk
  · rw [rdA_cut, frm_append, frm_cuts]; omega
theorem too_pos {p : Pt} {o : List Pt} (h : TP p) (hk : p.k ≠ 3) : 0 < too (rdA p o) := by
  rcases h with ⟨c, n, hn, _, rfl⟩ | ⟨l, hl, _, rfl⟩ | ⟨n, hn, rfl⟩
  · rw [rdA_keep, too_append, too_keeps]; omega
  · have := List.length_pos_iff.2 hl; rw [rdA_put, too_append, too_puts]; omega
  · simp [cutP] at hk
/-- Where the one has nothing left the other one has not either. -/
theorem turnI_end {a b X Y : List Pt} {p : Pt} {o : List Pt} {q : Pt} {u : List Pt} (h : TurnI a b X Y p o q u) (hp : TP p ∧ p.k ≠ 2 ∨ rdA p o = []) (hq : TP q ∧ q.k ≠ 2 ∨ rdA q u = []) (he : rdA p o = [] ∨ rdA q u = []) :
    acts X = (turnA (acts a) (acts b)).1 ∧ acts Y = (turnA (acts a) (acts b)).2 := by
  have hf := h.fr
  have h1 : rdA p o = [] := by
    rcases hp with ⟨h1, h2⟩ | h1
    · rcases he with he | he
      · exact he
      · have := frm_pos (o := o) h1 h2; rw [hf, he] at this; simp [frm] at this
    · exact h1
  have h2 : rdA q u = [] := by
    rcases hq with ⟨h2, h3⟩ | h2
    · have := frm_pos (o := u) h2 h3; rw [← hf, h1] at this; simp [frm] at this
    · exact h2
  have hx := h.x; have hy := h.y
  rw [h1, h2] at hx hy
  have e0 : turnA [] [] = ([], []) := rfl
  rw [e0] at hx hy
  exact ⟨by simpa using hx, by simpa using hy⟩

/-- A part of which n are taken. -/
def takeN (p : Pt) (n : Int) : Pt := { p with n := n }
def restN (p : Pt) (n : Int) : Pt := { p with n := p.n - n }
theorem rep_split {α : Type} (x : α) {m n : Int} (h0 : 0 ≤ n) (h : n ≤ m) : List.replicate m.toNat x = List.replicate n.toNat x ++ List.replicate (m - n).toNat x := by
  rw [List.replicate_append_replicate]; congr 1; omega
theorem RdOk.rest {p : Pt} {o : List Pt} (h : RdOk p o) (hp : TP p) (hk : p.k ≠ 2) {n : Int} (h0 : 0 < n) (hn : n ≤ p.n) : RdOk (restN p n) o := by
  refine ⟨?_, h.tp, ⟨by have := h.n80.1; simp only [restN]; omega, h.n80.2⟩, h.i80⟩
  by_cases e : p.n = n
  · left
    refine ⟨by simp [restN, e], ?_⟩
    exact hp.fm.its0 hk
  · right
    rcases hp with ⟨c, m, hm, hc, rfl⟩ | ⟨l, hl, _, rfl⟩ | ⟨m, hm, rfl⟩
    · simp [keepP] at hn e
      exact Or.inl ⟨c, m - n, by omega, hc, rfl⟩
    · simp [putP] at hk
    · simp [cutP] at hn e
      exact Or.inr (Or.inr ⟨m - n, by omega, rfl⟩)
theorem cntR_rest {p : Pt} (_ : TP p) (n : Int) (o : List Pt) : cntR (restN p n) o ≤ 1 + o.length := by
  unfold cntR; split <;> omega
theorem cntR_gone {p : Pt} (hp : TP p) (hk : p.k ≠ 2) (o : List Pt) : cntR (restN p p.n) o = o.length := by
  have : (restN p p.n).n = 0 ∧ (restN p p.n).its = [] := ⟨by simp [restN], hp.fm.its0 hk⟩
  simp only [cntR, if_pos this]; omega
theorem cnt_both {p q : Pt} (hp : TP p) (hk : p.k ≠ 2) (hq : TP q) (hj : q.k ≠ 2) {n : Int} (hn : n = p.n ∨ n = q.n) (o u : List Pt) : cntR (restN p n) o + cntR (restN q n) u + 1 ≤ cntR p o + cntR q u := by
  rw [cntR_full hp, cntR_full hq]
  have h1 := cntR_rest hp n o
  have h2 := cntR_rest hq n u
  rcases hn with rfl | rfl
  · rw [cntR_gone hp hk]; omega
  · rw [cntR_gone hq hj]; omega

theorem turnI_kk {a b X Y : List Pt} {p : Pt} {o : List Pt} {q : Pt} {u : List Pt} (h : TurnI a b X Y p o q u) (hp : TP p) (hk : p.k = 1) (hq : TP q) (hj : q.k = 1) {n : Int} (h0 : 0 < n) (h1 : n ≤ p.n) (h2 : n ≤ q.n) (hn : n = p.n ∨ n = q.n) :
    TurnI a b (X ++ [takeN p n]) (Y ++ [overP (takeN q n) (takeN p n)]) (restN p n) o (restN q n) u := by
  have cb := cnt_both hp (by omega) hq (by omega) hn o u
  have r1 := h.rp.rest hp (by omega) h0 h1
  have r2 := h.rq.rest hq (by omega) h0 h2
  have n8 := h.rp.n80.1
  have hx := h.x; have hy := h.y; have hf := h.fr; have n1 := h.nx; have n2 := h.ny
  obtain ⟨c, m, hm, hc, rfl⟩ := hp.k1 hk
  obtain ⟨d, m2, hm2, hd, rfl⟩ := hq.k1 hj
  simp only [keepP] at h1 h2 n8
  have e1 : rdA (keepP c m) o = List.replicate n.toNat (.keep c) ++ rdA (keepP c (m - n)) o := by rw [rdA_keep, rdA_keep, rep_split _ (by omega) h1, List.append_assoc]
  have e2 : rdA (keepP d m2) u = List.replicate n.toNat (.keep d) ++ rdA (keepP d (m2 - n)) u := by rw [rdA_keep, rdA_keep, rep_split _ (by omega) h2, List.append_assoc]
  rw [e1, e2, turn_kks] at hx hy
  rw [e1, e2, frm_append, frm_append, frm_keeps, frm_keeps] at hf
  refine ⟨r1, r2, ?_, ?_, ?_, h.lx.snoc (Or.inl ⟨c, n, by omega, rfl⟩) (fun _ => h0) (by simp only [takeN]; omega) (by simp [takeN, keepP]), h.ly.snoc (Or.inl ⟨overK d c, n, by omega, rfl⟩) (fun _ => h0) (by simp only [takeN, overP]; omega) (by simp [takeN, overP, keepP]), ?_, ?_⟩
  · show frm (rdA (keepP c (m - n)) o) = frm (rdA (keepP d (m2 - n)) u); omega
  · show acts (X ++ [keepP c n]) ++ (turnA (rdA (keepP c (m - n)) o) (rdA (keepP d (m2 - n)) u)).1 = _
    rw [acts_append, acts_one, actsP_keep, ← hx]; simp
  · show acts (Y ++ [keepP (overK d c) n]) ++ (turnA (rdA (keepP c (m - n)) o) (rdA (keepP d (m2 - n)) u)).2 = _
    rw [acts_append, acts_one, actsP_keep, ← hy]; simp
  · simp only [List.length_append, List.length_cons, List.length_nil]; omega
  · simp only [List.length_append, List.length_cons, List.length_nil]; omega
theorem turnI_ck {a b X Y : List Pt} {p : Pt} {o : List Pt} {q : Pt} {u : List Pt} (h : TurnI a b X Y p o q u) (hp : TP p) (hk1 : p.k ≠ 1) (hk2 : p.k ≠ 2) (hq : TP q) (hj : q.k = 1) {n : Int} (h0 : 0 < n) (h1 : n ≤ p.n) (h2 : n ≤ q.n) (hn : n = p.n ∨ n = q.n) :
    TurnI a b (X ++ [takeN p n]) Y (restN p n) o (restN q n) u := by
  have cb := cnt_both hp hk2 hq (by omega) hn o u
  have r1 := h.rp.rest hp hk2 h0 h1
  have r2 := h.rq.rest hq (by omega) h0 h2
  have n8 := h.rp.n80.1
  have hx := h.x; have hy := h.y; have hf := h.fr; have n1 := h.nx; have n2 := h.ny
  obtain ⟨m, hm, rfl⟩ := hp.k3 hk1 hk2
  obtain ⟨d, m2, hm2, hd, rfl⟩ := hq.k1 hj
  simp only [keepP, cutP] at h1 h2 n8
  have e1 : rdA (cutP m) o = List.replicate n.toNat .cut ++ rdA (cutP (m - n)) o := by rw [rdA_cut, rdA_cut, rep_split _ (by omega) h1, List.append_assoc]
  have e2 : rdA (keepP d m2) u = List.replicate n.toNat (.keep d) ++ rdA (keepP d (m2 - n)) u := by rw [rdA_keep, rdA_keep, rep_split _ (by omega) h2, List.append_assoc]
  rw [e1, e2, turn_cks] at hx hy
  rw [e1, e2, frm_append, frm_append, frm_cuts, frm_keeps] at hf
  refine ⟨r1, r2, ?_, ?_, hy, h.lx.snoc (Or.inr (Or.inr ⟨n, by omega, rfl⟩)) (fun e => absurd e (by simp [takeN, cutP])) (by simp only [takeN]; omega) (by simp [takeN, cutP]), h.ly, ?_, ?_⟩
  · show frm (rdA (cutP (m - n)) o) = frm (rdA (keepP d (m2 - n)) u); omega
  · show acts (X ++ [cutP n]) ++ (turnA (rdA (cutP (m - n)) o) (rdA (keepP d (m2 - n)) u)).1 = _
    rw [acts_append, acts_one, actsP_cut, ← hx]; simp
  · simp only [List.length_append, List.length_cons, List.length_nil]; omega
  · omega
theorem turnI_kc {a b X Y : List Pt} {p : Pt} {o : List Pt} {q : Pt} {u : List Pt} (h : TurnI a b X Y p o q u) (hp : TP p) (hk : p.k = 1) (hq : TP q) (hj1 : q.k ≠ 1) (hj2 : q.k ≠ 2) {n : Int} (h0 : 0 < n) (h1 : n ≤ p.n) (h2 : n ≤ q.n) (hn : n = p.n ∨ n = q.n) :
    TurnI a b X (Y ++ [takeN q n]) (restN p n) o (restN q n) u := by
  have cb := cnt_both hp (by omega) hq hj2 hn o u
  have r1 := h.rp.rest hp (by omega) h0 h1
  have r2 := h.rq.rest hq hj2 h0 h2
  have n8 := h.rq.n80.1
  have hx := h.x; have hy := h.y; have hf := h.fr; have n1 := h.nx; have n2 := h.ny
  obtain ⟨c, m, hm, hc, rfl⟩ := hp.k1 hk
  obtain ⟨m2, hm2, rfl⟩ := hq.k3 hj1 hj2
  simp only [keepP, cutP] at h1 h2 n8
  have e1 : rdA (keepP c m) o = List.replicate n.toNat (.keep c) ++ rdA (keepP c (m - n)) o := by rw [rdA_keep, rdA_keep, rep_split _ (by omega) h1, List.append_assoc]
  have e2 : rdA (cutP m2) u = List.replicate n.toNat .cut ++ rdA (cutP (m2 - n)) u := by rw [rdA_cut, rdA_cut, rep_split _ (by omega) h2, List.append_assoc]
  rw [e1, e2, turn_kcs] at hx hy
  rw [e1, e2, frm_append, frm_append, frm_cuts, frm_keeps] at hf
  refine ⟨r1, r2, ?_, hx, ?_, h.lx, h.ly.snoc (Or.inr (Or.inr ⟨n, by omega, rfl⟩)) (fun e => absurd e (by simp [takeN, cutP])) (by simp only [takeN]; omega) (by simp [takeN, cutP]), ?_, ?_⟩
  · show frm (rdA (keepP c (m - n)) o) = frm (rdA (cutP (m2 - n)) u); omega
  · show acts (Y ++ [cutP n]) ++ (turnA (rdA (keepP c (m - n)) o) (rdA (cutP (m2 - n)) u)).2 = _
    rw [acts_append, acts_one, actsP_cut, ← hy]; simp
  · omega
  · simp only [List.length_append, List.length_cons, List.length_nil]; omega
theorem turnI_cc {a b X Y : List Pt} {p : Pt} {o : List Pt} {q : Pt} {u : List Pt} (h : TurnI a b X Y p o q u) (hp : TP p) (hk1 : p.k ≠ 1) (hk2 : p.k ≠ 2) (hq : TP q) (hj1 : q.k ≠ 1) (hj2 : q.k ≠ 2) {n : Int} (h0 : 0 < n) (h1 : n ≤ p.n) (h2 : n ≤ q.n) (hn : n = p.n ∨ n = q.n) :
    TurnI a b X Y (restN p n) o (restN q n) u := by
  have cb := cnt_both hp hk2 hq hj2 hn o u
  have r1 := h.rp.rest hp hk2 h0 h1
  have r2 := h.rq.rest hq hj2 h0 h2
  have hx := h.x; have hy := h.y; have hf := h.fr; have n1 := h.nx; have n2 := h.ny
  obtain ⟨m, hm, rfl⟩ := hp.k3 hk1 hk2
  obtain ⟨m2, hm2, rfl⟩ := hq.k3 hj1 hj2
  simp only [cutP] at h1 h2
  have e1 : rdA (cutP m) o = List.replicate n.toNat .cut ++ rdA (cutP (m - n)) o := by rw [rdA_cut, rdA_cut, rep_split _ (by omega) h1, List.append_assoc]
  have e2 : rdA (cutP m2) u = List.replicate n.toNat .cut ++ rdA (cutP (m2 - n)) u := by rw [rdA_cut, rdA_cut, rep_split _ (by omega) h2, List.append_assoc]
  rw [e1, e2, turn_ccs] at hx hy
  rw [e1, e2, frm_append, frm_append, frm_cuts] at hf
  refine ⟨r1, r2, ?_, hx, hy, h.lx, h.ly, by omega, by omega⟩
  show frm (rdA (cutP (m - n)) o) = frm (rdA (cutP (m2 - n)) u); omega
theorem TurnI.fin {a b X Y : List Pt} {p : Pt} {o : List Pt} {q : Pt} {u : List Pt} (h : TurnI a b X Y p o q u) : Lok X ∧ Lok Y := ⟨h.lx.lok (by have := h.nx; omega), h.ly.lok (by have := h.ny; omega)⟩
theorem Lok.made {L : List Pt} (h : Lok L) : madeP L = tidyA (acts L) := madeP_tidy L h.fm h.keep
end Go.Mh
/- Joined part by part: what the program's loop keeps. No program in sight. -/
namespace Go.Mh

theorem join_cs (n : Nat) (a b : List Ac) : joinA (List.replicate n .cut ++ a) b = List.replicate n .cut ++ joinA a b := by
  induction n with
  | zero => rfl
  | succ n ih => simp only [List.replicate_succ, List.cons_append, join_c, ih]
theorem join_qs (l : List It) (a b : List Ac) (h : ∀ a', a ≠ .cut :: a') : joinA a (l.map .put ++ b) = l.map .put ++ joinA a b := by
  induction l with
  | nil => rfl
  | cons x l ih => simp only [List.map_cons, List.cons_append, join_q h, ih]
theorem join_kks (n : Nat) (u t : Kd) (a b : List Ac) : joinA (List.replicate n (.keep u) ++ a) (List.replicate n (.keep t) ++ b) = List.replicate n (.keep (bothK u t)) ++ joinA a b := by
  induction n with
  | zero => rfl
  | succ n ih => simp only [List.replicate_succ, List.cons_append, join_kk, ih]
theorem join_kcs (n : Nat) (u : Kd) (a b : List Ac) : joinA (List.replicate n (.keep u) ++ a) (List.replicate n .cut ++ b) = List.replicate n .cut ++ joinA a b := by
  induction n with
  | zero => rfl
  | succ n ih => simp only [List.replicate_succ, List.cons_append, join_kc, ih]
theorem join_pks (l : List It) (t : Kd) (a b : List Ac) : joinA (l.map .put ++ a) (List.replicate l.length (.keep t) ++ b) = (l.map (markI · t)).map .put ++ joinA a b := by
  induction l with
  | nil => rfl
  | cons x l ih => simp only [List.map_cons, List.length_cons, List.replicate_succ, List.cons_append, join_pk, ih]
theorem join_pcs (l : List It) (a b : List Ac) : joinA (l.map .put ++ a) (List.replicate l.length .cut ++ b) = joinA a b := by
  induction l with
  | nil => rfl
  | cons x l ih => simp only [List.map_cons, List.length_cons, List.replicate_succ, List.cons_append, join_pc, ih]

/-- Ahead of each round of Join. -/
structure JoinI (a b X : List Pt) (p : Pt) (o : List Pt) (q : Pt) (u : List Pt) : Prop where
  rp : RdOk p o
  rq : RdOk q u
  fr : too (rdA p o) = frm (rdA q u)
  x : acts X ++ joinA (rdA p o) (rdA q u) = joinA (acts a) (acts b)
  lx : Lk X
  nx : X.length + cntR p o + cntR q u ≤ 80

theorem joinI_start {a b : List Pt} (ha : OpOk a) (hb : OpOk b) (hf : too (acts a) = frm (acts b)) : JoinI a b [] pt0 a pt0 b := by
  have h1 := ha.len
  have h2 := hb.len
  exact ⟨RdOk.start ha, RdOk.start hb, hf, rfl, Lk.nil, by simp [cntR, pt0]; omega⟩
theorem joinI_more {a b X : List Pt} {p : Pt} {o : List Pt} {q : Pt} {u : List Pt} (h : JoinI a b X p o q u) {m m2 : Bool} {p' q' : Pt} {o' u' : List Pt} (e : moreR p o = (m, p', o')) (e2 : moreR q u = (m2, q', u')) :
    JoinI a b X p' o' q' u' ∧ (m = true → TP p') ∧ (m = false → rdA p' o' = []) ∧ (m2 = true → TP q') ∧ (m2 = false → rdA q' u' = []) := by
  obtain ⟨h1, h2, h3, h4, h5⟩ := h.rp.more e
  obtain ⟨g1, g2, g3, g4, g5⟩ := h.rq.more e2
  have n1 := h.nx
  exact ⟨⟨h1, g1, by rw [h2, g2]; exact h.fr, by rw [h2, g2]; exact h.x, h.lx, by omega⟩, h4, h5, g4, g5⟩
theorem joinI_p {a b X : List Pt} {p : Pt} {o : List Pt} {q : Pt} {u : List Pt} (h : JoinI a b X p o q u) (hp : TP p) (hk : p.k = 3) : JoinI a b (X ++ [p]) pt0 o q u := by
  obtain ⟨n, hn, rfl⟩ := hp.k3 (by omega) (by omega)
  have hn8 := h.rp.n80.1
  have hx := h.x; have hf := h.fr; have n1 := h.nx
  rw [rdA_cut] at hx hf
  rw [join_cs] at hx
  rw [cntR_full hp] at n1
  refine ⟨h.rp.none, h.rq, ?_, ?_, h.lx.snoc hp.fm (fun e => absurd e (by simp [cutP])) (by omega) (by simp [cutP]), ?_⟩
  · rw [rdA_pt0, ← hf, too_append, too_cuts]; omega
  · rw [rdA_pt0, acts_append, acts_one, actsP_cut, ← hx]; simp
  · rw [cntR_pt0]; simp; omega
theorem nocut {p : Pt} {o : List Pt} (h : TP p ∧ p.k ≠ 3 ∨ rdA p o = []) : ∀ a', rdA p o ≠ .cut :: a' := by
  intro a' e
  rcases h with ⟨h, hk⟩ | h
  · rcases h with ⟨c, n, hn, _, rfl⟩ | ⟨l, hl, _, rfl⟩ | ⟨n, hn, rfl⟩
    · obtain ⟨m, hm⟩ : ∃ m, n.toNat = m + 1 := ⟨n.toNat - 1, by omega⟩
      rw [rdA_keep, hm] at e; simp [List.replicate_succ] at e
    · cases l with
      | nil => exact absurd rfl hl
      | cons x l => rw [rdA_put] at e; simp at e
    · simp [cutP] at hk
  · rw [h] at e; simp at e
theorem joinI_q {a b X : List Pt} {p : Pt} {o : List Pt} {q : Pt} {u : List Pt} (h : JoinI a b X p o q u) (hn : ∀ a', rdA p o ≠ .cut :: a') (hq : TP q) (hk : q.k = 2) : JoinI a b (X ++ [q]) p o pt0 u := by
  obtain ⟨l, hl, hi, rfl⟩ := hq.k2 hk
  have hi8 := h.rq.i80.1
  have hx := h.x; have hf := h.fr; have n1 := h.nx
  rw [rdA_put] at hx hf
  rw [join_qs l _ _ hn] at hx
  rw [cntR_full hq] at n1
  refine ⟨h.rp, h.rq.none, ?_, ?_, h.lx.snoc hq.fm (fun e => by simp [putP] at e) (by simp [putP]) (by omega), ?_⟩
  · rw [rdA_pt0, hf, frm_append, frm_puts]; omega
  · rw [rdA_pt0, acts_append, acts_one, actsP_put, ← hx]; simp
  · rw [cntR_pt0]; simp; omega
theorem joinI_end {a b X : List Pt} {p : Pt} {o : List Pt} {q : Pt} {u : List Pt} (h : JoinI a b X p o q u) (hp : TP p ∧ p.k ≠ 3 ∨ rdA p o = []) (hq : TP q ∧ q.k ≠ 2 ∨ rdA q u = []) (he : rdA p o = [] ∨ rdA q u = []) :
    acts X = joinA (acts a) (acts b) := by
  have hf := h.fr
  have h1 : rdA p o = [] := by
    rcases hp with ⟨h1, h2⟩ | h1
    · rcases he with he | he
      · exact he
      · have := too_pos (o := o) h1 h2; rw [hf, he] at this; simp [frm] at this
    · exact h1
  have h2 : rdA q u = [] := by
    rcases hq with ⟨h2, h3⟩ | h2
    · have := frm_pos (o := u) h2 h3; rw [← hf, h1] at this; simp [too] at this
    · exact h2
  have hx := h.x
  rw [h1, h2] at hx
  have e0 : joinA [] [] = [] := rfl
  rw [e0] at hx
  simpa using hx
theorem joinI_kk {a b X : List Pt} {p : Pt} {o : List Pt} {q : Pt} {u : List Pt} (h : JoinI a b X p o q u) (hp : TP p) (hk : p.k = 1) (hq : TP q) (hj : q.k = 1) {n : Int} (h0 : 0 < n) (h1 : n ≤ p.n) (h2 : n ≤ q.n) (hn : n = p.n ∨ n = q.n) :
    JoinI a b (X ++ [bothP (takeN p n) (takeN q n)]) (restN p n) o (restN q n) u := by
  have cb := cnt_both hp (by omega) hq (by omega) hn o u
  have r1 := h.rp.rest hp (by omega) h0 h1
  have r2 := h.rq.rest hq (by omega) h0 h2
  have n8 := h.rp.n80.1
  have hx := h.x; have hf := h.fr; have n1 := h.nx
  obtain ⟨c, m, hm, hc, rfl⟩ := hp.k1 hk
  obtain ⟨d, m2, hm2, hd, rfl⟩ := hq.k1 hj
  simp only [keepP] at h1 h2 n8
  have e1 : rdA (keepP c m) o = List.replicate n.toNat (.keep c) ++ rdA (keepP c (m - n)) o := by rw [rdA_keep, rdA_keep, rep_split _ (by omega) h1, List.append_assoc]
  have e2 : rdA (keepP d m2) u = List.replicate n.toNat (.keep d) ++ rdA (keepP d (m2 - n)) u := by rw [rdA_keep, rdA_keep, rep_split _ (by omega) h2, List.append_assoc]
  rw [e1, e2, join_kks] at hx
  rw [e1, e2, too_append, frm_append, too_keeps, frm_keeps] at hf
  refine ⟨r1, r2, ?_, ?_, h.lx.snoc (Or.inl ⟨bothK c d, n, by omega, rfl⟩) (fun _ => h0) (by simp only [takeN, bothP]; omega) (by simp [takeN, bothP, keepP]), ?_⟩
  · show too (rdA (keepP c (m - n)) o) = frm (rdA (keepP d (m2 - n)) u); omega
  · show acts (X ++ [keepP (bothK c d) n]) ++ joinA (rdA (keepP c (m - n)) o) (rdA (keepP d (m2 - n)) u) = _
    rw [acts_append, acts_one, actsP_keep, ← hx]; simp
  · simp only [List.length_append, List.length_cons, List.length_nil]; omega
theorem joinI_kc {a b X : List Pt} {p : Pt} {o : List Pt} {q : Pt} {u : List Pt} (h : JoinI a b X p o q u) (hp : TP p) (hk : p.k = 1) (hq : TP q) (hj1 : q.k ≠ 1) (hj2 : q.k ≠ 2) {n : Int} (h0 : 0 < n) (h1 : n ≤ p.n) (h2 : n ≤ q.n) (hn : n = p.n ∨ n = q.n) :
    JoinI a b (X ++ [takeN q n]) (restN p n) o (restN q n) u := by
  have cb := cnt_both hp (by omega) hq hj2 hn o u
  have r1 := h.rp.rest hp (by omega) h0 h1
  have r2 := h.rq.rest hq hj2 h0 h2
  have n8 := h.rq.n80.1
  have hx := h.x; have hf := h.fr; have n1 := h.nx
  obtain ⟨c, m, hm, hc, rfl⟩ := hp.k1 hk
  obtain ⟨m2, hm2, rfl⟩ := hq.k3 hj1 hj2
  simp only [keepP, cutP] at h1 h2 n8
  have e1 : rdA (keepP c m) o = List.replicate n.toNat (.keep c) ++ rdA (keepP c (m - n)) o := by rw [rdA_keep, rdA_keep, rep_split _ (by omega) h1, List.append_assoc]
  have e2 : rdA (cutP m2) u = List.replicate n.toNat .cut ++ rdA (cutP (m2 - n)) u := by rw [rdA_cut, rdA_cut, rep_split _ (by omega) h2, List.append_assoc]
  rw [e1, e2, join_kcs] at hx
  rw [e1, e2, too_append, frm_append, too_keeps, frm_cuts] at hf
  refine ⟨r1, r2, ?_, ?_, h.lx.snoc (Or.inr (Or.inr ⟨n, by omega, rfl⟩)) (fun e => absurd e (by simp [takeN, cutP])) (by simp only [takeN]; omega) (by simp [takeN, cutP]), ?_⟩
  · show too (rdA (keepP c (m - n)) o) = frm (rdA (cutP (m2 - n)) u); omega
  · show acts (X ++ [cutP n]) ++ joinA (rdA (keepP c (m - n)) o) (rdA (cutP (m2 - n)) u) = _
    rw [acts_append, acts_one, actsP_cut, ← hx]; simp
  · simp only [List.length_append, List.length_cons, List.length_nil]; omega

/-- A part that puts, of whose items n are taken. -/
def dropI (p : Pt) (n : Nat) : Pt := { p with its := p.its.drop n }
theorem RdOk.dropI {p : Pt} {o : List Pt} (h : RdOk p o) (hp : TP p) (hk : p.k = 2) (n : Nat) : RdOk (Mh.dropI p n) o := by
  obtain ⟨l, hl, hi, rfl⟩ := hp.k2 hk
  refine ⟨?_, h.tp, h.n80, ⟨by have := h.i80.1; simp only [Mh.dropI, putP, List.length_drop] at this ⊢; omega, h.i80.2⟩⟩
  by_cases e : l.drop n = []
  · exact Or.inl ⟨rfl, e⟩
  · exact Or.inr (Or.inr (Or.inl ⟨l.drop n, e, fun x hx => hi x (List.mem_of_mem_drop hx), rfl⟩))
theorem cntR_drop {p : Pt} (n : Nat) (o : List Pt) : cntR (dropI p n) o ≤ 1 + o.length := by unfold cntR; split <;> omega
theorem cnt_drop {p q : Pt} (hp : TP p) (hk : p.k = 2) (hq : TP q) (hj : q.k ≠ 2) {n : Nat} (hn : n = p.its.length ∨ (n : Int) = q.n) (o u : List Pt) : cntR (dropI p n) o + cntR (restN q n) u + 1 ≤ cntR p o + cntR q u := by
  rw [cntR_full hp, cntR_full hq]
  have h1 := cntR_drop (p := p) n o
  have h2 := cntR_rest hq n u
  rcases hn with rfl | hn
  · obtain ⟨l, hl, hi, rfl⟩ := hp.k2 hk
    have : cntR (dropI (putP l) (putP l).its.length) o = o.length := by simp [cntR, dropI, putP]
    omega
  · rw [hn, cntR_gone hq hj]; omega
theorem joinI_pc {a b X : List Pt} {p : Pt} {o : List Pt} {q : Pt} {u : List Pt} (h : JoinI a b X p o q u) (hp : TP p) (hk : p.k = 2) (hq : TP q) (hj1 : q.k ≠ 1) (hj2 : q.k ≠ 2) {n : Nat} (h0 : 0 < n) (h1 : n ≤ p.its.length) (h2 : (n : Int) ≤ q.n) (hn : n = p.its.length ∨ (n : Int) = q.n) :
    JoinI a b X (dropI p n) o (restN q n) u := by
  have cb := cnt_drop hp hk hq hj2 hn o u
  have r1 := h.rp.dropI hp hk n
  have r2 := h.rq.rest hq hj2 (by omega : (0 : Int) < n) h2
  have hx := h.x; have hf := h.fr; have n1 := h.nx
  obtain ⟨l, hl, hi, rfl⟩ := hp.k2 hk
  obtain ⟨m2, hm2, rfl⟩ := hq.k3 hj1 hj2
  simp only [putP, cutP] at h1 h2
  have hl' : (l.take n).length = n := by simp; omega
  have e1 : rdA (putP l) o = (l.take n).map .put ++ rdA (putP (l.drop n)) o := by rw [rdA_put, rdA_put, ← List.append_assoc, ← List.map_append, List.take_append_drop]
  have e2 : rdA (cutP m2) u = List.replicate (l.take n).length .cut ++ rdA (cutP (m2 - n)) u := by rw [rdA_cut, rdA_cut, rep_split _ (by omega) h2, List.append_assoc, hl']; simp
  rw [e1, e2, join_pcs] at hx
  rw [e1, e2, too_append, frm_append, too_puts, frm_cuts] at hf
  refine ⟨r1, r2, ?_, hx, h.lx, by omega⟩
  show too (rdA (putP (l.drop n)) o) = frm (rdA (cutP (m2 - n)) u); omega
theorem joinI_pk {a b X : List Pt} {p : Pt} {o : List Pt} {q : Pt} {u : List Pt} (h : JoinI a b X p o q u) (hp : TP p) (hk : p.k = 2) (hq : TP q) (hj : q.k = 1) {n : Nat} (h0 : 0 < n) (h1 : n ≤ p.its.length) (h2 : (n : Int) ≤ q.n) (hn : n = p.its.length ∨ (n : Int) = q.n) :
    JoinI a b (X ++ [putP ((p.its.take n).map (markI · q.kd))]) (dropI p n) o (restN q n) u := by
  have cb := cnt_drop hp hk hq (by omega) hn o u
  have r1 := h.rp.dropI hp hk n
  have r2 := h.rq.rest hq (by omega) (by omega : (0 : Int) < n) h2
  have i8 := h.rp.i80.1
  have hx := h.x; have hf := h.fr; have n1 := h.nx
  obtain ⟨l, hl, hi, rfl⟩ := hp.k2 hk
  obtain ⟨d, m2, hm2, hd, rfl⟩ := hq.k1 hj
  simp only [putP, keepP] at h1 h2 i8
  have hl' : (l.take n).length = n := by simp; omega
  have e1 : rdA (putP l) o = (l.take n).map .put ++ rdA (putP (l.drop n)) o := by rw [rdA_put, rdA_put, ← List.append_assoc, ← List.map_append, List.take_append_drop]
  have e2 : rdA (keepP d m2) u = List.replicate (l.take n).length (.keep d) ++ rdA (keepP d (m2 - n)) u := by rw [rdA_keep, rdA_keep, rep_split _ (by omega) h2, List.append_assoc, hl']; simp
  rw [e1, e2, join_pks] at hx
  rw [e1, e2, too_append, frm_append, too_puts, frm_keeps] at hf
  refine ⟨r1, r2, ?_, ?_, h.lx.snoc (Or.inr (Or.inl ⟨_, rfl⟩)) (fun e => by simp [putP] at e) (by simp [putP]) (by simp [putP]; omega), ?_⟩
  · show too (rdA (putP (l.drop n)) o) = frm (rdA (keepP d (m2 - n)) u); omega
  · show acts (X ++ [putP ((l.take n).map (markI · d))]) ++ joinA (rdA (putP (l.drop n)) o) (rdA (keepP d (m2 - n)) u) = _
    rw [acts_append, acts_one, actsP_put, ← hx]; simp
  · simp only [List.length_append, List.length_cons, List.length_nil]; omega
theorem JoinI.fin {a b X : List Pt} {p : Pt} {o : List Pt} {q : Pt} {u : List Pt} (h : JoinI a b X p o q u) : Lok X := h.lx.lok (by have := h.nx; omega)
end Go.Mh
