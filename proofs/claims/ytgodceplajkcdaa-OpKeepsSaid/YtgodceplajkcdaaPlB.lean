/- What acts do to a document; two operations turned and joined, act by act; that they meet. No program in sight. -/
import Derived.Test.YtgodceplajkcdaaPlA
namespace Go.Mh

/- Marks, two bits. -/
def and4 (a b : Fin 4) : Fin 4 := ⟨(a.val &&& b.val) % 4, Nat.mod_lt _ (by decide)⟩
def or4 (a b : Fin 4) : Fin 4 := ⟨(a.val ||| b.val) % 4, Nat.mod_lt _ (by decide)⟩
def not4 (a b : Fin 4) : Fin 4 := ⟨(a.val - (a.val &&& b.val)) % 4, Nat.mod_lt _ (by decide)⟩
theorem band4 : ∀ a b : Fin 4, band (a.val : Int) (b.val : Int) = ((and4 a b).val : Int) := by decide
theorem bor4 : ∀ a b : Fin 4, bor (a.val : Int) (b.val : Int) = ((or4 a b).val : Int) := by decide
theorem bnot4 : ∀ a b : Fin 4, bnot (a.val : Int) (b.val : Int) = ((not4 a b).val : Int) := by decide
theorem m4_turn : ∀ m sc ss tc ts : Fin 4, or4 (not4 (or4 (not4 m sc) ss) (not4 tc (or4 ss sc))) (not4 ts (or4 ss sc)) = or4 (not4 (or4 (not4 m tc) ts) sc) ss := by decide +kernel
theorem m4_join : ∀ m sc ss tc ts : Fin 4, or4 (not4 (or4 (not4 m sc) ss) tc) ts = or4 (not4 m (or4 (not4 sc ts) tc)) (or4 (not4 ss tc) ts) := by decide +kernel
theorem m4_both1 : ∀ ss tc ts uc us : Fin 4, and4 tc ts = 0 → and4 uc us = 0 → or4 (not4 (or4 (not4 ss tc) ts) uc) us = or4 (not4 ss (or4 (not4 tc us) uc)) (or4 (not4 ts uc) us) := by decide +kernel
theorem m4_disj : ∀ ss sc ts tc : Fin 4, and4 ss sc = 0 → and4 ts tc = 0 → and4 (or4 (not4 ss tc) ts) (or4 (not4 sc ts) tc) = 0 := by decide +kernel
theorem m4_disj2 : ∀ ts tc z : Fin 4, and4 ts tc = 0 → and4 (not4 ts z) (not4 tc z) = 0 := by decide +kernel

/-- A change that may be: marks within bounds, none both set and cleared, a link that may be. -/
structure Kd.Ok (c : Kd) : Prop where
  s0 : 0 ≤ c.set
  s3 : c.set ≤ 3
  c0 : 0 ≤ c.clr
  c3 : c.clr ≤ 3
  no : band c.set c.clr = 0
  ln : c.l ≠ [] → c.to = true ∧ may c.l = true

theorem Kd.Ok.fin {c : Kd} (h : c.Ok) : ∃ s z : Fin 4, c.set = (s.val : Int) ∧ c.clr = (z.val : Int) ∧ and4 s z = 0 := by
  obtain ⟨s, hs⟩ := small4 h.s0 h.s3
  obtain ⟨z, hz⟩ := small4 h.c0 h.c3
  refine ⟨s, z, hs, hz, ?_⟩
  have := h.no
  rw [hs, hz, band4] at this
  exact Fin.ext (by simpa using this)

/-- What t becomes behind s, that counts more. -/
def overK (t s : Kd) : Kd := ⟨bnot t.set (bor s.set s.clr), bnot t.clr (bor s.set s.clr), if s.to = true then false else t.to, if s.to = true then [] else t.l⟩
/-- s, and t behind it, as one. -/
def bothK (s t : Kd) : Kd := ⟨bor (bnot s.set t.clr) t.set, bor (bnot s.clr t.set) t.clr, if t.to = true then true else s.to, if t.to = true then t.l else s.l⟩

theorem fin4_ok (a : Fin 4) : 0 ≤ (a.val : Int) ∧ (a.val : Int) ≤ 3 := by omega
theorem Kd.Ok.of {c : Kd} {s z : Fin 4} (hs : c.set = (s.val : Int)) (hz : c.clr = (z.val : Int)) (h : and4 s z = 0) (ln : c.l ≠ [] → c.to = true ∧ may c.l = true) : c.Ok :=
  ⟨by rw [hs]; exact (fin4_ok s).1, by rw [hs]; exact (fin4_ok s).2, by rw [hz]; exact (fin4_ok z).1, by rw [hz]; exact (fin4_ok z).2, by rw [hs, hz, band4, h]; rfl, ln⟩

theorem kd0_ok : kd0.Ok := ⟨by decide, by decide, by decide, by decide, by decide, fun h => absurd rfl h⟩
theorem overK_ok {t s : Kd} (ht : t.Ok) (hs : s.Ok) : (overK t s).Ok := by
  obtain ⟨a, b, e1, e2, h1⟩ := ht.fin
  obtain ⟨c, d, e3, e4, _⟩ := hs.fin
  refine Kd.Ok.of (s := not4 a (or4 c d)) (z := not4 b (or4 c d)) ?_ ?_ (m4_disj2 _ _ _ h1) ?_
  · simp only [overK, e1, e3, e4]; rw [bor4, bnot4]
  · simp only [overK, e2, e3, e4]; rw [bor4, bnot4]
  · simp only [overK]
    intro h
    split at h
    · exact absurd rfl h
    · rename_i hn; simp only [if_neg hn]; exact ht.ln h
theorem bothK_ok {s t : Kd} (hs : s.Ok) (ht : t.Ok) : (bothK s t).Ok := by
  obtain ⟨a, b, e1, e2, h1⟩ := hs.fin
  obtain ⟨c, d, e3, e4, h2⟩ := ht.fin
  refine Kd.Ok.of (s := or4 (not4 a d) c) (z := or4 (not4 b c) d) ?_ ?_ (m4_disj _ _ _ _ h1 h2) ?_
  · simp only [bothK, e1, e3, e4]; rw [bnot4, bor4]
  · simp only [bothK, e2, e3, e4]; rw [bnot4, bor4]
  · simp only [bothK]
    intro h
    by_cases ht2 : t.to = true
    · simp only [if_pos ht2] at h ⊢; exact ⟨trivial, (ht.ln h).2⟩
    · simp only [if_neg ht2] at h ⊢; exact hs.ln h

theorem bothK_assoc {s t u : Kd} (hs : s.Ok) (ht : t.Ok) (hu : u.Ok) : bothK (bothK s t) u = bothK s (bothK t u) := by
  obtain ⟨a, b, e1, e2, h1⟩ := hs.fin
  obtain ⟨c, d, e3, e4, h2⟩ := ht.fin
  obtain ⟨e, f, e5, e6, h3⟩ := hu.fin
  have c2 : and4 d c = 0 := by rw [← h2]; exact Fin.ext (by simp [and4, Nat.and_comm])
  have c3 : and4 f e = 0 := by rw [← h3]; exact Fin.ext (by simp [and4, Nat.and_comm])
  simp only [bothK, e1, e2, e3, e4, e5, e6, bnot4, bor4]
  congr 1
  · rw [m4_both1 a d c f e c2 c3]
  · rw [m4_both1 b c d e f h2 h3]
  · by_cases h : u.to = true <;> simp [h]
  · by_cases h : u.to = true <;> simp [h]

/-- Marks of an item within bounds. -/
def It.Mk (x : It) : Prop := 0 ≤ x.m ∧ x.m ≤ 3

theorem markI_mk {x : It} {c : Kd} (hx : x.Mk) (hc : c.Ok) : (markI x c).Mk := by
  obtain ⟨m, hm⟩ := small4 hx.1 hx.2
  obtain ⟨a, b, e1, e2, _⟩ := hc.fin
  unfold It.Mk markI
  simp only [hm, e1, e2, bnot4, bor4]
  exact fin4_ok _

theorem mark_turn {x : It} {s t : Kd} (hx : x.Mk) (hs : s.Ok) (ht : t.Ok) : markI (markI x s) (overK t s) = markI (markI x t) s := by
  obtain ⟨m, hm⟩ := small4 hx.1 hx.2
  obtain ⟨a, b, e1, e2, h1⟩ := hs.fin
  obtain ⟨c, d, e3, e4, h2⟩ := ht.fin
  simp only [markI, overK, hm, e1, e2, e3, e4, bnot4, bor4]
  congr 1
  · rw [m4_turn]
  · by_cases h : s.to = true <;> by_cases h' : (x.c.toNat : Int) = 10 <;> by_cases h'' : t.to = true <;> simp [h, h', h'']

theorem mark_join {x : It} {s t : Kd} (hx : x.Mk) (hs : s.Ok) (ht : t.Ok) : markI (markI x s) t = markI x (bothK s t) := by
  obtain ⟨m, hm⟩ := small4 hx.1 hx.2
  obtain ⟨a, b, e1, e2, h1⟩ := hs.fin
  obtain ⟨c, d, e3, e4, h2⟩ := ht.fin
  simp only [markI, bothK, hm, e1, e2, e3, e4, bnot4, bor4]
  congr 1
  · rw [m4_join]
  · by_cases h : s.to = true <;> by_cases h' : (x.c.toNat : Int) = 10 <;> by_cases h'' : t.to = true <;> simp [h, h', h'']

theorem mark_none (x : It) (hx : x.Mk) : markI x kd0 = x := by
  obtain ⟨m, hm⟩ := small4 hx.1 hx.2
  obtain ⟨c, mm, l⟩ := x
  simp only at hm
  subst hm
  have : ∀ m : Fin 4, bor (bnot (m.val : Int) 0) 0 = (m.val : Int) := by decide
  simp [markI, kd0]
  exact this m

theorem markI_item {x : It} {c : Kd} (hx : chkItem x = 0) (hc : c.Ok) : chkItem (markI x c) = 0 := by
  have hmk : x.Mk := by
    unfold chkItem at hx
    split at hx; · simp at hx
    split at hx; · simp at hx
    rename_i h; unfold It.Mk; omega
  have hm := markI_mk hmk hc
  unfold chkItem at hx ⊢
  unfold It.Mk at hm
  split at hx; · simp at hx
  rename_i h1
  split at hx; · simp at hx
  split at hx; · simp at hx
  rename_i h3
  have e : (markI x c).c = x.c := rfl
  rw [e, if_neg h1, if_neg (by omega), if_neg]
  rintro ⟨hl, h⟩
  by_cases h10 : (x.c.toNat : Int) = 10
  · have e2 : (markI x c).l = x.l := by simp [markI, h10]
    rw [e2] at hl h
    exact h3 ⟨hl, Or.inl h10⟩
  · by_cases ht : c.to = true
    · have e2 : (markI x c).l = c.l := by simp [markI, h10, ht]
      rw [e2] at hl h
      have := (hc.ln hl).2
      simp [this, h10] at h
    · have e2 : (markI x c).l = x.l := by simp [markI, ht]
      rw [e2] at hl h
      exact h3 ⟨hl, h⟩

/-- What acts make of a document. -/
def doA (d : List It) : List Ac → List It
  | [] => []
  | .put x :: l => x :: doA d l
  | .keep c :: l => (d.take 1).map (markI · c) ++ doA d.tail l
  | .cut :: l => doA d.tail l

/-- How many items acts are for; how many there are behind them. -/
def frm : List Ac → Nat
  | [] => 0
  | .put _ :: l => frm l
  | _ :: l => frm l + 1
def too : List Ac → Nat
  | [] => 0
  | .cut :: l => too l
  | _ :: l => too l + 1

def AcOk : Ac → Prop
  | .keep c => c.Ok
  | .put x => chkItem x = 0
  | .cut => True

theorem frm_append (a b : List Ac) : frm (a ++ b) = frm a + frm b := by
  induction a with
  | nil => simp [frm]
  | cons x a ih => cases x <;> simp [frm, ih] <;> omega
theorem too_append (a b : List Ac) : too (a ++ b) = too a + too b := by
  induction a with
  | nil => simp [too]
  | cons x a ih => cases x <;> simp [too, ih] <;> omega
theorem frm_puts (l : List It) : frm (l.map .put) = 0 := by induction l <;> simp [frm, *]
theorem too_puts (l : List It) : too (l.map .put) = l.length := by induction l <;> simp [too, *]
theorem frm_cuts (n : Nat) : frm (List.replicate n .cut) = n := by induction n <;> simp [frm, List.replicate_succ, *]
theorem too_cuts (n : Nat) : too (List.replicate n .cut) = 0 := by induction n <;> simp [too, List.replicate_succ, *]
theorem frm_keeps (n : Nat) (c : Kd) : frm (List.replicate n (.keep c)) = n := by induction n <;> simp [frm, List.replicate_succ, *]
theorem too_keeps (n : Nat) (c : Kd) : too (List.replicate n (.keep c)) = n := by induction n <;> simp [too, List.replicate_succ, *]

theorem doA_puts (d : List It) (ps : List It) (l : List Ac) : doA d (ps.map .put ++ l) = ps ++ doA d l := by
  induction ps with
  | nil => rfl
  | cons p ps ih => simp [doA, ih]
theorem doA_cuts (d : List It) (n : Nat) (l : List Ac) : doA d (List.replicate n .cut ++ l) = doA (d.drop n) l := by
  induction n generalizing d with
  | zero => rfl
  | succ n ih => simp only [List.replicate_succ, List.cons_append, doA]; rw [ih, List.drop_tail]
theorem doA_keeps (d : List It) (n : Nat) (c : Kd) (l : List Ac) : doA d (List.replicate n (.keep c) ++ l) = (d.take n).map (markI · c) ++ doA (d.drop n) l := by
  induction n generalizing d with
  | zero => simp
  | succ n ih =>
    simp only [List.replicate_succ, List.cons_append, doA]
    rw [ih]
    cases d with
    | nil => simp
    | cons x d => simp

theorem doA_nrm (d : List It) (ps : List It) (c : Nat) (l : List Ac) : doA d (nrm ps c l) = ps ++ doA (d.drop c) l := by
  induction l generalizing d ps c with
  | nil => have := doA_puts d ps (List.replicate c .cut ++ []); have h2 := doA_cuts d c []; simp only [List.append_nil] at this h2; simp [nrm, this, h2, doA]
  | cons a l ih =>
    cases a with
    | put x => simp [nrm, doA, ih]
    | cut => simp only [nrm, doA]; rw [ih]; simp
    | keep k =>
      simp only [nrm, List.append_assoc]
      rw [doA_puts, doA_cuts]
      simp only [doA]
      rw [ih]
      simp
theorem doA_norm (d : List It) (l : List Ac) : doA d (normA l) = doA d l := by unfold normA; rw [doA_nrm]; simp

theorem frm_nrm (ps : List It) (c : Nat) (l : List Ac) : frm (nrm ps c l) = c + frm l := by
  induction l generalizing ps c with
  | nil => simp [nrm, frm_append, frm_puts, frm_cuts, frm]
  | cons a l ih => cases a <;> simp [nrm, frm, ih, frm_append, frm_puts, frm_cuts] <;> omega
theorem too_nrm (ps : List It) (c : Nat) (l : List Ac) : too (nrm ps c l) = ps.length + too l := by
  induction l generalizing ps c with
  | nil => simp [nrm, too_append, too_puts, too_cuts, too]
  | cons a l ih => cases a <;> simp [nrm, too, ih, too_append, too_puts, too_cuts] <;> omega
theorem frm_norm (l : List Ac) : frm (normA l) = frm l := by simp [normA, frm_nrm]
theorem too_norm (l : List Ac) : too (normA l) = too l := by simp [normA, too_nrm]

theorem doA_len (d : List It) (l : List Ac) (h : frm l ≤ d.length) : (doA d l).length = too l := by
  induction l generalizing d with
  | nil => rfl
  | cons a l ih =>
    cases a with
    | put x => simp only [frm] at h; simp [doA, too, ih d h]
    | cut => simp only [frm] at h; simp only [doA, too]; exact ih _ (by simp; omega)
    | keep c =>
      simp only [frm] at h
      simp only [doA, too, List.length_append, List.length_map, List.length_take]
      rw [ih _ (by simp; omega)]
      omega

/- Turned. -/
def keep0 : Ac := .keep kd0
def turn0 : List Ac → List Ac × List Ac
  | .put y :: b => (keep0 :: (turn0 b).1, .put y :: (turn0 b).2)
  | _ => ([], [])
def turnS (s : Ac) (f : List Ac → List Ac × List Ac) : List Ac → List Ac × List Ac
  | [] => ([], [])
  | .put y :: b => (keep0 :: (turnS s f b).1, .put y :: (turnS s f b).2)
  | .keep t :: b => match s with
    | .keep u => (.keep u :: (f b).1, .keep (overK t u) :: (f b).2)
    | _ => (.cut :: (f b).1, (f b).2)
  | .cut :: b => match s with
    | .keep _ => ((f b).1, .cut :: (f b).2)
    | _ => f b
def turnA : List Ac → List Ac → List Ac × List Ac
  | [], b => turn0 b
  | .put x :: a, b => (.put x :: (turnA a b).1, keep0 :: (turnA a b).2)
  | s :: a, b => turnS s (turnA a) b

theorem turn_p (x : It) (a b : List Ac) : turnA (.put x :: a) b = (.put x :: (turnA a b).1, keep0 :: (turnA a b).2) := rfl
theorem turn_sp (s : Ac) (hs : ∀ x, s ≠ .put x) (y : It) (a b : List Ac) : turnA (s :: a) (.put y :: b) = (keep0 :: (turnA (s :: a) b).1, .put y :: (turnA (s :: a) b).2) := by
  cases s with
  | put x => exact absurd rfl (hs x)
  | keep u => rfl
  | cut => rfl
theorem turn_0p (y : It) (b : List Ac) : turnA [] (.put y :: b) = (keep0 :: (turnA [] b).1, .put y :: (turnA [] b).2) := rfl
theorem turn_kk (u t : Kd) (a b : List Ac) : turnA (.keep u :: a) (.keep t :: b) = (.keep u :: (turnA a b).1, .keep (overK t u) :: (turnA a b).2) := rfl
theorem turn_ck (t : Kd) (a b : List Ac) : turnA (.cut :: a) (.keep t :: b) = (.cut :: (turnA a b).1, (turnA a b).2) := rfl
theorem turn_kc (u : Kd) (a b : List Ac) : turnA (.keep u :: a) (.cut :: b) = ((turnA a b).1, .cut :: (turnA a b).2) := rfl
theorem turn_cc (a b : List Ac) : turnA (.cut :: a) (.cut :: b) = turnA a b := rfl

/-- What acts turned are, by the four ways two can stand ahead: the principle of all proofs about them. -/
theorem turn_ind {P : List Ac → List Ac → Prop} (h0 : P [] []) (hp : ∀ x a b, frm a = frm b → P a b → P (.put x :: a) b)
    (hq : ∀ y a b, (∀ x a', a ≠ .put x :: a') → frm a = frm b → P a b → P a (.put y :: b))
    (hkk : ∀ u t a b, frm a = frm b → P a b → P (.keep u :: a) (.keep t :: b)) (hck : ∀ t a b, frm a = frm b → P a b → P (.cut :: a) (.keep t :: b))
    (hkc : ∀ u a b, frm a = frm b → P a b → P (.keep u :: a) (.cut :: b)) (hcc : ∀ a b, frm a = frm b → P a b → P (.cut :: a) (.cut :: b)) :
    ∀ a b, frm a = frm b → P a b := by
  intro a
  induction a with
  | nil =>
    intro b
    induction b with
    | nil => intro _; exact h0
    | cons t b ih =>
      intro h
      cases t with
      | put y => exact hq y [] b (by simp) (by simpa [frm] using h) (ih (by simpa [frm] using h))
      | keep t => simp [frm] at h
      | cut => simp [frm] at h
  | cons s a iha =>
    cases s with
    | put x => intro b h; exact hp x a b (by simpa [frm] using h) (iha b (by simpa [frm] using h))
    | keep u =>
      intro b
      induction b with
      | nil => intro h; simp [frm] at h
      | cons t b ih =>
        intro h
        cases t with
        | put y => exact hq y _ b (by simp) (by simpa [frm] using h) (ih (by simpa [frm] using h))
        | keep t => exact hkk u t a b (by simpa [frm] using h) (iha b (by simpa [frm] using h))
        | cut => exact hkc u a b (by simpa [frm] using h) (iha b (by simpa [frm] using h))
    | cut =>
      intro b
      induction b with
      | nil => intro h; simp [frm] at h
      | cons t b ih =>
        intro h
        cases t with
        | put y => exact hq y _ b (by simp) (by simpa [frm] using h) (ih (by simpa [frm] using h))
        | keep t => exact hck t a b (by simpa [frm] using h) (iha b (by simpa [frm] using h))
        | cut => exact hcc a b (by simpa [frm] using h) (iha b (by simpa [frm] using h))

theorem turn_q {y : It} {a b : List Ac} (h : ∀ x a', a ≠ .put x :: a') : turnA a (.put y :: b) = (keep0 :: (turnA a b).1, .put y :: (turnA a b).2) := by
  cases a with
  | nil => rfl
  | cons s a => exact turn_sp s (fun x e => h x a (by rw [e])) y a b

theorem turn_frm : ∀ a b, frm a = frm b → frm (turnA a b).1 = too b ∧ frm (turnA a b).2 = too a ∧ too (turnA a b).1 = too (turnA a b).2 := by
  refine turn_ind ⟨rfl, rfl, rfl⟩ ?_ ?_ ?_ ?_ ?_ ?_
  · intro x a b _ h; rw [turn_p]; simp [frm, too, keep0, h]
  · intro y a b ha _ h; rw [turn_q ha]; simp [frm, too, keep0, h]
  · intro u t a b _ h; rw [turn_kk]; simp [frm, too, h]
  · intro t a b _ h; rw [turn_ck]; simp [frm, too, h]
  · intro u a b _ h; rw [turn_kc]; simp [frm, too, h]
  · intro a b _ h; rw [turn_cc]; simp [too, h]

/-- Two operations on one document, each turned behind the other one, meet. -/
theorem turn_meets : ∀ a b, frm a = frm b → (∀ x ∈ a, AcOk x) → (∀ x ∈ b, AcOk x) → ∀ d : List It, d.length = frm a → (∀ x ∈ d, x.Mk) →
    doA (doA d a) (turnA a b).2 = doA (doA d b) (turnA a b).1 := by
  have mk : ∀ {x : It}, chkItem x = 0 → x.Mk := by
    intro x hx
    unfold chkItem at hx
    split at hx; · simp at hx
    split at hx; · simp at hx
    rename_i h; unfold It.Mk; omega
  refine turn_ind ?_ ?_ ?_ ?_ ?_ ?_ ?_
  · intro _ _ d _ _; rfl
  · intro x a b _ h ha hb d hd hm
    rw [turn_p]
    have hx : chkItem x = 0 := ha _ (List.mem_cons_self ..)
    have ih := h (fun y hy => ha y (List.mem_cons_of_mem _ hy)) hb d (by simpa [frm] using hd) hm
    simp only [doA, keep0, List.take_succ_cons, List.take_zero, List.map_cons, List.map_nil, List.tail_cons, mark_none x (mk hx)]
    simp [ih]
  · intro y a b hna _ h ha hb d hd hm
    rw [turn_q hna]
    have hy : chkItem y = 0 := hb _ (List.mem_cons_self ..)
    have ih := h ha (fun x hx => hb x (List.mem_cons_of_mem _ hx)) d hd hm
    simp only [doA, keep0, List.take_succ_cons, List.take_zero, List.map_cons, List.map_nil, List.tail_cons, mark_none y (mk hy)]
    simp [ih]
  · intro u t a b _ h ha hb d hd hm
    rw [turn_kk]
    cases d with
    | nil => simp [frm] at hd
    | cons i d =>
      have hu : u.Ok := ha _ (List.mem_cons_self ..)
      have ht : t.Ok := hb _ (List.mem_cons_self ..)
      have ih := h (fun x hx => ha x (List.mem_cons_of_mem _ hx)) (fun x hx => hb x (List.mem_cons_of_mem _ hx)) d (by simpa [frm] using hd) (fun x hx => hm x (List.mem_cons_of_mem _ hx))
      have hi := hm i (List.mem_cons_self ..)
      simp [doA, ih, mark_turn hi hu ht]
  · intro t a b _ h ha hb d hd hm
    rw [turn_ck]
    cases d with
    | nil => simp [frm] at hd
    | cons i d =>
      have ih := h (fun x hx => ha x (List.mem_cons_of_mem _ hx)) (fun x hx => hb x (List.mem_cons_of_mem _ hx)) d (by simpa [frm] using hd) (fun x hx => hm x (List.mem_cons_of_mem _ hx))
      simp [doA, ih]
  · intro u a b _ h ha hb d hd hm
    rw [turn_kc]
    cases d with
    | nil => simp [frm] at hd
    | cons i d =>
      have ih := h (fun x hx => ha x (List.mem_cons_of_mem _ hx)) (fun x hx => hb x (List.mem_cons_of_mem _ hx)) d (by simpa [frm] using hd) (fun x hx => hm x (List.mem_cons_of_mem _ hx))
      simp [doA, ih]
  · intro a b _ h ha hb d hd hm
    rw [turn_cc]
    cases d with
    | nil => simp [frm] at hd
    | cons i d =>
      have ih := h (fun x hx => ha x (List.mem_cons_of_mem _ hx)) (fun x hx => hb x (List.mem_cons_of_mem _ hx)) d (by simpa [frm] using hd) (fun x hx => hm x (List.mem_cons_of_mem _ hx))
      simp [doA, ih]

end Go.Mh
