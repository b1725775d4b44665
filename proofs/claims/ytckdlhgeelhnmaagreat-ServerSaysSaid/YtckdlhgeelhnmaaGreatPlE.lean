/- The server and the client in plain terms, and their laws. No program in sight. -/
import Derived.Test.YtckdlhgeelhnmaaGreatPlA
namespace Go.Mh

/- The server. -/
def chkEn (x : En) : Int := if x.client < 0 ∨ 4 ≤ x.client then 5 else if x.seq < 1 ∨ 10000 < x.seq then 3 else chkOp x.o
def foldG (d : List It) : List En → List It × Int
  | [] => (d, 0)
  | x :: l => if (applyP d x.o).2 ≠ 0 then ([], (applyP d x.o).2) else foldG (applyP d x.o).1 l
def foldP (d : List It) (l : List En) : List It × Int := if chkDoc d ≠ 0 then ([], chkDoc d) else if 60 < l.length then ([], 2) else foldG d l
def chkEns : List En → Int
  | [] => 0
  | x :: l => if chkEn x ≠ 0 then chkEn x else chkEns l
def chkSrv (s : Srv) : Int :=
  if 60 < s.log.length then 2
  else if chkEns s.log ≠ 0 then chkEns s.log
  else if (foldP s.first s.log).2 ≠ 0 then (foldP s.first s.log).2
  else if (foldP s.first s.log).1 = s.now then 0 else 4
def hasP (l : List En) (client seq : Int) : Bool := l.any fun x => x.client == client && x.seq == seq
def rebase (o : List Pt) : List En → List Pt × Int
  | [] => (o, 0)
  | l :: ls => if (turnP l.o o).2.2 ≠ 0 then ([], (turnP l.o o).2.2) else rebase (turnP l.o o).2.1 ls
def srv0 : Srv := ⟨[], [], []⟩
def takeQ (s : Srv) (rev : Int) (x : En) : Srv × Int :=
  if rev < 0 ∨ (s.log.length : Int) < rev then (srv0, 6)
  else if s.log.length = 60 then (srv0, 2)
  else if (rebase x.o (s.log.drop rev.toNat)).2 ≠ 0 then (srv0, (rebase x.o (s.log.drop rev.toNat)).2)
  else if (applyP s.now (rebase x.o (s.log.drop rev.toNat)).1).2 ≠ 0 then (srv0, (applyP s.now (rebase x.o (s.log.drop rev.toNat)).1).2)
  else (⟨s.first, s.log ++ [⟨x.client, x.seq, (rebase x.o (s.log.drop rev.toNat)).1⟩], (applyP s.now (rebase x.o (s.log.drop rev.toNat)).1).1⟩, 0)
def takeP (s : Srv) (rev : Int) (x : En) : Srv × Int :=
  if chkSrv s ≠ 0 then (srv0, chkSrv s) else if chkEn x ≠ 0 then (srv0, chkEn x) else if hasP s.log x.client x.seq = true then (s, 0) else takeQ s rev x

theorem chkEns_all {l : List En} (h : chkEns l = 0) : ∀ x ∈ l, chkEn x = 0 := by
  induction l with
  | nil => intro x hx; simp at hx
  | cons y l ih =>
    simp only [chkEns] at h
    split at h
    · rename_i h0; exact absurd h h0
    · rename_i h0
      intro x hx
      rcases List.mem_cons.1 hx with rfl | hx
      · exact Decidable.not_not.1 h0
      · exact ih h x hx
theorem chkEns_mk {l : List En} (h : ∀ x ∈ l, chkEn x = 0) : chkEns l = 0 := by
  induction l with
  | nil => rfl
  | cons y l ih => simp only [chkEns]; rw [if_neg (by simp [h y (List.mem_cons_self ..)])]; exact ih fun x hx => h x (List.mem_cons_of_mem _ hx)

structure SrvOk (s : Srv) : Prop where
  len : s.log.length ≤ 60
  ens : ∀ x ∈ s.log, chkEn x = 0
  doc : chkDoc s.first = 0
  fold : foldG s.first s.log = (s.now, 0)
theorem SrvOk.of {s : Srv} (h : chkSrv s = 0) : SrvOk s := by
  unfold chkSrv at h
  split at h; · simp at h
  rename_i h1
  split at h; · rename_i h2; exact absurd h h2
  rename_i h2
  split at h; · rename_i h3; exact absurd h h3
  rename_i h3
  split at h
  · rename_i h4
    have h3' := Decidable.not_not.1 h3
    have hd : chkDoc s.first = 0 := by
      unfold foldP at h3'
      split at h3'
      · rename_i hd; exact absurd h3' hd
      · rename_i hd; exact Decidable.not_not.1 hd
    have e : foldP s.first s.log = foldG s.first s.log := by simp [foldP, hd]; omega
    rw [e] at h3' h4
    exact ⟨by omega, chkEns_all (Decidable.not_not.1 h2), hd, by rw [← h3', ← h4]⟩
  · simp at h
theorem SrvOk.chk {s : Srv} (h : SrvOk s) : chkSrv s = 0 := by
  have h1 := h.len
  have e : foldP s.first s.log = (s.now, 0) := by simp [foldP, h.doc, h.fold]; omega
  unfold chkSrv
  rw [if_neg (by omega), if_neg (by rw [chkEns_mk h.ens]; simp), if_neg (by rw [e]; simp), if_pos (by rw [e])]
theorem SrvOk.foldP {s : Srv} (h : SrvOk s) : Mh.foldP s.first s.log = (s.now, 0) := by
  have h1 := h.len
  simp [Mh.foldP, h.doc, h.fold]; omega

theorem foldG_app (d : List It) (l m : List En) : foldG d (l ++ m) = if (foldG d l).2 ≠ 0 then ([], (foldG d l).2) else foldG (foldG d l).1 m := by
  induction l generalizing d with
  | nil => simp [foldG]
  | cons x l ih =>
    simp only [List.cons_append, foldG]
    split
    · rfl
    · exact ih _
theorem foldG_doc {d d' : List It} {l : List En} (h : foldG d l = (d', 0)) (hd : chkDoc d = 0) : chkDoc d' = 0 := by
  induction l generalizing d with
  | nil => simp [foldG] at h; rw [← h]; exact hd
  | cons x l ih =>
    simp only [foldG] at h
    split at h
    · rename_i h1; simp at h; exact absurd h.2 h1
    · rename_i h1
      have ha := Applies.of (Decidable.not_not.1 h1)
      rw [ha.eq] at h
      exact ih h ha.res.1
theorem foldG_take {d d' : List It} {l m : List En} (h : foldG d (l ++ m) = (d', 0)) : ∃ e, foldG d l = (e, 0) ∧ foldG e m = (d', 0) := by
  rw [foldG_app] at h
  split at h
  · rename_i h1; simp at h; exact absurd h.2 h1
  · rename_i h1
    exact ⟨(foldG d l).1, by rw [← Decidable.not_not.1 h1], h⟩

/-- What is taken, if it is. -/
theorem takeP_cases {s t : Srv} {rev : Int} {x : En} (h : takeP s rev x = (t, 0)) : SrvOk s ∧ chkEn x = 0 ∧ ((hasP s.log x.client x.seq = true ∧ t = s) ∨
    (hasP s.log x.client x.seq = false ∧ 0 ≤ rev ∧ rev ≤ s.log.length ∧ s.log.length < 60 ∧ ∃ o, rebase x.o (s.log.drop rev.toNat) = (o, 0) ∧ Applies s.now o ∧ t = ⟨s.first, s.log ++ [⟨x.client, x.seq, o⟩], doA s.now (acts o)⟩)) := by
  unfold takeP at h
  split at h; · rename_i h1; simp at h; exact absurd h.2 h1
  rename_i h1
  split at h; · rename_i h2; simp at h; exact absurd h.2 h2
  rename_i h2
  have hs := SrvOk.of (Decidable.not_not.1 h1)
  refine ⟨hs, Decidable.not_not.1 h2, ?_⟩
  split at h
  · rename_i h3; simp at h; exact Or.inl ⟨h3, h.symm⟩
  · rename_i h3
    right
    unfold takeQ at h
    split at h; · simp at h
    rename_i h4
    split at h; · simp at h
    rename_i h5
    split at h; · rename_i h6; simp at h; exact absurd h.2 h6
    rename_i h6
    split at h; · rename_i h7; simp at h; exact absurd h.2 h7
    rename_i h7
    have hl := hs.len
    have ha := Applies.of (Decidable.not_not.1 h7)
    rw [ha.eq] at h
    simp at h
    exact ⟨by simpa using h3, by omega, by omega, by omega, (rebase x.o (s.log.drop rev.toNat)).1, by rw [← Decidable.not_not.1 h6], ha, h.symm⟩

theorem law_folds {s t : Srv} {rev : Int} {x : En} (h : takeP s rev x = (t, 0)) :
    chkSrv t = 0 ∧ s.log.length ≤ t.log.length ∧ t.log.length ≤ s.log.length + 1 ∧ t.log.take s.log.length = s.log ∧ hasP t.log x.client x.seq = true ∧ (t.log.length = s.log.length → t = s) ∧ takeP t rev x = (t, 0) ∧ foldP t.first t.log = (t.now, 0) := by
  obtain ⟨hs, hx, h | h⟩ := takeP_cases h
  · obtain ⟨h1, rfl⟩ := h
    refine ⟨hs.chk, by omega, by omega, by simp, h1, fun _ => rfl, ?_, hs.foldP⟩
    simp [takeP, hs.chk, hx, h1]
  · obtain ⟨h1, h2, h3, h4, o, h5, h6, rfl⟩ := h
    have hc : hasP (s.log ++ [⟨x.client, x.seq, o⟩]) x.client x.seq = true := by simp [hasP]
    have ht : SrvOk ⟨s.first, s.log ++ [⟨x.client, x.seq, o⟩], doA s.now (acts o)⟩ := by
      refine ⟨by simp; omega, fun y hy => ?_, hs.doc, ?_⟩
      · rcases List.mem_append.1 hy with hy | hy
        · exact hs.ens y hy
        · simp at hy
          subst hy
          unfold chkEn at hx ⊢
          split at hx; · simp at hx
          rename_i a1
          split at hx; · simp at hx
          rename_i a2
          simp only [if_neg a1, if_neg a2]
          exact h6.op
      · show foldG s.first (s.log ++ _) = _
        rw [foldG_app, hs.fold]
        simp [foldG, h6.eq]
    refine ⟨ht.chk, by simp, by simp, by simp, hc, fun h => by simp at h, ?_, ht.foldP⟩
    simp only [takeP, ht.chk, hx, hc]
    simp

/-- ServerOrder's loop: d is what the log up to here makes, o the operation so far, rest what is to come. -/
structure Ord (now : List It) (fin : List Pt) (d : List It) (o : List Pt) (rest : List En) : Prop where
  doc : chkDoc d = 0
  op : chkOp o = 0
  fold : foldG d rest = (now, 0)
  reb : rebase o rest = (fin, 0)
  last : Applies now fin

theorem Ord.base {now : List It} {fin : List Pt} {d : List It} {o : List Pt} {rest : List En} (h : Ord now fin d o rest) : frm (acts o) = d.length := by
  cases rest with
  | nil =>
    have h1 := h.fold; have h2 := h.reb
    simp [foldG, rebase] at h1 h2
    subst h1 h2
    exact h.last.base
  | cons l rest =>
    have h1 := h.fold; have h2 := h.reb
    simp only [foldG] at h1
    simp only [rebase] at h2
    split at h1; · rename_i h3; simp at h1; exact absurd h1.2 h3
    rename_i h3
    split at h2; · rename_i h4; simp at h2; exact absurd h2.2 h4
    rename_i h4
    have ha := Applies.of (Decidable.not_not.1 h3)
    have ht := Turns.of (Decidable.not_not.1 h4)
    rw [← ht.base, ha.base]
theorem Ord.err {now : List It} {fin : List Pt} {d : List It} {o : List Pt} {rest : List En} (h : Ord now fin d o rest) : (applyP d o).2 = 2 ∨ applyP d o = (doA d (acts o), 0) := by
  by_cases h80 : too (acts o) ≤ 80
  · exact Or.inr (Applies.eq ⟨h.doc, h.op, h.base, h80⟩)
  · left
    simp only [applyP, h.doc, h.op, h.base]
    rw [if_neg (by simp), if_neg (by simp), if_neg (by simp), if_pos (by omega)]
theorem Ord.nil {now : List It} {fin : List Pt} {d : List It} {o : List Pt} (h : Ord now fin d o []) : doA d (acts o) = doA now (acts fin) ∧ o = fin := by
  have h1 := h.fold; have h2 := h.reb
  simp [foldG, rebase] at h1 h2
  subst h1 h2
  exact ⟨rfl, rfl⟩
theorem Ord.cons {now : List It} {fin : List Pt} {d : List It} {o : List Pt} {l : En} {rest : List En} (h : Ord now fin d o (l :: rest)) :
    (turnP l.o o).2.2 = 0 ∧ Ord now fin (doA d (acts l.o)) (turnP l.o o).2.1 rest ∧
    ((applyP (doA d (acts o)) (turnP l.o o).1).2 ≠ 0 ∨ applyP (doA d (acts o)) (turnP l.o o).1 = (doA (doA d (acts l.o)) (acts (turnP l.o o).2.1), 0)) := by
  have h1 := h.fold; have h2 := h.reb
  simp only [foldG] at h1
  simp only [rebase] at h2
  split at h1; · rename_i h3; simp at h1; exact absurd h1.2 h3
  rename_i h3
  split at h2; · rename_i h4; simp at h2; exact absurd h2.2 h4
  rename_i h4
  have ha := Applies.of (Decidable.not_not.1 h3)
  have ht := Turns.of (Decidable.not_not.1 h4)
  rw [ha.eq] at h1
  refine ⟨Decidable.not_not.1 h4, ⟨ha.res.1, by rw [ht.eq]; exact ht.cy, h1, h2, h.last⟩, ?_⟩
  have kl := chkOp_ok ha.op
  have ko := chkOp_ok h.op
  have hm := turn_meets _ _ ht.base kl.ok ko.ok d ha.base.symm (doc_mks ha.doc)
  rw [ht.eq]
  simp only [acts_tidyA, doA_norm]
  by_cases h0 : (applyP (doA d (acts o)) (tidyA (turnA (acts l.o) (acts o)).1)).2 = 0
  · right
    have hb := Applies.of h0
    rw [hb.eq, acts_tidyA, doA_norm, hm]
  · exact Or.inl h0

theorem law_order {s t : Srv} {rev : Int} {x : En} (h : takeP s rev x = (t, 0)) (hn : t.log.length ≠ s.log.length) :
    0 ≤ rev ∧ rev ≤ s.log.length ∧ ∃ d fin, foldP s.first (s.log.take rev.toNat) = (d, 0) ∧ Ord s.now fin d x.o (s.log.drop rev.toNat) ∧ t.now = doA s.now (acts fin) ∧ t.log = s.log ++ [⟨x.client, x.seq, fin⟩] := by
  obtain ⟨hs, hx, h | h⟩ := takeP_cases h
  · obtain ⟨_, rfl⟩ := h; exact absurd rfl hn
  · obtain ⟨h1, h2, h3, h4, o, h5, h6, rfl⟩ := h
    refine ⟨h2, h3, ?_⟩
    have hf := hs.fold
    rw [← List.take_append_drop rev.toNat s.log] at hf
    obtain ⟨d, hd1, hd2⟩ := foldG_take hf
    have hop : chkOp x.o = 0 := by
      unfold chkEn at hx
      split at hx; · simp at hx
      split at hx; · simp at hx
      exact hx
    refine ⟨d, o, ?_, ⟨foldG_doc hd1 hs.doc, hop, hd2, h5, h6⟩, rfl, rfl⟩
    have := hs.len
    simp [foldP, hs.doc, hd1]
    omega

/- The client. -/
def ownsP (d : List It) (sent held : List Pt) : List It × Int :=
  if sent = [] then (if held = [] then (d, 0) else applyP d held)
  else if (applyP d sent).2 ≠ 0 then ([], (applyP d sent).2)
  else if held = [] then applyP d sent else applyP (applyP d sent).1 held
def chkCl (c : Cl) : Int :=
  if c.rev < 0 ∨ 60 < c.rev ∨ c.seq < 0 ∨ 10000 < c.seq then 3
  else if chkDoc c.base ≠ 0 then chkDoc c.base
  else if (c.sent = [] ∧ c.held ≠ []) ∨ (c.sent ≠ [] ∧ c.seq = 0) then 4
  else if (ownsP c.base c.sent c.held).2 ≠ 0 then (ownsP c.base c.sent c.held).2
  else if (ownsP c.base c.sent c.held).1 = c.now then 0 else 4
def cl0 : Cl := ⟨0, [], [], 0, [], [], false⟩
def doC (c : Cl) (o : List Pt) : Cl × Bool × Int :=
  if chkCl c ≠ 0 then (cl0, false, chkCl c)
  else if (applyP c.now o).2 ≠ 0 then (cl0, false, (applyP c.now o).2)
  else if c.sent = [] then (if c.seq = 10000 then (cl0, false, 2) else ({ c with now := (applyP c.now o).1, sent := o, seq := c.seq + 1 }, true, 0))
  else if c.held = [] then ({ c with now := (applyP c.now o).1, held := o }, false, 0)
  else if (joinP c.held o).2 ≠ 0 then (cl0, false, (joinP c.held o).2)
  else ({ c with now := (applyP c.now o).1, held := (joinP c.held o).1 }, false, 0)
def giveC (c : Cl) : Cl := { c with sent := [], held := [], now := c.base }
/-- Its own operations behind another one's: one after the other. -/
def turn2 (o sent held : List Pt) : Option (List Pt × List Pt) :=
  if sent = [] then some ([], held)
  else if (turnP o sent).2.2 ≠ 0 then none
  else if held = [] then some ((turnP o sent).2.1, [])
  else if (turnP (turnP o sent).1 held).2.2 ≠ 0 then none
  else some ((turnP o sent).2.1, (turnP (turnP o sent).1 held).2.1)
def owns2 (d : List It) (sent held : List Pt) : List It × Int :=
  if sent = [] then (d, 0)
  else if (applyP d sent).2 ≠ 0 then ([], (applyP d sent).2)
  else if held = [] then applyP d sent else applyP (applyP d sent).1 held
def otherC (c : Cl) (o : List Pt) : Cl :=
  if (applyP c.base o).2 ≠ 0 then c
  else match turn2 o c.sent c.held with
    | none => giveC { c with base := (applyP c.base o).1, rev := c.rev + 1 }
    | some (s, h) => if (owns2 (applyP c.base o).1 s h).2 ≠ 0 then giveC { c with base := (applyP c.base o).1, rev := c.rev + 1 }
      else { c with base := (applyP c.base o).1, rev := c.rev + 1, sent := s, held := h, now := (owns2 (applyP c.base o).1 s h).1 }
def hearC (c : Cl) (who : Int) (m : Msg) : Cl × Bool × Int :=
  if chkCl c ≠ 0 then (cl0, false, chkCl c)
  else if m.e.o = [] then (if m.e.client = who ∧ m.e.seq = c.seq ∧ c.sent ≠ [] then (giveC c, false, 0) else (c, false, 0))
  else if chkOp m.e.o ≠ 0 then (cl0, false, chkOp m.e.o)
  else if m.rev ≠ c.rev + 1 ∨ c.rev = 60 then (c, false, 0)
  else if ¬ (m.e.client = who ∧ m.e.seq = c.seq ∧ c.sent ≠ []) then (otherC c m.e.o, false, 0)
  else if (applyP c.base m.e.o).2 ≠ 0 then (cl0, false, (applyP c.base m.e.o).2)
  else if c.held = [] then ({ c with base := (applyP c.base m.e.o).1, rev := c.rev + 1, sent := [], held := [], now := (applyP c.base m.e.o).1 }, false, 0)
  else if c.seq = 10000 ∨ (applyP (applyP c.base m.e.o).1 c.held).2 ≠ 0 then (giveC { c with base := (applyP c.base m.e.o).1, rev := c.rev + 1 }, false, 0)
  else ({ c with base := (applyP c.base m.e.o).1, rev := c.rev + 1, sent := c.held, held := [], now := (applyP (applyP c.base m.e.o).1 c.held).1, seq := c.seq + 1 }, true, 0)

structure ClOk (c : Cl) : Prop where
  r0 : 0 ≤ c.rev
  r60 : c.rev ≤ 60
  s0 : 0 ≤ c.seq
  s1 : c.seq ≤ 10000
  doc : chkDoc c.base = 0
  hs : c.sent = [] → c.held = []
  sq : c.sent ≠ [] → c.seq ≠ 0
  own : ownsP c.base c.sent c.held = (c.now, 0)
theorem ClOk.of {c : Cl} (h : chkCl c = 0) : ClOk c := by
  unfold chkCl at h
  split at h; · simp at h
  rename_i h1
  split at h; · rename_i h2; exact absurd h h2
  rename_i h2
  split at h; · simp at h
  rename_i h3
  split at h; · rename_i h4; exact absurd h h4
  rename_i h4
  split at h
  · rename_i h5
    refine ⟨by omega, by omega, by omega, by omega, Decidable.not_not.1 h2, fun a => ?_, fun a b => h3 (Or.inr ⟨a, b⟩), ?_⟩
    · by_cases hh : c.held = []
      · exact hh
      · exact absurd (Or.inl ⟨a, hh⟩) h3
    · rw [← Decidable.not_not.1 h4, ← h5]
  · simp at h
theorem ClOk.chk {c : Cl} (h : ClOk c) : chkCl c = 0 := by
  have h1 := h.r0; have h2 := h.r60; have h3 := h.s0; have h4 := h.s1
  unfold chkCl
  rw [if_neg (by omega), if_neg (by simp [h.doc]), if_neg, if_neg (by simp [h.own]), if_pos (by rw [h.own])]
  rintro (⟨a, b⟩ | ⟨a, b⟩)
  · exact b (h.hs a)
  · exact h.sq a b
/-- What a client has, in three ways. -/
theorem ClOk.cases {c : Cl} (h : ClOk c) : (c.sent = [] ∧ c.held = [] ∧ c.now = c.base) ∨ (c.sent ≠ [] ∧ c.held = [] ∧ Applies c.base c.sent ∧ c.now = doA c.base (acts c.sent)) ∨
    (c.sent ≠ [] ∧ c.held ≠ [] ∧ Applies c.base c.sent ∧ Applies (doA c.base (acts c.sent)) c.held ∧ c.now = doA (doA c.base (acts c.sent)) (acts c.held)) := by
  have ho := h.own
  unfold ownsP at ho
  by_cases hs : c.sent = []
  · have hh := h.hs hs
    simp [hs, hh] at ho
    exact Or.inl ⟨hs, hh, ho.symm⟩
  · rw [if_neg hs] at ho
    split at ho; · rename_i h1; simp at ho; exact absurd ho.2 h1
    rename_i h1
    have ha := Applies.of (Decidable.not_not.1 h1)
    right
    by_cases hh : c.held = []
    · rw [if_pos hh, ha.eq] at ho
      simp at ho
      exact Or.inl ⟨hs, hh, ha, ho.symm⟩
    · rw [if_neg hh, ha.eq] at ho
      have hb := Applies.of (d := doA c.base (acts c.sent)) (o := c.held) (by rw [ho])
      rw [hb.eq] at ho
      simp at ho
      exact Or.inr ⟨hs, hh, ha, hb, ho.symm⟩
theorem ClOk.ndoc {c : Cl} (h : ClOk c) : chkDoc c.now = 0 := by
  rcases h.cases with ⟨_, _, e⟩ | ⟨_, _, ha, e⟩ | ⟨_, _, _, hb, e⟩
  · rw [e]; exact h.doc
  · rw [e]; exact ha.res.1
  · rw [e]; exact hb.res.1

theorem law_do {c x : Cl} {o : List Pt} {b : Bool} (h : doC c o = (x, b, 0)) : ClOk c ∧ Applies c.now o ∧ ClOk x ∧ x.now = doA c.now (acts o) ∧ x.base = c.base ∧ x.rev = c.rev ∧ x.joined = c.joined ∧ x.sent ≠ [] ∧
    (c.sent ≠ [] → x.sent = c.sent ∧ x.seq = c.seq ∧ x.held ≠ [] ∧ b = false) ∧ (c.sent = [] → b = true ∧ x.sent = o ∧ x.held = [] ∧ x.seq = c.seq + 1) := by
  unfold doC at h
  split at h; · rename_i h1; simp at h; exact absurd h.2.2 h1
  rename_i h1
  have hc := ClOk.of (Decidable.not_not.1 h1)
  split at h; · rename_i h2; simp at h; exact absurd h.2.2 h2
  rename_i h2
  have ha := Applies.of (Decidable.not_not.1 h2)
  have hone := (chkOp_ok ha.op).ne
  rw [ha.eq] at h
  have hs0 := hc.s0; have hs1 := hc.s1
  split at h
  · rename_i h3
    split at h; · simp at h
    rename_i h4
    have hh := hc.hs h3
    have hn : c.now = c.base := by
      rcases hc.cases with ⟨_, _, e⟩ | ⟨a, _⟩ | ⟨a, _⟩
      · exact e
      · exact absurd h3 a
      · exact absurd h3 a
    simp at h
    obtain ⟨rfl, rfl⟩ := h
    rw [hn] at ha
    refine ⟨hc, by rw [hn]; exact ha, ⟨hc.r0, hc.r60, by simp; omega, by simp; omega, hc.doc, fun _ => hh, fun _ => by simp; omega, ?_⟩, rfl, rfl, rfl, rfl, hone, fun a => absurd h3 a, fun _ => ⟨rfl, rfl, hh, rfl⟩⟩
    simp only [ownsP, hone, hh, ha.eq, hn]
    simp
  · rename_i h3
    split at h
    · rename_i h4
      simp at h
      obtain ⟨rfl, rfl⟩ := h
      obtain ⟨hb, hn⟩ : Applies c.base c.sent ∧ c.now = doA c.base (acts c.sent) := by
        rcases hc.cases with ⟨a, _⟩ | ⟨_, _, a, e⟩ | ⟨_, a, _⟩
        · exact absurd a h3
        · exact ⟨a, e⟩
        · exact absurd h4 a
      refine ⟨hc, ha, ⟨hc.r0, hc.r60, hc.s0, hc.s1, hc.doc, fun a => absurd a h3, hc.sq, ?_⟩, rfl, rfl, rfl, rfl, h3, fun _ => ⟨rfl, rfl, hone, rfl⟩, fun a => absurd a h3⟩
      rw [hn] at ha
      simp only [ownsP, h3, hb.eq, hone, ha.eq, hn]
      simp
    · rename_i h4
      split at h; · rename_i h5; simp at h; exact absurd h.2.2 h5
      rename_i h5
      simp at h
      obtain ⟨rfl, rfl⟩ := h
      obtain ⟨hb, hb2, hn⟩ : Applies c.base c.sent ∧ Applies (doA c.base (acts c.sent)) c.held ∧ c.now = doA (doA c.base (acts c.sent)) (acts c.held) := by
        rcases hc.cases with ⟨a, _⟩ | ⟨_, a, _⟩ | ⟨_, _, a, b, e⟩
        · exact absurd a h3
        · exact absurd a h4
        · exact ⟨a, b, e⟩
      have ha' := ha
      rw [hn] at ha'
      rcases law_joins hb2 ha' with h6 | ⟨hj, hja, hjd⟩
      · exact absurd (Decidable.not_not.1 h5) (by rw [h6]; decide)
      have hjne : (joinP c.held o).1 ≠ [] := (chkOp_ok hja.op).ne
      refine ⟨hc, ha, ⟨hc.r0, hc.r60, hc.s0, hc.s1, hc.doc, fun a => absurd a h3, hc.sq, ?_⟩, rfl, rfl, rfl, rfl, h3, fun _ => ⟨rfl, rfl, hjne, rfl⟩, fun a => absurd a h3⟩
      simp only [ownsP, h3, hb.eq, hjne, hja.eq, hjd, hn]
      simp

theorem give_ok {c : Cl} (h0 : 0 ≤ c.rev) (h1 : c.rev ≤ 60) (h2 : 0 ≤ c.seq) (h3 : c.seq ≤ 10000) (hd : chkDoc c.base = 0) : ClOk (giveC c) :=
  ⟨h0, h1, h2, h3, hd, fun _ => rfl, fun h => absurd rfl h, by simp [ownsP, giveC]⟩

/-- What its own operations are behind another one's: with what they make of what is there. -/
theorem turn2_cases {o sent held s h : List Pt} (ht : turn2 o sent held = some (s, h)) : (sent = [] ∧ s = [] ∧ h = held) ∨ (sent ≠ [] ∧ held = [] ∧ Turns o sent ∧ s = (turnP o sent).2.1 ∧ h = []) ∨
    (sent ≠ [] ∧ held ≠ [] ∧ Turns o sent ∧ Turns (turnP o sent).1 held ∧ s = (turnP o sent).2.1 ∧ h = (turnP (turnP o sent).1 held).2.1) := by
  unfold turn2 at ht
  split at ht
  · rename_i h1; simp only [Option.some.injEq, Prod.mk.injEq] at ht; exact Or.inl ⟨h1, ht.1.symm, ht.2.symm⟩
  · rename_i h1
    split at ht; · simp at ht
    rename_i h2
    have t1 := Turns.of (Decidable.not_not.1 h2)
    split at ht
    · rename_i h3; simp only [Option.some.injEq, Prod.mk.injEq] at ht; exact Or.inr (Or.inl ⟨h1, h3, t1, ht.1.symm, ht.2.symm⟩)
    · rename_i h3
      split at ht; · simp at ht
      rename_i h4
      simp only [Option.some.injEq, Prod.mk.injEq] at ht
      exact Or.inr (Or.inr ⟨h1, h3, t1, Turns.of (Decidable.not_not.1 h4), ht.1.symm, ht.2.symm⟩)
theorem Turns.ne {a b : List Pt} (h : Turns a b) : (turnP a b).1 ≠ [] ∧ (turnP a b).2.1 ≠ [] ∧ chkOp (turnP a b).1 = 0 ∧ chkOp (turnP a b).2.1 = 0 := by
  rw [h.eq]; exact ⟨(chkOp_ok h.cx).ne, (chkOp_ok h.cy).ne, h.cx, h.cy⟩

theorem owns2_ok {d : List It} {s h : List Pt} (hsh : s = [] → h = []) (hn : (owns2 d s h).2 = 0) : ownsP d s h = ((owns2 d s h).1, 0) := by
  unfold owns2 at hn ⊢
  unfold ownsP
  by_cases hs : s = []
  · simp [hs, hsh hs]
  · simp only [if_neg hs] at hn ⊢
    split at hn; · rename_i h1; exact absurd hn h1
    rename_i h1
    simp only [if_neg h1]
    by_cases hh : h = []
    · simp only [if_pos hh] at hn ⊢; rw [← hn]
    · simp only [if_neg hh] at hn ⊢; rw [← hn]

theorem other_ok {c : Cl} {o : List Pt} (hc : ClOk c) (hr : c.rev ≠ 60) : ClOk (otherC c o) ∧ (otherC c o).joined = c.joined ∧ (otherC c o).seq = c.seq ∧
    (((applyP c.base o).2 ≠ 0 ∧ otherC c o = c) ∨ ((applyP c.base o).2 = 0 ∧ (otherC c o).rev = c.rev + 1 ∧ (otherC c o).base = (applyP c.base o).1)) := by
  have h0 := hc.r0; have h1 := hc.r60
  unfold otherC
  split
  · rename_i h; exact ⟨hc, rfl, rfl, Or.inl ⟨h, rfl⟩⟩
  · rename_i h
    have h' := Decidable.not_not.1 h
    have ha := Applies.of h'
    have hd : chkDoc (applyP c.base o).1 = 0 := by rw [ha.eq]; exact ha.res.1
    have hg : ClOk (giveC { c with base := (applyP c.base o).1, rev := c.rev + 1 }) := give_ok (by simp; omega) (by simp; omega) hc.s0 hc.s1 hd
    split
    · exact ⟨hg, rfl, rfl, Or.inr ⟨h', rfl, rfl⟩⟩
    · rename_i s hh ht
      split
      · exact ⟨hg, rfl, rfl, Or.inr ⟨h', rfl, rfl⟩⟩
      · rename_i hn
        have hsh : s = [] → hh = [] := by
          rcases turn2_cases ht with ⟨a, _, b⟩ | ⟨_, _, _, _, b⟩ | ⟨_, _, t1, t2, a, b⟩
          · intro _; rw [b]; exact hc.hs a
          · intro _; exact b
          · intro e; rw [a] at e; exact absurd e t1.ne.2.1
        refine ⟨⟨by simp; omega, by simp; omega, hc.s0, hc.s1, hd, hsh, fun a => ?_, owns2_ok hsh (Decidable.not_not.1 hn)⟩, rfl, rfl, Or.inr ⟨h', rfl, rfl⟩⟩
        refine hc.sq ?_
        rcases turn2_cases ht with ⟨_, b, _⟩ | ⟨b, _⟩ | ⟨b, _⟩
        · exact absurd b a
        · exact b
        · exact b

theorem law_hear {c y : Cl} {who : Int} {m : Msg} {b : Bool} (h : hearC c who m = (y, b, 0)) : ClOk y ∧ c.rev ≤ y.rev ∧ y.rev ≤ c.rev + 1 ∧ (b = true → y.sent ≠ [] ∧ y.seq = c.seq + 1) ∧ y.joined = c.joined ∧
    (y.rev = c.rev → y.base = c.base) ∧ (y.rev ≠ c.rev → applyP c.base m.e.o = (y.base, 0)) := by
  unfold hearC at h
  split at h; · rename_i h1; simp at h; exact absurd h.2.2 h1
  rename_i h1
  have hc := ClOk.of (Decidable.not_not.1 h1)
  have r0 := hc.r0; have r1 := hc.r60; have s0 := hc.s0; have s1 := hc.s1
  split at h
  · split at h
    · simp at h
      obtain ⟨rfl, rfl⟩ := h
      exact ⟨give_ok hc.r0 hc.r60 hc.s0 hc.s1 hc.doc, by simp [giveC], by simp only [giveC]; omega, by simp, rfl, fun _ => rfl, fun a => absurd rfl a⟩
    · simp at h
      obtain ⟨rfl, rfl⟩ := h
      exact ⟨hc, by simp, by omega, by simp, rfl, fun _ => rfl, fun a => absurd rfl a⟩
  split at h; · rename_i h2; simp at h; exact absurd h.2.2 h2
  split at h
  · simp at h
    obtain ⟨rfl, rfl⟩ := h
    exact ⟨hc, by simp, by omega, by simp, rfl, fun _ => rfl, fun a => absurd rfl a⟩
  rename_i h3
  have h60 : c.rev ≠ 60 := fun e => h3 (Or.inr e)
  split at h
  · simp at h
    obtain ⟨rfl, rfl⟩ := h
    obtain ⟨g1, g2, g3, g4 | g4⟩ := other_ok (o := m.e.o) hc h60
    · refine ⟨g1, by rw [g4.2]; omega, by rw [g4.2]; omega, by simp, g2, fun _ => by rw [g4.2], fun a => absurd (by rw [g4.2]) a⟩
    · refine ⟨g1, by rw [g4.2.1]; omega, by rw [g4.2.1]; omega, by simp, g2, fun a => by rw [g4.2.1] at a; omega, fun _ => by rw [g4.2.2, ← g4.1]⟩
  split at h; · rename_i h2; simp at h; exact absurd h.2.2 h2
  rename_i h5
  have h5' := Decidable.not_not.1 h5
  have ha := Applies.of h5'
  have hd : chkDoc (applyP c.base m.e.o).1 = 0 := by rw [ha.eq]; exact ha.res.1
  split at h
  · simp at h
    obtain ⟨rfl, rfl⟩ := h
    refine ⟨⟨by simp; omega, by simp; omega, hc.s0, hc.s1, hd, fun _ => rfl, fun a => absurd rfl a, by simp [ownsP]⟩, by simp; omega, by simp, by simp, rfl, fun a => by simp at a; omega, fun _ => by rw [← h5']⟩
  rename_i h6
  split at h
  · simp at h
    obtain ⟨rfl, rfl⟩ := h
    refine ⟨give_ok (by simp; omega) (by simp; omega) hc.s0 hc.s1 hd, by simp [giveC]; omega, by simp [giveC], by simp, rfl, fun a => by simp [giveC] at a; omega, fun _ => by simp only [giveC]; rw [← h5']⟩
  · rename_i h7
    simp at h
    obtain ⟨rfl, rfl⟩ := h
    have h8 : (applyP (applyP c.base m.e.o).1 c.held).2 = 0 := by
      by_cases hh : (applyP (applyP c.base m.e.o).1 c.held).2 = 0
      · exact hh
      · exact absurd (Or.inr hh) h7
    have h9 : c.seq ≠ 10000 := fun e => h7 (Or.inl e)
    refine ⟨⟨by simp; omega, by simp; omega, by simp; omega, by simp; omega, hd, fun a => absurd a h6, fun _ => by simp; omega, ?_⟩, by simp; omega, by simp, fun _ => ⟨h6, rfl⟩, rfl, fun a => by simp at a; omega, fun _ => by rw [← h5']⟩
    simp only [ownsP, h6, h8]
    simp
    rw [← h8]

/-- ClientMeets, its last step: the other one's operation, turned behind all of its own, on what the client had. -/
theorem meets_step {d : List It} {p own : List Pt} (hd : Applies d p) (ho : Applies d own) (ht : Turns p own) :
    chkOp (turnP p own).1 = 0 ∧ frm (acts (turnP p own).1) = (doA d (acts own)).length ∧ doA (doA d (acts own)) (acts (turnP p own).1) = doA (doA d (acts p)) (acts (turnP p own).2.1) := by
  have kp := chkOp_ok hd.op
  have ko := chkOp_ok ho.op
  obtain ⟨f1, f2, f3⟩ := turn_frm _ _ ht.base
  have hm := turn_meets _ _ ht.base kp.ok ko.ok d hd.base.symm (doc_mks hd.doc)
  rw [ht.eq]
  refine ⟨ht.cx, ?_, ?_⟩
  · simp only [acts_tidyA, frm_norm]; rw [f1, ho.res.2]
  · simp only [acts_tidyA, doA_norm]; exact hm.symm
end Go.Mh
