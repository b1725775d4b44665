/- Operations that are ones: what checking tells of their acts, and what is made tidy; applied, turned, joined; the laws of OpKeeps, OpNothing, OtMeets, OtJoins, OtNothing in plain terms. No program in sight. -/
import Derived.Test.YtgodceplajkcdaaPlJ
namespace Go.Mh

/-- The last act keeps. -/
def EndA (l : List Ac) : Prop := ∃ l' c, l = l' ++ [.keep c]
theorem EndA.ne {l : List Ac} (h : EndA l) : l ≠ [] := by obtain ⟨l', c, rfl⟩ := h; simp
theorem EndA.cons {l : List Ac} (h : EndA l) (a : Ac) : EndA (a :: l) := by obtain ⟨l', c, rfl⟩ := h; exact ⟨a :: l', c, rfl⟩
theorem EndA.frm {l : List Ac} (h : EndA l) : 0 < Mh.frm l := by obtain ⟨l', c, rfl⟩ := h; simp [frm_append, Mh.frm]
theorem EndA.too {l : List Ac} (h : EndA l) : 0 < Mh.too l := by obtain ⟨l', c, rfl⟩ := h; simp [too_append, Mh.too]
theorem EndA.tail {a : Ac} {l : List Ac} (h : EndA (a :: l)) (hl : l ≠ []) : EndA l := by
  obtain ⟨l', c, e⟩ := h
  cases l' with
  | nil => simp at e; exact absurd e.2 hl
  | cons b l' => simp at e; exact ⟨l', c, e.2⟩
theorem EndA.keep1 (c : Kd) : EndA [.keep c] := ⟨[], c, rfl⟩
theorem EndA.not_put {x : It} {l : List Ac} (h : EndA (.put x :: l)) : EndA l := by
  refine h.tail ?_
  rintro rfl
  obtain ⟨l', c, e⟩ := h
  cases l' with
  | nil => simp at e
  | cons b l' => simp at e
theorem EndA.not_cut {l : List Ac} (h : EndA (.cut :: l)) : EndA l := by
  refine h.tail ?_
  rintro rfl
  obtain ⟨l', c, e⟩ := h
  cases l' with
  | nil => simp at e
  | cons b l' => simp at e
theorem EndA.keep_or {c : Kd} {l : List Ac} (h : EndA (.keep c :: l)) : l = [] ∨ EndA l := by
  by_cases hl : l = []
  · exact Or.inl hl
  · exact Or.inr (h.tail hl)
theorem endA_append {m : List Ac} (h : EndA m) (l : List Ac) : EndA (l ++ m) := by obtain ⟨l', c, rfl⟩ := h; exact ⟨l ++ l', c, by simp⟩

/- Turned, they end as they did, and are right. -/
theorem turn_end : ∀ a b, frm a = frm b → EndA a → EndA b → EndA (turnA a b).1 ∧ EndA (turnA a b).2 := by
  refine turn_ind ?_ ?_ ?_ ?_ ?_ ?_ ?_
  · intro h _; exact absurd rfl h.ne
  · intro x a b _ h ha hb; rw [turn_p]; obtain ⟨h1, h2⟩ := h ha.not_put hb; exact ⟨h1.cons _, h2.cons _⟩
  · intro y a b hn _ h ha hb; rw [turn_q hn]; obtain ⟨h1, h2⟩ := h ha hb.not_put; exact ⟨h1.cons _, h2.cons _⟩
  · intro u t a b hf h ha hb
    rw [turn_kk]
    rcases ha.keep_or with rfl | ha'
    · rcases hb.keep_or with rfl | hb'
      · exact ⟨EndA.keep1 _, EndA.keep1 _⟩
      · have := hb'.frm; simp [frm] at hf; omega
    · rcases hb.keep_or with rfl | hb'
      · have := ha'.frm; simp [frm] at hf; omega
      · obtain ⟨h1, h2⟩ := h ha' hb'; exact ⟨h1.cons _, h2.cons _⟩
  · intro t a b hf h ha hb
    rw [turn_ck]
    have ha' := ha.not_cut
    rcases hb.keep_or with rfl | hb'
    · have := ha'.frm; simp [frm] at hf; omega
    · obtain ⟨h1, h2⟩ := h ha' hb'; exact ⟨h1.cons _, h2⟩
  · intro u a b hf h ha hb
    rw [turn_kc]
    have hb' := hb.not_cut
    rcases ha.keep_or with rfl | ha'
    · have := hb'.frm; simp [frm] at hf; omega
    · obtain ⟨h1, h2⟩ := h ha' hb'; exact ⟨h1, h2.cons _⟩
  · intro a b hf h ha hb
    rw [turn_cc]
    exact h ha.not_cut hb.not_cut

theorem keep0_ok : AcOk keep0 := kd0_ok
theorem turn_ok : ∀ a b, frm a = frm b → (∀ x ∈ a, AcOk x) → (∀ x ∈ b, AcOk x) → (∀ x ∈ (turnA a b).1, AcOk x) ∧ ∀ x ∈ (turnA a b).2, AcOk x := by
  have tl : ∀ {a : Ac} {l : List Ac}, (∀ x ∈ a :: l, AcOk x) → ∀ x ∈ l, AcOk x := fun h x hx => h x (List.mem_cons_of_mem _ hx)
  have cn : ∀ {a : Ac} {l : List Ac}, AcOk a → (∀ x ∈ l, AcOk x) → ∀ x ∈ a :: l, AcOk x := fun h0 h x hx => by
    rcases List.mem_cons.1 hx with rfl | hx
    · exact h0
    · exact h x hx
  refine turn_ind ?_ ?_ ?_ ?_ ?_ ?_ ?_
  · intro h _; exact ⟨h, h⟩
  · intro x a b _ h ha hb; rw [turn_p]; obtain ⟨h1, h2⟩ := h (tl ha) hb; exact ⟨cn (ha _ (List.mem_cons_self ..)) h1, cn keep0_ok h2⟩
  · intro y a b hn _ h ha hb; rw [turn_q hn]; obtain ⟨h1, h2⟩ := h ha (tl hb); exact ⟨cn keep0_ok h1, cn (hb _ (List.mem_cons_self ..)) h2⟩
  · intro u t a b _ h ha hb
    rw [turn_kk]
    obtain ⟨h1, h2⟩ := h (tl ha) (tl hb)
    have hu : u.Ok := ha (.keep u) (List.mem_cons_self ..)
    have ht : t.Ok := hb (.keep t) (List.mem_cons_self ..)
    exact ⟨cn hu h1, cn (overK_ok ht hu) h2⟩
  · intro t a b _ h ha hb; rw [turn_ck]; obtain ⟨h1, h2⟩ := h (tl ha) (tl hb); exact ⟨cn trivial h1, h2⟩
  · intro u a b _ h ha hb; rw [turn_kc]; obtain ⟨h1, h2⟩ := h (tl ha) (tl hb); exact ⟨h1, cn trivial h2⟩
  · intro a b _ h ha hb; rw [turn_cc]; exact h (tl ha) (tl hb)

theorem join_end : ∀ a b, too a = frm b → EndA a → EndA b → EndA (joinA a b) := by
  refine join_ind ?_ ?_ ?_ ?_ ?_ ?_ ?_
  · intro h _; exact absurd rfl h.ne
  · intro a b _ h ha hb; rw [join_c]; exact (h ha.not_cut hb).cons _
  · intro y a b hn _ h ha hb; rw [join_q hn]; exact (h ha hb.not_put).cons _
  · intro u t a b hf h ha hb
    rw [join_kk]
    rcases ha.keep_or with rfl | ha'
    · rcases hb.keep_or with rfl | hb'
      · exact EndA.keep1 _
      · have := hb'.frm; simp [too] at hf; omega
    · rcases hb.keep_or with rfl | hb'
      · have := ha'.too; simp [frm] at hf; omega
      · exact (h ha' hb').cons _
  · intro u a b hf h ha hb
    rw [join_kc]
    have hb' := hb.not_cut
    rcases ha.keep_or with rfl | ha'
    · have := hb'.frm; simp [too] at hf; omega
    · exact (h ha' hb').cons _
  · intro x t a b hf h ha hb
    rw [join_pk]
    have ha' := ha.not_put
    rcases hb.keep_or with rfl | hb'
    · have := ha'.too; simp [frm] at hf; omega
    · exact (h ha' hb').cons _
  · intro x a b hf h ha hb
    rw [join_pc]
    exact h ha.not_put hb.not_cut

/- Parts and operations that are ones. -/
/-- A part that is one, but for how much. -/
def TP (p : Pt) : Prop := (∃ c n, 0 < n ∧ c.Ok ∧ p = keepP c n) ∨ (∃ l, l ≠ [] ∧ (∀ x ∈ l, chkItem x = 0) ∧ p = putP l) ∨ (∃ n, 0 < n ∧ p = cutP n)

theorem TP.fm {p : Pt} (h : TP p) : Fm p := by
  rcases h with ⟨c, n, hn, _, rfl⟩ | ⟨l, _, _, rfl⟩ | ⟨n, hn, rfl⟩
  · exact Or.inl ⟨c, n, by omega, rfl⟩
  · exact Or.inr (Or.inl ⟨l, rfl⟩)
  · exact Or.inr (Or.inr ⟨n, by omega, rfl⟩)
theorem TP.pos {p : Pt} (h : TP p) (hk : p.k = 1) : 0 < p.n := by
  rcases h with ⟨c, n, hn, _, rfl⟩ | ⟨l, _, _, rfl⟩ | ⟨n, hn, rfl⟩
  · exact hn
  · simp [putP] at hk
  · simp [cutP] at hk
theorem TP.nn {p : Pt} (h : TP p) : 0 ≤ p.n := by
  rcases h with ⟨c, n, hn, _, rfl⟩ | ⟨l, _, _, rfl⟩ | ⟨n, hn, rfl⟩ <;> simp [keepP, putP, cutP] <;> omega

theorem chkItems_all {l : List It} (h : chkItems l = 0) : ∀ x ∈ l, chkItem x = 0 := by
  induction l with
  | nil => intro x hx; simp at hx
  | cons y l ih =>
    simp only [chkItems] at h
    split at h
    · rename_i h0
      intro x hx
      rcases List.mem_cons.1 hx with rfl | hx
      · exact h0
      · exact ih h x hx
    · rename_i h0; exact absurd h h0

theorem chkPt_tp {p : Pt} (h : chkPt p = 0) : TP p ∧ p.n ≤ 80 ∧ p.its.length ≤ 80 := by
  obtain ⟨k, n, its, set, clr, to, l⟩ := p
  simp only [chkPt] at h
  split at h
  · rename_i hk; subst hk
    split at h; · simp at h
    rename_i h1
    split at h; · simp at h
    rename_i h2
    split at h; · simp at h
    rename_i h3
    split at h; · simp at h
    rename_i h4
    simp at h4
    subst h4
    refine ⟨Or.inl ⟨⟨set, clr, to, l⟩, n, by omega, ⟨by simp; omega, by simp; omega, by simp; omega, by simp; omega, ?_, ?_⟩, rfl⟩, by simp; omega, by simp⟩
    · simp only [not_or] at h1; exact Decidable.not_not.1 h1.2.2.2.2
    · intro hl
      simp only at hl ⊢
      have := fun hh => h2 ⟨hl, hh⟩
      constructor
      · cases to
        · exact absurd (Or.inl rfl) this
        · rfl
      · cases hm : may l
        · exact absurd (Or.inr hm) this
        · rfl
  · split at h
    · rename_i hk; subst hk
      split at h; · simp at h
      rename_i h1
      split at h; · rename_i h2; exact absurd h h2
      rename_i h2
      split at h; · simp at h
      rename_i h3
      simp only [not_or, Decidable.not_not] at h3 h1 h2
      obtain ⟨rfl, rfl, rfl, h4, rfl⟩ := h3
      have : to = false := by simpa using h4
      subst this
      exact ⟨Or.inr (Or.inl ⟨its, h1.1, chkItems_all h2, rfl⟩), by simp, by simp; omega⟩
    · split at h
      · rename_i hk; subst hk
        split at h; · simp at h
        rename_i h1
        split at h; · simp at h
        rename_i h3
        simp only [not_or, Decidable.not_not] at h3
        obtain ⟨rfl, rfl, h4, rfl, rfl⟩ := h3
        have : to = false := by simpa using h4
        subst this
        exact ⟨Or.inr (Or.inr ⟨n, by omega, rfl⟩), by simp; omega, by simp⟩
      · simp at h

theorem tp_chk {p : Pt} (h : TP p) (hn : p.n ≤ 80) : chkPt p = if p.its.length ≤ 80 then 0 else 2 := by
  rcases h with ⟨c, n, hn', hc, rfl⟩ | ⟨l, hl, hi, rfl⟩ | ⟨n, hn', rfl⟩
  · have hn2 : n ≤ 80 := hn
    have e := chkPt1 n [] c.set c.clr c.to c.l
    show chkPt ⟨1, n, [], c.set, c.clr, c.to, c.l⟩ = _
    rw [e, if_neg, if_neg, if_neg (by omega)]
    · simp [keepP]
    · rintro ⟨h1, h2⟩
      have := hc.ln h1
      simp [this.1, this.2] at h2
    · have h0 := hc.s0; have h1 := hc.s3; have h2 := hc.c0; have h3 := hc.c3; have h4 := hc.no
      simp only [not_or, Decidable.not_not]
      exact ⟨by omega, by omega, by omega, by omega, h4⟩
  · show chkPt ⟨2, 0, l, 0, 0, false, []⟩ = _
    rw [chkPt2]
    by_cases h80 : l.length ≤ 80
    · rw [if_neg (by simp [hl]; omega), if_neg (by rw [chkItems_none hi]; simp), if_neg (by simp)]
      simp [putP, h80]
    · rw [if_pos (Or.inr (by omega))]; simp [putP, h80]
  · have hn2 : n ≤ 80 := hn
    show chkPt ⟨3, n, [], 0, 0, false, []⟩ = _
    rw [chkPt3, if_neg (by omega), if_neg (by simp)]
    simp [cutP]

theorem frm_actsP {p : Pt} (h : Fm p) : (frm (actsP p) : Int) = p.n := by
  rcases h with ⟨c, n, hn, rfl⟩ | ⟨l, rfl⟩ | ⟨n, hn, rfl⟩
  · rw [actsP_keep, frm_keeps]; simp [keepP]; omega
  · rw [actsP_put, frm_puts]; simp [putP]
  · rw [actsP_cut, frm_cuts]; simp [cutP]; omega

theorem tp_acok {p : Pt} (h : TP p) : ∀ a ∈ actsP p, AcOk a := by
  rcases h with ⟨c, n, hn', hc, rfl⟩ | ⟨l, hl, hi, rfl⟩ | ⟨n, hn', rfl⟩
  · intro a ha; rw [actsP_keep] at ha; obtain ⟨_, rfl⟩ := List.mem_replicate.1 ha; exact hc
  · intro a ha; rw [actsP_put] at ha; obtain ⟨x, hx, rfl⟩ := List.mem_map.1 ha; exact hi x hx
  · intro a ha; rw [actsP_cut] at ha; obtain ⟨_, rfl⟩ := List.mem_replicate.1 ha; trivial
theorem acts_acok {o : List Pt} (h : ∀ p ∈ o, TP p) : ∀ a ∈ acts o, AcOk a := by
  intro a ha
  obtain ⟨p, hp, hpa⟩ := List.mem_flatMap.1 ha
  exact tp_acok (h p hp) a hpa

theorem chkPts_zero {n : Int} {o : List Pt} (h : chkPts n o = 0) : (∀ p ∈ o, chkPt p = 0) ∧ (o ≠ [] → n + (frm (acts o) : Int) ≤ 80) := by
  induction o generalizing n with
  | nil => exact ⟨fun p hp => by simp at hp, fun h => absurd rfl h⟩
  | cons p o ih =>
    simp only [chkPts] at h
    split at h
    · rename_i h0; exact absurd h h0
    · rename_i h0
      split at h
      · simp at h
      · rename_i h80
        have h0' : chkPt p = 0 := Decidable.not_not.1 h0
        obtain ⟨h1, h2⟩ := ih h
        refine ⟨fun q hq => ?_, fun _ => ?_⟩
        · rcases List.mem_cons.1 hq with rfl | hq
          · exact h0'
          · exact h1 q hq
        · have e := frm_actsP (chkPt_tp h0').1.fm
          rw [acts_cons, frm_append]
          by_cases ho : o = []
          · subst ho; simp [acts_nil, frm]; omega
          · have := h2 ho; simp; omega

theorem chkPts_mk {n : Int} {o : List Pt} (h : ∀ p ∈ o, chkPt p = 0) (hn : n + (frm (acts o) : Int) ≤ 80) : chkPts n o = 0 := by
  induction o generalizing n with
  | nil => rfl
  | cons p o ih =>
    have h0 := h p (by simp)
    have e := frm_actsP (chkPt_tp h0).1.fm
    rw [acts_cons, frm_append] at hn
    simp only [chkPts, h0]
    rw [if_neg (by simp), if_neg (by simp at hn; omega)]
    exact ih (fun q hq => h q (by simp [hq])) (by simp at hn; omega)

/-- What checking tells. -/
structure OpOk (o : List Pt) : Prop where
  tp : ∀ p ∈ o, TP p
  n80 : ∀ p ∈ o, p.n ≤ 80
  i80 : ∀ p ∈ o, p.its.length ≤ 80
  len : o.length ≤ 40
  frm : frm (acts o) ≤ 80
  fin : EndA (acts o)

theorem OpOk.ne {o : List Pt} (h : OpOk o) : o ≠ [] := by rintro rfl; exact h.fin.ne rfl
theorem OpOk.ok {o : List Pt} (h : OpOk o) : ∀ a ∈ acts o, AcOk a := acts_acok h.tp
theorem OpOk.fm {o : List Pt} (h : OpOk o) : ∀ p ∈ o, Fm p := fun p hp => (h.tp p hp).fm
theorem OpOk.made {o : List Pt} (h : OpOk o) : madeP o = tidyA (acts o) := madeP_tidy o h.fm fun p hp hk => (h.tp p hp).pos hk

theorem chkOp_ok {o : List Pt} (h : chkOp o = 0) : OpOk o := by
  unfold chkOp at h
  split at h; · simp at h
  rename_i h1
  split at h; · rename_i h2; exact absurd h h2
  rename_i h2
  have h2' : chkPts 0 o = 0 := Decidable.not_not.1 h2
  obtain ⟨h3, h4⟩ := chkPts_zero h2'
  have hne : o ≠ [] := fun e => h1 (Or.inl e)
  have hfr := h4 hne
  refine ⟨fun p hp => (chkPt_tp (h3 p hp)).1, fun p hp => (chkPt_tp (h3 p hp)).2.1, fun p hp => (chkPt_tp (h3 p hp)).2.2, by omega, by omega, ?_⟩
  split at h
  · simp at h
  · rename_i p hp
    split at h
    · rename_i hk
      have hmem : p ∈ o := List.mem_of_getLast? hp
      have htp := (chkPt_tp (h3 p hmem)).1
      have e := dropLast_snoc hp
      rw [e, acts_append, acts_one]
      refine endA_append ?_ _
      rcases htp with ⟨c, n, hn, _, rfl⟩ | ⟨l, _, _, rfl⟩ | ⟨n, hn, rfl⟩
      · rw [actsP_keep]
        obtain ⟨m, rfl⟩ : ∃ m : Nat, n = ((m + 1 : Nat) : Int) := ⟨(n - 1).toNat, by omega⟩
        rw [Int.toNat_natCast, List.replicate_succ']
        exact ⟨_, c, rfl⟩
      · simp [putP] at hk
      · simp [cutP] at hk
    · simp at h

theorem chkOp_mk {o : List Pt} (hne : o ≠ []) (hl : o.length ≤ 40) (h : ∀ p ∈ o, chkPt p = 0) (hn : frm (acts o) ≤ 80) (he : EndsK o) : chkOp o = 0 := by
  obtain ⟨q, hq⟩ : ∃ q, o.getLast? = some q := by
    cases hh : o.getLast? with
    | none => exact absurd (List.getLast?_eq_none_iff.1 hh) hne
    | some q => exact ⟨q, rfl⟩
  unfold chkOp
  rw [if_neg (by simp [hne]; omega), if_neg (by rw [chkPts_mk h (by omega)]; simp)]
  simp [hq, he q hq]

theorem frm_mem {o : List Pt} (h : ∀ p ∈ o, Fm p) {p : Pt} (hp : p ∈ o) : p.n ≤ frm (acts o) := by
  induction o with
  | nil => simp at hp
  | cons q o ih =>
    rw [acts_cons, frm_append]
    rcases List.mem_cons.1 hp with rfl | hp
    · have := frm_actsP (h p (by simp)); omega
    · have := ih (fun r hr => h r (by simp [hr])) hp; omega

/- Tidy ones. -/
theorem tid_tp (out : List Pt) (ps : List It) (c : Nat) (l : List Ac) (ho : ∀ p ∈ out, TP p) (hp : ∀ x ∈ ps, chkItem x = 0) (hl : ∀ a ∈ l, AcOk a) : ∀ p ∈ tid out ps c l, TP p := by
  have hfl : ∀ (out : List Pt) (ps : List It) (c : Nat), (∀ p ∈ out, TP p) → (∀ x ∈ ps, chkItem x = 0) → ∀ p ∈ flush out ps c, TP p := by
    intro out ps c ho hp p hm
    simp only [flush, List.append_assoc, List.mem_append] at hm
    rcases hm with hm | hm | hm
    · exact ho p hm
    · split at hm
      · simp at hm
      · rename_i hne; simp at hm; subst hm; exact Or.inr (Or.inl ⟨ps, hne, hp, rfl⟩)
    · split at hm
      · simp at hm
      · rename_i hne; simp at hm; subst hm; exact Or.inr (Or.inr ⟨c, by omega, rfl⟩)
  induction l generalizing out ps c with
  | nil => exact hfl out ps c ho hp
  | cons a l ih =>
    have hlT : ∀ a ∈ l, AcOk a := fun x hx => hl x (List.mem_cons_of_mem _ hx)
    have ha := hl a (List.mem_cons_self ..)
    cases a with
    | put x =>
      refine ih out (ps ++ [x]) c ho (fun y hy => ?_) hlT
      rcases List.mem_append.1 hy with hy | hy
      · exact hp y hy
      · simp at hy; subst hy; exact ha
    | cut => exact ih out ps (c + 1) ho hp hlT
    | keep k =>
      refine ih _ [] 0 ?_ (by simp) hlT
      have hf := hfl out ps c ho hp
      intro p hm
      by_cases h : ∃ q, (flush out ps c).getLast? = some q ∧ q.k = 1 ∧ q.kd = k
      · obtain ⟨q, hq, h1⟩ := h
        rw [addK_some 1 hq h1] at hm
        rcases List.mem_append.1 hm with hm | hm
        · exact hf p (List.mem_of_mem_take (by rwa [List.dropLast_eq_take] at hm))
        · simp at hm
          subst hm
          rcases hf q (List.mem_of_getLast? hq) with ⟨c', n, hn, hc', rfl⟩ | ⟨_, _, _, rfl⟩ | ⟨_, _, rfl⟩
          · exact Or.inl ⟨c', n + 1, by omega, hc', rfl⟩
          · simp [putP] at h1
          · simp [cutP] at h1
      · rw [addK_new 1 (fun q hq h1 => h ⟨q, hq, h1⟩)] at hm
        rcases List.mem_append.1 hm with hm | hm
        · exact hf p hm
        · simp at hm; subst hm; exact Or.inl ⟨k, 1, by omega, ha, rfl⟩

theorem tid_app (out : List Pt) (ps : List It) (c : Nat) (l m : List Ac) : ∃ out' ps' c', tid out ps c (l ++ m) = tid out' ps' c' m := by
  induction l generalizing out ps c with
  | nil => exact ⟨out, ps, c, rfl⟩
  | cons a l ih => cases a with
    | put x => exact ih out (ps ++ [x]) c
    | cut => exact ih out ps (c + 1)
    | keep k => exact ih _ [] 0

theorem tidyA_ends {l : List Ac} (h : EndA l) : EndsK (tidyA l) ∧ tidyA l ≠ [] := by
  obtain ⟨l', c, rfl⟩ := h
  obtain ⟨out, ps, n, e⟩ := tid_app [] [] 0 l' [.keep c]
  unfold tidyA
  rw [e]
  simp only [tid, flush_nil]
  refine ⟨endsK_addK _ _ _, ?_⟩
  intro h0
  by_cases h : ∃ q, (flush out ps n).getLast? = some q ∧ q.k = 1 ∧ q.kd = c
  · obtain ⟨q, hq, h1⟩ := h
    rw [addK_some 1 hq h1] at h0
    simp at h0
  · rw [addK_new 1 (fun q hq h1 => h ⟨q, hq, h1⟩)] at h0
    simp at h0

/-- What a tidy operation's check says: right, or too many. -/
theorem tidyA_chk {l : List Ac} (hok : ∀ a ∈ l, AcOk a) (he : EndA l) (hf : frm l ≤ 80) : chkOp (tidyA l) = 0 ∨ chkOp (tidyA l) = 2 := by
  have htp : ∀ p ∈ tidyA l, TP p := tid_tp [] [] 0 l (by simp) (by simp) hok
  obtain ⟨h1, h2⟩ := tidyA_ends he
  have hfr : frm (acts (tidyA l)) ≤ 80 := by rw [acts_tidyA, frm_norm]; exact hf
  have hn : ∀ p ∈ tidyA l, p.n ≤ 80 := fun p hp => by have := frm_mem (fun q hq => (htp q hq).fm) hp; omega
  by_cases hl : (tidyA l).length ≤ 40
  · by_cases hb : ∀ p ∈ tidyA l, p.its.length ≤ 80
    · left
      exact chkOp_mk h2 hl (fun p hp => by rw [tp_chk (htp p hp) (hn p hp), if_pos (hb p hp)]) hfr h1
    · right
      have hx : ∀ (n : Int) (o : List Pt), (∀ p ∈ o, TP p) → (∀ p ∈ o, p.n ≤ 80) → (¬ ∀ p ∈ o, p.its.length ≤ 80) → chkPts n o = 2 := by
        intro n o
        induction o generalizing n with
        | nil => intro _ _ h; simp at h
        | cons p o ih =>
          intro ht hn h
          simp only [chkPts]
          rw [tp_chk (ht p (by simp)) (hn p (by simp))]
          by_cases hp : p.its.length ≤ 80
          · rw [if_pos hp, if_neg (by simp)]
            split
            · rfl
            · refine ih _ (fun q hq => ht q (by simp [hq])) (fun q hq => hn q (by simp [hq])) (fun hall => h ?_)
              intro q hq
              rcases List.mem_cons.1 hq with rfl | hq
              · exact hp
              · exact hall q hq
          · rw [if_neg hp, if_pos (by decide)]
      have h3 := hx 0 (tidyA l) htp hn hb
      rw [chkOp_bad (by simp [h2]; omega) (by rw [h3]; decide), h3]
  · right; exact chkOp_many (Or.inr (by omega))

theorem tidyA_chk0 {l : List Ac} (hok : ∀ a ∈ l, AcOk a) (he : EndA l) (hf : frm l ≤ 80) (ht : too l ≤ 80) (hl : (tidyA l).length ≤ 40) : chkOp (tidyA l) = 0 := by
  have htp : ∀ p ∈ tidyA l, TP p := tid_tp [] [] 0 l (by simp) (by simp) hok
  obtain ⟨h1, h2⟩ := tidyA_ends he
  have hfr : frm (acts (tidyA l)) ≤ 80 := by rw [acts_tidyA, frm_norm]; exact hf
  have hto : too (acts (tidyA l)) ≤ 80 := by rw [acts_tidyA, too_norm]; exact ht
  have hn : ∀ p ∈ tidyA l, p.n ≤ 80 := fun p hp => by have := frm_mem (fun q hq => (htp q hq).fm) hp; omega
  refine chkOp_mk h2 hl (fun p hp => ?_) hfr h1
  rw [tp_chk (htp p hp) (hn p hp), if_pos]
  have hx : ∀ (o : List Pt), (∀ p ∈ o, TP p) → ∀ p ∈ o, p.its.length ≤ too (acts o) := by
    intro o
    induction o with
    | nil => intro _ p hp; simp at hp
    | cons q o ih =>
      intro ht p hp
      rw [acts_cons, too_append]
      rcases List.mem_cons.1 hp with rfl | hp
      · rcases ht p (by simp) with ⟨c', n, hn, hc', rfl⟩ | ⟨l, _, _, rfl⟩ | ⟨_, _, rfl⟩
        · simp [keepP]
        · rw [actsP_put, too_puts]; simp [putP]
        · simp [cutP]
      · have := ih (fun r hr => ht r (by simp [hr])) p hp; omega
  have := hx _ htp p hp
  omega

/-- Made tidy an operation has no more parts than before. -/
theorem tid_len (L : List Pt) (out : List Pt) (ps : List It) (c : Nat) (h : ∀ p ∈ L, TP p) : (tid out ps c (acts L)).length ≤ out.length + (if ps = [] then 0 else 1) + (if c = 0 then 0 else 1) + L.length := by
  have hfl : ∀ (out : List Pt) (ps : List It) (c : Nat), (flush out ps c).length = out.length + (if ps = [] then 0 else 1) + (if c = 0 then 0 else 1) := by
    intro out ps c
    unfold flush
    by_cases h1 : ps = [] <;> by_cases h2 : c = 0 <;> simp [h1, h2]
  induction L generalizing out ps c with
  | nil => simp [acts_nil, tid, hfl]
  | cons p L ih =>
    have hL : ∀ q ∈ L, TP q := fun q hq => h q (by simp [hq])
    rw [acts_cons]
    rcases h p (by simp) with ⟨k, n, hn, _, rfl⟩ | ⟨l, hl, _, rfl⟩ | ⟨n, hn, rfl⟩
    · obtain ⟨m, rfl⟩ : ∃ m : Nat, n = ((m + 1 : Nat) : Int) := ⟨(n - 1).toNat, by omega⟩
      rw [actsP_keep, Int.toNat_natCast, tid_keeps]
      have h1 := ih (addK (flush out ps c) k (m + 1)) [] 0 hL
      have h2 : (addK (flush out ps c) k (m + 1)).length ≤ (flush out ps c).length + 1 := by
        by_cases h : ∃ q, (flush out ps c).getLast? = some q ∧ q.k = 1 ∧ q.kd = k
        · obtain ⟨q, hq, h1⟩ := h
          rw [addK_some _ hq h1]; simp
        · rw [addK_new _ (fun q hq h1 => h ⟨q, hq, h1⟩)]; simp
      rw [hfl] at h2
      simp at h1 ⊢
      omega
    · rw [actsP_put, tid_puts]
      have h1 := ih out (ps ++ l) c hL
      have : (if ps ++ l = [] then 0 else 1) ≤ (if ps = [] then 0 else 1) + 1 := by split <;> split <;> omega
      simp only [List.length_cons]
      omega
    · rw [actsP_cut, tid_cuts]
      have h1 := ih out ps (c + n.toNat) hL
      have : (if c + n.toNat = 0 then 0 else 1) ≤ (if c = 0 then 0 else 1) + 1 := by split <;> split <;> omega
      simp only [List.length_cons]
      omega

theorem tidy_ok {o : List Pt} (h : OpOk o) (ht : too (acts o) ≤ 80) : chkOp (tidyA (acts o)) = 0 := by
  refine tidyA_chk0 h.ok h.fin h.frm ht ?_
  have := tid_len o [] [] 0 h.tp
  have := h.len
  unfold tidyA
  simp at *
  omega

/- Applied. -/
def w64 (n : Int) : Int := Go.IntKind.i64.wrap n
def longs (f t : Int) : List Pt → Int × Int
  | [] => (f, t)
  | p :: l => if p.k = 1 then longs (w64 (f + p.n)) (w64 (t + p.n)) l else if p.k = 2 then longs f (w64 (t + p.its.length)) l else if p.k = 3 then longs (w64 (f + p.n)) t l else longs f t l

theorem w64_small {n : Int} (h0 : 0 ≤ n) (h1 : n ≤ 100000) : w64 n = n := by
  have : Go.IntKind.i64.wrap n = n := by
    simp [Go.IntKind.wrap, Go.IntKind.bits, Go.IntKind.signed]
    omega
  exact this

theorem longs_ok (o : List Pt) (f t : Int) (hf : 0 ≤ f) (ht : 0 ≤ t) (h : ∀ p ∈ o, TP p) (hff : f + frm (acts o) ≤ 100000) (htt : t + too (acts o) ≤ 100000) : longs f t o = (f + frm (acts o), t + too (acts o)) := by
  induction o generalizing f t with
  | nil => simp [longs, acts_nil, frm, too]
  | cons p o ih =>
    have hT : ∀ q ∈ o, TP q := fun q hq => h q (by simp [hq])
    rw [acts_cons, frm_append] at hff
    rw [acts_cons, too_append] at htt
    rw [acts_cons, frm_append, too_append]
    rcases h p (by simp) with ⟨k, n, hn, _, rfl⟩ | ⟨l, hl, _, rfl⟩ | ⟨n, hn, rfl⟩
    · rw [actsP_keep, frm_keeps] at hff
      rw [actsP_keep, too_keeps] at htt
      rw [actsP_keep, frm_keeps, too_keeps]
      have e : longs f t (keepP k n :: o) = longs (w64 (f + n)) (w64 (t + n)) o := by simp [longs, keepP]
      rw [e, w64_small (by omega) (by omega), w64_small (by omega) (by omega), ih _ _ (by omega) (by omega) hT (by omega) (by omega)]
      simp only [Prod.mk.injEq]
      omega
    · rw [actsP_put, frm_puts] at hff
      rw [actsP_put, too_puts] at htt
      rw [actsP_put, frm_puts, too_puts]
      have e : longs f t (putP l :: o) = longs f (w64 (t + l.length)) o := by simp [longs, putP]
      rw [e, w64_small (by omega) (by omega), ih _ _ (by omega) (by omega) hT (by omega) (by omega)]
      simp only [Prod.mk.injEq]
      omega
    · rw [actsP_cut, frm_cuts] at hff
      rw [actsP_cut, too_cuts] at htt
      rw [actsP_cut, frm_cuts, too_cuts]
      have e : longs f t (cutP n :: o) = longs (w64 (f + n)) t o := by simp [longs, cutP]
      rw [e, w64_small (by omega) (by omega), ih _ _ (by omega) (by omega) hT (by omega) (by omega)]
      simp only [Prod.mk.injEq]
      omega

theorem too_bound {o : List Pt} (h : ∀ p ∈ o, TP p) (hn : ∀ p ∈ o, p.its.length ≤ 80) : too (acts o) ≤ frm (acts o) + 80 * o.length := by
  induction o with
  | nil => simp [acts_nil, too]
  | cons p o ih =>
    have := ih (fun q hq => h q (by simp [hq])) (fun q hq => hn q (by simp [hq]))
    rw [acts_cons, too_append, frm_append]
    simp only [List.length_cons]
    rcases h p (by simp) with ⟨k, n, hn', _, rfl⟩ | ⟨l, hl, _, rfl⟩ | ⟨n, hn', rfl⟩
    · rw [actsP_keep, too_keeps, frm_keeps]; omega
    · have h80 := hn (putP l) (by simp)
      simp only [putP] at h80
      rw [actsP_put, too_puts, frm_puts]; omega
    · rw [actsP_cut, too_cuts, frm_cuts]; omega

theorem OpOk.too {o : List Pt} (h : OpOk o) : Mh.too (acts o) ≤ 3280 := by
  have := too_bound h.tp h.i80; have := h.frm; have := h.len; omega
theorem OpOk.longs {o : List Pt} (h : OpOk o) : Mh.longs 0 0 o = ((Mh.frm (acts o) : Int), (Mh.too (acts o) : Int)) := by
  have h1 := h.frm; have h2 := h.too
  rw [longs_ok o 0 0 (by omega) (by omega) h.tp (by omega) (by omega)]; simp

def applyP (d : List It) (o : List Pt) : List It × Int :=
  if chkDoc d ≠ 0 then ([], chkDoc d)
  else if chkOp o ≠ 0 then ([], chkOp o)
  else if frm (acts o) ≠ d.length then ([], 6)
  else if 80 < too (acts o) then ([], 2)
  else (doA d (acts o), 0)

structure Applies (d : List It) (o : List Pt) : Prop where
  doc : chkDoc d = 0
  op : chkOp o = 0
  base : frm (acts o) = d.length
  t80 : too (acts o) ≤ 80

theorem Applies.eq {d : List It} {o : List Pt} (h : Applies d o) : applyP d o = (doA d (acts o), 0) := by
  have h1 := h.t80
  simp only [applyP, h.doc, h.op, h.base]
  simp
  omega
theorem Applies.of {d : List It} {o : List Pt} (h : (applyP d o).2 = 0) : Applies d o := by
  unfold applyP at h
  split at h; · rename_i h1; exact absurd h h1
  rename_i h1
  split at h; · rename_i h2; exact absurd h h2
  rename_i h2
  split at h; · simp at h
  rename_i h3
  split at h; · simp at h
  rename_i h4
  exact ⟨Decidable.not_not.1 h1, Decidable.not_not.1 h2, Decidable.not_not.1 h3, by omega⟩

theorem doc_facts {d : List It} (h : chkDoc d = 0) : (∀ x ∈ d, chkItem x = 0) ∧ d.length ≤ 80 ∧ ∃ d' x, d = d' ++ [x] ∧ (x.c.toNat : Int) = 10 := by
  unfold chkDoc at h
  split at h; · simp at h
  rename_i h1
  split at h; · rename_i h2; exact absurd h h2
  rename_i h2
  refine ⟨chkItems_all (Decidable.not_not.1 h2), by omega, ?_⟩
  split at h
  · simp at h
  · rename_i x hx
    split at h
    · rename_i hc; exact ⟨d.dropLast, x, dropLast_snoc hx, hc⟩
    · simp at h
theorem doc_mk {d : List It} (h : ∀ x ∈ d, chkItem x = 0) (hl : d.length ≤ 80) (he : ∃ d' x, d = d' ++ [x] ∧ (x.c.toNat : Int) = 10) : chkDoc d = 0 := by
  obtain ⟨d', x, rfl, hc⟩ := he
  unfold chkDoc
  rw [if_neg (by omega), if_neg (by rw [chkItems_none h]; simp)]
  simp [hc]

theorem do_items {d : List It} {l : List Ac} (hd : ∀ x ∈ d, chkItem x = 0) (hl : ∀ a ∈ l, AcOk a) : ∀ x ∈ doA d l, chkItem x = 0 := by
  induction l generalizing d with
  | nil => intro x hx; simp [doA] at hx
  | cons a l ih =>
    have hlT : ∀ a ∈ l, AcOk a := fun x hx => hl x (List.mem_cons_of_mem _ hx)
    have ha := hl a (List.mem_cons_self ..)
    have hdT : ∀ x ∈ d.tail, chkItem x = 0 := fun x hx => hd x (List.mem_of_mem_tail hx)
    cases a with
    | put y =>
      intro x hx
      simp only [doA] at hx
      rcases List.mem_cons.1 hx with rfl | hx
      · exact ha
      · exact ih hd hlT x hx
    | cut => intro x hx; exact ih hdT hlT x hx
    | keep k =>
      intro x hx
      simp only [doA] at hx
      rcases List.mem_append.1 hx with hx | hx
      · obtain ⟨y, hy, rfl⟩ := List.mem_map.1 hx
        exact markI_item (hd y (List.mem_of_mem_take hy)) ha
      · exact ih hdT hlT x hx

theorem doA_append (d : List It) (l m : List Ac) : doA d (l ++ m) = doA d l ++ doA (d.drop (frm l)) m := by
  induction l generalizing d with
  | nil => simp [doA, frm]
  | cons a l ih =>
    cases a with
    | put y => simp [doA, frm, ih]
    | cut => simp only [List.cons_append, doA, frm]; rw [ih, List.drop_tail]
    | keep k => simp only [List.cons_append, doA, frm]; rw [ih, List.drop_tail]; simp

theorem do_last {d d' : List It} {x : It} {l : List Ac} (hd : d = d' ++ [x]) (he : EndA l) (hf : frm l = d.length) : ∃ e' c, doA d l = e' ++ [markI x c] := by
  obtain ⟨l', c, rfl⟩ := he
  rw [doA_append]
  have : frm l' = d'.length := by subst hd; simp [frm_append, frm] at hf; omega
  rw [this, hd]
  refine ⟨doA (d' ++ [x]) l', c, ?_⟩
  simp [doA]

theorem do_doc {d : List It} {l : List Ac} (hd : chkDoc d = 0) (hl : ∀ a ∈ l, AcOk a) (he : EndA l) (hf : frm l = d.length) (ht : too l ≤ 80) : chkDoc (doA d l) = 0 := by
  obtain ⟨h1, h2, d', x, h3, h4⟩ := doc_facts hd
  refine doc_mk (do_items h1 hl) (by rw [doA_len d l (by omega)]; exact ht) ?_
  obtain ⟨e', c, e⟩ := do_last h3 he hf
  exact ⟨e', markI x c, e, h4⟩

theorem Applies.res {d : List It} {o : List Pt} (h : Applies d o) : chkDoc (doA d (acts o)) = 0 ∧ (doA d (acts o)).length = too (acts o) := by
  have hk := chkOp_ok h.op
  exact ⟨do_doc h.doc hk.ok hk.fin h.base h.t80, doA_len _ _ (by have := h.base; omega)⟩
theorem doc_mks {d : List It} (hd : chkDoc d = 0) : ∀ x ∈ d, x.Mk := fun x hx => item_mk ((doc_facts hd).1 x hx)

/- The laws on operations. -/
theorem law_keeps {d : List It} {o : List Pt} (h : Applies d o) : chkOp (madeP o) = 0 ∧ madeP (madeP o) = madeP o ∧ applyP d (madeP o) = (doA d (acts o), 0) := by
  have hk := chkOp_ok h.op
  have h1 : chkOp (madeP o) = 0 := by rw [hk.made]; exact tidy_ok hk h.t80
  have hk1 := chkOp_ok h1
  refine ⟨h1, ?_, ?_⟩
  · rw [hk1.made, hk.made, acts_tidyA, tidyA_norm]
  · have ha : acts (madeP o) = normA (acts o) := by rw [hk.made, acts_tidyA]
    have : Applies d (madeP o) := ⟨h.doc, h1, by rw [ha, frm_norm]; exact h.base, by rw [ha, too_norm]; exact h.t80⟩
    rw [this.eq, ha, doA_norm]

def keepAll (n : Nat) : List Pt := [keepP kd0 n]
theorem keepAll_ok {n : Nat} (h1 : 1 ≤ n) (h2 : n ≤ 80) : chkOp (keepAll n) = 0 := by
  refine chkOp_mk (by simp [keepAll]) (by simp [keepAll]) ?_ ?_ ?_
  · intro p hp
    simp [keepAll] at hp
    subst hp
    rw [tp_chk (Or.inl ⟨kd0, n, by omega, kd0_ok, rfl⟩) (by simp [keepP]; omega)]
    simp [keepP]
  · simp [keepAll, acts_one, actsP_keep, frm_keeps]; omega
  · intro q hq; simp [keepAll] at hq; subst hq; rfl
theorem acts_keepAll (n : Nat) : acts (keepAll n) = List.replicate n keep0 := by simp [keepAll, acts_one, actsP_keep, keep0]
theorem doA_keepAll (d : List It) (n : Nat) (hn : d.length ≤ n) (hd : ∀ x ∈ d, x.Mk) : doA d (List.replicate n keep0) = d := by
  have := doA_keeps d n kd0 []
  rw [List.append_nil] at this
  show doA d (List.replicate n (.keep kd0)) = d
  rw [this]
  simp only [doA, List.append_nil, List.take_of_length_le hn]
  conv => rhs; rw [← List.map_id d]
  exact List.map_congr_left fun x hx => mark_none x (hd x hx)
theorem law_nothing {d : List It} (hd : chkDoc d = 0) : applyP d (keepAll d.length) = (d, 0) := by
  obtain ⟨h1, h2, d', x, h3, h4⟩ := doc_facts hd
  have hl : 1 ≤ d.length := by rw [h3]; simp
  have : Applies d (keepAll d.length) := ⟨hd, keepAll_ok hl h2, by rw [acts_keepAll]; simp [keep0, frm_keeps], by rw [acts_keepAll]; simp [keep0, too_keeps]; exact h2⟩
  rw [this.eq, acts_keepAll, doA_keepAll d _ (Nat.le_refl _) (doc_mks hd)]

/- Turned and joined, with their checks. -/
def chk2 (x y : List Pt) : List Pt × List Pt × Int := if chkOp x ≠ 0 then ([], [], chkOp x) else if chkOp y ≠ 0 then ([], [], chkOp y) else (x, y, 0)
def turnP (a b : List Pt) : List Pt × List Pt × Int :=
  if chkOp a ≠ 0 then ([], [], chkOp a)
  else if chkOp b ≠ 0 then ([], [], chkOp b)
  else if frm (acts a) ≠ frm (acts b) then ([], [], 6)
  else chk2 (tidyA (turnA (acts a) (acts b)).1) (tidyA (turnA (acts a) (acts b)).2)
def joinP (a b : List Pt) : List Pt × Int :=
  if chkOp a ≠ 0 then ([], chkOp a)
  else if chkOp b ≠ 0 then ([], chkOp b)
  else if too (acts a) ≠ frm (acts b) then ([], 6)
  else if chkOp (tidyA (joinA (acts a) (acts b))) ≠ 0 then ([], chkOp (tidyA (joinA (acts a) (acts b))))
  else (tidyA (joinA (acts a) (acts b)), 0)

structure Turns (a b : List Pt) : Prop where
  ca : chkOp a = 0
  cb : chkOp b = 0
  base : frm (acts a) = frm (acts b)
  cx : chkOp (tidyA (turnA (acts a) (acts b)).1) = 0
  cy : chkOp (tidyA (turnA (acts a) (acts b)).2) = 0
theorem Turns.eq {a b : List Pt} (h : Turns a b) : turnP a b = (tidyA (turnA (acts a) (acts b)).1, tidyA (turnA (acts a) (acts b)).2, 0) := by
  simp [turnP, chk2, h.ca, h.cb, h.base, h.cx, h.cy]
theorem Turns.of {a b : List Pt} (h : (turnP a b).2.2 = 0) : Turns a b := by
  unfold turnP at h
  split at h; · rename_i h1; exact absurd h h1
  rename_i h1
  split at h; · rename_i h2; exact absurd h h2
  rename_i h2
  split at h; · simp at h
  rename_i h3
  unfold chk2 at h
  split at h; · rename_i h4; exact absurd h h4
  rename_i h4
  split at h; · rename_i h5; exact absurd h h5
  rename_i h5
  exact ⟨Decidable.not_not.1 h1, Decidable.not_not.1 h2, Decidable.not_not.1 h3, Decidable.not_not.1 h4, Decidable.not_not.1 h5⟩

structure Joins (a b : List Pt) : Prop where
  ca : chkOp a = 0
  cb : chkOp b = 0
  base : too (acts a) = frm (acts b)
  cj : chkOp (tidyA (joinA (acts a) (acts b))) = 0
theorem Joins.eq {a b : List Pt} (h : Joins a b) : joinP a b = (tidyA (joinA (acts a) (acts b)), 0) := by
  simp [joinP, h.ca, h.cb, h.base, h.cj]
theorem Joins.of {a b : List Pt} (h : (joinP a b).2 = 0) : Joins a b := by
  unfold joinP at h
  split at h; · rename_i h1; exact absurd h h1
  rename_i h1
  split at h; · rename_i h2; exact absurd h h2
  rename_i h2
  split at h; · simp at h
  rename_i h3
  split at h; · rename_i h4; exact absurd h h4
  rename_i h4
  exact ⟨Decidable.not_not.1 h1, Decidable.not_not.1 h2, Decidable.not_not.1 h3, Decidable.not_not.1 h4⟩

/-- Turned operations, where none has too many. -/
theorem turnP_err {a b : List Pt} (ha : chkOp a = 0) (hb : chkOp b = 0) (hf : frm (acts a) = frm (acts b)) (hta : too (acts a) ≤ 80) (htb : too (acts b) ≤ 80) : (turnP a b).2.2 = 0 ∨ (turnP a b).2.2 = 2 := by
  have ka := chkOp_ok ha
  have kb := chkOp_ok hb
  obtain ⟨f1, f2, _⟩ := turn_frm _ _ hf
  obtain ⟨e1, e2⟩ := turn_end _ _ hf ka.fin kb.fin
  obtain ⟨o1, o2⟩ := turn_ok _ _ hf ka.ok kb.ok
  have c1 := tidyA_chk o1 e1 (by omega)
  have c2 := tidyA_chk o2 e2 (by omega)
  simp only [turnP, ha, hb, hf, chk2]
  rcases c1 with c1 | c1 <;> rcases c2 with c2 | c2 <;> simp [c1, c2]

theorem law_meets {d : List It} {a b : List Pt} (ha : Applies d a) (hb : Applies d b) : ((turnP a b).2.2 = 2) ∨ (Turns a b ∧
    (applyP (doA d (acts a)) (turnP a b).2.1).2 = (applyP (doA d (acts b)) (turnP a b).1).2 ∧ ((applyP (doA d (acts a)) (turnP a b).2.1).2 = 0 ∨ (applyP (doA d (acts a)) (turnP a b).2.1).2 = 2) ∧
    (applyP (doA d (acts a)) (turnP a b).2.1).1 = (applyP (doA d (acts b)) (turnP a b).1).1) := by
  have hf : frm (acts a) = frm (acts b) := by rw [ha.base, hb.base]
  rcases turnP_err ha.op hb.op hf ha.t80 hb.t80 with h0 | h2
  · right
    have ht := Turns.of h0
    have ka := chkOp_ok ha.op
    have kb := chkOp_ok hb.op
    obtain ⟨f1, f2, f3⟩ := turn_frm _ _ hf
    refine ⟨ht, ?_⟩
    rw [ht.eq]
    obtain ⟨r1, l1⟩ := ha.res
    obtain ⟨r2, l2⟩ := hb.res
    have hm := turn_meets _ _ hf ka.ok kb.ok d ha.base.symm (doc_mks ha.doc)
    simp only [applyP, r1, r2, ht.cx, ht.cy, acts_tidyA, frm_norm, too_norm, f1, f2, f3, l1, l2, doA_norm, hm]
    by_cases h80 : 80 < too (turnA (acts a) (acts b)).2 <;> simp [h80]
  · exact Or.inl h2

theorem joinP_err {a b : List Pt} (ha : chkOp a = 0) (hb : chkOp b = 0) (hf : too (acts a) = frm (acts b)) : (joinP a b).2 = 0 ∨ (joinP a b).2 = 2 := by
  have ka := chkOp_ok ha
  have kb := chkOp_ok hb
  obtain ⟨f1, f2⟩ := join_frm _ _ hf
  have c1 := tidyA_chk (join_ok _ _ hf ka.ok kb.ok) (join_end _ _ hf ka.fin kb.fin) (by have := ka.frm; omega)
  simp only [joinP, ha, hb, hf]
  rcases c1 with c1 | c1 <;> simp [c1]

theorem law_joins {d : List It} {a b : List Pt} (ha : Applies d a) (hb : Applies (doA d (acts a)) b) : ((joinP a b).2 = 2) ∨ (Joins a b ∧ Applies d (joinP a b).1 ∧ doA d (acts (joinP a b).1) = doA (doA d (acts a)) (acts b)) := by
  have hf : too (acts a) = frm (acts b) := by rw [hb.base, ha.res.2]
  rcases joinP_err ha.op hb.op hf with h0 | h2
  · right
    have hj := Joins.of h0
    have ka := chkOp_ok ha.op
    have kb := chkOp_ok hb.op
    obtain ⟨f1, f2⟩ := join_frm _ _ hf
    refine ⟨hj, ?_⟩
    rw [hj.eq]
    refine ⟨⟨ha.doc, hj.cj, ?_, ?_⟩, ?_⟩
    · rw [acts_tidyA, frm_norm, f1]; exact ha.base
    · rw [acts_tidyA, too_norm, f2]; exact hb.t80
    · rw [acts_tidyA, doA_norm]; exact join_does _ _ hf ka.ok kb.ok d ha.base.symm (doc_mks ha.doc)
  · exact Or.inl h2

/-- Joined three in either way. -/
theorem law_joins3 {a b c : List Pt} (hab : Joins a b) (hbc : Joins b c) (hm : Joins (joinP a b).1 c) : joinP a (joinP b c).1 = joinP (joinP a b).1 c := by
  have e1 := hab.eq
  have e2 := hbc.eq
  have e3 := hm.eq
  rw [e1] at e3 hm
  rw [e1, e2, e3]
  have ka := chkOp_ok hab.ca
  have kb := chkOp_ok hab.cb
  have kc := chkOp_ok hbc.cb
  simp only at hm ⊢
  rw [acts_tidyA] at *
  have f2 := (join_frm _ _ hbc.base).1
  have hj : tidyA (joinA (acts a) (normA (joinA (acts b) (acts c)))) = tidyA (joinA (normA (joinA (acts a) (acts b))) (acts c)) := by
    rw [tidyA_eq, join_norm_l, join_norm_r, join_assoc _ _ hab.base ka.ok kb.ok _ hbc.base kc.ok]
  have hmj := hm.cj
  rw [acts_tidyA] at hmj
  have : Joins a (tidyA (joinA (acts b) (acts c))) := ⟨hab.ca, hbc.cj, by rw [acts_tidyA, frm_norm, f2]; exact hab.base, by rw [acts_tidyA, hj]; exact hmj⟩
  rw [this.eq, acts_tidyA, hj]

/-- Behind, and joined with, one that keeps all. -/
theorem law_ot_nothing {o : List Pt} (h : chkOp o = 0) (ht : chkOp (madeP o) = 0) (h80 : too (acts o) ≤ 80) :
    turnP o (keepAll (frm (acts o))) = (madeP o, keepAll (too (acts o)), 0) ∧ joinP o (keepAll (too (acts o))) = (madeP o, 0) ∧ joinP (keepAll (frm (acts o))) o = (madeP o, 0) := by
  have ko := chkOp_ok h
  have k1 := keepAll_ok ko.fin.frm ko.frm
  have k2 := keepAll_ok ko.fin.too h80
  have em := ko.made
  have hk : ∀ n, tidyA (List.replicate (n + 1) keep0) = keepAll (n + 1) := fun n => tidy_keeps n kd0
  obtain ⟨m, hm⟩ : ∃ m, too (acts o) = m + 1 := ⟨too (acts o) - 1, by have := ko.fin.too; omega⟩
  have t1 := turn_keeps _ ko.ok
  have a1 := join_keeps_r _ ko.ok
  have a2 := join_keeps_l _ ko.ok
  have ff : ∀ n, frm (List.replicate n keep0) = n := fun n => frm_keeps n kd0
  have tt : ∀ n, too (List.replicate n keep0) = n := fun n => too_keeps n kd0
  refine ⟨?_, ?_, ?_⟩
  · have : Turns o (keepAll (frm (acts o))) := ⟨h, k1, by rw [acts_keepAll, ff], by rw [acts_keepAll, t1]; simp only; rw [← em]; exact ht, by rw [acts_keepAll, t1]; simp only; rw [hm, hk, ← hm]; exact k2⟩
    rw [this.eq, acts_keepAll, t1, em]
    simp only
    rw [hm, hk]
  · have : Joins o (keepAll (too (acts o))) := ⟨h, k2, by rw [acts_keepAll, ff], by rw [acts_keepAll, a1, ← em]; exact ht⟩
    rw [this.eq, acts_keepAll, a1, em]
  · have : Joins (keepAll (frm (acts o))) o := ⟨k1, h, by rw [acts_keepAll, tt], by rw [acts_keepAll, a2, ← em]; exact ht⟩
    rw [this.eq, acts_keepAll, a2, em]

end Go.Mh
