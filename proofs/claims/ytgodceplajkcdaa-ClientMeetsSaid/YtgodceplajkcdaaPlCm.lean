/- The law ClientMeets in plain terms. No program in sight. -/
import Derived.Test.YtgodceplajkcdaaPlE
namespace Go.Mh

theorem meets_step' {d : List It} {p own : List Pt} (hd : chkDoc d = 0) (hp : chkOp p = 0) (hb : frm (acts p) = d.length) (ho : Applies d own) (ht : Turns p own) :
    chkOp (turnP p own).1 = 0 ∧ frm (acts (turnP p own).1) = (doA d (acts own)).length ∧ doA (doA d (acts own)) (acts (turnP p own).1) = doA (doA d (acts p)) (acts (turnP p own).2.1) := by
  have kp := chkOp_ok hp
  have ko := chkOp_ok ho.op
  obtain ⟨f1, f2, f3⟩ := turn_frm _ _ ht.base
  have hm := turn_meets _ _ ht.base kp.ok ko.ok d hb.symm (doc_mks hd)
  rw [ht.eq]
  refine ⟨ht.cx, ?_, ?_⟩
  · simp only [acts_tidyA, frm_norm]; rw [f1, ho.res.2]
  · simp only [acts_tidyA, doA_norm]; exact hm.symm
theorem apply_ends {d : List It} {p : List Pt} (hd : chkDoc d = 0) (hp : chkOp p = 0) (hb : frm (acts p) = d.length) : (applyP d p).2 = 2 ∨ applyP d p = (doA d (acts p), 0) := by
  by_cases ht : 80 < too (acts p)
  · left; simp only [applyP, hd, hp, hb, if_pos ht]; simp
  · right; exact (⟨hd, hp, hb, by omega⟩ : Applies d p).eq
/-- Behind what is heard: what the client shows, in the law's own steps. -/
structure Meets (c : Cl) (o : List Pt) (y : Cl) : Prop where
  ok : ClOk c
  ap : applyP c.base o = ((applyP c.base o).1, 0)
  gone : c.sent ≠ [] → y.sent = [] → y.now = (applyP c.base o).1
  none : c.sent = [] → y.now = (applyP c.base o).1 ∧ applyP c.now o = ((applyP c.base o).1, 0)
  one : c.sent ≠ [] → y.sent ≠ [] → (turnP o c.sent).2.2 = 0 ∧ (applyP (applyP c.base o).1 (turnP o c.sent).2.1).2 = 0 ∧
    (c.held = [] → y.now = (applyP (applyP c.base o).1 (turnP o c.sent).2.1).1 ∧ ((applyP c.now (turnP o c.sent).1).2 = 2 ∨ applyP c.now (turnP o c.sent).1 = (y.now, 0))) ∧
    (c.held ≠ [] → (turnP (turnP o c.sent).1 c.held).2.2 = 0 ∧ applyP (applyP (applyP c.base o).1 (turnP o c.sent).2.1).1 (turnP (turnP o c.sent).1 c.held).2.1 = (y.now, 0) ∧
      ((applyP c.now (turnP (turnP o c.sent).1 c.held).1).2 = 2 ∨ applyP c.now (turnP (turnP o c.sent).1 c.held).1 = (y.now, 0)))

theorem law_cmeets {c y : Cl} {o : List Pt} {b : Bool} (h : hearC c 0 ⟨c.rev + 1, ⟨1, 1, o⟩⟩ = (y, b, 0)) (hr : y.rev ≠ c.rev) : Meets c o y := by
  unfold hearC at h
  split at h; · rename_i h1; simp at h; exact absurd h.2.2 h1
  rename_i h1
  have hc := ClOk.of (Decidable.not_not.1 h1)
  split at h
  · split at h
    · simp at h; exact absurd (by rw [← h.1]; rfl) hr
    · simp at h; exact absurd (by rw [← h.1]) hr
  split at h; · rename_i h3; simp at h; exact absurd h.2.2 h3
  split at h; · simp at h; exact absurd (by rw [← h.1]) hr
  rename_i h4
  rw [if_pos (by simp)] at h
  simp only [Prod.mk.injEq] at h
  obtain ⟨hy, _, _⟩ := h
  have he : (applyP c.base o).2 = 0 := Decidable.byContradiction fun hn => by
    have : otherC c o = c := by simp only [otherC, if_pos hn]
    rw [this] at hy
    exact hr (by rw [← hy])
  have ha := Applies.of he
  have hap : applyP c.base o = ((applyP c.base o).1, 0) := by rw [← he]
  have e1 : (applyP c.base o).1 = doA c.base (acts o) := by rw [ha.eq]
  have hoc : otherC c o = match turn2 o c.sent c.held with
    | none => giveC { c with base := (applyP c.base o).1, rev := c.rev + 1 }
    | some (s, h) => if (owns2 (applyP c.base o).1 s h).2 ≠ 0 then giveC { c with base := (applyP c.base o).1, rev := c.rev + 1 }
      else { c with base := (applyP c.base o).1, rev := c.rev + 1, sent := s, held := h, now := (owns2 (applyP c.base o).1 s h).1 } := by
    unfold otherC; rw [if_neg (by simpa using he)]
    cases turn2 o c.sent c.held with
    | none => rfl
    | some p => rfl
  rw [hoc] at hy
  refine ⟨hc, hap, fun hs hys => ?_, fun hs => ?_, fun hs hys => ?_⟩
  · cases ht : turn2 o c.sent c.held with
    | none => rw [ht] at hy; rw [← hy]; rfl
    | some sh =>
      obtain ⟨s, k⟩ := sh
      rw [ht] at hy
      simp only at hy
      split at hy
      · rw [← hy]; rfl
      · rcases turn2_cases ht with ⟨a, _⟩ | ⟨_, _, t1, rfl, _⟩ | ⟨_, _, t1, _, rfl, _⟩
        · exact absurd a hs
        · exact absurd (by rw [← hy] at hys; exact hys) t1.ne.2.1
        · exact absurd (by rw [← hy] at hys; exact hys) t1.ne.2.1
  · have hk := hc.hs hs
    have ht : turn2 o c.sent c.held = some ([], c.held) := by simp only [turn2, if_pos hs]
    rw [ht] at hy
    simp only [owns2, if_pos] at hy
    simp at hy
    rcases hc.cases with ⟨_, _, e⟩ | ⟨a, _⟩ | ⟨a, _⟩
    · refine ⟨by rw [← hy], by rw [e]; exact hap⟩
    · exact absurd hs a
    · exact absurd hs a
  · cases ht : turn2 o c.sent c.held with
    | none => rw [ht] at hy; exact absurd (by rw [← hy]; rfl) hys
    | some sh =>
      obtain ⟨s, k⟩ := sh
      rw [ht] at hy
      simp only at hy
      split at hy
      · exact absurd (by rw [← hy]; rfl) hys
      rename_i hn
      have hn' := Decidable.not_not.1 hn
      have hnow : y.now = (owns2 (applyP c.base o).1 s k).1 := by rw [← hy]
      rcases turn2_cases ht with ⟨a, _⟩ | ⟨_, hh, t1, rfl, rfl⟩ | ⟨_, hh, t1, t2, rfl, rfl⟩
      · exact absurd a hs
      · have ho : owns2 (applyP c.base o).1 (turnP o c.sent).2.1 [] = if (applyP (applyP c.base o).1 (turnP o c.sent).2.1).2 ≠ 0 then ([], (applyP (applyP c.base o).1 (turnP o c.sent).2.1).2) else applyP (applyP c.base o).1 (turnP o c.sent).2.1 := by
          simp only [owns2, if_neg t1.ne.2.1]; simp
        have hz : (applyP (applyP c.base o).1 (turnP o c.sent).2.1).2 = 0 := Decidable.byContradiction fun hne => by rw [ho, if_pos hne] at hn'; exact hne hn'
        rw [ho, if_neg (by simpa using hz)] at hnow
        refine ⟨by rw [t1.eq], hz, fun _ => ⟨hnow, ?_⟩, fun h => absurd hh h⟩
        rcases hc.cases with ⟨a, _⟩ | ⟨_, _, as, en⟩ | ⟨_, a, _⟩
        · exact absurd a hs
        · obtain ⟨m1, m2, m3⟩ := meets_step' ha.doc ha.op ha.base as t1
          rw [← en] at m2 m3
          rcases apply_ends hc.ndoc m1 m2 with h2 | h2
          · exact Or.inl h2
          · right
            rw [h2, m3, hnow, (Applies.of hz).eq, e1]
        · exact absurd hh a
      · have ho : owns2 (applyP c.base o).1 (turnP o c.sent).2.1 (turnP (turnP o c.sent).1 c.held).2.1 = if (applyP (applyP c.base o).1 (turnP o c.sent).2.1).2 ≠ 0 then ([], (applyP (applyP c.base o).1 (turnP o c.sent).2.1).2) else applyP (applyP (applyP c.base o).1 (turnP o c.sent).2.1).1 (turnP (turnP o c.sent).1 c.held).2.1 := by
          simp only [owns2, if_neg t1.ne.2.1, if_neg t2.ne.2.1]
        have hz : (applyP (applyP c.base o).1 (turnP o c.sent).2.1).2 = 0 := Decidable.byContradiction fun hne => by rw [ho, if_pos hne] at hn'; exact hne hn'
        rw [ho, if_neg (by simpa using hz)] at hnow hn'
        refine ⟨by rw [t1.eq], hz, fun h => absurd h hh, fun _ => ⟨by rw [t2.eq], by rw [hnow, ← hn'], ?_⟩⟩
        rcases hc.cases with ⟨a, _⟩ | ⟨_, a, _⟩ | ⟨_, _, as, ah, en⟩
        · exact absurd a hs
        · exact absurd a hh
        · obtain ⟨m1, m2, m3⟩ := meets_step' ha.doc ha.op ha.base as t1
          obtain ⟨n1, n2, n3⟩ := meets_step' as.res.1 m1 m2 ah t2
          rw [← en] at n2 n3
          rcases apply_ends hc.ndoc n1 n2 with h2 | h2
          · exact Or.inl h2
          · right
            have e2 : (applyP (applyP c.base o).1 (turnP o c.sent).2.1).1 = doA (doA c.base (acts o)) (acts (turnP o c.sent).2.1) := by rw [(Applies.of hz).eq, e1]
            have az := Applies.of hn'
            rw [h2, n3, m3, hnow, az.eq, e2]
end Go.Mh
