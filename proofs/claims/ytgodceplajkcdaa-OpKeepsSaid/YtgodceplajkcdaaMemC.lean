/- 'append' on the call's own row inside a region that draws its order. Of whatever program. -/
import Derived.Test.YtgodceplajkcdaaMemB
namespace Go.Mh
open Go.RowKit

theorem run_app {P : Program} {w : World} (t ty : TypeId) {α : Type} (base e sz bytes : Nat) (z : Value) (hel : El P t e sz bytes z) (R : World → List Value → α → Prop) (v : Value) (L M : List α) (hown : OwnS base e sz R w v L)
    (F : Nat → Prop) (xv : Value) (hsrc : RdS sz R F w xv M) (h1c : ∀ w cs x, R w cs x → ∀ u ∈ cs, u.oneCell' = true)
    (h63 : L.length + M.length ≤ maxLen) (hbytes : (L.length + M.length) * bytes ≤ 140737488355328) (hbase : base ≤ w.heap.size)
    (hRk : ∀ w', w.grownBy w' v.ownBlock → ∀ cs x, x ∈ L ++ M → R w cs x → R w' cs x) :
    ∃ v' w', (Builtin.append_ #[t, t] ty #[v, xv]).run P w = .ok v' w' ∧ OwnS base e sz R w' v' (L ++ M) ∧ w.grownBy w' v.ownBlock ∧ Below base w w' := by
  obtain ⟨css, hrow, h2, h3⟩ := hown
  obtain ⟨i, hi, hz, hsize, hby⟩ := info_parts hel.info
  obtain ⟨ao, cap, rfl, hl1, hl2, hl3, hsr⟩ := hsrc
  have hlt := hrow.lt
  -- the source's cells
  obtain ⟨ccs, hcl, hcc⟩ : ∃ ccs : List (List Value), ccs.length = M.length ∧ ∀ (i : Nat) (cs : List Value) (x : α), ccs[i]? = some cs → M[i]? = some x → ∃ b o, ao = some ⟨b, o, none⟩ ∧ cs.length = sz ∧ At w b (o + i * sz) cs ∧ R w cs x := by
    clear hl1 h63 hbytes hRk
    have : ∀ n, n ≤ M.length → ∃ ccs : List (List Value), ccs.length = n ∧ ∀ (i : Nat) (cs : List Value) (x : α), ccs[i]? = some cs → M[i]? = some x → ∃ b o, ao = some ⟨b, o, none⟩ ∧ cs.length = sz ∧ At w b (o + i * sz) cs ∧ R w cs x := by
      intro n
      induction n with
      | zero => intro _; exact ⟨[], rfl, fun i cs x hi => by simp at hi⟩
      | succ n ih =>
        intro hn
        obtain ⟨ccs, hl, hc⟩ := ih (by omega)
        obtain ⟨b, o', cs, h1, _, h4, h5, h6⟩ := hsr n M[n] (List.getElem?_eq_getElem (by omega))
        refine ⟨ccs ++ [cs], by simp [hl], fun i cs' x hi hx => ?_⟩
        rcases Nat.lt_or_ge i ccs.length with hlt | hge
        · rw [List.getElem?_append_left hlt] at hi
          exact hc i cs' x hi hx
        · rw [List.getElem?_append_right hge] at hi
          obtain rfl : i = n := by
            have := (List.getElem?_eq_some_iff.1 hi).1
            simp at this
            omega
          simp [hl] at hi
          subst hi
          rw [List.getElem?_eq_getElem (by omega)] at hx
          obtain rfl := Option.some.inj hx
          exact ⟨b, o', h1, h4, h5, h6⟩
    exact this M.length (Nat.le_refl _)
  have hcsz : ∀ (i : Nat) (cs : List Value), ccs[i]? = some cs → cs.length = sz := fun i cs hi => by
    have hl : i < M.length := by rw [← hcl]; exact (List.getElem?_eq_some_iff.1 hi).1
    obtain ⟨_, _, _, h, _⟩ := hcc i cs M[i] hi (List.getElem?_eq_getElem hl)
    exact h
  have hfin : ∀ w', w.grownBy w' v.ownBlock → ∀ (i : Nat) (cs : List Value) (x : α), (css ++ ccs)[i]? = some cs → (L ++ M)[i]? = some x → cs.length = sz ∧ R w' cs x ∧ ∀ u ∈ cs, u.oneCell' = true := by
    intro w' hg i cs x hi hx
    have hm := List.mem_of_getElem? hx
    rcases Nat.lt_or_ge i css.length with hlt | hge
    · rw [List.getElem?_append_left hlt] at hi
      rw [List.getElem?_append_left (by omega)] at hx
      obtain ⟨a1, a2, a3⟩ := h3 i cs x hi hx
      exact ⟨a1, hRk w' hg cs x hm a2, a3⟩
    · rw [List.getElem?_append_right hge] at hi
      rw [List.getElem?_append_right (by omega), ← h2] at hx
      obtain ⟨b, o', _, h4, h5, h6⟩ := hcc _ cs x hi hx
      exact ⟨h4, hRk w' hg cs x hm h6, h1c _ _ _ h6⟩
  have hbel : ∀ w', w.grownBy w' v.ownBlock → Below base w w' := fun w' hg => (Below.refl base w).grown hg hbase fun k hk => (hlt k hk).1
  cases ao with
  | none =>
    have hM : M = [] := by
      cases M with
      | nil => rfl
      | cons y M => obtain ⟨_, _, _, h, _⟩ := hsr 0 y rfl; simp at h
    subst hM
    have hc0 := hl3 rfl
    subst hc0
    have hrun := run_append_owned_none (P := P) (w := w) base t ty e i sz hel.under hi v L.length css.flatten hrow
    have hcc0 : ccs = [] := List.eq_nil_of_length_eq_zero hcl
    subst hcc0
    have hg : w.grownBy w v.ownBlock := World.grownBy.refl w _
    exact ⟨v, w, hrun, ⟨css, by simpa using hrow, by simpa using h2, by simpa using hfin w hg⟩, hg, hbel w hg⟩
  | some ad =>
    have k1 : ∀ j u, ccs.flatten[j]? = some u → w.cell? (ad.add j) = some u := by
      intro j u hj
      have hlen := len_flatten hcsz
      have hj' := (List.getElem?_eq_some_iff.1 hj).1
      have hpos := hel.pos
      have hdm := Nat.div_add_mod j sz
      have hmod := Nat.mod_lt j hpos
      have hdl : j / sz < ccs.length := by
        rw [Nat.div_lt_iff_lt_mul hpos]; omega
      obtain ⟨cs, hcs⟩ : ∃ cs, ccs[j / sz]? = some cs := ⟨_, List.getElem?_eq_getElem hdl⟩
      obtain ⟨b, o', hao, h4, h5, h6⟩ := hcc _ cs M[j / sz] hcs (List.getElem?_eq_getElem (by omega))
      obtain rfl := Option.some.inj hao
      obtain ⟨u', hu'⟩ : ∃ u', cs[j % sz]? = some u' := ⟨_, List.getElem?_eq_getElem (by omega)⟩
      have hf := get_flatten hcsz hcs hu'
      rw [show j / sz * sz + j % sz = j by rw [Nat.mul_comm]; exact hdm] at hf
      rw [hf] at hj
      obtain rfl := Option.some.inj hj
      rw [Addr.add_lit, show o' + j = o' + j / sz * sz + j % sz by rw [Nat.mul_comm (j / sz)]; omega]
      exact h5 _ _ hu'
    have k2 : ∀ u ∈ ccs.flatten, u.oneCell' = true := by
      intro u hu
      obtain ⟨cs, hcs, hu⟩ := List.mem_flatten.1 hu
      obtain ⟨i', hi'⟩ := List.getElem?_of_mem hcs
      have hl : i' < M.length := by rw [← hcl]; exact (List.getElem?_eq_some_iff.1 hi').1
      obtain ⟨_, _, _, _, _, h6⟩ := hcc i' cs M[i'] hi' (List.getElem?_eq_getElem hl)
      exact h1c _ _ _ h6 u hu
    obtain ⟨v', w', hr, hown', hg, _⟩ := run_append_own (P := P) w base t ty e i z sz bytes hel.under hi hz hsize hby hel.cells hel.pos v L.length css.flatten hrow ad M.length cap ccs.flatten (by rw [len_flatten hcsz, hcl]) k1 k2 h63 hbytes hbase
    exact ⟨v', w', hr, ⟨css ++ ccs, by simpa using hown', by simp [h2, hcl], hfin w' hg⟩, hg, hbel w' hg⟩

/-- The same as one step of a region that draws its order. -/
theorem step_app {P : Program} {ops : Array Oper} {o : Oper} {a : Act} {w : World} {K : Act → World → Prop} {Q : Exit → Act → World → Prop} {E : Prop}
    (hg : o.guard = none) (s x : Operand) (t : TypeId) (hop : o.op = Op.call { callee := Callee.builtin Builtin.append, args := #[s, x], argTypes := #[t, t] })
    {α : Type} (base e sz bytes : Nat) (z : Value) (hel : El P t e sz bytes z) (R : World → List Value → α → Prop) (v : Value) (L M : List α) (hs : a.eval s = v) (hown : OwnS base e sz R w v L)
    (F : Nat → Prop) (xv : Value) (hx : a.eval x = xv) (hsrc : RdS sz R F w xv M) (h1c : ∀ w cs x, R w cs x → ∀ u ∈ cs, u.oneCell' = true)
    (h63 : L.length + M.length ≤ maxLen) (hbytes : (L.length + M.length) * bytes ≤ 140737488355328) (hbase : base ≤ w.heap.size)
    (hRk : ∀ w', w.grownBy w' v.ownBlock → ∀ cs x, x ∈ L ++ M → R w cs x → R w' cs x)
    (hK : ∀ v' w', OwnS base e sz R w' v' (L ++ M) → w.grownBy w' v.ownBlock → Below base w w' → K (a.put o.dst v') w') :
    if Region.wanted o (yielded ops a.tmps) = true then Oper.wp P o a w K Q else E := by
  have hw : Region.wanted o (yielded ops a.tmps) = true := by simp [Region.wanted, hg]
  rw [if_pos hw]
  obtain ⟨v', w', hrun, h1, h2, h3⟩ := run_app (P := P) (w := w) t o.type base e sz bytes z hel R v L M hown F xv hsrc h1c h63 hbytes hbase hRk
  unfold Oper.wp
  simp [execOp, hop, resolve, invoke, builtin, hs, hx, hrun, Result.andThen]
  exact hK _ _ h1 h2 h3
end Go.Mh
