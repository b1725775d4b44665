/- 'append' where the two arguments' types are two slice types. Of whatever program. -/
import Derived.Test.YtgodceplajkcdaaMemO
namespace Go.Mh
open Go.RowKit

theorem run_append_tx {P : Program} (t tx ty e e' : TypeId) (ht : P.underlying t = some (.slice e)) (hx : P.underlying tx = some (.slice e')) (v x : Value) (w : World) :
    (Builtin.append_ #[t, tx] ty #[v, x]).run P w = (Builtin.append_ #[t, t] ty #[v, x]).run P w := by
  unfold Builtin.append_
  cases v with
  | slice b l c => simp [run_underlying ht, run_underlying hx]
  | _ => simp [run_underlying ht]

theorem wpList_append_own2 {P : Program} (w : World) {ops : Array Oper} {rest : List Oper} {o : Oper} {a : Act} {Q : Exit → Act → World → Prop} (hgd : o.guard = none) (s x : Operand) (t tx e' : TypeId) (htx : P.underlying tx = some (.slice e'))
    (ho : o.op = .call { callee := .builtin .append, args := #[s, x], argTypes := #[t, tx] })
    (base : Nat) (e : TypeId) (i : TypeInfo) (z : Value) (size bytes : Nat) (ht : P.underlying t = some (.slice e)) (hi : P.info? e = some i) (hz : i.zero = some z)
    (hsize : i.size = size) (hby : i.bytes = bytes) (hzs : z.cells.size = size) (hsz : 0 < size)
    (v : Value) (n : Nat) (xs : List Value) (hs : a.eval s = v) (hown : w.ownsRow base e size v n xs)
    (ad : Addr) (m c : Nat) (news : List Value) (hx : a.eval x = .slice (some ad) m c) (hl : news.length = m * size) (hnews : ∀ j u, news[j]? = some u → w.cell? (ad.add j) = some u) (h1 : ∀ u ∈ news, u.oneCell' = true)
    (h63 : n + m ≤ maxLen) (hbytes : (n + m) * bytes ≤ 140737488355328) (hbase : base ≤ w.heap.size)
    (h : ∀ v' w', w'.ownsRow base e size v' (n + m) (xs ++ news) → w.grownBy w' v.ownBlock → (v' = .slice none 0 0 ↔ v = .slice none 0 0 ∧ m = 0) → wpList P ops Q rest (a.put o.dst v') w') : wpList P ops Q (o :: rest) a w := by
  refine wpList_plain hgd fun K hK => ?_
  obtain ⟨v', w', hr, h2, h3, h4⟩ := run_append_own (P := P) w base t o.type e i z size bytes ht hi hz hsize hby hzs hsz v n xs hown ad m c news hl hnews h1 h63 hbytes hbase
  unfold Oper.wp execOp
  simp only [ho, resolve, invoke, builtin, Sem.run_bind, Sem.run_pure, Result.andThen_ok, List.map_toArray, List.map_cons, List.map_nil, hs, hx, run_append_tx t tx o.type e e' ht htx, hr]
  exact hK _ _ (h v' w' h2 h3 h4)

theorem wpList_append_own_none2 {P : Program} {w : World} {ops : Array Oper} {rest : List Oper} {o : Oper} {a : Act} {Q : Exit → Act → World → Prop} (hgd : o.guard = none) (s x : Operand) (t tx e' : TypeId) (htx : P.underlying tx = some (.slice e'))
    (ho : o.op = .call { callee := .builtin .append, args := #[s, x], argTypes := #[t, tx] })
    (base : Nat) (e : TypeId) (i : TypeInfo) (size : Nat) (ht : P.underlying t = some (.slice e)) (hi : P.info? e = some i)
    (v : Value) (n : Nat) (xs : List Value) (hs : a.eval s = v) (hown : w.ownsRow base e size v n xs) (hx : a.eval x = .slice none 0 0)
    (h : wpList P ops Q rest (a.put o.dst v) w) : wpList P ops Q (o :: rest) a w := by
  refine wpList_plain hgd fun K hK => ?_
  have hrun := run_append_owned_none (P := P) (w := w) base t o.type e i size ht hi v n xs hown
  unfold Oper.wp
  simp [execOp, ho, resolve, invoke, builtin, hs, hx, run_append_tx t tx o.type e e' ht htx, hrun, Result.andThen]
  exact hK _ _ h

/-- 'append(out, more...)' on the call's own row, from whatever source. -/
theorem wpList_app2 {P : Program} {w : World} {ops : Array Oper} {rest : List Oper} {o : Oper} {a : Act} {Q : Exit → Act → World → Prop} (hgd : o.guard = none) (s x : Operand) (t tx e' : TypeId) (htx : P.underlying tx = some (.slice e'))
    (ho : o.op = .call { callee := .builtin .append, args := #[s, x], argTypes := #[t, tx] })
    {α : Type} (base e sz bytes : Nat) (z : Value) (hel : El P t e sz bytes z) (R : World → List Value → α → Prop) (v : Value) (L M : List α) (hs : a.eval s = v) (hown : OwnS base e sz R w v L)
    (F : Nat → Prop) (xv : Value) (hx : a.eval x = xv) (hsrc : RdS sz R F w xv M) (h1c : ∀ w cs x, R w cs x → ∀ u ∈ cs, u.oneCell' = true)
    (h63 : L.length + M.length ≤ maxLen) (hbytes : (L.length + M.length) * bytes ≤ 140737488355328) (hbase : base ≤ w.heap.size)
    (hRk : ∀ w', w.grownBy w' v.ownBlock → ∀ cs x, x ∈ L ++ M → R w cs x → R w' cs x)
    (h : ∀ v' w', OwnS base e sz R w' v' (L ++ M) → w.grownBy w' v.ownBlock → Below base w w' → wpList P ops Q rest (a.put o.dst v') w') : wpList P ops Q (o :: rest) a w := by
  obtain ⟨css, hrow, h2, h3⟩ := hown
  obtain ⟨i, hi, hz, hsize, hby⟩ := info_parts hel.info
  obtain ⟨ao, cap, rfl, hl1, hl2, hl3, hsr⟩ := hsrc
  have hlt := hrow.lt
  -- the source's cells
  obtain ⟨ccs, hcl, hcc⟩ : ∃ ccs : List (List Value), ccs.length = M.length ∧ ∀ (i : Nat) (cs : List Value) (x : α), ccs[i]? = some cs → M[i]? = some x → ∃ b o, ao = some ⟨b, o, none⟩ ∧ cs.length = sz ∧ At w b (o + i * sz) cs ∧ R w cs x := by
    clear hl1 hx h63 hbytes hRk h
    have : ∀ n, n ≤ M.length → ∃ ccs : List (List Value), ccs.length = n ∧ ∀ (i : Nat) (cs : List Value) (x : α), ccs[i]? = some cs → M[i]? = some x → ∃ b o, ao = some ⟨b, o, none⟩ ∧ cs.length = sz ∧ At w b (o + i * sz) cs ∧ R w cs x := by
      intro n
      induction n with
      | zero => intro _; exact ⟨[], rfl, fun i cs x hi => by simp at hi⟩
      | succ n ih =>
        intro hn
        obtain ⟨ccs, hl, hc⟩ := ih (by omega)
        obtain ⟨b, o', cs, h1, _, h4, h5, h6⟩ := hsr n M[n] (List.getElem?_eq_getElem (by omega))
        refine ⟨ccs ++ [cs], by simp [hl], fun i cs' x hi hx => ?_⟩
        rcases Nat.lt_or_ge i ccs.length with hlt | hge
        · rw [List.getElem?_append_left hlt] at hi
          exact hc i cs' x hi hx
        · rw [List.getElem?_append_right hge] at hi
          obtain rfl : i = n := by
            have := (List.getElem?_eq_some_iff.1 hi).1
            simp at this
            omega
          simp [hl] at hi
          subst hi
          rw [List.getElem?_eq_getElem (by omega)] at hx
          obtain rfl := Option.some.inj hx
          exact ⟨b, o', h1, h4, h5, h6⟩
    exact this M.length (Nat.le_refl _)
  have hcsz : ∀ (i : Nat) (cs : List Value), ccs[i]? = some cs → cs.length = sz := fun i cs hi => by
    have hl : i < M.length := by rw [← hcl]; exact (List.getElem?_eq_some_iff.1 hi).1
    obtain ⟨_, _, _, h, _⟩ := hcc i cs M[i] hi (List.getElem?_eq_getElem hl)
    exact h
  have hfin : ∀ w', w.grownBy w' v.ownBlock → ∀ (i : Nat) (cs : List Value) (x : α), (css ++ ccs)[i]? = some cs → (L ++ M)[i]? = some x → cs.length = sz ∧ R w' cs x ∧ ∀ u ∈ cs, u.oneCell' = true := by
    intro w' hg i cs x hi hx
    have hm := List.mem_of_getElem? hx
    rcases Nat.lt_or_ge i css.length with hlt | hge
    · rw [List.getElem?_append_left hlt] at hi
      rw [List.getElem?_append_left (by omega)] at hx
      obtain ⟨a1, a2, a3⟩ := h3 i cs x hi hx
      exact ⟨a1, hRk w' hg cs x hm a2, a3⟩
    · rw [List.getElem?_append_right hge] at hi
      rw [List.getElem?_append_right (by omega), ← h2] at hx
      obtain ⟨b, o', _, h4, h5, h6⟩ := hcc _ cs x hi hx
      exact ⟨h4, hRk w' hg cs x hm h6, h1c _ _ _ h6⟩
  have hbel : ∀ w', w.grownBy w' v.ownBlock → Below base w w' := fun w' hg => (Below.refl base w).grown hg hbase fun k hk => (hlt k hk).1
  cases ao with
  | none =>
    have hM : M = [] := by
      cases M with
      | nil => rfl
      | cons y M => obtain ⟨_, _, _, h, _⟩ := hsr 0 y rfl; simp at h
    subst hM
    have hc0 := hl3 rfl
    subst hc0
    refine wpList_append_own_none2 hgd s x t tx e' htx ho base e i sz hel.under hi v L.length css.flatten hs hrow hx ?_
    have hcc0 : ccs = [] := List.eq_nil_of_length_eq_zero hcl
    subst hcc0
    have hg : w.grownBy w v.ownBlock := World.grownBy.refl w _
    refine h v w ⟨css, by simpa using hrow, by simpa using h2, by simpa using hfin w hg⟩ hg (hbel w hg)
  | some ad =>
    refine wpList_append_own2 w hgd s x t tx e' htx ho base e i z sz bytes hel.under hi hz hsize hby hel.cells hel.pos v L.length css.flatten hs hrow ad M.length cap ccs.flatten hx (by rw [len_flatten hcsz, hcl]) ?_ ?_ h63 hbytes hbase ?_
    · intro j u hj
      have hlen := len_flatten hcsz
      have hj' := (List.getElem?_eq_some_iff.1 hj).1
      have hpos := hel.pos
      have hdm := Nat.div_add_mod j sz
      have hmod := Nat.mod_lt j hpos
      have hdl : j / sz < ccs.length := by
        rw [Nat.div_lt_iff_lt_mul hpos]; omega
      obtain ⟨cs, hcs⟩ : ∃ cs, ccs[j / sz]? = some cs := ⟨_, List.getElem?_eq_getElem hdl⟩
      obtain ⟨b, o', hao, h4, h5, h6⟩ := hcc _ cs M[j / sz] hcs (List.getElem?_eq_getElem (by omega))
      obtain rfl := Option.some.inj hao
      obtain ⟨u', hu'⟩ : ∃ u', cs[j % sz]? = some u' := ⟨_, List.getElem?_eq_getElem (by omega)⟩
      have hf := get_flatten hcsz hcs hu'
      rw [show j / sz * sz + j % sz = j by rw [Nat.mul_comm]; exact hdm] at hf
      rw [hf] at hj
      obtain rfl := Option.some.inj hj
      rw [Addr.add_lit, show o' + j = o' + j / sz * sz + j % sz by rw [Nat.mul_comm (j / sz)]; omega]
      exact h5 _ _ hu'
    · intro u hu
      obtain ⟨cs, hcs, hu⟩ := List.mem_flatten.1 hu
      obtain ⟨i', hi'⟩ := List.getElem?_of_mem hcs
      have hl : i' < M.length := by rw [← hcl]; exact (List.getElem?_eq_some_iff.1 hi').1
      obtain ⟨_, _, _, _, _, h6⟩ := hcc i' cs M[i'] hi' (List.getElem?_eq_getElem hl)
      exact h1c _ _ _ h6 u hu
    · intro v' w' hown' hg _
      exact h v' w' ⟨css ++ ccs, by simpa using hown', by simp [h2, hcl], hfin w' hg⟩ hg (hbel w' hg)



/-- A block of another type is not the row's. -/
theorem OwnS.ne {α : Type} {base e sz : Nat} {R : World → List Value → α → Prop} {w : World} {v : Value} {L : List α} (h : OwnS base e sz R w v L) {g : Nat} {xs : Array Value} {T : Nat} {fr : Nat × Nat} (hg : w.heap[g]? = some (.cells xs T fr)) (hT : T ≠ e) : some g ≠ v.ownBlock := by
  obtain ⟨css, ⟨_, h1⟩, _⟩ := h
  rcases h1 with ⟨rfl, _⟩ | ⟨g', cap, cur, rfl, _, hh, _⟩
  · simp [Value.ownBlock]
  · simp only [Value.ownBlock, ne_eq, Option.some.injEq]
    rintro rfl
    rw [hh] at hg
    simp at hg
    exact hT hg.2.1.symm
theorem P7.of {w : World} {g T : Nat} {fr : Nat × Nat} {v0 v1 v2 v3 v4 v5 v6 : Value} (h : w.heap[g]? = some (.cells #[v0, v1, v2, v3, v4, v5, v6] T fr)) : P7 w g v0 v1 v2 v3 v4 v5 v6 := by
  refine ⟨?_, ?_, ?_, ?_, ?_, ?_, ?_⟩ <;> (unfold World.cell?; rw [h]; rfl)
theorem lt_of_heap {w : World} {g : Nat} {o : Obj} (h : w.heap[g]? = some o) : g < w.heap.size := (Array.getElem?_eq_some_iff.1 h).1
end Go.Mh
