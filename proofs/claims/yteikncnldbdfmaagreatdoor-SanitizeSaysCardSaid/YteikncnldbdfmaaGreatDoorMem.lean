/- How the program's data lie in memory: readings, the call's own rows, and the laws of the walk over them. Of whatever program. -/
import Derived.Test.YteikncnldbdfmaaGreatDoorPl
import Derived.WalkKit
import Derived.WalkSpells
import Derived.WalkLawsBesides
import Derived.Lib.Hide
import Derived.Laws.AppendOwnNone
import Derived.Deep.QuietTactic
import Derived.BigQuiet
import Derived.Deep.LoopGhost
import Derived.Deep.DeepMust
import Derived.Below
import Derived.Laws.Rows
import Derived.Maps.AppendAt
namespace Go.Mh
open Go.RowKit

/-- A text as a value. -/
abbrev str (l : Bs) : Value := .string ⟨l.toArray⟩

/-- The cells cs lie at block b from o on. -/
def At (w : World) (b o : Nat) (cs : List Value) : Prop := ∀ j v, cs[j]? = some v → w.cell? ⟨b, o + j, none⟩ = some v

theorem At.to {w w' : World} {b o : Nat} {cs : List Value} (h : At w b o cs) (hb : w'.heap[b]? = w.heap[b]?) : At w' b o cs :=
  fun j v hj => by rw [World.cell?_of_block (w := w) (by exact hb)]; exact h j v hj

theorem lt_of_cell {w : World} {a : Addr} {v : Value} (h : w.cell? a = some v) : a.block < w.heap.size := by
  unfold World.cell? at h
  cases hb : w.heap[a.block]? with
  | none => simp [hb] at h
  | some o => exact (Array.getElem?_eq_some_iff.1 hb).1

theorem At.lt {w : World} {b o : Nat} {cs : List Value} (h : At w b o cs) (hn : cs ≠ []) : b < w.heap.size := by
  cases cs with
  | nil => exact absurd rfl hn
  | cons v cs => exact lt_of_cell (h 0 v rfl)

theorem At.one {w : World} {b o : Nat} {x : Value} (h : At w b o [x]) : w.cell? ⟨b, o, none⟩ = some x := h 0 x rfl
theorem At.three {w : World} {b o : Nat} {x y z : Value} (h : At w b o [x, y, z]) :
    w.cell? ⟨b, o, none⟩ = some x ∧ w.cell? ⟨b, o + 1, none⟩ = some y ∧ w.cell? ⟨b, o + 2, none⟩ = some z := ⟨h 0 x rfl, h 1 y rfl, h 2 z rfl⟩
theorem At.four {w : World} {b o : Nat} {x y z u : Value} (h : At w b o [x, y, z, u]) :
    w.cell? ⟨b, o, none⟩ = some x ∧ w.cell? ⟨b, o + 1, none⟩ = some y ∧ w.cell? ⟨b, o + 2, none⟩ = some z ∧ w.cell? ⟨b, o + 3, none⟩ = some u := ⟨h 0 x rfl, h 1 y rfl, h 2 z rfl, h 3 u rfl⟩
theorem At.seven {w : World} {b o : Nat} {x0 x1 x2 x3 x4 x5 x6 : Value} (h : At w b o [x0, x1, x2, x3, x4, x5, x6]) :
    w.cell? ⟨b, o, none⟩ = some x0 ∧ w.cell? ⟨b, o + 1, none⟩ = some x1 ∧ w.cell? ⟨b, o + 2, none⟩ = some x2 ∧ w.cell? ⟨b, o + 3, none⟩ = some x3 ∧
    w.cell? ⟨b, o + 4, none⟩ = some x4 ∧ w.cell? ⟨b, o + 5, none⟩ = some x5 ∧ w.cell? ⟨b, o + 6, none⟩ = some x6 :=
  ⟨h 0 _ rfl, h 1 _ rfl, h 2 _ rfl, h 3 _ rfl, h 4 _ rfl, h 5 _ rfl, h 6 _ rfl⟩

/-- A slice value that reads as the list L: element i's sz cells stand in R to L's element i; the blocks that are read satisfy F. -/
def RdS {α : Type} (sz : Nat) (R : World → List Value → α → Prop) (F : Nat → Prop) (w : World) (v : Value) (L : List α) : Prop :=
  ∃ (a : Option Addr) (cap : Nat), v = .slice a L.length cap ∧ L.length ≤ cap ∧ cap ≤ maxLen ∧ (a = none → cap = 0) ∧
    ∀ i x, L[i]? = some x → ∃ b o cs, a = some ⟨b, o, none⟩ ∧ F b ∧ cs.length = sz ∧ At w b (o + i * sz) cs ∧ R w cs x

section
variable {α : Type} {sz : Nat} {R R' : World → List Value → α → Prop} {F F' : Nat → Prop} {w w' : World} {v : Value} {L : List α}

/-- What is read stays readable where the blocks read stand as they were. -/
theorem RdS.to (h : RdS sz R F w v L) (hs : 0 < sz) (hk : ∀ k, F k → k < w.heap.size → F' k ∧ w'.heap[k]? = w.heap[k]?) (hR : ∀ cs x, x ∈ L → R w cs x → R' w' cs x) : RdS sz R' F' w' v L := by
  obtain ⟨a, cap, rfl, h1, h2, h3, h4⟩ := h
  refine ⟨a, cap, rfl, h1, h2, h3, fun i x hx => ?_⟩
  obtain ⟨b, o, cs, rfl, hF, hc, hat, hr⟩ := h4 i x hx
  have hne : cs ≠ [] := by intro e; subst e; simp at hc; omega
  obtain ⟨k1, k2⟩ := hk b hF (hat.lt hne)
  exact ⟨b, o, cs, rfl, k1, hc, hat.to k2, hR cs x (List.mem_of_getElem? hx) hr⟩

theorem RdS.nil : RdS sz R F w (.slice none 0 0) ([] : List α) := ⟨none, 0, rfl, by simp, by simp [maxLen], fun _ => rfl, fun i x h => by simp at h⟩

end

def RB (_ : World) (cs : List Value) (x : UInt8) : Prop := cs = [.int .u8 x.toNat]
def RI (_ : World) (cs : List Value) (x : Int) : Prop := cs = [.int .i64 x]
def RIt (_ : World) (cs : List Value) (x : It) : Prop := cs = [.int .u8 x.c.toNat, .int .i64 x.m, str x.l]
def RTok (_ : World) (cs : List Value) (x : Tok) : Prop := cs = [.int .i64 x.k, str x.name, str x.text, str x.href]
abbrev RBytes := RdS 1 RB
abbrev RInts := RdS 1 RI
abbrev RItems := RdS 3 RIt
abbrev RToks := RdS 4 RTok
def RPt (F : Nat → Prop) (w : World) (cs : List Value) (p : Pt) : Prop :=
  ∃ sv, cs = [.int .i64 p.k, .int .i64 p.n, sv, .int .i64 p.set, .int .i64 p.clr, .bool p.to, str p.l] ∧ RItems F w sv p.its
abbrev ROp (F : Nat → Prop) := RdS 7 (RPt F) F
def REn (F : Nat → Prop) (w : World) (cs : List Value) (x : En) : Prop := ∃ ov, cs = [.int .i64 x.client, .int .i64 x.seq, ov] ∧ ROp F w ov x.o
abbrev RLog (F : Nat → Prop) := RdS 3 (REn F) F

/-- Every block that was there stands as it was. -/
abbrev Kp (F F' : Nat → Prop) (w w' : World) : Prop := ∀ k, F k → k < w.heap.size → F' k ∧ w'.heap[k]? = w.heap[k]?
theorem Kp.below {F : Nat → Prop} {w w' : World} (h : Below w.heap.size w w') : Kp F F w w' := fun k hF hk => ⟨hF, h.block k hk⟩
theorem Kp.lt {F : Nat → Prop} (w : World) : Kp F (fun k => F k ∧ k < w.heap.size) w w := fun _ hF hk => ⟨⟨hF, hk⟩, rfl⟩
theorem Kp.weak {F F' : Nat → Prop} (w : World) (h : ∀ k, F k → F' k) : Kp F F' w w := fun k hF _ => ⟨h k hF, rfl⟩
theorem Kp.trans {F F' F'' : Nat → Prop} {w w' w'' : World} (h : Kp F F' w w') (hs : w.heap.size ≤ w'.heap.size) (k : Kp F' F'' w' w'') : Kp F F'' w w'' := fun i hF hi =>
  let ⟨a, b⟩ := h i hF hi; let ⟨c, d⟩ := k i a (by omega); ⟨c, d.trans b⟩

section
variable {F F' : Nat → Prop} {w w' : World} {v : Value}
theorem RBytes.to {L : List UInt8} (h : RBytes F w v L) (hk : Kp F F' w w') : RBytes F' w' v L := RdS.to h (by decide) hk fun _ _ _ r => r
theorem RInts.to {L : List Int} (h : RInts F w v L) (hk : Kp F F' w w') : RInts F' w' v L := RdS.to h (by decide) hk fun _ _ _ r => r
theorem RItems.to {L : List It} (h : RItems F w v L) (hk : Kp F F' w w') : RItems F' w' v L := RdS.to h (by decide) hk fun _ _ _ r => r
theorem RToks.to {L : List Tok} (h : RToks F w v L) (hk : Kp F F' w w') : RToks F' w' v L := RdS.to h (by decide) hk fun _ _ _ r => r
theorem RPt.to {cs : List Value} {p : Pt} (h : RPt F w cs p) (hk : Kp F F' w w') : RPt F' w' cs p := let ⟨sv, e, r⟩ := h; ⟨sv, e, RItems.to r hk⟩
theorem ROp.to {L : List Pt} (h : ROp F w v L) (hk : Kp F F' w w') : ROp F' w' v L := RdS.to h (by decide) hk fun _ _ _ r => RPt.to r hk
theorem REn.to {cs : List Value} {p : En} (h : REn F w cs p) (hk : Kp F F' w w') : REn F' w' cs p := let ⟨sv, e, r⟩ := h; ⟨sv, e, ROp.to r hk⟩
theorem RLog.to {L : List En} (h : RLog F w v L) (hk : Kp F F' w w') : RLog F' w' v L := RdS.to h (by decide) hk fun _ _ _ r => REn.to r hk
end

/-- The element type of a slice type, off the program's table. -/
structure El (P : Program) (t e : TypeId) (sz bytes : Nat) (z : Value) : Prop where
  under : P.underlying t = some (.slice e)
  info : (P.info? e).map (fun i => (i.zero, i.size, i.bytes)) = some (some z, sz, bytes)
  cells : z.cells.size = sz
  pos : 0 < sz

/-- The call's own row, element by element. -/
def OwnS {α : Type} (base e sz : Nat) (R : World → List Value → α → Prop) (w : World) (v : Value) (L : List α) : Prop :=
  ∃ css : List (List Value), w.ownsRow base e sz v L.length css.flatten ∧ css.length = L.length ∧
    ∀ (i : Nat) (cs : List Value) (x : α), css[i]? = some cs → L[i]? = some x → cs.length = sz ∧ R w cs x ∧ ∀ u ∈ cs, u.oneCell' = true

theorem len_flatten {css : List (List Value)} {sz : Nat} (h : ∀ (i : Nat) (cs : List Value), css[i]? = some cs → cs.length = sz) : css.flatten.length = css.length * sz := by
  induction css with
  | nil => simp
  | cons a css ih =>
    have h0 := h 0 a rfl
    have := ih fun i cs hi => h (i + 1) cs (by simpa using hi)
    simp only [List.flatten_cons, List.length_append, List.length_cons, h0, this, Nat.succ_mul]
    omega

theorem get_flatten {css : List (List Value)} {sz : Nat} (h : ∀ (i : Nat) (cs : List Value), css[i]? = some cs → cs.length = sz) {i j : Nat} {cs : List Value} {u : Value} (hi : css[i]? = some cs) (hj : cs[j]? = some u) : css.flatten[i * sz + j]? = some u := by
  induction css generalizing i with
  | nil => simp at hi
  | cons a css ih =>
    have h0 := h 0 a rfl
    cases i with
    | zero =>
      simp at hi
      subst hi
      have hj' := (List.getElem?_eq_some_iff.1 hj).1
      simp only [List.flatten_cons, Nat.zero_mul, Nat.zero_add]
      rw [List.getElem?_append_left hj']
      exact hj
    | succ i =>
      simp only [List.getElem?_cons_succ] at hi
      have := ih (fun i cs hi => h (i + 1) cs (by simpa using hi)) hi
      simp only [List.flatten_cons]
      rw [List.getElem?_append_right (by rw [h0, Nat.succ_mul]; omega), ← this, h0, Nat.succ_mul]
      congr 1
      omega

section
variable {α : Type} {base e sz : Nat} {R R' : World → List Value → α → Prop} {w w' : World} {v : Value} {L : List α}

theorem OwnS.nil : OwnS base e sz R w (.slice none 0 0) ([] : List α) := ⟨[], World.ownsRow_nil w base e sz, rfl, fun i cs x h => by simp at h⟩

theorem ownsRow_below {v : Value} {n : Nat} {xs : List Value} (h : w.ownsRow base e sz v n xs) (hb : ∀ k, v.ownBlock = some k → w'.heap[k]? = w.heap[k]?) : w'.ownsRow base e sz v n xs := by
  obtain ⟨h1, h2⟩ := h
  refine ⟨h1, ?_⟩
  rcases h2 with h2 | ⟨g, cap, cur, rfl, hg, hh, r⟩
  · exact Or.inl h2
  · exact Or.inr ⟨g, cap, cur, rfl, hg, by rw [hb g rfl]; exact hh, r⟩

/-- The own row stays where its block stands as it was, and what it refers to. -/
theorem OwnS.to (h : OwnS base e sz R w v L) (hb : ∀ k, v.ownBlock = some k → k < w.heap.size → w'.heap[k]? = w.heap[k]?) (hR : ∀ cs x, x ∈ L → R w cs x → R' w' cs x) : OwnS base e sz R' w' v L := by
  obtain ⟨css, h1, h2, h3⟩ := h
  refine ⟨css, ownsRow_below h1 (fun k hk => hb k hk (h1.lt k hk).2), h2, fun i cs x hi hx => ?_⟩
  obtain ⟨a, b, c⟩ := h3 i cs x hi hx
  exact ⟨a, hR cs x (List.mem_of_getElem? hx) b, c⟩

theorem OwnS.rd (h : OwnS base e sz R w v L) : RdS sz R (base ≤ ·) w v L := by
  obtain ⟨css, ⟨h0, h1⟩, h2, h3⟩ := h
  have hsz : ∀ (i : Nat) (cs : List Value), css[i]? = some cs → cs.length = sz := fun i cs hi => by
    have hl : i < L.length := by rw [← h2]; exact (List.getElem?_eq_some_iff.1 hi).1
    exact (h3 i cs L[i] hi (List.getElem?_eq_getElem hl)).1
  rcases h1 with ⟨rfl, hn⟩ | ⟨g, cap, cur, rfl, hg, hh, hle, hm, hcur, htake⟩
  · obtain rfl := List.eq_nil_of_length_eq_zero hn
    exact RdS.nil
  · refine ⟨_, cap, rfl, hle, hm, fun h => by simp at h, fun i x hx => ?_⟩
    have hl : i < L.length := (List.getElem?_eq_some_iff.1 hx).1
    obtain ⟨cs, hcs⟩ : ∃ cs, css[i]? = some cs := ⟨_, List.getElem?_eq_getElem (by omega)⟩
    obtain ⟨a, b, c⟩ := h3 i cs x hcs hx
    refine ⟨g, 0, cs, rfl, hg, a, fun j u hj => ?_, b⟩
    have hf := get_flatten hsz hcs hj
    rw [← htake, List.getElem?_take] at hf
    split at hf
    · unfold World.cell?
      rw [hh]
      simpa using hf
    · simp at hf

end

/-- One element in a new block of its own. -/
theorem RdS.one {α : Type} {sz : Nat} {R : World → List Value → α → Prop} {F : Nat → Prop} {w : World} {x : α} (cs : List Value) (e : TypeId) (hcs : cs.length = sz) (hF : F w.heap.size) (hR : R (w.alloc (.cells cs.toArray e)) cs x) :
    RdS sz R F (w.alloc (.cells cs.toArray e)) (.slice (some ⟨w.heap.size, 0, none⟩) 1 1) [x] := by
  refine ⟨_, 1, rfl, by simp, by simp [maxLen], fun h => by simp at h, fun i y hy => ?_⟩
  cases i with
  | succ i => simp at hy
  | zero =>
    simp at hy
    subst hy
    refine ⟨_, 0, cs, rfl, hF, hcs, fun j u hj => ?_, hR⟩
    simp
    simpa using hj

/-- 'append(out, more...)' on the call's own row, from whatever source. -/
theorem wpList_app {P : Program} {w : World} {ops : Array Oper} {rest : List Oper} {o : Oper} {a : Act} {Q : Exit → Act → World → Prop} (hgd : o.guard = none) (s x : Operand) (t : TypeId)
    (ho : o.op = .call { callee := .builtin .append, args := #[s, x], argTypes := #[t, t] })
    {α : Type} (base e sz bytes : Nat) (z : Value) (hel : El P t e sz bytes z) (R : World → List Value → α → Prop) (v : Value) (L M : List α) (hs : a.eval s = v) (hown : OwnS base e sz R w v L)
    (F : Nat → Prop) (xv : Value) (hx : a.eval x = xv) (hsrc : RdS sz R F w xv M) (h1c : ∀ w cs x, R w cs x → ∀ u ∈ cs, u.oneCell' = true)
    (h63 : L.length + M.length ≤ maxLen) (hbytes : (L.length + M.length) * bytes ≤ 140737488355328) (hbase : base ≤ w.heap.size)
    (hRk : ∀ w', w.grownBy w' v.ownBlock → ∀ cs x, x ∈ L ++ M → R w cs x → R w' cs x)
    (h : ∀ v' w', OwnS base e sz R w' v' (L ++ M) → w.grownBy w' v.ownBlock → Below base w w' → wpList P ops Q rest (a.put o.dst v') w') : wpList P ops Q (o :: rest) a w := by
  obtain ⟨css, hrow, h2, h3⟩ := hown
  obtain ⟨i, hi, hz, hsize, hby⟩ := info_parts hel.info
  obtain ⟨ao, cap, rfl, hl1, hl2, hl3, hsr⟩ := hsrc
  have hlt := hrow.lt
  -- the source's cells
  obtain ⟨ccs, hcl, hcc⟩ : ∃ ccs : List (List Value), ccs.length = M.length ∧ ∀ (i : Nat) (cs : List Value) (x : α), ccs[i]? = some cs → M[i]? = some x → ∃ b o, ao = some ⟨b, o, none⟩ ∧ cs.length = sz ∧ At w b (o + i * sz) cs ∧ R w cs x := by
    clear hl1 hx h63 hbytes hRk h
    have : ∀ n, n ≤ M.length → ∃ ccs : List (List Value), ccs.length = n ∧ ∀ (i : Nat) (cs : List Value) (x : α), ccs[i]? = some cs → M[i]? = some x → ∃ b o, ao = some ⟨b, o, none⟩ ∧ cs.length = sz ∧ At w b (o + i * sz) cs ∧ R w cs x := by
      intro n
      induction n with
      | zero => intro _; exact ⟨[], rfl, fun i cs x hi => by simp at hi⟩
      | succ n ih =>
        intro hn
        obtain ⟨ccs, hl, hc⟩ := ih (by omega)
        obtain ⟨b, o', cs, h1, _, h4, h5, h6⟩ := hsr n M[n] (List.getElem?_eq_getElem (by omega))
        refine ⟨ccs ++ [cs], by simp [hl], fun i cs' x hi hx => ?_⟩
        rcases Nat.lt_or_ge i ccs.length with hlt | hge
        · rw [List.getElem?_append_left hlt] at hi
          exact hc i cs' x hi hx
        · rw [List.getElem?_append_right hge] at hi
          obtain rfl : i = n := by
            have := (List.getElem?_eq_some_iff.1 hi).1
            simp at this
            omega
          simp [hl] at hi
          subst hi
          rw [List.getElem?_eq_getElem (by omega)] at hx
          obtain rfl := Option.some.inj hx
          exact ⟨b, o', h1, h4, h5, h6⟩
    exact this M.length (Nat.le_refl _)
  have hcsz : ∀ (i : Nat) (cs : List Value), ccs[i]? = some cs → cs.length = sz := fun i cs hi => by
    have hl : i < M.length := by rw [← hcl]; exact (List.getElem?_eq_some_iff.1 hi).1
    obtain ⟨_, _, _, h, _⟩ := hcc i cs M[i] hi (List.getElem?_eq_getElem hl)
    exact h
  have hfin : ∀ w', w.grownBy w' v.ownBlock → ∀ (i : Nat) (cs : List Value) (x : α), (css ++ ccs)[i]? = some cs → (L ++ M)[i]? = some x → cs.length = sz ∧ R w' cs x ∧ ∀ u ∈ cs, u.oneCell' = true := by
    intro w' hg i cs x hi hx
    have hm := List.mem_of_getElem? hx
    rcases Nat.lt_or_ge i css.length with hlt | hge
    · rw [List.getElem?_append_left hlt] at hi
      rw [List.getElem?_append_left (by omega)] at hx
      obtain ⟨a1, a2, a3⟩ := h3 i cs x hi hx
      exact ⟨a1, hRk w' hg cs x hm a2, a3⟩
    · rw [List.getElem?_append_right hge] at hi
      rw [List.getElem?_append_right (by omega), ← h2] at hx
      obtain ⟨b, o', _, h4, h5, h6⟩ := hcc _ cs x hi hx
      exact ⟨h4, hRk w' hg cs x hm h6, h1c _ _ _ h6⟩
  have hbel : ∀ w', w.grownBy w' v.ownBlock → Below base w w' := fun w' hg => (Below.refl base w).grown hg hbase fun k hk => (hlt k hk).1
  cases ao with
  | none =>
    have hM : M = [] := by
      cases M with
      | nil => rfl
      | cons y M => obtain ⟨_, _, _, h, _⟩ := hsr 0 y rfl; simp at h
    subst hM
    have hc0 := hl3 rfl
    subst hc0
    refine wpList_append_own_none hgd s x t ho base e i sz hel.under hi v L.length css.flatten hs hrow hx ?_
    have hcc0 : ccs = [] := List.eq_nil_of_length_eq_zero hcl
    subst hcc0
    have hg : w.grownBy w v.ownBlock := World.grownBy.refl w _
    refine h v w ⟨css, by simpa using hrow, by simpa using h2, by simpa using hfin w hg⟩ hg (hbel w hg)
  | some ad =>
    refine wpList_append_own w hgd s x t ho base e i z sz bytes hel.under hi hz hsize hby hel.cells hel.pos v L.length css.flatten hs hrow ad M.length cap ccs.flatten hx (by rw [len_flatten hcsz, hcl]) ?_ ?_ h63 hbytes hbase ?_
    · intro j u hj
      have hlen := len_flatten hcsz
      have hj' := (List.getElem?_eq_some_iff.1 hj).1
      have hpos := hel.pos
      have hdm := Nat.div_add_mod j sz
      have hmod := Nat.mod_lt j hpos
      have hdl : j / sz < ccs.length := by
        rw [Nat.div_lt_iff_lt_mul hpos]; omega
      obtain ⟨cs, hcs⟩ : ∃ cs, ccs[j / sz]? = some cs := ⟨_, List.getElem?_eq_getElem hdl⟩
      obtain ⟨b, o', hao, h4, h5, h6⟩ := hcc _ cs M[j / sz] hcs (List.getElem?_eq_getElem (by omega))
      obtain rfl := Option.some.inj hao
      obtain ⟨u', hu'⟩ : ∃ u', cs[j % sz]? = some u' := ⟨_, List.getElem?_eq_getElem (by omega)⟩
      have hf := get_flatten hcsz hcs hu'
      rw [show j / sz * sz + j % sz = j by rw [Nat.mul_comm]; exact hdm] at hf
      rw [hf] at hj
      obtain rfl := Option.some.inj hj
      rw [Addr.add_lit, show o' + j = o' + j / sz * sz + j % sz by rw [Nat.mul_comm (j / sz)]; omega]
      exact h5 _ _ hu'
    · intro u hu
      obtain ⟨cs, hcs, hu⟩ := List.mem_flatten.1 hu
      obtain ⟨i', hi'⟩ := List.getElem?_of_mem hcs
      have hl : i' < M.length := by rw [← hcl]; exact (List.getElem?_eq_some_iff.1 hi').1
      obtain ⟨_, _, _, _, _, h6⟩ := hcc i' cs M[i'] hi' (List.getElem?_eq_getElem hl)
      exact h1c _ _ _ h6 u hu
    · intro v' w' hown' hg _
      exact h v' w' ⟨css ++ ccs, by simpa using hown', by simp [h2, hcl], hfin w' hg⟩ hg (hbel w' hg)


theorem RB_one : ∀ (w : World) (cs : List Value) (x : UInt8), RB w cs x → ∀ u ∈ cs, u.oneCell' = true := by rintro _ _ _ rfl u hu; simp at hu; subst hu; rfl
theorem RIt_one : ∀ (w : World) (cs : List Value) (x : It), RIt w cs x → ∀ u ∈ cs, u.oneCell' = true := by rintro _ _ _ rfl u hu; simp at hu; rcases hu with rfl | rfl | rfl <;> rfl
theorem RTok_one : ∀ (w : World) (cs : List Value) (x : Tok), RTok w cs x → ∀ u ∈ cs, u.oneCell' = true := by rintro _ _ _ rfl u hu; simp at hu; rcases hu with rfl | rfl | rfl | rfl <;> rfl
theorem RItems_one {F : Nat → Prop} {w : World} {v : Value} {L : List It} (h : RItems F w v L) : v.oneCell' = true := by obtain ⟨a, cap, rfl, _⟩ := h; rfl
theorem RPt_one (F : Nat → Prop) : ∀ (w : World) (cs : List Value) (x : Pt), RPt F w cs x → ∀ u ∈ cs, u.oneCell' = true := by
  rintro _ _ _ ⟨sv, rfl, hs⟩ u hu
  have := RItems_one hs
  simp at hu
  rcases hu with rfl | rfl | rfl | rfl | rfl | rfl | rfl <;> first | rfl | assumption

/-- The call's own row stays through whatever leaves all old blocks. -/
theorem OwnS.below {α : Type} {base e sz : Nat} {R : World → List Value → α → Prop} {w w' : World} {v : Value} {L : List α} (h : OwnS base e sz R w v L) (hb : Below w.heap.size w w') (hR : ∀ cs x, x ∈ L → R w cs x → R w' cs x) : OwnS base e sz R w' v L :=
  h.to (fun k _ hk => hb.block k hk) hR

/-- One element appended: it lies in a new block. -/
theorem wpList_app1 {P : Program} {w : World} {ops : Array Oper} {rest : List Oper} {o : Oper} {a : Act} {Q : Exit → Act → World → Prop} (hgd : o.guard = none) (s x : Operand) (t : TypeId)
    (ho : o.op = .call { callee := .builtin .append, args := #[s, x], argTypes := #[t, t] })
    {α : Type} (base e sz bytes : Nat) (z : Value) (hel : El P t e sz bytes z) (R : World → List Value → α → Prop) (v : Value) (L : List α) (hs : a.eval s = v) (hown : OwnS base e sz R w v L)
    (y : α) (cs : List Value) (e' : TypeId) (g : Nat) (hx : a.eval x = .slice (some ⟨g, 0, none⟩) 1 1) (hg : g = w.heap.size) (hcs : cs.length = sz)
    (hR1 : ∀ w', Below w.heap.size w w' → R w' cs y) (h1c : ∀ w cs x, R w cs x → ∀ u ∈ cs, u.oneCell' = true)
    (h63 : L.length + 1 ≤ maxLen) (hbytes : (L.length + 1) * bytes ≤ 140737488355328) (hbase : base ≤ w.heap.size)
    (hRk : ∀ wa w', World.grownBy wa w' v.ownBlock → ∀ cs x, R wa cs x → R w' cs x)
    (h : ∀ v' w', OwnS base e sz R w' v' (L ++ [y]) → Below base w w' → w.heap.size < w'.heap.size → (∀ k, k < w.heap.size → some k ≠ v.ownBlock → w'.heap[k]? = w.heap[k]?) → wpList P ops Q rest (a.put o.dst v') w') :
    wpList P ops Q (o :: rest) a (w.alloc (.cells cs.toArray e')) := by
  subst hg
  have hb0 : Below w.heap.size w (w.alloc (.cells cs.toArray e')) := (Below.refl _ _).alloc (Nat.le_refl _) _
  have hcomb : ∀ w', (w.alloc (.cells cs.toArray e')).grownBy w' v.ownBlock → ∀ k, k < w.heap.size → some k ≠ v.ownBlock → w'.heap[k]? = w.heap[k]? := fun w' hg k hk hne => by
    rw [hg.block k (by simp; omega) hne]; exact hb0.block k hk
  refine wpList_app hgd s x t ho base e sz bytes z hel R v L [y] hs (hown.below hb0 (fun cs' x' _ r => hRk _ _ (World.grownBy_alloc w _ _) cs' x' r)) (fun _ => True) _ hx
    (RdS.one cs e' hcs trivial (hR1 _ hb0)) h1c (by simpa using h63) (by simpa using hbytes) (by simp; omega) ?_ ?_
  · intro w' hg cs' x' _ r
    exact hRk _ _ hg cs' x' r
  · intro v' w' hown' hg hb
    exact h v' w' hown' (((Below.refl _ _).alloc hbase _).trans hb) (by have := hg.size; simp at this; omega) (hcomb w' hg)

theorem heap_new (w : World) (o : Obj) : (w.alloc o).heap[w.heap.size]? = some o := by
  show (w.heap.push o)[w.heap.size]? = _
  simp

/-- Cells written out in a block read as the list. -/
theorem RItems.lit {F : Nat → Prop} {w : World} {g n cap : Nat} {L : List It} {xs : Array Value} {e : TypeId} {fr : Nat × Nat} (hg : w.heap[g]? = some (.cells xs e fr)) (hn : n = L.length) (hc : n ≤ cap) (hm : cap ≤ maxLen) (hF : F g)
    (hx : ∀ i x, L[i]? = some x → xs[i * 3]? = some (.int .u8 x.c.toNat) ∧ xs[i * 3 + 1]? = some (.int .i64 x.m) ∧ xs[i * 3 + 2]? = some (str x.l)) : RItems F w (.slice (some ⟨g, 0, none⟩) n cap) L := by
  subst hn
  refine ⟨_, cap, rfl, hc, hm, fun h => by simp at h, fun i x hi => ⟨g, 0, [.int .u8 x.c.toNat, .int .i64 x.m, str x.l], rfl, hF, rfl, fun j u hj => ?_, rfl⟩⟩
  obtain ⟨a0, a1, a2⟩ := hx i x hi
  unfold World.cell?
  rw [hg]
  match j, hj with
  | 0, hj => simp at hj; subst hj; simpa using a0
  | 1, hj => simp at hj; subst hj; simpa using a1
  | 2, hj => simp at hj; subst hj; simpa using a2

theorem RInts.lit {F : Nat → Prop} {w : World} {g n cap : Nat} {L : List Int} {xs : Array Value} {e : TypeId} {fr : Nat × Nat} (hg : w.heap[g]? = some (.cells xs e fr)) (hn : n = L.length) (hc : n ≤ cap) (hm : cap ≤ maxLen) (hF : F g)
    (hx : xs.toList = L.map (Value.int .i64)) : RInts F w (.slice (some ⟨g, 0, none⟩) n cap) L := by
  subst hn
  refine ⟨_, cap, rfl, hc, hm, fun h => by simp at h, fun i x hi => ⟨g, 0, [.int .i64 x], rfl, hF, rfl, fun j u hj => ?_, rfl⟩⟩
  unfold World.cell?
  rw [hg]
  match j, hj with
  | 0, hj =>
    simp at hj; subst hj
    have : xs.toList[i]? = some (.int .i64 x) := by rw [hx, List.getElem?_map, hi]; rfl
    simpa using this

theorem RInts.blk {F : Nat → Prop} {w : World} {g n cap : Nat} {L : List Int} (hg : ∀ i, w.cell? ⟨g, i, none⟩ = (L.map (Value.int .i64)).toArray[i]?) (hn : n = L.length) (hc : n ≤ cap) (hm : cap ≤ maxLen) (hF : F g) : RInts F w (.slice (some ⟨g, 0, none⟩) n cap) L := by
  subst hn
  refine ⟨_, cap, rfl, hc, hm, fun h => by simp at h, fun i x hi => ⟨g, 0, [.int .i64 x], rfl, hF, rfl, fun j u hj => ?_, rfl⟩⟩
  match j, hj with
  | 0, hj =>
    simp at hj; subst hj
    simp [hg, hi]

/-- The first n of what is read. -/
theorem RdS.take {α : Type} {sz : Nat} {R : World → List Value → α → Prop} {F : Nat → Prop} {w : World} {a : Option Addr} {n cap : Nat} {L : List α} (h : RdS sz R F w (.slice a n cap) L) (k : Nat) (hk : k ≤ n) : RdS sz R F w (.slice a k cap) (L.take k) := by
  obtain ⟨a', cap', e, h1, h2, h3, h4⟩ := h
  cases e
  refine ⟨a, cap, by simp [Nat.min_eq_left hk], by simp; omega, h2, h3, fun i x hi => ?_⟩
  rw [List.getElem?_take] at hi
  split at hi
  · exact h4 i x hi
  · simp at hi

theorem RdS.capLe {α : Type} {sz : Nat} {R : World → List Value → α → Prop} {F : Nat → Prop} {w : World} {a : Option Addr} {n cap : Nat} {L : List α} (h : RdS sz R F w (.slice a n cap) L) : n ≤ cap := by
  obtain ⟨a', cap', e, h1, h2, h3, h4⟩ := h
  cases e
  exact h1

theorem bal {a w : World} (h : Below a.heap.size a w) (o : Obj) : Below a.heap.size a (w.alloc o) := h.alloc h.size o
theorem btr {a b c : World} (h : Below a.heap.size a b) (k : Below b.heap.size b c) : Below a.heap.size a c := h.trans (k.mono h.size)
theorem brf (a : World) : Below a.heap.size a a := Below.refl _ _

/-- 's[i]' of a text, its byte known. -/
theorem wpList_index_str {P : Program} {w : World} {ops : Array Oper} {rest : List Oper} {o : Oper} {a : Act} {Q : Exit → Act → World → Prop}
    (hw : Region.wanted o (yielded ops a.tmps) = true) (t : TypeId) (x i : Operand) (hop : o.op = Op.index t x i) (ht : P.underlying t = some .string) (l : Bs) (k : IntKind) (n : Nat) (c : UInt8) (hx : a.eval x = str l) (hi : a.eval i = .int k (n : Int)) (hc : l[n]? = some c)
    (hK : wpList P ops Q rest (a.put o.dst (.int .u8 c.toNat)) w) : wpList P ops Q (o :: rest) a w := by
  refine BigFrame.wpList_want hw fun K hK' => ?_
  have hn := (List.getElem?_eq_some_iff.1 hc).1
  have hlt : 0 ≤ (n : Int) ∧ (n : Int) < (⟨l.toArray⟩ : ByteArray).size := by
    simp [ByteArray.size]; exact hn
  have hget : (⟨l.toArray⟩ : ByteArray)[(n : Int).toNat]'(by have := hlt.2; simpa using this) = c := (List.getElem?_eq_some_iff.1 hc).2
  have hrun : (Instr.index t (str l) (.int k (n : Int))).run P w = .ok (.int .u8 c.toNat) w := by
    rw [run_index_string w t ⟨l.toArray⟩ k n ht, dif_pos hlt, hget]
  unfold Oper.wp
  simp only [execOp, hop, hx, hi]
  simp [hrun, Result.andThen]
  exact hK' _ _ hK

theorem str_append (a b : Bs) : Value.string ((⟨a.toArray⟩ : ByteArray) ++ (⟨b.toArray⟩ : ByteArray)) = str (a ++ b) := by
  rw [ByteArray.mk_append_mk]

theorem str_take (l : Bs) (n : Nat) : Value.string ((⟨l.toArray⟩ : ByteArray).extract 0 n) = str (l.take n) := by
  rw [ByteArray.extract_mk]; simp
theorem str_drop (l : Bs) (n m : Nat) (h : m = l.length) : Value.string ((⟨l.toArray⟩ : ByteArray).extract n m) = str (l.drop n) := by
  rw [ByteArray.extract_mk]; subst h; rw [List.take_of_length_le (by simp)]
theorem ret2 {a b a' b' : Value} (h0 : a = a') (h1 : b = b') : Ending.returned (.tuple #[a, b]) = .returned (.tuple #[a', b']) := by rw [h0, h1]
theorem ret3 {a b c a' b' c' : Value} (h0 : a = a') (h1 : b = b') (h2 : c = c') : Ending.returned (.tuple #[a, b, c]) = .returned (.tuple #[a', b', c']) := by rw [h0, h1, h2]
theorem bdrewN {B : Nat} {a w : World} (h : Below B a w) (n : Nat) : Below B a (w.drewN n) := Go.below_drewN h n

end Go.Mh
/- Readings of operations: parts by value, part by part. Of whatever program. -/
namespace Go.Mh
open Go.RowKit

/-- A part as a value. -/
abbrev pv (p : Pt) (sv : Value) : Value := .agg #[.int .i64 p.k, .int .i64 p.n, sv, .int .i64 p.set, .int .i64 p.clr, .bool p.to, str p.l]

/-- An item as a value. -/
abbrev iv (x : It) : Value := .agg #[.int .u8 x.c.toNat, .int .i64 x.m, str x.l]

/-- Seven cells of a block. -/
def P7 (w : World) (g : Nat) (v0 v1 v2 v3 v4 v5 v6 : Value) : Prop :=
  w.cell? ⟨g, 0, none⟩ = some v0 ∧ w.cell? ⟨g, 1, none⟩ = some v1 ∧ w.cell? ⟨g, 2, none⟩ = some v2 ∧ w.cell? ⟨g, 3, none⟩ = some v3 ∧ w.cell? ⟨g, 4, none⟩ = some v4 ∧ w.cell? ⟨g, 5, none⟩ = some v5 ∧ w.cell? ⟨g, 6, none⟩ = some v6

theorem P7.below {w w' : World} {g : Nat} {v0 v1 v2 v3 v4 v5 v6 : Value} (h : P7 w g v0 v1 v2 v3 v4 v5 v6) (hb : Below w.heap.size w w') : P7 w' g v0 v1 v2 v3 v4 v5 v6 := by
  obtain ⟨h0, h1, h2, h3, h4, h5, h6⟩ := h
  exact ⟨(hb.cell (p := ⟨g, 0, none⟩) (lt_of_cell h0)).trans h0, (hb.cell (p := ⟨g, 1, none⟩) (lt_of_cell h1)).trans h1, (hb.cell (p := ⟨g, 2, none⟩) (lt_of_cell h2)).trans h2, (hb.cell (p := ⟨g, 3, none⟩) (lt_of_cell h3)).trans h3,
    (hb.cell (p := ⟨g, 4, none⟩) (lt_of_cell h4)).trans h4, (hb.cell (p := ⟨g, 5, none⟩) (lt_of_cell h5)).trans h5, (hb.cell (p := ⟨g, 6, none⟩) (lt_of_cell h6)).trans h6⟩

theorem ROp.at {F : Nat → Prop} {w wr : World} {a : Option Addr} {n cap : Nat} {L : List Pt} (h : ROp F w (.slice a n cap) L) (hb : Below w.heap.size w wr) {k : Nat} {x : Pt} (hx : L[k]? = some x) :
    ∃ b o sv, a = some ⟨b, o, none⟩ ∧ RItems F wr sv x.its ∧ wr.cell? ⟨b, o + k * 7, none⟩ = some (.int .i64 x.k) ∧ wr.cell? ⟨b, o + k * 7 + 1, none⟩ = some (.int .i64 x.n) ∧ wr.cell? ⟨b, o + k * 7 + 2, none⟩ = some sv ∧
      wr.cell? ⟨b, o + k * 7 + 3, none⟩ = some (.int .i64 x.set) ∧ wr.cell? ⟨b, o + k * 7 + 4, none⟩ = some (.int .i64 x.clr) ∧ wr.cell? ⟨b, o + k * 7 + 5, none⟩ = some (.bool x.to) ∧ wr.cell? ⟨b, o + k * 7 + 6, none⟩ = some (str x.l) := by
  obtain ⟨a', cap', e, _, _, _, hel⟩ := h
  cases e
  obtain ⟨b, o, cs, h1, _, _, hat, sv, hR, hits⟩ := hel k x hx
  subst hR
  exact ⟨b, o, sv, h1, hits.to (Kp.below hb), (hat.to (hb.block b (hat.lt (by simp)))).seven⟩


/-- An empty row of the call's own that is not nil. -/
theorem OwnS.empty {α : Type} {base e sz : Nat} {R : World → List Value → α → Prop} {w : World} {g : Nat} (hg : base ≤ g) (hh : w.heap[g]? = some (.cells #[] e (0, 0))) : OwnS base e sz R w (.slice (some ⟨g, 0, none⟩) 0 0) ([] : List α) :=
  ⟨[], ⟨by simp, Or.inr ⟨g, 0, #[], rfl, hg, hh, Nat.le_refl _, by simp [maxLen], by simp, by simp⟩⟩, rfl, fun i cs x h => by simp at h⟩
end Go.Mh
/- 'append' where the two arguments' types are two slice types. Of whatever program. -/
namespace Go.Mh
open Go.RowKit

/-- A block of another type is not the row's. -/
theorem OwnS.ne {α : Type} {base e sz : Nat} {R : World → List Value → α → Prop} {w : World} {v : Value} {L : List α} (h : OwnS base e sz R w v L) {g : Nat} {xs : Array Value} {T : Nat} {fr : Nat × Nat} (hg : w.heap[g]? = some (.cells xs T fr)) (hT : T ≠ e) : some g ≠ v.ownBlock := by
  obtain ⟨css, ⟨_, h1⟩, _⟩ := h
  rcases h1 with ⟨rfl, _⟩ | ⟨g', cap, cur, rfl, _, hh, _⟩
  · simp [Value.ownBlock]
  · simp only [Value.ownBlock, ne_eq, Option.some.injEq]
    rintro rfl
    rw [hh] at hg
    simp at hg
    exact hT hg.2.1.symm
theorem P7.of {w : World} {g T : Nat} {fr : Nat × Nat} {v0 v1 v2 v3 v4 v5 v6 : Value} (h : w.heap[g]? = some (.cells #[v0, v1, v2, v3, v4, v5, v6] T fr)) : P7 w g v0 v1 v2 v3 v4 v5 v6 := by
  refine ⟨?_, ?_, ?_, ?_, ?_, ?_, ?_⟩ <;> (unfold World.cell?; rw [h]; rfl)
theorem lt_of_heap {w : World} {g : Nat} {o : Obj} (h : w.heap[g]? = some o) : g < w.heap.size := (Array.getElem?_eq_some_iff.1 h).1
end Go.Mh
/- Rows of the call's own whose elements refer to blocks of another type; an element of such a row changed. Of whatever program. -/
namespace Go.Mh
open Go.RowKit

/-- Block k holds a row of type T. -/
def Ty (T : TypeId) (w : World) (k : Nat) : Prop := ∃ xs fr, w.heap[k]? = some (.cells xs T fr)
/-- A part whose items lie in a block of type T. -/
def RPtI (T : TypeId) (w : World) (cs : List Value) (p : Pt) : Prop := RPt (Ty T w) w cs p
theorem RPtI.keep {T : TypeId} {w w' : World} {cs : List Value} {p : Pt} (h : RPtI T w cs p) (hk : ∀ k, Ty T w k → w'.heap[k]? = w.heap[k]?) : RPtI T w' cs p :=
  RPt.to h fun k hF _ => ⟨by obtain ⟨xs, fr, e⟩ := hF; exact ⟨xs, fr, (hk k ⟨xs, fr, e⟩).trans e⟩, hk k hF⟩
theorem Ty.lt {T : TypeId} {w : World} {k : Nat} (h : Ty T w k) : k < w.heap.size := by obtain ⟨xs, fr, e⟩ := h; exact lt_of_heap e
theorem RPtI.below {T : TypeId} {w w' : World} {cs : List Value} {p : Pt} (h : RPtI T w cs p) (hb : Below w.heap.size w w') : RPtI T w' cs p := h.keep fun k hk => hb.block k hk.lt
theorem RPtI.one {T : TypeId} : ∀ (w : World) (cs : List Value) (x : Pt), RPtI T w cs x → ∀ u ∈ cs, u.oneCell' = true := fun w cs x h => RPt_one _ w cs x h
theorem Ty.ne {T T' : TypeId} {w : World} {k g : Nat} {xs : Array Value} {fr : Nat × Nat} (h : Ty T w k) (hg : w.heap[g]? = some (.cells xs T' fr)) (hT : T ≠ T') : k ≠ g := by
  rintro rfl
  obtain ⟨ys, f2, e⟩ := h
  rw [hg] at e
  simp at e
  exact hT e.2.1.symm

theorem flatten_set {css : List (List Value)} {sz : Nat} (h : ∀ (i : Nat) (cs : List Value), css[i]? = some cs → cs.length = sz) {k j : Nat} {cs : List Value} (u : Value) (hk : css[k]? = some cs) (hj : j < sz) : (css.set k (cs.set j u)).flatten = css.flatten.set (k * sz + j) u := by
  induction css generalizing k with
  | nil => simp at hk
  | cons a css ih =>
    have h0 := h 0 a rfl
    cases k with
    | zero =>
      simp at hk
      subst hk
      simp only [List.set_cons_zero, List.flatten_cons, Nat.zero_mul, Nat.zero_add]
      rw [List.set_append_left _ _ (by omega)]
    | succ k =>
      simp only [List.getElem?_cons_succ] at hk
      have := ih (fun i cs hi => h (i + 1) cs (by simpa using hi)) hk
      simp only [List.set_cons_succ, List.flatten_cons, this]
      rw [List.set_append_right _ _ (by rw [h0, Nat.succ_mul]; omega)]
      congr 2
      rw [h0, Nat.succ_mul]; omega

theorem OwnS.shape {α : Type} {base e sz : Nat} {R : World → List Value → α → Prop} {w : World} {v : Value} {L : List α} (h : OwnS base e sz R w v L) (hn : L ≠ []) : ∃ g cap cur, v = .slice (some ⟨g, 0, none⟩) L.length cap ∧ base ≤ g ∧ w.heap[g]? = some (.cells cur e (0, 0)) := by
  obtain ⟨css, ⟨_, h1⟩, _⟩ := h
  rcases h1 with ⟨_, h0⟩ | ⟨g, cap, cur, e1, hg, hh, _⟩
  · exact absurd (List.eq_nil_of_length_eq_zero h0) hn
  · exact ⟨g, cap, cur, e1, hg, hh⟩
theorem OwnS.read {base e : Nat} {F : Nat → Prop} {w : World} {v : Value} {L : List Pt} (h : OwnS base e 7 (RPt F) w v L) : ROp (fun _ => True) w v L :=
  RdS.to h.rd (by decide) (fun _ _ _ => ⟨trivial, rfl⟩) fun _ _ _ r => RPt.to r (Kp.weak w fun _ _ => trivial)
/-- One cell of an element of the own row is changed. -/
theorem OwnS.set {α : Type} {base e sz : Nat} {R R' : World → List Value → α → Prop} {w : World} {g n cap : Nat} {L : List α} (h : OwnS base e sz R w (.slice (some ⟨g, 0, none⟩) n cap) L) {k j : Nat} {x x' : α} (hx : L[k]? = some x) (hj : j < sz) (u : Value) (hu : u.oneCell' = true)
    (hR : ∀ cs y, y ∈ L → R w cs y → R' (w.setCell ⟨g, k * sz + j, none⟩ u) cs y) (hRx : ∀ cs, cs.length = sz → R w cs x → R' (w.setCell ⟨g, k * sz + j, none⟩ u) (cs.set j u) x') : OwnS base e sz R' (w.setCell ⟨g, k * sz + j, none⟩ u) (.slice (some ⟨g, 0, none⟩) n cap) (L.set k x') := by
  obtain ⟨css, ⟨h0, h1⟩, h2, h3⟩ := h
  have hkl : k < L.length := (List.getElem?_eq_some_iff.1 hx).1
  have hsz : ∀ (i : Nat) (cs : List Value), css[i]? = some cs → cs.length = sz := fun i cs hi => by
    have hl : i < L.length := by rw [← h2]; exact (List.getElem?_eq_some_iff.1 hi).1
    exact (h3 i cs L[i] hi (List.getElem?_eq_getElem hl)).1
  obtain ⟨cs, hcs⟩ : ∃ cs, css[k]? = some cs := ⟨_, List.getElem?_eq_getElem (by omega)⟩
  rcases h1 with ⟨e1, _⟩ | ⟨g', cap', cur, e1, hg, hh, hle, hm, hcur, htake⟩
  · simp at e1
  · simp only [Value.slice.injEq, Option.some.injEq, Addr.mk.injEq, and_true] at e1
    obtain ⟨rfl, rfl, rfl⟩ := e1
    have hlen := len_flatten hsz
    refine ⟨css.set k (cs.set j u), ⟨by rw [List.length_set, flatten_set hsz u hcs hj, List.length_set]; exact h0, Or.inr ⟨g, cap, cur.setIfInBounds (k * sz + j) u, by simp, hg, ?_, by rw [List.length_set]; exact hle, hm, by simpa using hcur, ?_⟩⟩, by simp [h2], fun i cs' y hi hy => ?_⟩
    · exact heap_setCell_same w g _ cur e u hh
    · rw [List.length_set, flatten_set hsz u hcs hj, ← htake, Array.toList_setIfInBounds, List.take_set]
    · by_cases hik : i = k
      · subst hik
        rw [List.getElem?_set_self (by omega)] at hi
        rw [List.getElem?_set_self (by omega)] at hy
        cases hi
        cases hy
        obtain ⟨a, b, c⟩ := h3 i cs x hcs hx
        refine ⟨by simpa using a, hRx cs a b, fun z hz => ?_⟩
        rcases List.mem_or_eq_of_mem_set hz with hz | rfl
        · exact c z hz
        · exact hu
      · rw [List.getElem?_set_ne (by omega)] at hi hy
        obtain ⟨a, b, c⟩ := h3 i cs' y hi hy
        exact ⟨a, hR cs' y (List.mem_of_getElem? hy) b, c⟩

end Go.Mh
/- 'append' on the call's own row inside a region that draws its order. Of whatever program. -/
namespace Go.Mh
open Go.RowKit

theorem run_app {P : Program} {w : World} (t ty : TypeId) {α : Type} (base e sz bytes : Nat) (z : Value) (hel : El P t e sz bytes z) (R : World → List Value → α → Prop) (v : Value) (L M : List α) (hown : OwnS base e sz R w v L)
    (F : Nat → Prop) (xv : Value) (hsrc : RdS sz R F w xv M) (h1c : ∀ w cs x, R w cs x → ∀ u ∈ cs, u.oneCell' = true)
    (h63 : L.length + M.length ≤ maxLen) (hbytes : (L.length + M.length) * bytes ≤ 140737488355328) (hbase : base ≤ w.heap.size)
    (hRk : ∀ w', w.grownBy w' v.ownBlock → ∀ cs x, x ∈ L ++ M → R w cs x → R w' cs x) :
    ∃ v' w', (Builtin.append_ #[t, t] ty #[v, xv]).run P w = .ok v' w' ∧ OwnS base e sz R w' v' (L ++ M) ∧ w.grownBy w' v.ownBlock ∧ Below base w w' ∧ (v'.ownBlock = v.ownBlock ∨ v'.ownBlock = some w.heap.size) := by
  obtain ⟨css, hrow, h2, h3⟩ := hown
  obtain ⟨i, hi, hz, hsize, hby⟩ := info_parts hel.info
  obtain ⟨ao, cap, rfl, hl1, hl2, hl3, hsr⟩ := hsrc
  have hlt := hrow.lt
  -- the source's cells
  obtain ⟨ccs, hcl, hcc⟩ : ∃ ccs : List (List Value), ccs.length = M.length ∧ ∀ (i : Nat) (cs : List Value) (x : α), ccs[i]? = some cs → M[i]? = some x → ∃ b o, ao = some ⟨b, o, none⟩ ∧ cs.length = sz ∧ At w b (o + i * sz) cs ∧ R w cs x := by
    clear hl1 h63 hbytes hRk
    have : ∀ n, n ≤ M.length → ∃ ccs : List (List Value), ccs.length = n ∧ ∀ (i : Nat) (cs : List Value) (x : α), ccs[i]? = some cs → M[i]? = some x → ∃ b o, ao = some ⟨b, o, none⟩ ∧ cs.length = sz ∧ At w b (o + i * sz) cs ∧ R w cs x := by
      intro n
      induction n with
      | zero => intro _; exact ⟨[], rfl, fun i cs x hi => by simp at hi⟩
      | succ n ih =>
        intro hn
        obtain ⟨ccs, hl, hc⟩ := ih (by omega)
        obtain ⟨b, o', cs, h1, _, h4, h5, h6⟩ := hsr n M[n] (List.getElem?_eq_getElem (by omega))
        refine ⟨ccs ++ [cs], by simp [hl], fun i cs' x hi hx => ?_⟩
        rcases Nat.lt_or_ge i ccs.length with hlt | hge
        · rw [List.getElem?_append_left hlt] at hi
          exact hc i cs' x hi hx
        · rw [List.getElem?_append_right hge] at hi
          obtain rfl : i = n := by
            have := (List.getElem?_eq_some_iff.1 hi).1
            simp at this
            omega
          simp [hl] at hi
          subst hi
          rw [List.getElem?_eq_getElem (by omega)] at hx
          obtain rfl := Option.some.inj hx
          exact ⟨b, o', h1, h4, h5, h6⟩
    exact this M.length (Nat.le_refl _)
  have hcsz : ∀ (i : Nat) (cs : List Value), ccs[i]? = some cs → cs.length = sz := fun i cs hi => by
    have hl : i < M.length := by rw [← hcl]; exact (List.getElem?_eq_some_iff.1 hi).1
    obtain ⟨_, _, _, h, _⟩ := hcc i cs M[i] hi (List.getElem?_eq_getElem hl)
    exact h
  have hfin : ∀ w', w.grownBy w' v.ownBlock → ∀ (i : Nat) (cs : List Value) (x : α), (css ++ ccs)[i]? = some cs → (L ++ M)[i]? = some x → cs.length = sz ∧ R w' cs x ∧ ∀ u ∈ cs, u.oneCell' = true := by
    intro w' hg i cs x hi hx
    have hm := List.mem_of_getElem? hx
    rcases Nat.lt_or_ge i css.length with hlt | hge
    · rw [List.getElem?_append_left hlt] at hi
      rw [List.getElem?_append_left (by omega)] at hx
      obtain ⟨a1, a2, a3⟩ := h3 i cs x hi hx
      exact ⟨a1, hRk w' hg cs x hm a2, a3⟩
    · rw [List.getElem?_append_right hge] at hi
      rw [List.getElem?_append_right (by omega), ← h2] at hx
      obtain ⟨b, o', _, h4, h5, h6⟩ := hcc _ cs x hi hx
      exact ⟨h4, hRk w' hg cs x hm h6, h1c _ _ _ h6⟩
  have hbel : ∀ w', w.grownBy w' v.ownBlock → Below base w w' := fun w' hg => (Below.refl base w).grown hg hbase fun k hk => (hlt k hk).1
  cases ao with
  | none =>
    have hM : M = [] := by
      cases M with
      | nil => rfl
      | cons y M => obtain ⟨_, _, _, h, _⟩ := hsr 0 y rfl; simp at h
    subst hM
    have hc0 := hl3 rfl
    subst hc0
    have hrun := run_append_owned_none (P := P) (w := w) base t ty e i sz hel.under hi v L.length css.flatten hrow
    have hcc0 : ccs = [] := List.eq_nil_of_length_eq_zero hcl
    subst hcc0
    have hg : w.grownBy w v.ownBlock := World.grownBy.refl w _
    exact ⟨v, w, hrun, ⟨css, by simpa using hrow, by simpa using h2, by simpa using hfin w hg⟩, hg, hbel w hg, Or.inl rfl⟩
  | some ad =>
    have k1 : ∀ j u, ccs.flatten[j]? = some u → w.cell? (ad.add j) = some u := by
      intro j u hj
      have hlen := len_flatten hcsz
      have hj' := (List.getElem?_eq_some_iff.1 hj).1
      have hpos := hel.pos
      have hdm := Nat.div_add_mod j sz
      have hmod := Nat.mod_lt j hpos
      have hdl : j / sz < ccs.length := by
        rw [Nat.div_lt_iff_lt_mul hpos]; omega
      obtain ⟨cs, hcs⟩ : ∃ cs, ccs[j / sz]? = some cs := ⟨_, List.getElem?_eq_getElem hdl⟩
      obtain ⟨b, o', hao, h4, h5, h6⟩ := hcc _ cs M[j / sz] hcs (List.getElem?_eq_getElem (by omega))
      obtain rfl := Option.some.inj hao
      obtain ⟨u', hu'⟩ : ∃ u', cs[j % sz]? = some u' := ⟨_, List.getElem?_eq_getElem (by omega)⟩
      have hf := get_flatten hcsz hcs hu'
      rw [show j / sz * sz + j % sz = j by rw [Nat.mul_comm]; exact hdm] at hf
      rw [hf] at hj
      obtain rfl := Option.some.inj hj
      rw [Addr.add_lit, show o' + j = o' + j / sz * sz + j % sz by rw [Nat.mul_comm (j / sz)]; omega]
      exact h5 _ _ hu'
    have k2 : ∀ u ∈ ccs.flatten, u.oneCell' = true := by
      intro u hu
      obtain ⟨cs, hcs, hu⟩ := List.mem_flatten.1 hu
      obtain ⟨i', hi'⟩ := List.getElem?_of_mem hcs
      have hl : i' < M.length := by rw [← hcl]; exact (List.getElem?_eq_some_iff.1 hi').1
      obtain ⟨_, _, _, _, _, h6⟩ := hcc i' cs M[i'] hi' (List.getElem?_eq_getElem hl)
      exact h1c _ _ _ h6 u hu
    obtain ⟨v', w', hr, hown', hg, _, hat⟩ := run_append_own_at (P := P) w base t ty e i z sz bytes hel.under hi hz hsize hby hel.cells hel.pos v L.length css.flatten hrow ad M.length cap ccs.flatten (by rw [len_flatten hcsz, hcl]) k1 k2 h63 hbytes hbase
    exact ⟨v', w', hr, ⟨css ++ ccs, by simpa using hown', by simp [h2, hcl], hfin w' hg⟩, hg, hbel w' hg, hat⟩

/-- The same as one step of a region that draws its order. -/
theorem step_app {P : Program} {ops : Array Oper} {o : Oper} {a : Act} {w : World} {K : Act → World → Prop} {Q : Exit → Act → World → Prop} {E : Prop}
    (hg : o.guard = none) (s x : Operand) (t : TypeId) (hop : o.op = Op.call { callee := Callee.builtin Builtin.append, args := #[s, x], argTypes := #[t, t] })
    {α : Type} (base e sz bytes : Nat) (z : Value) (hel : El P t e sz bytes z) (R : World → List Value → α → Prop) (v : Value) (L M : List α) (hs : a.eval s = v) (hown : OwnS base e sz R w v L)
    (F : Nat → Prop) (xv : Value) (hx : a.eval x = xv) (hsrc : RdS sz R F w xv M) (h1c : ∀ w cs x, R w cs x → ∀ u ∈ cs, u.oneCell' = true)
    (h63 : L.length + M.length ≤ maxLen) (hbytes : (L.length + M.length) * bytes ≤ 140737488355328) (hbase : base ≤ w.heap.size)
    (hRk : ∀ w', w.grownBy w' v.ownBlock → ∀ cs x, x ∈ L ++ M → R w cs x → R w' cs x)
    (hK : ∀ v' w', OwnS base e sz R w' v' (L ++ M) → w.grownBy w' v.ownBlock → Below base w w' → K (a.put o.dst v') w') :
    if Region.wanted o (yielded ops a.tmps) = true then Oper.wp P o a w K Q else E := by
  have hw : Region.wanted o (yielded ops a.tmps) = true := by simp [Region.wanted, hg]
  rw [if_pos hw]
  obtain ⟨v', w', hrun, h1, h2, h3, _⟩ := run_app (P := P) (w := w) t o.type base e sz bytes z hel R v L M hown F xv hsrc h1c h63 hbytes hbase hRk
  unfold Oper.wp
  simp [execOp, hop, resolve, invoke, builtin, hs, hx, hrun, Result.andThen]
  exact hK _ _ h1 h2 h3
end Go.Mh
/- Readers of operations, and two rows of the call's own that grow side by side. Of whatever program. -/
namespace Go.Mh
open Go.RowKit

/-- The rest of a slice that is read from its second element on. -/
theorem RdS.tail {α : Type} {sz : Nat} {R : World → List Value → α → Prop} {F : Nat → Prop} {w : World} {b o n cap : Nat} {x : α} {L : List α} (h : RdS sz R F w (.slice (some ⟨b, o, none⟩) n cap) (x :: L)) :
    RdS sz R F w (.slice (some ⟨b, o + sz, none⟩) L.length (cap - 1)) L := by
  obtain ⟨a, c, e, h1, h2, _, h4⟩ := h
  cases e
  simp at h1
  refine ⟨_, _, rfl, by omega, by omega, fun h => by simp at h, fun i y hy => ?_⟩
  obtain ⟨b', o', cs, e, h5, h6, h7, h8⟩ := h4 (i + 1) y (by simpa using hy)
  cases e
  refine ⟨_, _, cs, rfl, h5, h6, ?_, h8⟩
  rw [show o + sz + i * sz = o + (i + 1) * sz by rw [Nat.succ_mul]; omega]
  exact h7
/-- The blocks of F stand as they stood in w0. -/
def St (F : Nat → Prop) (w0 w : World) : Prop := ∀ k, F k → w.heap[k]? = w0.heap[k]?
/-- Only block g, of all that stood, may have changed. -/
structure Stays (g : Nat) (w w' : World) : Prop where
  same : ∀ k, k < w.heap.size → k ≠ g → w'.heap[k]? = w.heap[k]?
  bel : Below g w w'
theorem Stays.trans {g : Nat} {a b c : World} (h : Stays g a b) (k : Stays g b c) : Stays g a c :=
  ⟨fun i hi hn => (k.same i (Nat.lt_of_lt_of_le hi h.bel.size) hn).trans (h.same i hi hn), h.bel.trans k.bel⟩
theorem Stays.of {g : Nat} {a b : World} (h : Below a.heap.size a b) (hg : g ≤ a.heap.size) : Stays g a b := ⟨fun k hk _ => h.block k hk, h.mono hg⟩
theorem Stays.set {g i : Nat} {w : World} {u : Value} : Stays g w (w.setCell ⟨g, i, none⟩ u) := ⟨fun _ _ hk => heap_setCell_other _ _ _ _ hk, (Below.refl g w).setCell (p := ⟨g, i, none⟩) (Nat.le_refl g) u⟩

/-- A reader in memory: what is left of the part that is read, the parts behind, both as they stood in w0. -/
def Rdr (e : TypeId) (F : Nat → Prop) (w0 w : World) (g : Nat) (p : Pt) (o : List Pt) : Prop :=
  ∃ ov sv, w.heap[g]? = some (.cells #[ov, .int .i64 p.k, .int .i64 p.n, sv, .int .i64 p.set, .int .i64 p.clr, .bool p.to, str p.l] e (0, 0)) ∧ ROp F w0 ov o ∧ RItems F w0 sv p.its
theorem Rdr.keep {e : TypeId} {F : Nat → Prop} {w0 w w' : World} {g : Nat} {p : Pt} {o : List Pt} (h : Rdr e F w0 w g p o) (hk : w'.heap[g]? = w.heap[g]?) : Rdr e F w0 w' g p o := by
  obtain ⟨ov, sv, h1, h2⟩ := h
  exact ⟨ov, sv, hk.trans h1, h2⟩
theorem Rdr.lt {e : TypeId} {F : Nat → Prop} {w0 w : World} {g : Nat} {p : Pt} {o : List Pt} (h : Rdr e F w0 w g p o) : g < w.heap.size := by obtain ⟨ov, sv, h1, _⟩ := h; exact lt_of_heap h1

/-- Eight cells of a block. -/
def P8 (w : World) (g : Nat) (v0 v1 v2 v3 v4 v5 v6 v7 : Value) : Prop :=
  w.cell? ⟨g, 0, none⟩ = some v0 ∧ w.cell? ⟨g, 1, none⟩ = some v1 ∧ w.cell? ⟨g, 2, none⟩ = some v2 ∧ w.cell? ⟨g, 3, none⟩ = some v3 ∧ w.cell? ⟨g, 4, none⟩ = some v4 ∧ w.cell? ⟨g, 5, none⟩ = some v5 ∧ w.cell? ⟨g, 6, none⟩ = some v6 ∧ w.cell? ⟨g, 7, none⟩ = some v7
theorem P8.of {w : World} {g T : Nat} {fr : Nat × Nat} {v0 v1 v2 v3 v4 v5 v6 v7 : Value} (h : w.heap[g]? = some (.cells #[v0, v1, v2, v3, v4, v5, v6, v7] T fr)) : P8 w g v0 v1 v2 v3 v4 v5 v6 v7 := by
  refine ⟨?_, ?_, ?_, ?_, ?_, ?_, ?_, ?_⟩ <;> (unfold World.cell?; rw [h]; rfl)

theorem Stays.drew {g : Nat} {w w' : World} (h : Stays g w w') : Stays g w w'.drew := ⟨h.same, h.bel.drew⟩
theorem Rdr.drew {e : TypeId} {F : Nat → Prop} {w0 w : World} {g : Nat} {p : Pt} {o : List Pt} (h : Rdr e F w0 w g p o) : Rdr e F w0 w.drew g p o := h
/-- A part whose items stand as they stood in w0. -/
abbrev RX (F : Nat → Prop) (w0 : World) : World → List Value → Pt → Prop := fun _ cs p => RPt F w0 cs p
/-- Two rows of the call's own. -/
structure Two (B e : Nat) (F : Nat → Prop) (w0 w : World) (xv yv : Value) (X Y : List Pt) : Prop where
  x : OwnS B e 7 (RX F w0) w xv X
  y : OwnS B e 7 (RX F w0) w yv Y
  ne : ∀ k, xv.ownBlock = some k → yv.ownBlock ≠ some k
  hB : B ≤ w.heap.size
theorem OwnS.own_lt {α : Type} {base e sz : Nat} {R : World → List Value → α → Prop} {w : World} {v : Value} {L : List α} (h : OwnS base e sz R w v L) {k : Nat} (hk : v.ownBlock = some k) : base ≤ k ∧ k < w.heap.size := by
  obtain ⟨css, hrow, _⟩ := h
  exact hrow.lt k hk
theorem Two.symm {B e : Nat} {F : Nat → Prop} {w0 w : World} {xv yv : Value} {X Y : List Pt} (h : Two B e F w0 w xv yv X Y) : Two B e F w0 w yv xv Y X := ⟨h.y, h.x, fun k h1 h2 => h.ne k h2 h1, h.hB⟩
theorem Two.start {B e : Nat} {F : Nat → Prop} {w0 w : World} (hB : B ≤ w.heap.size) : Two B e F w0 w (.slice none 0 0) (.slice none 0 0) [] [] := ⟨OwnS.nil, OwnS.nil, fun k h => by simp [Value.ownBlock] at h, hB⟩
/-- What leaves the blocks from B on as they stood leaves them. -/
theorem Two.keep {B e : Nat} {F : Nat → Prop} {w0 w w' : World} {xv yv : Value} {X Y : List Pt} (h : Two B e F w0 w xv yv X Y) (hs : w.heap.size ≤ w'.heap.size) (hk : ∀ k, B ≤ k → k < w.heap.size → w'.heap[k]? = w.heap[k]?) : Two B e F w0 w' xv yv X Y :=
  ⟨h.x.to (fun k hk' hl => hk k (h.x.own_lt hk').1 hl) fun _ _ _ r => r, h.y.to (fun k hk' hl => hk k (h.y.own_lt hk').1 hl) fun _ _ _ r => r, h.ne, Nat.le_trans h.hB hs⟩
theorem Two.below {B e : Nat} {F : Nat → Prop} {w0 w w' : World} {xv yv : Value} {X Y : List Pt} (h : Two B e F w0 w xv yv X Y) (hb : Below w.heap.size w w') : Two B e F w0 w' xv yv X Y := h.keep hb.size fun k _ hl => hb.block k hl
theorem Two.stays {B e g : Nat} {F : Nat → Prop} {w0 w w' : World} {xv yv : Value} {X Y : List Pt} (h : Two B e F w0 w xv yv X Y) (hb : Stays g w w') (hg : g < B) : Two B e F w0 w' xv yv X Y := h.keep hb.bel.size fun k hk hl => hb.same k hl (by omega)
section
variable {P : Program} {ops : Array Oper} {o : Oper} {a : Act} {w : World} {Q : Exit → Act → World → Prop}

end

/-- How long the slice is that a cell holds; what number it holds. -/
def cellLen : Option Value → Nat
  | some (.slice _ n _) => n
  | _ => 0
theorem Rdr.len {e : TypeId} {F : Nat → Prop} {w0 w : World} {g : Nat} {p : Pt} {o : List Pt} (h : Rdr e F w0 w g p o) : cellLen (w.cell? ⟨g, 0, none⟩) = o.length := by
  obtain ⟨ov, sv, hb, h1, h2⟩ := h
  obtain ⟨a1, c1, rfl, _⟩ := h1
  obtain ⟨q0, _⟩ := P8.of hb
  simp only [q0, cellLen]
end Go.Mh
/- What the loops over two readers keep in memory. Of whatever program. -/
namespace Go.Mh
open Go.RowKit

theorem heap_at {w : World} {o : Obj} {g : Nat} (h : g = w.heap.size) : (w.alloc o).heap[g]? = some o := by subst h; exact heap_new w o
theorem heap_at2 {w : World} {o o' : Obj} {g : Nat} (h : g = w.heap.size) : ((w.alloc o).alloc o').heap[g]? = some o := by
  subst h; exact ((bal (brf _) o').block _ (by simp)).trans (heap_new w o)
/-- How the blocks of the two readers lie. -/
structure Fix (w w0 : World) (F : Nat → Prop) (g1 g2 : Nat) : Prop where
  lo : w.heap.size ≤ g1
  lt : g1 < g2
  hi : g2 < w0.heap.size
  F1 : ∀ k, F k → k < w0.heap.size ∧ k ≠ g1 ∧ k ≠ g2

/-- What stands in memory ahead of a round. -/
structure Lp (e er : TypeId) (w w0 : World) (F : Nat → Prop) (g1 g2 : Nat) (wr : World) (xv yv : Value) (X Y : List Pt) (p : Pt) (o : List Pt) (q : Pt) (u : List Pt) : Prop where
  two : Two w0.heap.size e F w0 wr xv yv X Y
  r1 : Rdr er F w0 wr g1 p o
  r2 : Rdr er F w0 wr g2 q u
  st : St F w0 wr
  bel : Below w.heap.size w wr

section
variable {e er : TypeId} {w w0 : World} {F : Nat → Prop} {g1 g2 : Nat} {wr w' : World} {xv yv xv' yv' : Value} {X Y X' Y' : List Pt} {p p' : Pt} {o o' : List Pt} {q q' : Pt} {u u' : List Pt}
theorem Lp.below (h : Lp e er w w0 F g1 g2 wr xv yv X Y p o q u) (f : Fix w w0 F g1 g2) (hb : Below wr.heap.size wr w') : Lp e er w w0 F g1 g2 w' xv yv X Y p o q u := by
  have := f.lt; have := f.hi; have := f.lo
  have hz := h.two.hB
  exact ⟨h.two.below hb, h.r1.keep (hb.block g1 (by omega)), h.r2.keep (hb.block g2 (by omega)), fun k hk => (hb.block k (by have := (f.F1 k hk).1; omega)).trans (h.st k hk), h.bel.trans (hb.mono (by omega))⟩
theorem Lp.grown (h : Lp e er w w0 F g1 g2 wr xv yv X Y p o q u) (f : Fix w w0 F g1 g2) (T : Two w0.heap.size e F w0 w' xv' yv' X' Y') (hb : Below w0.heap.size wr w') : Lp e er w w0 F g1 g2 w' xv' yv' X' Y' p o q u := by
  have := f.lt; have := f.hi; have := f.lo
  exact ⟨T, h.r1.keep (hb.block g1 (by omega)), h.r2.keep (hb.block g2 (by omega)), fun k hk => (hb.block k (f.F1 k hk).1).trans (h.st k hk), h.bel.trans (hb.mono (by omega))⟩
end

/-- Two parts in blocks of their own. -/
def S14 (gs gt : Nat) (sv tv : Value) (x y : Pt) (w : World) : Prop := P7 w gs (.int .i64 x.k) (.int .i64 x.n) sv (.int .i64 x.set) (.int .i64 x.clr) (.bool x.to) (str x.l) ∧ P7 w gt (.int .i64 y.k) (.int .i64 y.n) tv (.int .i64 y.set) (.int .i64 y.clr) (.bool y.to) (str y.l)
theorem S14.below {gs gt : Nat} {sv tv : Value} {x y : Pt} {w w' : World} (h : S14 gs gt sv tv x y w) (hb : Below w.heap.size w w') : S14 gs gt sv tv x y w' := ⟨h.1.below hb, h.2.below hb⟩
theorem P7.block {w w' : World} {g : Nat} {v0 v1 v2 v3 v4 v5 v6 : Value} (h : P7 w g v0 v1 v2 v3 v4 v5 v6) (hb : w'.heap[g]? = w.heap[g]?) : P7 w' g v0 v1 v2 v3 v4 v5 v6 := by
  have e : ∀ i, w'.cell? ⟨g, i, none⟩ = w.cell? ⟨g, i, none⟩ := fun i => World.cell?_of_block (w := w) (a := ⟨g, i, none⟩) hb
  unfold P7
  simp only [e]
  exact h
theorem blk_of_cell {w w' : World} {own : Option Nat} {g i : Nat} {v : Value} (h : w.cell? ⟨g, i, none⟩ = some v) (hne : some g ≠ own) (hn : ∀ k ob, some k ≠ own → w.heap[k]? = some ob → w'.heap[k]? = some ob) : w'.heap[g]? = w.heap[g]? := by
  have hl := lt_of_cell h
  obtain ⟨ob, hob⟩ : ∃ ob, w.heap[g]? = some ob := ⟨_, Array.getElem?_eq_getElem hl⟩
  rw [hob]
  exact hn g ob hne hob
theorem S14.grown {gs gt : Nat} {sv tv : Value} {x y : Pt} {w w' : World} {own : Option Nat} (h : S14 gs gt sv tv x y w) (h1 : some gs ≠ own) (h2 : some gt ≠ own) (hn : ∀ k ob, some k ≠ own → w.heap[k]? = some ob → w'.heap[k]? = some ob) : S14 gs gt sv tv x y w' :=
  ⟨h.1.block (blk_of_cell h.1.1 h1 hn), h.2.block (blk_of_cell h.2.1 h2 hn)⟩
end Go.Mh
/- What the loop that joins keeps in memory. Of whatever program. -/
namespace Go.Mh
open Go.RowKit

theorem RdS.dropC {α : Type} {sz : Nat} {R : World → List Value → α → Prop} {F : Nat → Prop} {w : World} {b o n cap : Nat} {L : List α} (h : RdS sz R F w (.slice (some ⟨b, o, none⟩) n cap) L) (k : Nat) (hk : k ≤ n) : RdS sz R F w (.slice (some ⟨b, o + k * sz, none⟩) (n - k) (cap - k)) (L.drop k) := by
  obtain ⟨a, c, e, h1, h2, _, h4⟩ := h
  cases e
  refine ⟨_, _, by rw [List.length_drop], by rw [List.length_drop]; omega, by omega, fun h => by simp at h, fun i x hx => ?_⟩
  rw [List.getElem?_drop] at hx
  obtain ⟨b', o', cs, e, h5, h6, h7, h8⟩ := h4 (k + i) x hx
  cases e
  refine ⟨_, _, cs, rfl, h5, h6, ?_, h8⟩
  rw [show o + k * sz + i * sz = o + (k + i) * sz by rw [Nat.add_mul]; omega]
  exact h7
/-- What stands in memory ahead of a round of Join. -/
structure LpJ (e er : TypeId) (w : World) (B g1 g2 : Nat) (F : Nat → Prop) (w0 wr : World) (xv : Value) (X : List Pt) (p : Pt) (o : List Pt) (q : Pt) (u : List Pt) : Prop where
  two : Two B e F w0 wr xv (.slice none 0 0) X []
  r1 : Rdr er F w0 wr g1 p o
  r2 : Rdr er F w0 wr g2 q u
  st : St F w0 wr
  bel : Below w.heap.size w wr
  F1 : ∀ k, F k → k < wr.heap.size ∧ k ≠ g1 ∧ k ≠ g2 ∧ some k ≠ xv.ownBlock
  fx : w.heap.size ≤ g1 ∧ g1 < g2 ∧ g2 < B

section
variable {e er : TypeId} {w w0 : World} {F : Nat → Prop} {B g1 g2 : Nat} {wr w' : World} {xv xv' : Value} {X X' : List Pt} {p p' : Pt} {o o' : List Pt} {q q' : Pt} {u u' : List Pt}
theorem LpJ.below (h : LpJ e er w B g1 g2 F w0 wr xv X p o q u) (hb : Below wr.heap.size wr w') : LpJ e er w B g1 g2 F w0 w' xv X p o q u := by
  obtain ⟨f1, f2, f3⟩ := h.fx
  have hz := h.two.hB
  have hz' := hb.size
  exact ⟨h.two.below hb, h.r1.keep (hb.block g1 (by omega)), h.r2.keep (hb.block g2 (by omega)), fun k hk => (hb.block k (h.F1 k hk).1).trans (h.st k hk), h.bel.trans (hb.mono (by omega)), fun k hk => ⟨by have := (h.F1 k hk).1; omega, (h.F1 k hk).2⟩, h.fx⟩
theorem LpJ.grown (h : LpJ e er w B g1 g2 F w0 wr xv X p o q u) (T : Two B e F w0 w' xv' (.slice none 0 0) X' []) (hb : Below B wr w') (hn : ∀ k ob, some k ≠ xv.ownBlock → wr.heap[k]? = some ob → w'.heap[k]? = some ob) (hat : xv'.ownBlock = xv.ownBlock ∨ xv'.ownBlock = some wr.heap.size) :
    LpJ e er w B g1 g2 F w0 w' xv' X' p o q u := by
  obtain ⟨f1, f2, f3⟩ := h.fx
  have hz := h.two.hB
  have hz' := hb.size
  refine ⟨T, h.r1.keep (hb.block g1 (by omega)), h.r2.keep (hb.block g2 (by omega)), fun k hk => ?_, h.bel.trans (hb.mono (by omega)), fun k hk => ?_, h.fx⟩
  · obtain ⟨k1, _, _, k4⟩ := h.F1 k hk
    have e0 : wr.heap[k]? = some wr.heap[k] := Array.getElem?_eq_getElem k1
    rw [← h.st k hk, e0]
    exact hn k _ k4 e0
  · obtain ⟨k1, k2, k3, k4⟩ := h.F1 k hk
    refine ⟨by omega, k2, k3, ?_⟩
    rcases hat with e | e
    · rw [e]; exact k4
    · rw [e]; intro h2; cases h2; omega
/-- A block more that nothing changes from here on. -/
theorem LpJ.ext (h : LpJ e er w B g1 g2 F w0 wr xv X p o q u) (N : Nat → Prop) (hN : ∀ k, N k → k < wr.heap.size ∧ k ≠ g1 ∧ k ≠ g2 ∧ some k ≠ xv.ownBlock) : LpJ e er w B g1 g2 (fun k => F k ∨ N k) wr wr xv X p o q u := by
  have kp : Kp F (fun k => F k ∨ N k) w0 wr := fun k hF _ => ⟨Or.inl hF, h.st k hF⟩
  have kr : ∀ {g p o}, Rdr er F w0 wr g p o → Rdr er (fun k => F k ∨ N k) wr wr g p o := fun ⟨ov, sv, h1, h2, h3⟩ => ⟨ov, sv, h1, ROp.to h2 kp, RItems.to h3 kp⟩
  refine ⟨⟨h.two.x.to (fun _ _ _ => rfl) fun _ _ _ r => RPt.to r kp, h.two.y.to (fun _ _ _ => rfl) fun _ _ _ r => RPt.to r kp, h.two.ne, h.two.hB⟩, kr h.r1, kr h.r2, fun _ _ => rfl, h.bel, fun k hk => ?_, h.fx⟩
  rcases hk with hk | hk
  · exact h.F1 k hk
  · exact hN k hk
theorem LpJ.start (h1 : Rdr er F w0 w0 g1 p o) (h2 : Rdr er F w0 w0 g2 q u) (hb : Below w.heap.size w w0) (hB : B ≤ w0.heap.size) (fx : w.heap.size ≤ g1 ∧ g1 < g2 ∧ g2 < B) (F1 : ∀ k, F k → k < w0.heap.size ∧ k ≠ g1 ∧ k ≠ g2) : LpJ e er w B g1 g2 F w0 w0 (.slice none 0 0) [] p o q u :=
  ⟨Two.start hB, h1, h2, fun _ _ => rfl, hb, fun k hk => ⟨(F1 k hk).1, (F1 k hk).2.1, (F1 k hk).2.2, by simp [Value.ownBlock]⟩, fx⟩
end

end Go.Mh
/- The world of a goal under one name. Of whatever program. -/
namespace Go.Mh

theorem name_world {P : World → Prop} {w : World} (h : ∀ w', w = w' → P w') : P w := h w rfl

end Go.Mh
