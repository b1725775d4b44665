/- Rows of the call's own whose elements refer to blocks of another type; an element of such a row changed. Of whatever program. -/
import Derived.Test.YtgodceplajkcdaaMemA
import Derived.Below
import Derived.Laws.Rows
namespace Go.Mh
open Go.RowKit

/-- Block k holds a row of type T. -/
def Ty (T : TypeId) (w : World) (k : Nat) : Prop := ∃ xs fr, w.heap[k]? = some (.cells xs T fr)
/-- A part whose items lie in a block of type T. -/
def RPtI (T : TypeId) (w : World) (cs : List Value) (p : Pt) : Prop := RPt (Ty T w) w cs p
theorem RPtI.keep {T : TypeId} {w w' : World} {cs : List Value} {p : Pt} (h : RPtI T w cs p) (hk : ∀ k, Ty T w k → w'.heap[k]? = w.heap[k]?) : RPtI T w' cs p :=
  RPt.to h fun k hF _ => ⟨by obtain ⟨xs, fr, e⟩ := hF; exact ⟨xs, fr, (hk k ⟨xs, fr, e⟩).trans e⟩, hk k hF⟩
theorem Ty.lt {T : TypeId} {w : World} {k : Nat} (h : Ty T w k) : k < w.heap.size := by obtain ⟨xs, fr, e⟩ := h; exact lt_of_heap e
theorem RPtI.below {T : TypeId} {w w' : World} {cs : List Value} {p : Pt} (h : RPtI T w cs p) (hb : Below w.heap.size w w') : RPtI T w' cs p := h.keep fun k hk => hb.block k hk.lt
theorem RPtI.one {T : TypeId} : ∀ (w : World) (cs : List Value) (x : Pt), RPtI T w cs x → ∀ u ∈ cs, u.oneCell' = true := fun w cs x h => RPt_one _ w cs x h
theorem RPtI.rpt {T : TypeId} {w : World} {cs : List Value} {p : Pt} (h : RPtI T w cs p) : RPt (fun _ => True) w cs p := RPt.to h (Kp.weak w fun _ _ => trivial)

theorem RItemsT_keep {T : TypeId} {w w' : World} {v : Value} {L : List It} (h : RItems (Ty T w) w v L) (hk : ∀ k, Ty T w k → w'.heap[k]? = w.heap[k]?) : RItems (Ty T w') w' v L :=
  RItems.to h fun k hF _ => ⟨by obtain ⟨xs, fr, e⟩ := hF; exact ⟨xs, fr, (hk k ⟨xs, fr, e⟩).trans e⟩, hk k hF⟩
theorem RItemsT_below {T : TypeId} {w w' : World} {v : Value} {L : List It} (h : RItems (Ty T w) w v L) (hb : Below w.heap.size w w') : RItems (Ty T w') w' v L := RItemsT_keep h fun k hk => hb.block k hk.lt
theorem Ty.ne {T T' : TypeId} {w : World} {k g : Nat} {xs : Array Value} {fr : Nat × Nat} (h : Ty T w k) (hg : w.heap[g]? = some (.cells xs T' fr)) (hT : T ≠ T') : k ≠ g := by
  rintro rfl
  obtain ⟨ys, f2, e⟩ := h
  rw [hg] at e
  simp at e
  exact hT e.2.1.symm

/-- What the own row reads, by its type. -/
theorem OwnS.rdT {α : Type} {base e sz : Nat} {R : World → List Value → α → Prop} {w : World} {v : Value} {L : List α} (h : OwnS base e sz R w v L) : RdS sz R (Ty e w) w v L := by
  have h0 := h
  obtain ⟨css, ⟨_, h1⟩, _⟩ := h0
  have hr := h.rd
  rcases h1 with ⟨rfl, hn⟩ | ⟨g, cap, cur, rfl, hg, hh, _⟩
  · obtain rfl := List.eq_nil_of_length_eq_zero hn
    exact RdS.nil
  · obtain ⟨a, c, e1, h2, h3, h4, h5⟩ := hr
    cases e1
    refine ⟨_, _, rfl, h2, h3, h4, fun i x hx => ?_⟩
    obtain ⟨b, o, cs, e2, _, h6, h7, h8⟩ := h5 i x hx
    cases e2
    exact ⟨_, _, cs, rfl, ⟨cur, _, hh⟩, h6, h7, h8⟩
theorem OwnS.readT {base e : Nat} {T : TypeId} {w : World} {v : Value} {L : List Pt} (h : OwnS base e 7 (RPtI T) w v L) : ROp (fun _ => True) w v L :=
  RdS.to h.rd (by decide) (fun _ _ _ => ⟨trivial, rfl⟩) fun _ _ _ r => r.rpt

theorem flatten_set {css : List (List Value)} {sz : Nat} (h : ∀ (i : Nat) (cs : List Value), css[i]? = some cs → cs.length = sz) {k j : Nat} {cs : List Value} (u : Value) (hk : css[k]? = some cs) (hj : j < sz) : (css.set k (cs.set j u)).flatten = css.flatten.set (k * sz + j) u := by
  induction css generalizing k with
  | nil => simp at hk
  | cons a css ih =>
    have h0 := h 0 a rfl
    cases k with
    | zero =>
      simp at hk
      subst hk
      simp only [List.set_cons_zero, List.flatten_cons, Nat.zero_mul, Nat.zero_add]
      rw [List.set_append_left _ _ (by omega)]
    | succ k =>
      simp only [List.getElem?_cons_succ] at hk
      have := ih (fun i cs hi => h (i + 1) cs (by simpa using hi)) hk
      simp only [List.set_cons_succ, List.flatten_cons, this]
      rw [List.set_append_right _ _ (by rw [h0, Nat.succ_mul]; omega)]
      congr 2
      rw [h0, Nat.succ_mul]; omega

theorem OwnS.shape {α : Type} {base e sz : Nat} {R : World → List Value → α → Prop} {w : World} {v : Value} {L : List α} (h : OwnS base e sz R w v L) (hn : L ≠ []) : ∃ g cap cur, v = .slice (some ⟨g, 0, none⟩) L.length cap ∧ base ≤ g ∧ w.heap[g]? = some (.cells cur e (0, 0)) := by
  obtain ⟨css, ⟨_, h1⟩, _⟩ := h
  rcases h1 with ⟨_, h0⟩ | ⟨g, cap, cur, e1, hg, hh, _⟩
  · exact absurd (List.eq_nil_of_length_eq_zero h0) hn
  · exact ⟨g, cap, cur, e1, hg, hh⟩
theorem OwnS.read {base e : Nat} {F : Nat → Prop} {w : World} {v : Value} {L : List Pt} (h : OwnS base e 7 (RPt F) w v L) : ROp (fun _ => True) w v L :=
  RdS.to h.rd (by decide) (fun _ _ _ => ⟨trivial, rfl⟩) fun _ _ _ r => RPt.to r (Kp.weak w fun _ _ => trivial)
theorem set_self {α : Type} {L : List α} {k : Nat} {x : α} (h : L[k]? = some x) : L.set k x = L := by
  obtain ⟨hlt, rfl⟩ := List.getElem?_eq_some_iff.1 h
  exact List.set_getElem_self hlt
theorem keep_setCell {w : World} {g i : Nat} {u : Value} : Kp (· ≠ g) (· ≠ g) w (w.setCell ⟨g, i, none⟩ u) := fun k hk _ => ⟨hk, heap_setCell_other w _ k u hk⟩

/-- One cell of an element of the own row is changed. -/
theorem OwnS.set {α : Type} {base e sz : Nat} {R R' : World → List Value → α → Prop} {w : World} {g n cap : Nat} {L : List α} (h : OwnS base e sz R w (.slice (some ⟨g, 0, none⟩) n cap) L) {k j : Nat} {x x' : α} (hx : L[k]? = some x) (hj : j < sz) (u : Value) (hu : u.oneCell' = true)
    (hR : ∀ cs y, y ∈ L → R w cs y → R' (w.setCell ⟨g, k * sz + j, none⟩ u) cs y) (hRx : ∀ cs, cs.length = sz → R w cs x → R' (w.setCell ⟨g, k * sz + j, none⟩ u) (cs.set j u) x') : OwnS base e sz R' (w.setCell ⟨g, k * sz + j, none⟩ u) (.slice (some ⟨g, 0, none⟩) n cap) (L.set k x') := by
  obtain ⟨css, ⟨h0, h1⟩, h2, h3⟩ := h
  have hkl : k < L.length := (List.getElem?_eq_some_iff.1 hx).1
  have hsz : ∀ (i : Nat) (cs : List Value), css[i]? = some cs → cs.length = sz := fun i cs hi => by
    have hl : i < L.length := by rw [← h2]; exact (List.getElem?_eq_some_iff.1 hi).1
    exact (h3 i cs L[i] hi (List.getElem?_eq_getElem hl)).1
  obtain ⟨cs, hcs⟩ : ∃ cs, css[k]? = some cs := ⟨_, List.getElem?_eq_getElem (by omega)⟩
  rcases h1 with ⟨e1, _⟩ | ⟨g', cap', cur, e1, hg, hh, hle, hm, hcur, htake⟩
  · simp at e1
  · simp only [Value.slice.injEq, Option.some.injEq, Addr.mk.injEq, and_true] at e1
    obtain ⟨rfl, rfl, rfl⟩ := e1
    have hlen := len_flatten hsz
    refine ⟨css.set k (cs.set j u), ⟨by rw [List.length_set, flatten_set hsz u hcs hj, List.length_set]; exact h0, Or.inr ⟨g, cap, cur.setIfInBounds (k * sz + j) u, by simp, hg, ?_, by rw [List.length_set]; exact hle, hm, by simpa using hcur, ?_⟩⟩, by simp [h2], fun i cs' y hi hy => ?_⟩
    · exact heap_setCell_same w g _ cur e u hh
    · rw [List.length_set, flatten_set hsz u hcs hj, ← htake, Array.toList_setIfInBounds, List.take_set]
    · by_cases hik : i = k
      · subst hik
        rw [List.getElem?_set_self (by omega)] at hi
        rw [List.getElem?_set_self (by omega)] at hy
        cases hi
        cases hy
        obtain ⟨a, b, c⟩ := h3 i cs x hcs hx
        refine ⟨by simpa using a, hRx cs a b, fun z hz => ?_⟩
        rcases List.mem_or_eq_of_mem_set hz with hz | rfl
        · exact c z hz
        · exact hu
      · rw [List.getElem?_set_ne (by omega)] at hi hy
        obtain ⟨a, b, c⟩ := h3 i cs' y hi hy
        exact ⟨a, hR cs' y (List.mem_of_getElem? hy) b, c⟩

/-- One part appended to a row of parts. -/
theorem wpList_appP {P : Program} {w : World} {ops : Array Oper} {rest : List Oper} {o : Oper} {a : Act} {Q : Exit → Act → World → Prop} (hgd : o.guard = none) (s x : Operand) (t : TypeId)
    (ho : o.op = .call { callee := .builtin .append, args := #[s, x], argTypes := #[t, t] })
    (base e bytes T : Nat) (hT : T ≠ e) (z : Value) (hel : El P t e 7 bytes z) (v : Value) (L : List Pt) (hs : a.eval s = v) (hown : OwnS base e 7 (RPtI T) w v L)
    (y : Pt) (sv : Value) (g : Nat) (hx : a.eval x = .slice (some ⟨g, 0, none⟩) 1 1) (hg : g = w.heap.size) (hR1 : RItems (Ty T w) w sv y.its)
    (h63 : L.length + 1 ≤ maxLen) (hbytes : (L.length + 1) * bytes ≤ 140737488355328) (hbase : base ≤ w.heap.size)
    (h : ∀ v' w', OwnS base e 7 (RPtI T) w' v' (L ++ [y]) → Below base w w' → w.heap.size < w'.heap.size → (∀ k, k < w.heap.size → some k ≠ v.ownBlock → w'.heap[k]? = w.heap[k]?) → wpList P ops Q rest (a.put o.dst v') w') :
    wpList P ops Q (o :: rest) a (w.alloc (.cells #[.int .i64 y.k, .int .i64 y.n, sv, .int .i64 y.set, .int .i64 y.clr, .bool y.to, str y.l] e)) := by
  subst hg
  have hb0 : Below w.heap.size w (w.alloc (.cells #[.int .i64 y.k, .int .i64 y.n, sv, .int .i64 y.set, .int .i64 y.clr, .bool y.to, str y.l] e)) := (Below.refl _ _).alloc (Nat.le_refl _) _
  have hcomb : ∀ w', (w.alloc (.cells #[.int .i64 y.k, .int .i64 y.n, sv, .int .i64 y.set, .int .i64 y.clr, .bool y.to, str y.l] e)).grownBy w' v.ownBlock → ∀ k, k < w.heap.size → some k ≠ v.ownBlock → w'.heap[k]? = w.heap[k]? := fun w' hg k hk hne => by
    rw [hg.block k (by simp; omega) hne]; exact hb0.block k hk
  have hyb : RPtI T (w.alloc (.cells #[.int .i64 y.k, .int .i64 y.n, sv, .int .i64 y.set, .int .i64 y.clr, .bool y.to, str y.l] e)) [.int .i64 y.k, .int .i64 y.n, sv, .int .i64 y.set, .int .i64 y.clr, .bool y.to, str y.l] y :=
    RPtI.below (w := w) ⟨sv, rfl, hR1⟩ hb0
  have hown1 := hown.below hb0 (fun cs' x' _ r => r.below hb0)
  refine wpList_app hgd s x t ho base e 7 bytes z hel (RPtI T) v L [y] hs hown1 (fun _ => True) _ hx
    (RdS.one [.int .i64 y.k, .int .i64 y.n, sv, .int .i64 y.set, .int .i64 y.clr, .bool y.to, str y.l] e rfl trivial hyb) RPtI.one (by simpa using h63) (by simpa using hbytes) (by simp; omega) ?_ ?_
  · intro w' hg cs' x' _ r
    exact r.keep fun k hk => hg.block k hk.lt (by obtain ⟨xs, fr, hk⟩ := hk; exact hown1.ne hk hT)
  · intro v' w' hown' hg hb
    exact h v' w' hown' (((Below.refl _ _).alloc hbase _).trans hb) (by have := hg.size; simp at this; omega) (hcomb w' hg)
end Go.Mh
