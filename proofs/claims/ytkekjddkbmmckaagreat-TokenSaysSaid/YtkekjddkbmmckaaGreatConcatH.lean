/- Rows of slices: what slices.Concat reads. -/
import Derived.Test.YtkekjddkbmmckaaGreatMemA
namespace Go.Mh
open Go.RowKit
/-- A slice in a row of slices. -/
def RSl {α : Type} (sz : Nat) (R : World → List Value → α → Prop) (F : Nat → Prop) (w : World) (cs : List Value) (l : List α) : Prop := ∃ v, cs = [v] ∧ RdS sz R F w v l
theorem RdS.at1 {α : Type} {sz : Nat} {R : World → List Value → α → Prop} {F : Nat → Prop} {w wr : World} {a : Option Addr} {n cap : Nat} {LL : List (List α)} (h : RdS 1 (RSl sz R F) F w (.slice a n cap) LL) (hs : 0 < sz) (hR : ∀ cs x, R w cs x → R wr cs x) (hb : Below w.heap.size w wr) {k : Nat} {l : List α} (hx : LL[k]? = some l) :
    ∃ b o v, a = some ⟨b, o, none⟩ ∧ wr.cell? ⟨b, o + k, none⟩ = some v ∧ RdS sz R F wr v l := by
  obtain ⟨a', cap', e, _, _, _, hel⟩ := h
  cases e
  obtain ⟨b, o, cs, h1, _, _, hat, v, hcs, hr⟩ := hel k l hx
  subst hcs
  refine ⟨b, o, v, h1, ?_, hr.to hs (fun k hF hk => ⟨hF, hb.block k hk⟩) (fun cs x _ r => hR cs x r)⟩
  have := (hat.to (hb.block b (hat.lt (by simp)))).one
  simpa using this
theorem OwnS.low {α : Type} {b b' e sz : Nat} {R : World → List Value → α → Prop} {w : World} {v : Value} {L : List α} (h : OwnS b e sz R w v L) (hb : b' ≤ b) : OwnS b' e sz R w v L := by
  obtain ⟨css, ⟨h0, h1⟩, h2, h3⟩ := h
  refine ⟨css, ⟨h0, ?_⟩, h2, h3⟩
  rcases h1 with h1 | ⟨g, cap, cur, e1, hg, hr⟩
  · exact Or.inl h1
  · exact Or.inr ⟨g, cap, cur, e1, Nat.le_trans hb hg, hr⟩
/-- How long what stands ahead is. -/
def lenN {α : Type} (LL : List (List α)) (k : Nat) : Nat := (LL.take k).flatten.length
theorem lenN_step {α : Type} {LL : List (List α)} {k : Nat} {l : List α} (h : LL[k]? = some l) : lenN LL (k + 1) = lenN LL k + l.length := by
  unfold lenN; rw [List.take_add_one, h]; simp
theorem flat_step {α : Type} {LL : List (List α)} {k : Nat} {l : List α} (h : LL[k]? = some l) : (LL.take (k + 1)).flatten = (LL.take k).flatten ++ l := by
  rw [List.take_add_one, h]; simp
theorem lenN_le {α : Type} (LL : List (List α)) (k : Nat) : lenN LL k ≤ LL.flatten.length := by
  unfold lenN
  conv => rhs; rw [← List.take_append_drop k LL, List.flatten_append, List.length_append]
  omega
end Go.Mh
