/- Readings of operations: parts by value, part by part. Of whatever program. -/
import Derived.Test.YtgodceplajkcdaaMem
import Derived.Test.YtgodceplajkcdaaPlC
namespace Go.Mh
open Go.RowKit

/-- A part as a value. -/
abbrev pv (p : Pt) (sv : Value) : Value := .agg #[.int .i64 p.k, .int .i64 p.n, sv, .int .i64 p.set, .int .i64 p.clr, .bool p.to, str p.l]

/-- An item as a value. -/
abbrev iv (x : It) : Value := .agg #[.int .u8 x.c.toNat, .int .i64 x.m, str x.l]

/-- Seven cells of a block. -/
def P7 (w : World) (g : Nat) (v0 v1 v2 v3 v4 v5 v6 : Value) : Prop :=
  w.cell? ⟨g, 0, none⟩ = some v0 ∧ w.cell? ⟨g, 1, none⟩ = some v1 ∧ w.cell? ⟨g, 2, none⟩ = some v2 ∧ w.cell? ⟨g, 3, none⟩ = some v3 ∧ w.cell? ⟨g, 4, none⟩ = some v4 ∧ w.cell? ⟨g, 5, none⟩ = some v5 ∧ w.cell? ⟨g, 6, none⟩ = some v6

theorem P7.below {w w' : World} {g : Nat} {v0 v1 v2 v3 v4 v5 v6 : Value} (h : P7 w g v0 v1 v2 v3 v4 v5 v6) (hb : Below w.heap.size w w') : P7 w' g v0 v1 v2 v3 v4 v5 v6 := by
  obtain ⟨h0, h1, h2, h3, h4, h5, h6⟩ := h
  exact ⟨(hb.cell (p := ⟨g, 0, none⟩) (lt_of_cell h0)).trans h0, (hb.cell (p := ⟨g, 1, none⟩) (lt_of_cell h1)).trans h1, (hb.cell (p := ⟨g, 2, none⟩) (lt_of_cell h2)).trans h2, (hb.cell (p := ⟨g, 3, none⟩) (lt_of_cell h3)).trans h3,
    (hb.cell (p := ⟨g, 4, none⟩) (lt_of_cell h4)).trans h4, (hb.cell (p := ⟨g, 5, none⟩) (lt_of_cell h5)).trans h5, (hb.cell (p := ⟨g, 6, none⟩) (lt_of_cell h6)).trans h6⟩

theorem ROp.at {F : Nat → Prop} {w wr : World} {a : Option Addr} {n cap : Nat} {L : List Pt} (h : ROp F w (.slice a n cap) L) (hb : Below w.heap.size w wr) {k : Nat} {x : Pt} (hx : L[k]? = some x) :
    ∃ b o sv, a = some ⟨b, o, none⟩ ∧ RItems F wr sv x.its ∧ wr.cell? ⟨b, o + k * 7, none⟩ = some (.int .i64 x.k) ∧ wr.cell? ⟨b, o + k * 7 + 1, none⟩ = some (.int .i64 x.n) ∧ wr.cell? ⟨b, o + k * 7 + 2, none⟩ = some sv ∧
      wr.cell? ⟨b, o + k * 7 + 3, none⟩ = some (.int .i64 x.set) ∧ wr.cell? ⟨b, o + k * 7 + 4, none⟩ = some (.int .i64 x.clr) ∧ wr.cell? ⟨b, o + k * 7 + 5, none⟩ = some (.bool x.to) ∧ wr.cell? ⟨b, o + k * 7 + 6, none⟩ = some (str x.l) := by
  obtain ⟨a', cap', e, _, _, _, hel⟩ := h
  cases e
  obtain ⟨b, o, cs, h1, _, _, hat, sv, hR, hits⟩ := hel k x hx
  subst hR
  exact ⟨b, o, sv, h1, hits.to (Kp.below hb), (hat.to (hb.block b (hat.lt (by simp)))).seven⟩


theorem RdS.none_nil {α : Type} {sz : Nat} {R : World → List Value → α → Prop} {F : Nat → Prop} {w : World} {n c : Nat} {L : List α} (h : RdS sz R F w (.slice none n c) L) : L = [] ∧ c = 0 := by
  obtain ⟨a, cap, e, _, _, h0, hel⟩ := h
  cases e
  refine ⟨?_, h0 rfl⟩
  cases L with
  | nil => rfl
  | cons x L => obtain ⟨b, o, cs, h1, _⟩ := hel 0 x rfl; cases h1

/-- An empty row of the call's own that is not nil. -/
theorem OwnS.empty {α : Type} {base e sz : Nat} {R : World → List Value → α → Prop} {w : World} {g : Nat} (hg : base ≤ g) (hh : w.heap[g]? = some (.cells #[] e (0, 0))) : OwnS base e sz R w (.slice (some ⟨g, 0, none⟩) 0 0) ([] : List α) :=
  ⟨[], ⟨by simp, Or.inr ⟨g, 0, #[], rfl, hg, hh, Nat.le_refl _, by simp [maxLen], by simp, by simp⟩⟩, rfl, fun i cs x h => by simp at h⟩
end Go.Mh
