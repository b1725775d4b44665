/- Rows of slices: what slices.Concat reads. -/
import Derived.Test.YteikncnldbdfmaaGreatDoorMem
namespace Go.Mh
open Go.RowKit
theorem OwnS.low {α : Type} {b b' e sz : Nat} {R : World → List Value → α → Prop} {w : World} {v : Value} {L : List α} (h : OwnS b e sz R w v L) (hb : b' ≤ b) : OwnS b' e sz R w v L := by
  obtain ⟨css, ⟨h0, h1⟩, h2, h3⟩ := h
  refine ⟨css, ⟨h0, ?_⟩, h2, h3⟩
  rcases h1 with h1 | ⟨g, cap, cur, e1, hg, hr⟩
  · exact Or.inl h1
  · exact Or.inr ⟨g, cap, cur, e1, Nat.le_trans hb hg, hr⟩
end Go.Mh
