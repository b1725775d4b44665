/- Package op: Tidy. -/
import Derived.Test.YtckdlhgeelhnmaaGreatOpMade
import Derived.Test.YtckdlhgeelhnmaaGreatOpC
namespace Go.Proofs.YtckdlhgeelhnmaaGreat
open Go.RowKit Go.Mh

theorem lok_of {L : List Pt} (h : OpOk L) : Lok L :=
  ⟨h.fm, fun p hp hk => (h.tp p hp).pos hk, by have := h.len; omega, fun p hp => by have := h.n80 p hp; omega, fun p hp => by have := h.i80 p hp; omega⟩

theorem own_base {α : Type} {b b' e sz : Nat} {R : World → List Value → α → Prop} {w : World} {v : Value} {L : List α} (h : OwnS b e sz R w v L) (hb : b' ≤ b) : OwnS b' e sz R w v L := by
  obtain ⟨css, ⟨h0, h1⟩, h2, h3⟩ := h
  refine ⟨css, ⟨h0, ?_⟩, h2, h3⟩
  rcases h1 with h1 | ⟨g, cap, cur, e1, hg, hr⟩
  · exact Or.inl h1
  · exact Or.inr ⟨g, cap, cur, e1, Nat.le_trans hb hg, hr⟩

/-- What Tidy answers. -/
def tidyP (L : List Pt) : List Pt × Int := if chkOp L ≠ 0 then ([], chkOp L) else (madeP L, 0)

end Go.Proofs.YtckdlhgeelhnmaaGreat
