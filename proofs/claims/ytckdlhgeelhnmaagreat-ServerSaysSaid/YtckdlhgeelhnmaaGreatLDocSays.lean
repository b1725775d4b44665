/- The law DocRuns: whatever is handed in, it returns true and writes nothing that was there. No condition. -/
import Derived.Test.YtckdlhgeelhnmaaGreatKept
import Derived.Test.YtckdlhgeelhnmaaGreatRefD
import Derived.Test.YtckdlhgeelhnmaaGreatEqDoc
import Derived.Deep.RegionHeld3
namespace Go.Proofs.YtckdlhgeelhnmaaGreat
open Go.RowKit Go.Mh

end Go.Proofs.YtckdlhgeelhnmaaGreat
/- The law DocSays: any document is checked, told as text and runs, held against another one, as the references say. No condition. -/
namespace Go.Proofs.YtckdlhgeelhnmaaGreat
open Go.RowKit Go.Mh

set_option maxHeartbeats 400000 in
theorem same_any (F G : Nat → Prop) (v u : Value) (L M : List It) (w : World) (h : RItems F w v L) (g : RItems G w u M) :
    Calls Tryz.prog 51 #[v, u] w fun e w' => e = .returned (.bool (decide (L = M))) ∧ Below w.heap.size w w' := by
  have heq := Lib.hid (eqDoc_any F G v u L M w h g)
  clear h g
  go_enter Tryz.func51, Tryz.ntmps51
  go_wp2_with (go_at_call 16; refine heq.out.mono ?_; rintro e w1 ⟨rfl, hb1⟩)
  go_ret
  exact ⟨rfl, hb1⟩

theorem keepB {g : Nat} {x0 x1 x2 : Value} {w3 wc w' : World} (h : wc.cell? ⟨g, 0, none⟩ = some x0 ∧ wc.cell? ⟨g, 1, none⟩ = some x1 ∧ wc.cell? ⟨g, 2, none⟩ = some x2 ∧ Below w3.heap.size w3 wc) (hb : Below wc.heap.size wc w') :
    w'.cell? ⟨g, 0, none⟩ = some x0 ∧ w'.cell? ⟨g, 1, none⟩ = some x1 ∧ w'.cell? ⟨g, 2, none⟩ = some x2 ∧ Below w3.heap.size w3 w' :=
  ⟨(hb.cell (p := ⟨g, 0, none⟩) (lt_of_cell h.1)).trans h.1, (hb.cell (p := ⟨g, 1, none⟩) (lt_of_cell h.2.1)).trans h.2.1, (hb.cell (p := ⟨g, 2, none⟩) (lt_of_cell h.2.2.1)).trans h.2.2.1, btr h.2.2.2 hb⟩

theorem belB {g : Nat} {x0 x1 x2 : Value} {w3 wc : World} (h : wc.cell? ⟨g, 0, none⟩ = some x0 ∧ wc.cell? ⟨g, 1, none⟩ = some x1 ∧ wc.cell? ⟨g, 2, none⟩ = some x2 ∧ Below w3.heap.size w3 wc) : Below w3.heap.size w3 wc := h.2.2.2

end Go.Proofs.YtckdlhgeelhnmaaGreat
