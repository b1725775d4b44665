/- The closed fact exported; the laws ExportOne and ExportBlocks, walked. -/
import Derived.Test.YteikncnldbdfmaaGreatDoorExp
import Derived.Test.YteikncnldbdfmaaGreatDoorCmp
import Derived.Test.YteikncnldbdfmaaGreatDoorConcatH
import Derived.Lib.AppendZerosOnto
import Derived.Lib.Walk
import Derived.Test.YteikncnldbdfmaaGreatDoorSmall
import Derived.Test.YteikncnldbdfmaaGreatDoorPl
import Derived.Test.YteikncnldbdfmaaGreatDoorEqDoc
namespace Go.Mh
def smallP : Bs := [60, 104, 49, 62, 97, 60, 98, 62, 98, 60, 47, 98, 62, 60, 47, 104, 49, 62, 60, 117, 108, 62, 60, 108, 105, 62, 60, 97, 32, 104, 114, 101, 102, 61, 34, 104, 116, 116, 112, 58, 38, 97, 109, 112, 59, 34, 62, 38, 108, 116, 59, 60, 47, 97, 62, 60, 47, 108, 105, 62, 60, 47, 117, 108, 62]
end Go.Mh
namespace Go.Proofs.YteikncnldbdfmaaGreatDoor
open Go.RowKit Go.Mh

theorem smallP_eq : exportP smallL = (smallP, 0) := by decide +kernel
theorem exportPage_p {F : Nat → Prop} {v : Value} {L : List It} (p : Bs × Int) (hp : exportP L = p) {w : World} (h : RItems F w v L) (hm : ∃ m, w.cell? ⟨2, 0, none⟩ = some (.int .i64 m)) :
    Calls Tryz.prog 74 #[v] w fun e w' => e = .returned (.tuple #[str p.1, .int .i64 p.2]) ∧ Below w.heap.size w w' := by
  subst hp; exact exportPage_any F v L w h hm

end Go.Proofs.YteikncnldbdfmaaGreatDoor
