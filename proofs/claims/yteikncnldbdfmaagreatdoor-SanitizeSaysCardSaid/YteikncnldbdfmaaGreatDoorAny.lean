/- strings.IndexRune at a rune beyond ASCII, strings.IndexAny and ContainsAny at any bytes, chars in ASCII. -/
import Derived.Test.YteikncnldbdfmaaGreatDoorTok
import Derived.Test.YteikncnldbdfmaaGreatDoorAnyP
import Derived.Lib.OthersKept
import Derived.Laws.Runes
import Derived.BigQuiet
import Derived.Deep.Cut
import Derived.Deep.LoopGhost
namespace Go.Proofs.YteikncnldbdfmaaGreatDoor
open Go.RowKit Go.Mh

theorem Ascii.drop {s : Bs} (hs : Ascii s) (k : Nat) : Ascii (s.drop k) := fun j b h => hs (k + j) b (by rw [List.getElem?_drop] at h; exact h)

theorem info_ascii : (Tryz.prog.info? 238).map (fun i => (i.zero, i.size)) = some (some (.agg (Array.replicate 256 (.bool false))), 256) := by kernel_rfl

end Go.Proofs.YteikncnldbdfmaaGreatDoor
