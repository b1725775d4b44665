import Derived.Test.YteikncnldbdfmaaGreatDoorZPl
namespace Go.Mh
section
variable {pg:Bs→List It × Int} {w:Wd} {k:Nat}
def Bd (B u:Nat) (H:Cl→Prop) (k:Nat) (w:Wd):Prop:=(clAt w k).joined=true∧(upAt w k).length≤u∧(downAt w k).length+60≤B+w.s.log.length∧H (clAt w k)
def Q1 (k:Nat) (w:Wd):Prop:=(clAt w k).joined=false∨Bd 80 1 (fun _=>True) k w
end
end Go.Mh
