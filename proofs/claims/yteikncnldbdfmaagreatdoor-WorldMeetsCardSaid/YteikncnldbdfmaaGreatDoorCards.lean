/-
  DERIVED. GIVEN WITH THE SEED: THE CARDS: each row of YteikncnldbdfmaaGreatDoorRows.lean that lists a variable, with what it lists TIED to the program's text (the seventh form; the later family's looks); each row that meets fmt, with fmt's text TOLD by the authors' own Lean function (tested against real Go, not proved from fmt's source: count such statements apart). THE CARD IS WHAT COUNTS. Prove the row's statement (the work); the ties are given (YteikncnldbdfmaaGreatDoorTie.lean); close each card by the builder's one call (the guide's Derived/Test/ToyasCard.lean, 'card_holds'). Laid BY PROGRAM, IN A SANDBOX (cutbox-door.mjs). By AI agents, Wed Nov 11 2026. No macro, syntax, notation, axiom, sorry.
-/
import Derived.Test.YteikncnldbdfmaaGreatDoorRows
import GoSem.ClaimSeven
namespace Go.Proofs.YteikncnldbdfmaaGreatDoor
namespace Rows

/-- THE TIED CARD OF 'manyhandslaw.WorldRuns'. -/
def worldRunsCard : Claim7 := { stood := { row := worldRunsRow, standIns := [], harness := (true, "689f31071eceee145e7c763f706920dc17e0488c9714df05f99e813c85c52400"), looks := true }, kinds := [], alts := [], laidByText := true, laidKinds := [.data, .listed, .data, .pinned], laidTests := true, laidLooks := .later }
def WorldRunsCardSaid : Prop := Claim7.holds Tryz.pinned (.plain (OpenSpec.ofChange worldRunsSpec)) worldRunsCard

/-- THE TIED CARD OF 'manyhandslaw.WorldDoes'. -/
def worldDoesCard : Claim7 := { stood := { row := worldDoesRow, standIns := [], harness := (true, "689f31071eceee145e7c763f706920dc17e0488c9714df05f99e813c85c52400"), looks := true }, kinds := [], alts := [], laidByText := true, laidKinds := [.data, .listed, .data, .pinned], laidTests := true, laidLooks := .later }
def WorldDoesCardSaid : Prop := Claim7.holds Tryz.pinned (.plain (OpenSpec.ofChange worldDoesSpec)) worldDoesCard

/-- THE TIED CARD OF 'manyhandslaw.SanitizeSays'. -/
def sanitizeSaysCard : Claim7 := { stood := { row := sanitizeSaysRow, standIns := [], harness := (true, "689f31071eceee145e7c763f706920dc17e0488c9714df05f99e813c85c52400"), looks := true }, kinds := [], alts := [], laidByText := true, laidKinds := [.data, .listed, .data, .pinned], laidTests := true, laidLooks := .later }
def SanitizeSaysCardSaid : Prop := Claim7.holds Tryz.pinned (.plain (OpenSpec.ofChange sanitizeSaysSpec)) sanitizeSaysCard

/-- THE TIED CARD OF 'manyhandslaw.WorldMeets'. -/
def worldMeetsCard : Claim7 := { stood := { row := worldMeetsRow, standIns := [], harness := (true, "689f31071eceee145e7c763f706920dc17e0488c9714df05f99e813c85c52400"), looks := true }, kinds := [], alts := [], laidByText := true, laidKinds := [.data, .pinned], laidTests := true, laidLooks := .later }
def WorldMeetsCardSaid : Prop := Claim7.holds Tryz.pinned (.plain (OpenSpec.ofChange worldMeetsSpec)) worldMeetsCard

/-- THE TIED CARD OF 'manyhandslaw.WorldHolds'. -/
def worldHoldsCard : Claim7 := { stood := { row := worldHoldsRow, standIns := [], harness := (true, "689f31071eceee145e7c763f706920dc17e0488c9714df05f99e813c85c52400"), looks := true }, kinds := [], alts := [], laidByText := true, laidKinds := [.data, .pinned], laidTests := true, laidLooks := .later }
def WorldHoldsCardSaid : Prop := Claim7.holds Tryz.pinned (.plain (OpenSpec.ofChange worldHoldsSpec)) worldHoldsCard

/-- THE TIED CARD OF 'manyhandslaw.WorldApart'. -/
def worldApartCard : Claim7 := { stood := { row := worldApartRow, standIns := [], harness := (true, "689f31071eceee145e7c763f706920dc17e0488c9714df05f99e813c85c52400"), looks := true }, kinds := [], alts := [], laidByText := true, laidKinds := [.data, .pinned], laidTests := true, laidLooks := .later }
def WorldApartCardSaid : Prop := Claim7.holds Tryz.pinned (.plain (OpenSpec.ofChange worldApartSpec)) worldApartCard

/-- THE SECOND FORM's CARD OF 'manyhandslaw.WorldRuns'. -/
def worldRunsUptoCard : Claim7 := { stood := { row := worldRunsUptoRow, standIns := [], harness := (true, "689f31071eceee145e7c763f706920dc17e0488c9714df05f99e813c85c52400"), looks := true }, kinds := [], alts := [], laidByText := true, laidKinds := [.data, .listed, .data, .pinned], laidTests := true, laidLooks := .later }
def WorldRunsUptoCardSaid : Prop := Claim7.holds Tryz.pinned (.plain (OpenSpec.upto worldRunsSpec)) worldRunsUptoCard

/-- THE SECOND FORM's CARD OF 'manyhandslaw.WorldDoes'. -/
def worldDoesUptoCard : Claim7 := { stood := { row := worldDoesUptoRow, standIns := [], harness := (true, "689f31071eceee145e7c763f706920dc17e0488c9714df05f99e813c85c52400"), looks := true }, kinds := [], alts := [], laidByText := true, laidKinds := [.data, .listed, .data, .pinned], laidTests := true, laidLooks := .later }
def WorldDoesUptoCardSaid : Prop := Claim7.holds Tryz.pinned (.plain (OpenSpec.upto worldDoesSpec)) worldDoesUptoCard

/-- THE SECOND FORM's CARD OF 'manyhandslaw.SanitizeSays'. -/
def sanitizeSaysUptoCard : Claim7 := { stood := { row := sanitizeSaysUptoRow, standIns := [], harness := (true, "689f31071eceee145e7c763f706920dc17e0488c9714df05f99e813c85c52400"), looks := true }, kinds := [], alts := [], laidByText := true, laidKinds := [.data, .listed, .data, .pinned], laidTests := true, laidLooks := .later }
def SanitizeSaysUptoCardSaid : Prop := Claim7.holds Tryz.pinned (.plain (OpenSpec.upto sanitizeSaysSpec)) sanitizeSaysUptoCard

/-- THE SECOND FORM's CARD OF 'manyhandslaw.WorldMeets'. -/
def worldMeetsUptoCard : Claim7 := { stood := { row := worldMeetsUptoRow, standIns := [], harness := (true, "689f31071eceee145e7c763f706920dc17e0488c9714df05f99e813c85c52400"), looks := true }, kinds := [], alts := [], laidByText := true, laidKinds := [.data, .pinned], laidTests := true, laidLooks := .later }
def WorldMeetsUptoCardSaid : Prop := Claim7.holds Tryz.pinned (.plain (OpenSpec.upto worldMeetsSpec)) worldMeetsUptoCard

/-- THE SECOND FORM's CARD OF 'manyhandslaw.WorldHolds'. -/
def worldHoldsUptoCard : Claim7 := { stood := { row := worldHoldsUptoRow, standIns := [], harness := (true, "689f31071eceee145e7c763f706920dc17e0488c9714df05f99e813c85c52400"), looks := true }, kinds := [], alts := [], laidByText := true, laidKinds := [.data, .pinned], laidTests := true, laidLooks := .later }
def WorldHoldsUptoCardSaid : Prop := Claim7.holds Tryz.pinned (.plain (OpenSpec.upto worldHoldsSpec)) worldHoldsUptoCard

/-- THE SECOND FORM's CARD OF 'manyhandslaw.WorldApart'. -/
def worldApartUptoCard : Claim7 := { stood := { row := worldApartUptoRow, standIns := [], harness := (true, "689f31071eceee145e7c763f706920dc17e0488c9714df05f99e813c85c52400"), looks := true }, kinds := [], alts := [], laidByText := true, laidKinds := [.data, .pinned], laidTests := true, laidLooks := .later }
def WorldApartUptoCardSaid : Prop := Claim7.holds Tryz.pinned (.plain (OpenSpec.upto worldApartSpec)) worldApartUptoCard
end Rows
end Go.Proofs.YteikncnldbdfmaaGreatDoor
