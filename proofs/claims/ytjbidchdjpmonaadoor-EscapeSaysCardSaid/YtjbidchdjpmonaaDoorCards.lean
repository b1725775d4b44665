/-
  DERIVED. GIVEN WITH THE SEED: THE CARDS: each row of YtjbidchdjpmonaaDoorRows.lean that lists a variable, with what it lists TIED to the program's text (the seventh form; the later family's looks); each row that meets fmt, with fmt's text TOLD by the authors' own Lean function (tested against real Go, not proved from fmt's source: count such statements apart). THE CARD IS WHAT COUNTS. Prove the row's statement (the work); the ties are given (YtjbidchdjpmonaaDoorTie.lean); close each card by the builder's one call (the guide's Derived/Test/ToyasCard.lean, 'card_holds'). Laid BY PROGRAM, IN A SANDBOX (cutbox-door.mjs). By AI agents, Wed Nov 11 2026. No macro, syntax, notation, axiom, sorry.
-/
import Derived.Test.YtjbidchdjpmonaaDoorRows
import GoSem.ClaimSeven
namespace Go.Proofs.YtjbidchdjpmonaaDoor
namespace Rows

/-- THE TIED CARD OF 'manyhandslaw.EscapeBack'. -/
def escapeBackCard : Claim7 := { stood := { row := escapeBackRow, standIns := [], harness := (true, "ec11d064577334f422030541ac2a7a3eab260025fc134b6702fc0aad10f03685"), looks := true }, kinds := [], alts := [], laidByText := true, laidKinds := [.data, .pinned], laidTests := true, laidLooks := .later }
def EscapeBackCardSaid : Prop := Claim7.holds Tryd.pinned (.plain (OpenSpec.ofChange escapeBackSpec)) escapeBackCard

/-- THE TIED CARD OF 'manyhandslaw.EscapeOnce'. -/
def escapeOnceCard : Claim7 := { stood := { row := escapeOnceRow, standIns := [], harness := (true, "ec11d064577334f422030541ac2a7a3eab260025fc134b6702fc0aad10f03685"), looks := true }, kinds := [], alts := [], laidByText := true, laidKinds := [.data, .pinned], laidTests := true, laidLooks := .later }
def EscapeOnceCardSaid : Prop := Claim7.holds Tryd.pinned (.plain (OpenSpec.ofChange escapeOnceSpec)) escapeOnceCard

/-- THE TIED CARD OF 'manyhandslaw.LinkSays'. -/
def linkSaysCard : Claim7 := { stood := { row := linkSaysRow, standIns := [], harness := (true, "ec11d064577334f422030541ac2a7a3eab260025fc134b6702fc0aad10f03685"), looks := true }, kinds := [], alts := [], laidByText := true, laidKinds := [.data, .pinned], laidTests := true, laidLooks := .later }
def LinkSaysCardSaid : Prop := Claim7.holds Tryd.pinned (.plain (OpenSpec.ofChange linkSaysSpec)) linkSaysCard

/-- THE TIED CARD OF 'manyhandslaw.LinkSafe'. -/
def linkSafeCard : Claim7 := { stood := { row := linkSafeRow, standIns := [], harness := (true, "ec11d064577334f422030541ac2a7a3eab260025fc134b6702fc0aad10f03685"), looks := true }, kinds := [], alts := [], laidByText := true, laidKinds := [.data, .pinned], laidTests := true, laidLooks := .later }
def LinkSafeCardSaid : Prop := Claim7.holds Tryd.pinned (.plain (OpenSpec.ofChange linkSafeSpec)) linkSafeCard

/-- THE TIED CARD OF 'manyhandslaw.ExportSays'. -/
def exportSaysCard : Claim7 := { stood := { row := exportSaysRow, standIns := [], harness := (true, "ec11d064577334f422030541ac2a7a3eab260025fc134b6702fc0aad10f03685"), looks := true }, kinds := [], alts := [], laidByText := true, laidKinds := [.data, .pinned], laidTests := true, laidLooks := .later }
def ExportSaysCardSaid : Prop := Claim7.holds Tryd.pinned (.plain (OpenSpec.ofChange exportSaysSpec)) exportSaysCard

/-- THE TIED CARD OF 'manyhandslaw.ExportOne'. -/
def exportOneCard : Claim7 := { stood := { row := exportOneRow, standIns := [], harness := (true, "ec11d064577334f422030541ac2a7a3eab260025fc134b6702fc0aad10f03685"), looks := true }, kinds := [], alts := [], laidByText := true, laidKinds := [.data, .pinned], laidTests := true, laidLooks := .later }
def ExportOneCardSaid : Prop := Claim7.holds Tryd.pinned (.plain (OpenSpec.ofChange exportOneSpec)) exportOneCard

/-- THE TIED CARD OF 'manyhandslaw.EscapeSays'. -/
def escapeSaysCard : Claim7 := { stood := { row := escapeSaysRow, standIns := [], harness := (true, "ec11d064577334f422030541ac2a7a3eab260025fc134b6702fc0aad10f03685"), looks := true }, kinds := [], alts := [], laidByText := true, laidKinds := [.data, .pinned], laidTests := true, laidLooks := .later }
def EscapeSaysCardSaid : Prop := Claim7.holds Tryd.pinned (.plain (OpenSpec.ofChange escapeSaysSpec)) escapeSaysCard

/-- THE TIED CARD OF 'manyhandslaw.ExportBlocks'. -/
def exportBlocksCard : Claim7 := { stood := { row := exportBlocksRow, standIns := [], harness := (true, "ec11d064577334f422030541ac2a7a3eab260025fc134b6702fc0aad10f03685"), looks := true }, kinds := [], alts := [], laidByText := true, laidKinds := [.data, .pinned], laidTests := true, laidLooks := .later }
def ExportBlocksCardSaid : Prop := Claim7.holds Tryd.pinned (.plain (OpenSpec.ofChange exportBlocksSpec)) exportBlocksCard

/-- THE TIED CARD OF 'manyhandslaw.LinkOpens'. -/
def linkOpensCard : Claim7 := { stood := { row := linkOpensRow, standIns := [], harness := (true, "ec11d064577334f422030541ac2a7a3eab260025fc134b6702fc0aad10f03685"), looks := true }, kinds := [], alts := [], laidByText := true, laidKinds := [.data, .data, .data, .pinned, .pinned], laidTests := true, laidLooks := .later }
def LinkOpensCardSaid : Prop := Claim7.holds Tryd.pinned (.plain (OpenSpec.ofChange linkOpensSpec)) linkOpensCard

/-- THE TIED CARD OF 'manyhandslaw.TokenSafe'. -/
def tokenSafeCard : Claim7 := { stood := { row := tokenSafeRow, standIns := [], harness := (true, "ec11d064577334f422030541ac2a7a3eab260025fc134b6702fc0aad10f03685"), looks := true }, kinds := [], alts := [], laidByText := true, laidKinds := [.data, .pinned], laidTests := true, laidLooks := .later }
def TokenSafeCardSaid : Prop := Claim7.holds Tryd.pinned (.plain (OpenSpec.ofChange tokenSafeSpec)) tokenSafeCard

/-- THE TIED CARD OF 'manyhandslaw.SanitizeBack'. -/
def sanitizeBackCard : Claim7 := { stood := { row := sanitizeBackRow, standIns := [], harness := (true, "ec11d064577334f422030541ac2a7a3eab260025fc134b6702fc0aad10f03685"), looks := true }, kinds := [], alts := [], laidByText := true, laidKinds := [.data, .pinned], laidTests := true, laidLooks := .later }
def SanitizeBackCardSaid : Prop := Claim7.holds Tryd.pinned (.plain (OpenSpec.ofChange sanitizeBackSpec)) sanitizeBackCard

/-- THE TIED CARD OF 'manyhandslaw.SanitizeText'. -/
def sanitizeTextCard : Claim7 := { stood := { row := sanitizeTextRow, standIns := [], harness := (true, "ec11d064577334f422030541ac2a7a3eab260025fc134b6702fc0aad10f03685"), looks := true }, kinds := [], alts := [], laidByText := true, laidKinds := [.data, .pinned], laidTests := true, laidLooks := .later }
def SanitizeTextCardSaid : Prop := Claim7.holds Tryd.pinned (.plain (OpenSpec.ofChange sanitizeTextSpec)) sanitizeTextCard

/-- THE TIED CARD OF 'manyhandslaw.SanitizeHides'. -/
def sanitizeHidesCard : Claim7 := { stood := { row := sanitizeHidesRow, standIns := [], harness := (true, "ec11d064577334f422030541ac2a7a3eab260025fc134b6702fc0aad10f03685"), looks := true }, kinds := [], alts := [], laidByText := true, laidKinds := [.data, .pinned], laidTests := true, laidLooks := .later }
def SanitizeHidesCardSaid : Prop := Claim7.holds Tryd.pinned (.plain (OpenSpec.ofChange sanitizeHidesSpec)) sanitizeHidesCard

/-- THE SECOND FORM's CARD OF 'manyhandslaw.EscapeBack'. -/
def escapeBackUptoCard : Claim7 := { stood := { row := escapeBackUptoRow, standIns := [], harness := (true, "ec11d064577334f422030541ac2a7a3eab260025fc134b6702fc0aad10f03685"), looks := true }, kinds := [], alts := [], laidByText := true, laidKinds := [.data, .pinned], laidTests := true, laidLooks := .later }
def EscapeBackUptoCardSaid : Prop := Claim7.holds Tryd.pinned (.plain (OpenSpec.upto escapeBackSpec)) escapeBackUptoCard

/-- THE SECOND FORM's CARD OF 'manyhandslaw.EscapeOnce'. -/
def escapeOnceUptoCard : Claim7 := { stood := { row := escapeOnceUptoRow, standIns := [], harness := (true, "ec11d064577334f422030541ac2a7a3eab260025fc134b6702fc0aad10f03685"), looks := true }, kinds := [], alts := [], laidByText := true, laidKinds := [.data, .pinned], laidTests := true, laidLooks := .later }
def EscapeOnceUptoCardSaid : Prop := Claim7.holds Tryd.pinned (.plain (OpenSpec.upto escapeOnceSpec)) escapeOnceUptoCard

/-- THE SECOND FORM's CARD OF 'manyhandslaw.LinkSays'. -/
def linkSaysUptoCard : Claim7 := { stood := { row := linkSaysUptoRow, standIns := [], harness := (true, "ec11d064577334f422030541ac2a7a3eab260025fc134b6702fc0aad10f03685"), looks := true }, kinds := [], alts := [], laidByText := true, laidKinds := [.data, .pinned], laidTests := true, laidLooks := .later }
def LinkSaysUptoCardSaid : Prop := Claim7.holds Tryd.pinned (.plain (OpenSpec.upto linkSaysSpec)) linkSaysUptoCard

/-- THE SECOND FORM's CARD OF 'manyhandslaw.LinkSafe'. -/
def linkSafeUptoCard : Claim7 := { stood := { row := linkSafeUptoRow, standIns := [], harness := (true, "ec11d064577334f422030541ac2a7a3eab260025fc134b6702fc0aad10f03685"), looks := true }, kinds := [], alts := [], laidByText := true, laidKinds := [.data, .pinned], laidTests := true, laidLooks := .later }
def LinkSafeUptoCardSaid : Prop := Claim7.holds Tryd.pinned (.plain (OpenSpec.upto linkSafeSpec)) linkSafeUptoCard

/-- THE SECOND FORM's CARD OF 'manyhandslaw.ExportSays'. -/
def exportSaysUptoCard : Claim7 := { stood := { row := exportSaysUptoRow, standIns := [], harness := (true, "ec11d064577334f422030541ac2a7a3eab260025fc134b6702fc0aad10f03685"), looks := true }, kinds := [], alts := [], laidByText := true, laidKinds := [.data, .pinned], laidTests := true, laidLooks := .later }
def ExportSaysUptoCardSaid : Prop := Claim7.holds Tryd.pinned (.plain (OpenSpec.upto exportSaysSpec)) exportSaysUptoCard

/-- THE SECOND FORM's CARD OF 'manyhandslaw.ExportOne'. -/
def exportOneUptoCard : Claim7 := { stood := { row := exportOneUptoRow, standIns := [], harness := (true, "ec11d064577334f422030541ac2a7a3eab260025fc134b6702fc0aad10f03685"), looks := true }, kinds := [], alts := [], laidByText := true, laidKinds := [.data, .pinned], laidTests := true, laidLooks := .later }
def ExportOneUptoCardSaid : Prop := Claim7.holds Tryd.pinned (.plain (OpenSpec.upto exportOneSpec)) exportOneUptoCard

/-- THE SECOND FORM's CARD OF 'manyhandslaw.EscapeSays'. -/
def escapeSaysUptoCard : Claim7 := { stood := { row := escapeSaysUptoRow, standIns := [], harness := (true, "ec11d064577334f422030541ac2a7a3eab260025fc134b6702fc0aad10f03685"), looks := true }, kinds := [], alts := [], laidByText := true, laidKinds := [.data, .pinned], laidTests := true, laidLooks := .later }
def EscapeSaysUptoCardSaid : Prop := Claim7.holds Tryd.pinned (.plain (OpenSpec.upto escapeSaysSpec)) escapeSaysUptoCard

/-- THE SECOND FORM's CARD OF 'manyhandslaw.ExportBlocks'. -/
def exportBlocksUptoCard : Claim7 := { stood := { row := exportBlocksUptoRow, standIns := [], harness := (true, "ec11d064577334f422030541ac2a7a3eab260025fc134b6702fc0aad10f03685"), looks := true }, kinds := [], alts := [], laidByText := true, laidKinds := [.data, .pinned], laidTests := true, laidLooks := .later }
def ExportBlocksUptoCardSaid : Prop := Claim7.holds Tryd.pinned (.plain (OpenSpec.upto exportBlocksSpec)) exportBlocksUptoCard

/-- THE SECOND FORM's CARD OF 'manyhandslaw.LinkOpens'. -/
def linkOpensUptoCard : Claim7 := { stood := { row := linkOpensUptoRow, standIns := [], harness := (true, "ec11d064577334f422030541ac2a7a3eab260025fc134b6702fc0aad10f03685"), looks := true }, kinds := [], alts := [], laidByText := true, laidKinds := [.data, .data, .data, .pinned, .pinned], laidTests := true, laidLooks := .later }
def LinkOpensUptoCardSaid : Prop := Claim7.holds Tryd.pinned (.plain (OpenSpec.upto linkOpensSpec)) linkOpensUptoCard

/-- THE SECOND FORM's CARD OF 'manyhandslaw.TokenSafe'. -/
def tokenSafeUptoCard : Claim7 := { stood := { row := tokenSafeUptoRow, standIns := [], harness := (true, "ec11d064577334f422030541ac2a7a3eab260025fc134b6702fc0aad10f03685"), looks := true }, kinds := [], alts := [], laidByText := true, laidKinds := [.data, .pinned], laidTests := true, laidLooks := .later }
def TokenSafeUptoCardSaid : Prop := Claim7.holds Tryd.pinned (.plain (OpenSpec.upto tokenSafeSpec)) tokenSafeUptoCard

/-- THE SECOND FORM's CARD OF 'manyhandslaw.SanitizeBack'. -/
def sanitizeBackUptoCard : Claim7 := { stood := { row := sanitizeBackUptoRow, standIns := [], harness := (true, "ec11d064577334f422030541ac2a7a3eab260025fc134b6702fc0aad10f03685"), looks := true }, kinds := [], alts := [], laidByText := true, laidKinds := [.data, .pinned], laidTests := true, laidLooks := .later }
def SanitizeBackUptoCardSaid : Prop := Claim7.holds Tryd.pinned (.plain (OpenSpec.upto sanitizeBackSpec)) sanitizeBackUptoCard

/-- THE SECOND FORM's CARD OF 'manyhandslaw.SanitizeText'. -/
def sanitizeTextUptoCard : Claim7 := { stood := { row := sanitizeTextUptoRow, standIns := [], harness := (true, "ec11d064577334f422030541ac2a7a3eab260025fc134b6702fc0aad10f03685"), looks := true }, kinds := [], alts := [], laidByText := true, laidKinds := [.data, .pinned], laidTests := true, laidLooks := .later }
def SanitizeTextUptoCardSaid : Prop := Claim7.holds Tryd.pinned (.plain (OpenSpec.upto sanitizeTextSpec)) sanitizeTextUptoCard

/-- THE SECOND FORM's CARD OF 'manyhandslaw.SanitizeHides'. -/
def sanitizeHidesUptoCard : Claim7 := { stood := { row := sanitizeHidesUptoRow, standIns := [], harness := (true, "ec11d064577334f422030541ac2a7a3eab260025fc134b6702fc0aad10f03685"), looks := true }, kinds := [], alts := [], laidByText := true, laidKinds := [.data, .pinned], laidTests := true, laidLooks := .later }
def SanitizeHidesUptoCardSaid : Prop := Claim7.holds Tryd.pinned (.plain (OpenSpec.upto sanitizeHidesSpec)) sanitizeHidesUptoCard
end Rows
end Go.Proofs.YtjbidchdjpmonaaDoor
