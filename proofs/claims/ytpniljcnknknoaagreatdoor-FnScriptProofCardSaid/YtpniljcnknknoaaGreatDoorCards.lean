/-
  DERIVED. GIVEN WITH THE SEED: THE CARDS: each row of YtpniljcnknknoaaGreatDoorRows.lean that lists a variable, with what it lists TIED to the program's text (the seventh form; the later family's looks); each row that meets fmt, with fmt's text TOLD by the authors' own Lean function (tested against real Go, not proved from fmt's source: count such statements apart). THE CARD IS WHAT COUNTS. Prove the row's statement (the work); the ties are given (YtpniljcnknknoaaGreatDoorTie.lean); close each card by the builder's one call (the guide's Derived/Test/ToyasCard.lean, 'card_holds'). Laid BY PROGRAM, IN A SANDBOX (cutbox-door.mjs). By AI agents, Wed Nov 11 2026. No macro, syntax, notation, axiom, sorry.
-/
import Derived.Test.YtpniljcnknknoaaGreatDoorRows
import GoSem.ClaimSeven
namespace Go.Proofs.YtpniljcnknknoaaGreatDoor
namespace Rows

/-- THE TIED CARD OF 'laws.FnScriptJob'. -/
def fnScriptJobCard : Claim7 := { stood := { row := fnScriptJobRow, standIns := [], harness := (true, "a8be3415e499981fa2e9d18d7d3b74abfbf93a007d018b4e119f88b0365648b9"), looks := true }, kinds := [], alts := [], laidByText := true, laidKinds := [.data, .data, .data, .data, .sentinel, .sentinel, .data, .pinned], laidTests := true, laidLooks := .later }
def FnScriptJobCardSaid : Prop := Claim7.holds Tryz.pinned (.plain (OpenSpec.ofChange fnScriptJobSpec)) fnScriptJobCard

/-- THE TIED CARD OF 'laws.FnScriptPrint'. -/
def fnScriptPrintCard : Claim7 := { stood := { row := fnScriptPrintRow, standIns := [], harness := (true, "a8be3415e499981fa2e9d18d7d3b74abfbf93a007d018b4e119f88b0365648b9"), looks := true }, kinds := [], alts := [], laidByText := true, laidKinds := [.data, .data, .data, .data, .sentinel, .sentinel, .data, .pinned], laidTests := true, laidLooks := .later }
def FnScriptPrintCardSaid : Prop := Claim7.holds Tryz.pinned (.plain (OpenSpec.ofChange fnScriptPrintSpec)) fnScriptPrintCard

/-- THE TIED CARD OF 'laws.FnScriptEngine'. -/
def fnScriptEngineCard : Claim7 := { stood := { row := fnScriptEngineRow, standIns := [], harness := (true, "a8be3415e499981fa2e9d18d7d3b74abfbf93a007d018b4e119f88b0365648b9"), looks := true }, kinds := [], alts := [], laidByText := true, laidKinds := [.data, .data, .data, .data, .sentinel, .sentinel, .data, .pinned], laidTests := true, laidLooks := .later }
def FnScriptEngineCardSaid : Prop := Claim7.holds Tryz.pinned (.plain (OpenSpec.ofChange fnScriptEngineSpec)) fnScriptEngineCard

/-- THE TIED CARD OF 'laws.FnScriptPlan'. -/
def fnScriptPlanCard : Claim7 := { stood := { row := fnScriptPlanRow, standIns := [], harness := (true, "a8be3415e499981fa2e9d18d7d3b74abfbf93a007d018b4e119f88b0365648b9"), looks := true }, kinds := [], alts := [], laidByText := true, laidKinds := [.data, .data, .data, .data, .sentinel, .sentinel, .data, .pinned], laidTests := true, laidLooks := .later }
def FnScriptPlanCardSaid : Prop := Claim7.holds Tryz.pinned (.plain (OpenSpec.ofChange fnScriptPlanSpec)) fnScriptPlanCard

/-- THE TIED CARD OF 'laws.FnScriptProof'. -/
def fnScriptProofCard : Claim7 := { stood := { row := fnScriptProofRow, standIns := [], harness := (true, "a8be3415e499981fa2e9d18d7d3b74abfbf93a007d018b4e119f88b0365648b9"), looks := true }, kinds := [], alts := [], laidByText := true, laidKinds := [.data, .data, .data, .data, .sentinel, .sentinel, .data, .pinned], laidTests := true, laidLooks := .later }
def FnScriptProofCardSaid : Prop := Claim7.holds Tryz.pinned (.plain (OpenSpec.ofChange fnScriptProofSpec)) fnScriptProofCard

/-- THE TIED CARD OF 'laws.FnJobSheet'. -/
def fnJobSheetCard : Claim7 := { stood := { row := fnJobSheetRow, standIns := [], harness := (true, "a8be3415e499981fa2e9d18d7d3b74abfbf93a007d018b4e119f88b0365648b9"), looks := true }, kinds := [], alts := [], laidByText := true, laidKinds := [.data, .data, .data, .data, .sentinel, .sentinel, .pinned], laidTests := true, laidLooks := .later }
def FnJobSheetCardSaid : Prop := Claim7.holds Tryz.pinned (.plain (OpenSpec.ofChange fnJobSheetSpec)) fnJobSheetCard

/-- THE SECOND FORM's CARD OF 'laws.FnScriptJob'. -/
def fnScriptJobUptoCard : Claim7 := { stood := { row := fnScriptJobUptoRow, standIns := [], harness := (true, "a8be3415e499981fa2e9d18d7d3b74abfbf93a007d018b4e119f88b0365648b9"), looks := true }, kinds := [], alts := [], laidByText := true, laidKinds := [.data, .data, .data, .data, .sentinel, .sentinel, .data, .pinned], laidTests := true, laidLooks := .later }
def FnScriptJobUptoCardSaid : Prop := Claim7.holds Tryz.pinned (.plain (OpenSpec.upto fnScriptJobSpec)) fnScriptJobUptoCard

/-- THE SECOND FORM's CARD OF 'laws.FnScriptPrint'. -/
def fnScriptPrintUptoCard : Claim7 := { stood := { row := fnScriptPrintUptoRow, standIns := [], harness := (true, "a8be3415e499981fa2e9d18d7d3b74abfbf93a007d018b4e119f88b0365648b9"), looks := true }, kinds := [], alts := [], laidByText := true, laidKinds := [.data, .data, .data, .data, .sentinel, .sentinel, .data, .pinned], laidTests := true, laidLooks := .later }
def FnScriptPrintUptoCardSaid : Prop := Claim7.holds Tryz.pinned (.plain (OpenSpec.upto fnScriptPrintSpec)) fnScriptPrintUptoCard

/-- THE SECOND FORM's CARD OF 'laws.FnScriptEngine'. -/
def fnScriptEngineUptoCard : Claim7 := { stood := { row := fnScriptEngineUptoRow, standIns := [], harness := (true, "a8be3415e499981fa2e9d18d7d3b74abfbf93a007d018b4e119f88b0365648b9"), looks := true }, kinds := [], alts := [], laidByText := true, laidKinds := [.data, .data, .data, .data, .sentinel, .sentinel, .data, .pinned], laidTests := true, laidLooks := .later }
def FnScriptEngineUptoCardSaid : Prop := Claim7.holds Tryz.pinned (.plain (OpenSpec.upto fnScriptEngineSpec)) fnScriptEngineUptoCard

/-- THE SECOND FORM's CARD OF 'laws.FnScriptPlan'. -/
def fnScriptPlanUptoCard : Claim7 := { stood := { row := fnScriptPlanUptoRow, standIns := [], harness := (true, "a8be3415e499981fa2e9d18d7d3b74abfbf93a007d018b4e119f88b0365648b9"), looks := true }, kinds := [], alts := [], laidByText := true, laidKinds := [.data, .data, .data, .data, .sentinel, .sentinel, .data, .pinned], laidTests := true, laidLooks := .later }
def FnScriptPlanUptoCardSaid : Prop := Claim7.holds Tryz.pinned (.plain (OpenSpec.upto fnScriptPlanSpec)) fnScriptPlanUptoCard

/-- THE SECOND FORM's CARD OF 'laws.FnScriptProof'. -/
def fnScriptProofUptoCard : Claim7 := { stood := { row := fnScriptProofUptoRow, standIns := [], harness := (true, "a8be3415e499981fa2e9d18d7d3b74abfbf93a007d018b4e119f88b0365648b9"), looks := true }, kinds := [], alts := [], laidByText := true, laidKinds := [.data, .data, .data, .data, .sentinel, .sentinel, .data, .pinned], laidTests := true, laidLooks := .later }
def FnScriptProofUptoCardSaid : Prop := Claim7.holds Tryz.pinned (.plain (OpenSpec.upto fnScriptProofSpec)) fnScriptProofUptoCard

/-- THE SECOND FORM's CARD OF 'laws.FnJobSheet'. -/
def fnJobSheetUptoCard : Claim7 := { stood := { row := fnJobSheetUptoRow, standIns := [], harness := (true, "a8be3415e499981fa2e9d18d7d3b74abfbf93a007d018b4e119f88b0365648b9"), looks := true }, kinds := [], alts := [], laidByText := true, laidKinds := [.data, .data, .data, .data, .sentinel, .sentinel, .pinned], laidTests := true, laidLooks := .later }
def FnJobSheetUptoCardSaid : Prop := Claim7.holds Tryz.pinned (.plain (OpenSpec.upto fnJobSheetSpec)) fnJobSheetUptoCard
end Rows
end Go.Proofs.YtpniljcnknknoaaGreatDoor
