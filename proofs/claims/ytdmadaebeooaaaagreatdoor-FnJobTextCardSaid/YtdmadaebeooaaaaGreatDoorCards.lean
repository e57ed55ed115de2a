/-
  DERIVED. GIVEN WITH THE SEED: THE CARDS: each row of YtdmadaebeooaaaaGreatDoorRows.lean that lists a variable, with what it lists TIED to the program's text (the seventh form; the later family's looks); each row that meets fmt, with fmt's text TOLD by the authors' own Lean function (tested against real Go, not proved from fmt's source: count such statements apart). THE CARD IS WHAT COUNTS. Prove the row's statement (the work); the ties are given (YtdmadaebeooaaaaGreatDoorTie.lean); close each card by the builder's one call (the guide's Derived/Test/ToyasCard.lean, 'card_holds'). Laid BY PROGRAM, IN A SANDBOX (cutbox-door.mjs). By AI agents, Wed Nov 11 2026. No macro, syntax, notation, axiom, sorry.
-/
import Derived.Test.YtdmadaebeooaaaaGreatDoorRows
import GoSem.ClaimSeven
namespace Go.Proofs.YtdmadaebeooaaaaGreatDoor
namespace Rows

/-- THE TIED CARD OF 'laws.FnExactJobSheet'. -/
def fnExactJobSheetCard : Claim7 := { stood := { row := fnExactJobSheetRow, standIns := [], harness := (true, "0d857e68c152a2b30bd74ed56fe1ac6dc0d67f70306ff279ed6617a458515542"), looks := true }, kinds := [], alts := [], laidByText := true, laidKinds := [.data, .data, .data], laidTests := true, laidLooks := .later }
def FnExactJobSheetCardSaid : Prop := Claim7.holds Tryz.pinned (.plain (OpenSpec.ofChange fnExactJobSheetSpec)) fnExactJobSheetCard

/-- THE TIED CARD OF 'laws.FnExactParseJob'. -/
def fnExactParseJobCard : Claim7 := { stood := { row := fnExactParseJobRow, standIns := [], harness := (true, "0d857e68c152a2b30bd74ed56fe1ac6dc0d67f70306ff279ed6617a458515542"), looks := true }, kinds := [], alts := [], laidByText := true, laidKinds := [.data, .data, .data, .data, .sentinel, .sentinel, .pinned], laidTests := true, laidLooks := .later }
def FnExactParseJobCardSaid : Prop := Claim7.holds Tryz.pinned (.plain (OpenSpec.ofChange fnExactParseJobSpec)) fnExactParseJobCard

/-- THE TIED CARD OF 'laws.FnJobText'. -/
def fnJobTextCard : Claim7 := { stood := { row := fnJobTextRow, standIns := [], harness := (true, "0d857e68c152a2b30bd74ed56fe1ac6dc0d67f70306ff279ed6617a458515542"), looks := true }, kinds := [], alts := [], laidByText := true, laidKinds := [.data, .data, .data, .data, .sentinel, .sentinel, .pinned], laidTests := true, laidLooks := .later }
def FnJobTextCardSaid : Prop := Claim7.holds Tryz.pinned (.plain (OpenSpec.ofChange fnJobTextSpec)) fnJobTextCard

/-- THE TIED CARD OF 'laws.FnJobSheet'. -/
def fnJobSheetCard : Claim7 := { stood := { row := fnJobSheetRow, standIns := [], harness := (true, "0d857e68c152a2b30bd74ed56fe1ac6dc0d67f70306ff279ed6617a458515542"), looks := true }, kinds := [], alts := [], laidByText := true, laidKinds := [.data, .data, .data, .data, .sentinel, .sentinel, .pinned], laidTests := true, laidLooks := .later }
def FnJobSheetCardSaid : Prop := Claim7.holds Tryz.pinned (.plain (OpenSpec.ofChange fnJobSheetSpec)) fnJobSheetCard

/-- THE SECOND FORM's CARD OF 'laws.FnExactJobSheet'. -/
def fnExactJobSheetUptoCard : Claim7 := { stood := { row := fnExactJobSheetUptoRow, standIns := [], harness := (true, "0d857e68c152a2b30bd74ed56fe1ac6dc0d67f70306ff279ed6617a458515542"), looks := true }, kinds := [], alts := [], laidByText := true, laidKinds := [.data, .data, .data], laidTests := true, laidLooks := .later }
def FnExactJobSheetUptoCardSaid : Prop := Claim7.holds Tryz.pinned (.plain (OpenSpec.upto fnExactJobSheetSpec)) fnExactJobSheetUptoCard

/-- THE SECOND FORM's CARD OF 'laws.FnExactParseJob'. -/
def fnExactParseJobUptoCard : Claim7 := { stood := { row := fnExactParseJobUptoRow, standIns := [], harness := (true, "0d857e68c152a2b30bd74ed56fe1ac6dc0d67f70306ff279ed6617a458515542"), looks := true }, kinds := [], alts := [], laidByText := true, laidKinds := [.data, .data, .data, .data, .sentinel, .sentinel, .pinned], laidTests := true, laidLooks := .later }
def FnExactParseJobUptoCardSaid : Prop := Claim7.holds Tryz.pinned (.plain (OpenSpec.upto fnExactParseJobSpec)) fnExactParseJobUptoCard

/-- THE SECOND FORM's CARD OF 'laws.FnJobText'. -/
def fnJobTextUptoCard : Claim7 := { stood := { row := fnJobTextUptoRow, standIns := [], harness := (true, "0d857e68c152a2b30bd74ed56fe1ac6dc0d67f70306ff279ed6617a458515542"), looks := true }, kinds := [], alts := [], laidByText := true, laidKinds := [.data, .data, .data, .data, .sentinel, .sentinel, .pinned], laidTests := true, laidLooks := .later }
def FnJobTextUptoCardSaid : Prop := Claim7.holds Tryz.pinned (.plain (OpenSpec.upto fnJobTextSpec)) fnJobTextUptoCard

/-- THE SECOND FORM's CARD OF 'laws.FnJobSheet'. -/
def fnJobSheetUptoCard : Claim7 := { stood := { row := fnJobSheetUptoRow, standIns := [], harness := (true, "0d857e68c152a2b30bd74ed56fe1ac6dc0d67f70306ff279ed6617a458515542"), looks := true }, kinds := [], alts := [], laidByText := true, laidKinds := [.data, .data, .data, .data, .sentinel, .sentinel, .pinned], laidTests := true, laidLooks := .later }
def FnJobSheetUptoCardSaid : Prop := Claim7.holds Tryz.pinned (.plain (OpenSpec.upto fnJobSheetSpec)) fnJobSheetUptoCard
end Rows
end Go.Proofs.YtdmadaebeooaaaaGreatDoor
