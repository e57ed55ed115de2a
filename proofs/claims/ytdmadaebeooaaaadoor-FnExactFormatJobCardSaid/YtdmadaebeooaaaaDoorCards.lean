/-
  DERIVED. GIVEN WITH THE SEED: THE CARDS: each row of YtdmadaebeooaaaaDoorRows.lean that lists a variable, with what it lists TIED to the program's text (the seventh form; the later family's looks); each row that meets fmt, with fmt's text TOLD by the authors' own Lean function (tested against real Go, not proved from fmt's source: count such statements apart). THE CARD IS WHAT COUNTS. Prove the row's statement (the work); the ties are given (YtdmadaebeooaaaaDoorTie.lean); close each card by the builder's one call (the guide's Derived/Test/ToyasCard.lean, 'card_holds'). Laid BY PROGRAM, IN A SANDBOX (cutbox-door.mjs). By AI agents, Wed Nov 11 2026. No macro, syntax, notation, axiom, sorry.
-/
import Derived.Test.YtdmadaebeooaaaaDoorRows
import GoSem.ClaimSeven
namespace Go.Proofs.YtdmadaebeooaaaaDoor
namespace Rows

/-- THE TIED CARD OF 'laws.FnExactFormatJob'. -/
def fnExactFormatJobCard : Claim7 := { stood := { row := fnExactFormatJobRow, standIns := [], harness := (true, "cfd8ef19f6c98c61391dcf5951acf4378b5ee51a430d06822a82fb67e207951b"), looks := false }, kinds := [], alts := [], laidByText := true, laidKinds := [.data, .data, .data], laidTests := true, laidLooks := .later }
def FnExactFormatJobCardSaid : Prop := Claim7.holds Tryd.pinned (.plain (OpenSpec.ofChange fnExactFormatJobSpec)) fnExactFormatJobCard

/-- THE SECOND FORM's CARD OF 'laws.FnExactFormatJob'. -/
def fnExactFormatJobUptoCard : Claim7 := { stood := { row := fnExactFormatJobUptoRow, standIns := [], harness := (true, "cfd8ef19f6c98c61391dcf5951acf4378b5ee51a430d06822a82fb67e207951b"), looks := false }, kinds := [], alts := [], laidByText := true, laidKinds := [.data, .data, .data], laidTests := true, laidLooks := .later }
def FnExactFormatJobUptoCardSaid : Prop := Claim7.holds Tryd.pinned (.plain (OpenSpec.upto fnExactFormatJobSpec)) fnExactFormatJobUptoCard
end Rows
end Go.Proofs.YtdmadaebeooaaaaDoor
