/-
  DERIVED. GIVEN WITH THE SEED: THE CARDS: each row of YtaackmiodkpnoaaDoorRows.lean that lists a variable, with what it lists TIED to the program's text (the seventh form; the later family's looks); each row that meets fmt, with fmt's text TOLD by the authors' own Lean function (tested against real Go, not proved from fmt's source: count such statements apart). THE CARD IS WHAT COUNTS. Prove the row's statement (the work); the ties are given (YtaackmiodkpnoaaDoorTie.lean); close each card by the builder's one call (the guide's Derived/Test/ToyasCard.lean, 'card_holds'). Laid BY PROGRAM, IN A SANDBOX (cutbox-door.mjs). By AI agents, Wed Nov 11 2026. No macro, syntax, notation, axiom, sorry.
-/
import Derived.Test.YtaackmiodkpnoaaDoorRows
import GoSem.ClaimSeven
namespace Go.Proofs.YtaackmiodkpnoaaDoor
namespace Rows

/-- THE TIED CARD OF 'laws.FnExactFormatRanges'. -/
def fnExactFormatRangesCard : Claim7 := { stood := { row := fnExactFormatRangesRow, standIns := [], harness := (true, "b6455d9cec86e2173b40214b8cc1bcb12e605caf6b58c49f19cddae79fd29d25"), looks := false }, kinds := [], alts := [], laidByText := true, laidKinds := [.data, .data, .data], laidTests := true, laidLooks := .later }
def FnExactFormatRangesCardSaid : Prop := Claim7.holds Tryd.pinned (.plain (OpenSpec.ofChange fnExactFormatRangesSpec)) fnExactFormatRangesCard

/-- THE TIED CARD OF 'laws.FnRanges'. -/
def fnRangesCard : Claim7 := { stood := { row := fnRangesRow, standIns := [], harness := (true, "b6455d9cec86e2173b40214b8cc1bcb12e605caf6b58c49f19cddae79fd29d25"), looks := false }, kinds := [], alts := [], laidByText := true, laidKinds := [.data, .data, .data], laidTests := true, laidLooks := .later }
def FnRangesCardSaid : Prop := Claim7.holds Tryd.pinned (.plain (OpenSpec.ofChange fnRangesSpec)) fnRangesCard

/-- THE SECOND FORM's CARD OF 'laws.FnExactFormatRanges'. -/
def fnExactFormatRangesUptoCard : Claim7 := { stood := { row := fnExactFormatRangesUptoRow, standIns := [], harness := (true, "b6455d9cec86e2173b40214b8cc1bcb12e605caf6b58c49f19cddae79fd29d25"), looks := false }, kinds := [], alts := [], laidByText := true, laidKinds := [.data, .data, .data], laidTests := true, laidLooks := .later }
def FnExactFormatRangesUptoCardSaid : Prop := Claim7.holds Tryd.pinned (.plain (OpenSpec.upto fnExactFormatRangesSpec)) fnExactFormatRangesUptoCard

/-- THE SECOND FORM's CARD OF 'laws.FnRanges'. -/
def fnRangesUptoCard : Claim7 := { stood := { row := fnRangesUptoRow, standIns := [], harness := (true, "b6455d9cec86e2173b40214b8cc1bcb12e605caf6b58c49f19cddae79fd29d25"), looks := false }, kinds := [], alts := [], laidByText := true, laidKinds := [.data, .data, .data], laidTests := true, laidLooks := .later }
def FnRangesUptoCardSaid : Prop := Claim7.holds Tryd.pinned (.plain (OpenSpec.upto fnRangesSpec)) fnRangesUptoCard
end Rows
end Go.Proofs.YtaackmiodkpnoaaDoor
