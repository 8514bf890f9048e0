/-
  DERIVED. GIVEN WITH THE SEED: THE CARDS: each row of YtaphlemmlmdkiaaDoorRows.lean that lists a variable, with what it lists TIED to the program's text (the seventh form; the later family's looks); each row that meets fmt, with fmt's text TOLD by the authors' own Lean function (tested against real Go, not proved from fmt's source: count such statements apart). THE CARD IS WHAT COUNTS. Prove the row's statement (the work); the ties are given (YtaphlemmlmdkiaaDoorTie.lean); close each card by the builder's one call (the guide's Derived/Test/ToyasCard.lean, 'card_holds'). Laid BY PROGRAM, IN A SANDBOX (cutbox-door.mjs). By AI agents, Wed Nov 11 2026. No macro, syntax, notation, axiom, sorry.
-/
import Derived.Test.YtaphlemmlmdkiaaDoorRows
import GoSem.ClaimSeven
namespace Go.Proofs.YtaphlemmlmdkiaaDoor
namespace Rows

/-- THE TIED CARD OF 'laws.FnExactDiff'. -/
def fnExactDiffCard : Claim7 := { stood := { row := fnExactDiffRow, standIns := [], harness := (true, "2f723a8ee5352b8000cdf85415ae962236d083f5367bffb6e1b0c60781f682a7"), looks := true }, kinds := [], alts := [], laidByText := true, laidKinds := [.data, .data, .data, .data, .pinned], laidTests := true, laidLooks := .later }
def FnExactDiffCardSaid : Prop := Claim7.holds Tryd.pinned (.plain (OpenSpec.ofChange fnExactDiffSpec)) fnExactDiffCard

/-- THE TIED CARD OF 'laws.FnExactRemove'. -/
def fnExactRemoveCard : Claim7 := { stood := { row := fnExactRemoveRow, standIns := [], harness := (true, "2f723a8ee5352b8000cdf85415ae962236d083f5367bffb6e1b0c60781f682a7"), looks := true }, kinds := [], alts := [], laidByText := true, laidKinds := [.data, .data, .data, .data, .sentinel, .sentinel, .pinned], laidTests := true, laidLooks := .later }
def FnExactRemoveCardSaid : Prop := Claim7.holds Tryd.pinned (.plain (OpenSpec.ofChange fnExactRemoveSpec)) fnExactRemoveCard

/-- THE SECOND FORM's CARD OF 'laws.FnExactDiff'. -/
def fnExactDiffUptoCard : Claim7 := { stood := { row := fnExactDiffUptoRow, standIns := [], harness := (true, "2f723a8ee5352b8000cdf85415ae962236d083f5367bffb6e1b0c60781f682a7"), looks := true }, kinds := [], alts := [], laidByText := true, laidKinds := [.data, .data, .data, .data, .pinned], laidTests := true, laidLooks := .later }
def FnExactDiffUptoCardSaid : Prop := Claim7.holds Tryd.pinned (.plain (OpenSpec.upto fnExactDiffSpec)) fnExactDiffUptoCard

/-- THE SECOND FORM's CARD OF 'laws.FnExactRemove'. -/
def fnExactRemoveUptoCard : Claim7 := { stood := { row := fnExactRemoveUptoRow, standIns := [], harness := (true, "2f723a8ee5352b8000cdf85415ae962236d083f5367bffb6e1b0c60781f682a7"), looks := true }, kinds := [], alts := [], laidByText := true, laidKinds := [.data, .data, .data, .data, .sentinel, .sentinel, .pinned], laidTests := true, laidLooks := .later }
def FnExactRemoveUptoCardSaid : Prop := Claim7.holds Tryd.pinned (.plain (OpenSpec.upto fnExactRemoveSpec)) fnExactRemoveUptoCard
end Rows
end Go.Proofs.YtaphlemmlmdkiaaDoor
