/-
  DERIVED. GIVEN WITH THE SEED: THE CARDS: each row of YtfjehhdahpbbgaaDoorRows.lean that lists a variable, with what it lists TIED to the program's text (the seventh form; the later family's looks); each row that meets fmt, with fmt's text TOLD by the authors' own Lean function (tested against real Go, not proved from fmt's source: count such statements apart). THE CARD IS WHAT COUNTS. Prove the row's statement (the work); the ties are given (YtfjehhdahpbbgaaDoorTie.lean); close each card by the builder's one call (the guide's Derived/Test/ToyasCard.lean, 'card_holds'). Laid BY PROGRAM, IN A SANDBOX (cutbox-door.mjs). By AI agents, Wed Nov 11 2026. No macro, syntax, notation, axiom, sorry.
-/
import Derived.Test.YtfjehhdahpbbgaaDoorRows
import GoSem.ClaimSeven
namespace Go.Proofs.YtfjehhdahpbbgaaDoor
namespace Rows

/-- THE TIED CARD OF 'laws.FnExactSameFields'. -/
def fnExactSameFieldsCard : Claim7 := { stood := { row := fnExactSameFieldsRow, standIns := [], harness := (true, "c7085f3e2e44c065c9c42405b29ce271b32a0d9a161dc24b364064584e701bba"), looks := true }, kinds := [], alts := [], laidByText := true, laidKinds := [.data, .pinned], laidTests := true, laidLooks := .later }
def FnExactSameFieldsCardSaid : Prop := Claim7.holds Tryd.pinned (.plain (OpenSpec.ofChange fnExactSameFieldsSpec)) fnExactSameFieldsCard

/-- THE TIED CARD OF 'laws.FnExactSumOf'. -/
def fnExactSumOfCard : Claim7 := { stood := { row := fnExactSumOfRow, standIns := [], harness := (true, "c7085f3e2e44c065c9c42405b29ce271b32a0d9a161dc24b364064584e701bba"), looks := true }, kinds := [], alts := [], laidByText := true, laidKinds := [.data, .pinned], laidTests := true, laidLooks := .later }
def FnExactSumOfCardSaid : Prop := Claim7.holds Tryd.pinned (.plain (OpenSpec.ofChange fnExactSumOfSpec)) fnExactSumOfCard

/-- THE TIED CARD OF 'laws.FnExactRoot'. -/
def fnExactRootCard : Claim7 := { stood := { row := fnExactRootRow, standIns := [], harness := (true, "c7085f3e2e44c065c9c42405b29ce271b32a0d9a161dc24b364064584e701bba"), looks := true }, kinds := [], alts := [], laidByText := true, laidKinds := [.data, .pinned], laidTests := true, laidLooks := .later }
def FnExactRootCardSaid : Prop := Claim7.holds Tryd.pinned (.plain (OpenSpec.ofChange fnExactRootSpec)) fnExactRootCard

/-- THE TIED CARD OF 'laws.FnExactCheckBranch'. -/
def fnExactCheckBranchCard : Claim7 := { stood := { row := fnExactCheckBranchRow, standIns := [], harness := (true, "c7085f3e2e44c065c9c42405b29ce271b32a0d9a161dc24b364064584e701bba"), looks := true }, kinds := [], alts := [], laidByText := true, laidKinds := [.data, .pinned], laidTests := true, laidLooks := .later }
def FnExactCheckBranchCardSaid : Prop := Claim7.holds Tryd.pinned (.plain (OpenSpec.ofChange fnExactCheckBranchSpec)) fnExactCheckBranchCard

/-- THE TIED CARD OF 'laws.FnExactBranch'. -/
def fnExactBranchCard : Claim7 := { stood := { row := fnExactBranchRow, standIns := [], harness := (true, "c7085f3e2e44c065c9c42405b29ce271b32a0d9a161dc24b364064584e701bba"), looks := true }, kinds := [], alts := [], laidByText := true, laidKinds := [.data, .pinned], laidTests := true, laidLooks := .later }
def FnExactBranchCardSaid : Prop := Claim7.holds Tryd.pinned (.plain (OpenSpec.ofChange fnExactBranchSpec)) fnExactBranchCard

/-- THE TIED CARD OF 'laws.FnExactPaths'. -/
def fnExactPathsCard : Claim7 := { stood := { row := fnExactPathsRow, standIns := [], harness := (true, "c7085f3e2e44c065c9c42405b29ce271b32a0d9a161dc24b364064584e701bba"), looks := true }, kinds := [], alts := [], laidByText := true, laidKinds := [.data, .data, .data, .data, .pinned], laidTests := true, laidLooks := .later }
def FnExactPathsCardSaid : Prop := Claim7.holds Tryd.pinned (.plain (OpenSpec.ofChange fnExactPathsSpec)) fnExactPathsCard

/-- THE TIED CARD OF 'laws.FnExactRemove'. -/
def fnExactRemoveCard : Claim7 := { stood := { row := fnExactRemoveRow, standIns := [], harness := (true, "c7085f3e2e44c065c9c42405b29ce271b32a0d9a161dc24b364064584e701bba"), looks := true }, kinds := [], alts := [], laidByText := true, laidKinds := [.data, .data, .data, .data, .sentinel, .sentinel, .pinned], laidTests := true, laidLooks := .later }
def FnExactRemoveCardSaid : Prop := Claim7.holds Tryd.pinned (.plain (OpenSpec.ofChange fnExactRemoveSpec)) fnExactRemoveCard

/-- THE SECOND FORM's CARD OF 'laws.FnExactSameFields'. -/
def fnExactSameFieldsUptoCard : Claim7 := { stood := { row := fnExactSameFieldsUptoRow, standIns := [], harness := (true, "c7085f3e2e44c065c9c42405b29ce271b32a0d9a161dc24b364064584e701bba"), looks := true }, kinds := [], alts := [], laidByText := true, laidKinds := [.data, .pinned], laidTests := true, laidLooks := .later }
def FnExactSameFieldsUptoCardSaid : Prop := Claim7.holds Tryd.pinned (.plain (OpenSpec.upto fnExactSameFieldsSpec)) fnExactSameFieldsUptoCard

/-- THE SECOND FORM's CARD OF 'laws.FnExactSumOf'. -/
def fnExactSumOfUptoCard : Claim7 := { stood := { row := fnExactSumOfUptoRow, standIns := [], harness := (true, "c7085f3e2e44c065c9c42405b29ce271b32a0d9a161dc24b364064584e701bba"), looks := true }, kinds := [], alts := [], laidByText := true, laidKinds := [.data, .pinned], laidTests := true, laidLooks := .later }
def FnExactSumOfUptoCardSaid : Prop := Claim7.holds Tryd.pinned (.plain (OpenSpec.upto fnExactSumOfSpec)) fnExactSumOfUptoCard

/-- THE SECOND FORM's CARD OF 'laws.FnExactRoot'. -/
def fnExactRootUptoCard : Claim7 := { stood := { row := fnExactRootUptoRow, standIns := [], harness := (true, "c7085f3e2e44c065c9c42405b29ce271b32a0d9a161dc24b364064584e701bba"), looks := true }, kinds := [], alts := [], laidByText := true, laidKinds := [.data, .pinned], laidTests := true, laidLooks := .later }
def FnExactRootUptoCardSaid : Prop := Claim7.holds Tryd.pinned (.plain (OpenSpec.upto fnExactRootSpec)) fnExactRootUptoCard

/-- THE SECOND FORM's CARD OF 'laws.FnExactCheckBranch'. -/
def fnExactCheckBranchUptoCard : Claim7 := { stood := { row := fnExactCheckBranchUptoRow, standIns := [], harness := (true, "c7085f3e2e44c065c9c42405b29ce271b32a0d9a161dc24b364064584e701bba"), looks := true }, kinds := [], alts := [], laidByText := true, laidKinds := [.data, .pinned], laidTests := true, laidLooks := .later }
def FnExactCheckBranchUptoCardSaid : Prop := Claim7.holds Tryd.pinned (.plain (OpenSpec.upto fnExactCheckBranchSpec)) fnExactCheckBranchUptoCard

/-- THE SECOND FORM's CARD OF 'laws.FnExactBranch'. -/
def fnExactBranchUptoCard : Claim7 := { stood := { row := fnExactBranchUptoRow, standIns := [], harness := (true, "c7085f3e2e44c065c9c42405b29ce271b32a0d9a161dc24b364064584e701bba"), looks := true }, kinds := [], alts := [], laidByText := true, laidKinds := [.data, .pinned], laidTests := true, laidLooks := .later }
def FnExactBranchUptoCardSaid : Prop := Claim7.holds Tryd.pinned (.plain (OpenSpec.upto fnExactBranchSpec)) fnExactBranchUptoCard

/-- THE SECOND FORM's CARD OF 'laws.FnExactPaths'. -/
def fnExactPathsUptoCard : Claim7 := { stood := { row := fnExactPathsUptoRow, standIns := [], harness := (true, "c7085f3e2e44c065c9c42405b29ce271b32a0d9a161dc24b364064584e701bba"), looks := true }, kinds := [], alts := [], laidByText := true, laidKinds := [.data, .data, .data, .data, .pinned], laidTests := true, laidLooks := .later }
def FnExactPathsUptoCardSaid : Prop := Claim7.holds Tryd.pinned (.plain (OpenSpec.upto fnExactPathsSpec)) fnExactPathsUptoCard

/-- THE SECOND FORM's CARD OF 'laws.FnExactRemove'. -/
def fnExactRemoveUptoCard : Claim7 := { stood := { row := fnExactRemoveUptoRow, standIns := [], harness := (true, "c7085f3e2e44c065c9c42405b29ce271b32a0d9a161dc24b364064584e701bba"), looks := true }, kinds := [], alts := [], laidByText := true, laidKinds := [.data, .data, .data, .data, .sentinel, .sentinel, .pinned], laidTests := true, laidLooks := .later }
def FnExactRemoveUptoCardSaid : Prop := Claim7.holds Tryd.pinned (.plain (OpenSpec.upto fnExactRemoveSpec)) fnExactRemoveUptoCard
end Rows
end Go.Proofs.YtfjehhdahpbbgaaDoor
