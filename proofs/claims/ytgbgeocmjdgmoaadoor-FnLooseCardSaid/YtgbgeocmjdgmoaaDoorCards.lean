/-
  DERIVED. GIVEN WITH THE SEED: THE CARDS: each row of YtgbgeocmjdgmoaaDoorRows.lean that lists a variable, with what it lists TIED to the program's text (the seventh form; the later family's looks); each row that meets fmt, with fmt's text TOLD by the authors' own Lean function (tested against real Go, not proved from fmt's source: count such statements apart). THE CARD IS WHAT COUNTS. Prove the row's statement (the work); the ties are given (YtgbgeocmjdgmoaaDoorTie.lean); close each card by the builder's one call (the guide's Derived/Test/ToyasCard.lean, 'card_holds'). Laid BY PROGRAM, IN A SANDBOX (cutbox-door.mjs). By AI agents, Wed Nov 11 2026. No macro, syntax, notation, axiom, sorry.
-/
import Derived.Test.YtgbgeocmjdgmoaaDoorRows
import GoSem.ClaimSeven
namespace Go.Proofs.YtgbgeocmjdgmoaaDoor
namespace Rows

/-- THE TIED CARD OF 'laws.FnMerge'. -/
def fnMergeCard : Claim7 := { stood := { row := fnMergeRow, standIns := [], harness := (true, "a4cb6258458d601955f016439c5ed8fedd35fdd32397295683473c726073af0b"), looks := false }, kinds := [], alts := [], laidByText := true, laidKinds := [.data, .pinned], laidTests := true, laidLooks := .later }
def FnMergeCardSaid : Prop := Claim7.holds Tryd.pinned (.plain (OpenSpec.ofChange fnMergeSpec)) fnMergeCard

/-- THE TIED CARD OF 'laws.FnExactPackGain'. -/
def fnExactPackGainCard : Claim7 := { stood := { row := fnExactPackGainRow, standIns := [], harness := (true, "a4cb6258458d601955f016439c5ed8fedd35fdd32397295683473c726073af0b"), looks := false }, kinds := [], alts := [], laidByText := true, laidKinds := [.data, .pinned], laidTests := true, laidLooks := .later }
def FnExactPackGainCardSaid : Prop := Claim7.holds Tryd.pinned (.plain (OpenSpec.ofChange fnExactPackGainSpec)) fnExactPackGainCard

/-- THE TIED CARD OF 'laws.FnExactTrain'. -/
def fnExactTrainCard : Claim7 := { stood := { row := fnExactTrainRow, standIns := [], harness := (true, "a4cb6258458d601955f016439c5ed8fedd35fdd32397295683473c726073af0b"), looks := false }, kinds := [], alts := [], laidByText := true, laidKinds := [.data, .pinned], laidTests := true, laidLooks := .later }
def FnExactTrainCardSaid : Prop := Claim7.holds Tryd.pinned (.plain (OpenSpec.ofChange fnExactTrainSpec)) fnExactTrainCard

/-- THE TIED CARD OF 'laws.FnMsg'. -/
def fnMsgCard : Claim7 := { stood := { row := fnMsgRow, standIns := [], harness := (true, "a4cb6258458d601955f016439c5ed8fedd35fdd32397295683473c726073af0b"), looks := false }, kinds := [], alts := [], laidByText := true, laidKinds := [.data, .pinned], laidTests := true, laidLooks := .later }
def FnMsgCardSaid : Prop := Claim7.holds Tryd.pinned (.plain (OpenSpec.ofChange fnMsgSpec)) fnMsgCard

/-- THE TIED CARD OF 'laws.FnTrain'. -/
def fnTrainCard : Claim7 := { stood := { row := fnTrainRow, standIns := [], harness := (true, "a4cb6258458d601955f016439c5ed8fedd35fdd32397295683473c726073af0b"), looks := false }, kinds := [], alts := [], laidByText := true, laidKinds := [.data, .pinned], laidTests := true, laidLooks := .later }
def FnTrainCardSaid : Prop := Claim7.holds Tryd.pinned (.plain (OpenSpec.ofChange fnTrainSpec)) fnTrainCard

/-- THE TIED CARD OF 'laws.FnExactPaths'. -/
def fnExactPathsCard : Claim7 := { stood := { row := fnExactPathsRow, standIns := [], harness := (true, "a4cb6258458d601955f016439c5ed8fedd35fdd32397295683473c726073af0b"), looks := false }, kinds := [], alts := [], laidByText := true, laidKinds := [.data, .data, .data, .data, .pinned], laidTests := true, laidLooks := .later }
def FnExactPathsCardSaid : Prop := Claim7.holds Tryd.pinned (.plain (OpenSpec.ofChange fnExactPathsSpec)) fnExactPathsCard

/-- THE TIED CARD OF 'laws.FnExactPretty'. -/
def fnExactPrettyCard : Claim7 := { stood := { row := fnExactPrettyRow, standIns := [], harness := (true, "a4cb6258458d601955f016439c5ed8fedd35fdd32397295683473c726073af0b"), looks := false }, kinds := [], alts := [], laidByText := true, laidKinds := [.data, .data, .data, .data, .pinned], laidTests := true, laidLooks := .later }
def FnExactPrettyCardSaid : Prop := Claim7.holds Tryd.pinned (.plain (OpenSpec.ofChange fnExactPrettySpec)) fnExactPrettyCard

/-- THE TIED CARD OF 'laws.FnExactPutJson'. -/
def fnExactPutJsonCard : Claim7 := { stood := { row := fnExactPutJsonRow, standIns := [], harness := (true, "a4cb6258458d601955f016439c5ed8fedd35fdd32397295683473c726073af0b"), looks := false }, kinds := [], alts := [], laidByText := true, laidKinds := [.data, .data, .data, .data, .pinned], laidTests := true, laidLooks := .later }
def FnExactPutJsonCardSaid : Prop := Claim7.holds Tryd.pinned (.plain (OpenSpec.ofChange fnExactPutJsonSpec)) fnExactPutJsonCard

/-- THE TIED CARD OF 'laws.FnCbor'. -/
def fnCborCard : Claim7 := { stood := { row := fnCborRow, standIns := [], harness := (true, "a4cb6258458d601955f016439c5ed8fedd35fdd32397295683473c726073af0b"), looks := false }, kinds := [], alts := [], laidByText := true, laidKinds := [.data, .pinned], laidTests := true, laidLooks := .later }
def FnCborCardSaid : Prop := Claim7.holds Tryd.pinned (.plain (OpenSpec.ofChange fnCborSpec)) fnCborCard

/-- THE TIED CARD OF 'laws.FnLoose'. -/
def fnLooseCard : Claim7 := { stood := { row := fnLooseRow, standIns := [], harness := (true, "a4cb6258458d601955f016439c5ed8fedd35fdd32397295683473c726073af0b"), looks := false }, kinds := [], alts := [], laidByText := true, laidKinds := [.data, .pinned], laidTests := true, laidLooks := .later }
def FnLooseCardSaid : Prop := Claim7.holds Tryd.pinned (.plain (OpenSpec.ofChange fnLooseSpec)) fnLooseCard

/-- THE SECOND FORM's CARD OF 'laws.FnMerge'. -/
def fnMergeUptoCard : Claim7 := { stood := { row := fnMergeUptoRow, standIns := [], harness := (true, "a4cb6258458d601955f016439c5ed8fedd35fdd32397295683473c726073af0b"), looks := false }, kinds := [], alts := [], laidByText := true, laidKinds := [.data, .pinned], laidTests := true, laidLooks := .later }
def FnMergeUptoCardSaid : Prop := Claim7.holds Tryd.pinned (.plain (OpenSpec.upto fnMergeSpec)) fnMergeUptoCard

/-- THE SECOND FORM's CARD OF 'laws.FnExactPackGain'. -/
def fnExactPackGainUptoCard : Claim7 := { stood := { row := fnExactPackGainUptoRow, standIns := [], harness := (true, "a4cb6258458d601955f016439c5ed8fedd35fdd32397295683473c726073af0b"), looks := false }, kinds := [], alts := [], laidByText := true, laidKinds := [.data, .pinned], laidTests := true, laidLooks := .later }
def FnExactPackGainUptoCardSaid : Prop := Claim7.holds Tryd.pinned (.plain (OpenSpec.upto fnExactPackGainSpec)) fnExactPackGainUptoCard

/-- THE SECOND FORM's CARD OF 'laws.FnExactTrain'. -/
def fnExactTrainUptoCard : Claim7 := { stood := { row := fnExactTrainUptoRow, standIns := [], harness := (true, "a4cb6258458d601955f016439c5ed8fedd35fdd32397295683473c726073af0b"), looks := false }, kinds := [], alts := [], laidByText := true, laidKinds := [.data, .pinned], laidTests := true, laidLooks := .later }
def FnExactTrainUptoCardSaid : Prop := Claim7.holds Tryd.pinned (.plain (OpenSpec.upto fnExactTrainSpec)) fnExactTrainUptoCard

/-- THE SECOND FORM's CARD OF 'laws.FnMsg'. -/
def fnMsgUptoCard : Claim7 := { stood := { row := fnMsgUptoRow, standIns := [], harness := (true, "a4cb6258458d601955f016439c5ed8fedd35fdd32397295683473c726073af0b"), looks := false }, kinds := [], alts := [], laidByText := true, laidKinds := [.data, .pinned], laidTests := true, laidLooks := .later }
def FnMsgUptoCardSaid : Prop := Claim7.holds Tryd.pinned (.plain (OpenSpec.upto fnMsgSpec)) fnMsgUptoCard

/-- THE SECOND FORM's CARD OF 'laws.FnTrain'. -/
def fnTrainUptoCard : Claim7 := { stood := { row := fnTrainUptoRow, standIns := [], harness := (true, "a4cb6258458d601955f016439c5ed8fedd35fdd32397295683473c726073af0b"), looks := false }, kinds := [], alts := [], laidByText := true, laidKinds := [.data, .pinned], laidTests := true, laidLooks := .later }
def FnTrainUptoCardSaid : Prop := Claim7.holds Tryd.pinned (.plain (OpenSpec.upto fnTrainSpec)) fnTrainUptoCard

/-- THE SECOND FORM's CARD OF 'laws.FnExactPaths'. -/
def fnExactPathsUptoCard : Claim7 := { stood := { row := fnExactPathsUptoRow, standIns := [], harness := (true, "a4cb6258458d601955f016439c5ed8fedd35fdd32397295683473c726073af0b"), looks := false }, kinds := [], alts := [], laidByText := true, laidKinds := [.data, .data, .data, .data, .pinned], laidTests := true, laidLooks := .later }
def FnExactPathsUptoCardSaid : Prop := Claim7.holds Tryd.pinned (.plain (OpenSpec.upto fnExactPathsSpec)) fnExactPathsUptoCard

/-- THE SECOND FORM's CARD OF 'laws.FnExactPretty'. -/
def fnExactPrettyUptoCard : Claim7 := { stood := { row := fnExactPrettyUptoRow, standIns := [], harness := (true, "a4cb6258458d601955f016439c5ed8fedd35fdd32397295683473c726073af0b"), looks := false }, kinds := [], alts := [], laidByText := true, laidKinds := [.data, .data, .data, .data, .pinned], laidTests := true, laidLooks := .later }
def FnExactPrettyUptoCardSaid : Prop := Claim7.holds Tryd.pinned (.plain (OpenSpec.upto fnExactPrettySpec)) fnExactPrettyUptoCard

/-- THE SECOND FORM's CARD OF 'laws.FnExactPutJson'. -/
def fnExactPutJsonUptoCard : Claim7 := { stood := { row := fnExactPutJsonUptoRow, standIns := [], harness := (true, "a4cb6258458d601955f016439c5ed8fedd35fdd32397295683473c726073af0b"), looks := false }, kinds := [], alts := [], laidByText := true, laidKinds := [.data, .data, .data, .data, .pinned], laidTests := true, laidLooks := .later }
def FnExactPutJsonUptoCardSaid : Prop := Claim7.holds Tryd.pinned (.plain (OpenSpec.upto fnExactPutJsonSpec)) fnExactPutJsonUptoCard

/-- THE SECOND FORM's CARD OF 'laws.FnCbor'. -/
def fnCborUptoCard : Claim7 := { stood := { row := fnCborUptoRow, standIns := [], harness := (true, "a4cb6258458d601955f016439c5ed8fedd35fdd32397295683473c726073af0b"), looks := false }, kinds := [], alts := [], laidByText := true, laidKinds := [.data, .pinned], laidTests := true, laidLooks := .later }
def FnCborUptoCardSaid : Prop := Claim7.holds Tryd.pinned (.plain (OpenSpec.upto fnCborSpec)) fnCborUptoCard

/-- THE SECOND FORM's CARD OF 'laws.FnLoose'. -/
def fnLooseUptoCard : Claim7 := { stood := { row := fnLooseUptoRow, standIns := [], harness := (true, "a4cb6258458d601955f016439c5ed8fedd35fdd32397295683473c726073af0b"), looks := false }, kinds := [], alts := [], laidByText := true, laidKinds := [.data, .pinned], laidTests := true, laidLooks := .later }
def FnLooseUptoCardSaid : Prop := Claim7.holds Tryd.pinned (.plain (OpenSpec.upto fnLooseSpec)) fnLooseUptoCard
end Rows
end Go.Proofs.YtgbgeocmjdgmoaaDoor
