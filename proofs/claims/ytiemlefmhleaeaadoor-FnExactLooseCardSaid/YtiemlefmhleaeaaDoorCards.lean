/-
  DERIVED. GIVEN WITH THE SEED: THE CARDS: each row of YtiemlefmhleaeaaDoorRows.lean that lists a variable, with what it lists TIED to the program's text (the seventh form; the later family's looks); each row that meets fmt, with fmt's text TOLD by the authors' own Lean function (tested against real Go, not proved from fmt's source: count such statements apart). THE CARD IS WHAT COUNTS. Prove the row's statement (the work); the ties are given (YtiemlefmhleaeaaDoorTie.lean); close each card by the builder's one call (the guide's Derived/Test/ToyasCard.lean, 'card_holds'). Laid BY PROGRAM, IN A SANDBOX (cutbox-door.mjs). By AI agents, Wed Nov 11 2026. No macro, syntax, notation, axiom, sorry.
-/
import Derived.Test.YtiemlefmhleaeaaDoorRows
import GoSem.ClaimSeven
namespace Go.Proofs.YtiemlefmhleaeaaDoor
namespace Rows

/-- THE TIED CARD OF 'laws.FnExactGetRefs'. -/
def fnExactGetRefsCard : Claim7 := { stood := { row := fnExactGetRefsRow, standIns := [], harness := (true, "b60840f14b9675725a7269d78c136b638806e2d6dbbee350c7212ba12e8adb3a"), looks := false }, kinds := [], alts := [], laidByText := true, laidKinds := [.data, .pinned], laidTests := true, laidLooks := .later }
def FnExactGetRefsCardSaid : Prop := Claim7.holds Tryd.pinned (.plain (OpenSpec.ofChange fnExactGetRefsSpec)) fnExactGetRefsCard

/-- THE TIED CARD OF 'laws.FnExactSaved'. -/
def fnExactSavedCard : Claim7 := { stood := { row := fnExactSavedRow, standIns := [], harness := (true, "b60840f14b9675725a7269d78c136b638806e2d6dbbee350c7212ba12e8adb3a"), looks := false }, kinds := [], alts := [], laidByText := true, laidKinds := [.data, .pinned], laidTests := true, laidLooks := .later }
def FnExactSavedCardSaid : Prop := Claim7.holds Tryd.pinned (.plain (OpenSpec.ofChange fnExactSavedSpec)) fnExactSavedCard

/-- THE TIED CARD OF 'laws.FnExactGetMsg'. -/
def fnExactGetMsgCard : Claim7 := { stood := { row := fnExactGetMsgRow, standIns := [], harness := (true, "b60840f14b9675725a7269d78c136b638806e2d6dbbee350c7212ba12e8adb3a"), looks := false }, kinds := [], alts := [], laidByText := true, laidKinds := [.data, .pinned], laidTests := true, laidLooks := .later }
def FnExactGetMsgCardSaid : Prop := Claim7.holds Tryd.pinned (.plain (OpenSpec.ofChange fnExactGetMsgSpec)) fnExactGetMsgCard

/-- THE TIED CARD OF 'laws.FnExactPackGain'. -/
def fnExactPackGainCard : Claim7 := { stood := { row := fnExactPackGainRow, standIns := [], harness := (true, "b60840f14b9675725a7269d78c136b638806e2d6dbbee350c7212ba12e8adb3a"), looks := false }, kinds := [], alts := [], laidByText := true, laidKinds := [.data, .pinned], laidTests := true, laidLooks := .later }
def FnExactPackGainCardSaid : Prop := Claim7.holds Tryd.pinned (.plain (OpenSpec.ofChange fnExactPackGainSpec)) fnExactPackGainCard

/-- THE TIED CARD OF 'laws.FnExactLoose'. -/
def fnExactLooseCard : Claim7 := { stood := { row := fnExactLooseRow, standIns := [], harness := (true, "b60840f14b9675725a7269d78c136b638806e2d6dbbee350c7212ba12e8adb3a"), looks := false }, kinds := [], alts := [], laidByText := true, laidKinds := [.data, .pinned], laidTests := true, laidLooks := .later }
def FnExactLooseCardSaid : Prop := Claim7.holds Tryd.pinned (.plain (OpenSpec.ofChange fnExactLooseSpec)) fnExactLooseCard

/-- THE TIED CARD OF 'laws.FnExactGetCbor'. -/
def fnExactGetCborCard : Claim7 := { stood := { row := fnExactGetCborRow, standIns := [], harness := (true, "b60840f14b9675725a7269d78c136b638806e2d6dbbee350c7212ba12e8adb3a"), looks := false }, kinds := [], alts := [], laidByText := true, laidKinds := [.data, .pinned], laidTests := true, laidLooks := .later }
def FnExactGetCborCardSaid : Prop := Claim7.holds Tryd.pinned (.plain (OpenSpec.ofChange fnExactGetCborSpec)) fnExactGetCborCard

/-- THE TIED CARD OF 'laws.FnMsg'. -/
def fnMsgCard : Claim7 := { stood := { row := fnMsgRow, standIns := [], harness := (true, "b60840f14b9675725a7269d78c136b638806e2d6dbbee350c7212ba12e8adb3a"), looks := false }, kinds := [], alts := [], laidByText := true, laidKinds := [.data, .pinned], laidTests := true, laidLooks := .later }
def FnMsgCardSaid : Prop := Claim7.holds Tryd.pinned (.plain (OpenSpec.ofChange fnMsgSpec)) fnMsgCard

/-- THE TIED CARD OF 'laws.FnExactPaths'. -/
def fnExactPathsCard : Claim7 := { stood := { row := fnExactPathsRow, standIns := [], harness := (true, "b60840f14b9675725a7269d78c136b638806e2d6dbbee350c7212ba12e8adb3a"), looks := false }, kinds := [], alts := [], laidByText := true, laidKinds := [.data, .data, .data, .data, .pinned], laidTests := true, laidLooks := .later }
def FnExactPathsCardSaid : Prop := Claim7.holds Tryd.pinned (.plain (OpenSpec.ofChange fnExactPathsSpec)) fnExactPathsCard

/-- THE TIED CARD OF 'laws.FnExactPretty'. -/
def fnExactPrettyCard : Claim7 := { stood := { row := fnExactPrettyRow, standIns := [], harness := (true, "b60840f14b9675725a7269d78c136b638806e2d6dbbee350c7212ba12e8adb3a"), looks := false }, kinds := [], alts := [], laidByText := true, laidKinds := [.data, .data, .data, .data, .pinned], laidTests := true, laidLooks := .later }
def FnExactPrettyCardSaid : Prop := Claim7.holds Tryd.pinned (.plain (OpenSpec.ofChange fnExactPrettySpec)) fnExactPrettyCard

/-- THE TIED CARD OF 'laws.FnExactPutJson'. -/
def fnExactPutJsonCard : Claim7 := { stood := { row := fnExactPutJsonRow, standIns := [], harness := (true, "b60840f14b9675725a7269d78c136b638806e2d6dbbee350c7212ba12e8adb3a"), looks := false }, kinds := [], alts := [], laidByText := true, laidKinds := [.data, .data, .data, .data, .pinned], laidTests := true, laidLooks := .later }
def FnExactPutJsonCardSaid : Prop := Claim7.holds Tryd.pinned (.plain (OpenSpec.ofChange fnExactPutJsonSpec)) fnExactPutJsonCard

/-- THE TIED CARD OF 'laws.FnCbor'. -/
def fnCborCard : Claim7 := { stood := { row := fnCborRow, standIns := [], harness := (true, "b60840f14b9675725a7269d78c136b638806e2d6dbbee350c7212ba12e8adb3a"), looks := false }, kinds := [], alts := [], laidByText := true, laidKinds := [.data, .pinned], laidTests := true, laidLooks := .later }
def FnCborCardSaid : Prop := Claim7.holds Tryd.pinned (.plain (OpenSpec.ofChange fnCborSpec)) fnCborCard

/-- THE SECOND FORM's CARD OF 'laws.FnExactGetRefs'. -/
def fnExactGetRefsUptoCard : Claim7 := { stood := { row := fnExactGetRefsUptoRow, standIns := [], harness := (true, "b60840f14b9675725a7269d78c136b638806e2d6dbbee350c7212ba12e8adb3a"), looks := false }, kinds := [], alts := [], laidByText := true, laidKinds := [.data, .pinned], laidTests := true, laidLooks := .later }
def FnExactGetRefsUptoCardSaid : Prop := Claim7.holds Tryd.pinned (.plain (OpenSpec.upto fnExactGetRefsSpec)) fnExactGetRefsUptoCard

/-- THE SECOND FORM's CARD OF 'laws.FnExactSaved'. -/
def fnExactSavedUptoCard : Claim7 := { stood := { row := fnExactSavedUptoRow, standIns := [], harness := (true, "b60840f14b9675725a7269d78c136b638806e2d6dbbee350c7212ba12e8adb3a"), looks := false }, kinds := [], alts := [], laidByText := true, laidKinds := [.data, .pinned], laidTests := true, laidLooks := .later }
def FnExactSavedUptoCardSaid : Prop := Claim7.holds Tryd.pinned (.plain (OpenSpec.upto fnExactSavedSpec)) fnExactSavedUptoCard

/-- THE SECOND FORM's CARD OF 'laws.FnExactGetMsg'. -/
def fnExactGetMsgUptoCard : Claim7 := { stood := { row := fnExactGetMsgUptoRow, standIns := [], harness := (true, "b60840f14b9675725a7269d78c136b638806e2d6dbbee350c7212ba12e8adb3a"), looks := false }, kinds := [], alts := [], laidByText := true, laidKinds := [.data, .pinned], laidTests := true, laidLooks := .later }
def FnExactGetMsgUptoCardSaid : Prop := Claim7.holds Tryd.pinned (.plain (OpenSpec.upto fnExactGetMsgSpec)) fnExactGetMsgUptoCard

/-- THE SECOND FORM's CARD OF 'laws.FnExactPackGain'. -/
def fnExactPackGainUptoCard : Claim7 := { stood := { row := fnExactPackGainUptoRow, standIns := [], harness := (true, "b60840f14b9675725a7269d78c136b638806e2d6dbbee350c7212ba12e8adb3a"), looks := false }, kinds := [], alts := [], laidByText := true, laidKinds := [.data, .pinned], laidTests := true, laidLooks := .later }
def FnExactPackGainUptoCardSaid : Prop := Claim7.holds Tryd.pinned (.plain (OpenSpec.upto fnExactPackGainSpec)) fnExactPackGainUptoCard

/-- THE SECOND FORM's CARD OF 'laws.FnExactLoose'. -/
def fnExactLooseUptoCard : Claim7 := { stood := { row := fnExactLooseUptoRow, standIns := [], harness := (true, "b60840f14b9675725a7269d78c136b638806e2d6dbbee350c7212ba12e8adb3a"), looks := false }, kinds := [], alts := [], laidByText := true, laidKinds := [.data, .pinned], laidTests := true, laidLooks := .later }
def FnExactLooseUptoCardSaid : Prop := Claim7.holds Tryd.pinned (.plain (OpenSpec.upto fnExactLooseSpec)) fnExactLooseUptoCard

/-- THE SECOND FORM's CARD OF 'laws.FnExactGetCbor'. -/
def fnExactGetCborUptoCard : Claim7 := { stood := { row := fnExactGetCborUptoRow, standIns := [], harness := (true, "b60840f14b9675725a7269d78c136b638806e2d6dbbee350c7212ba12e8adb3a"), looks := false }, kinds := [], alts := [], laidByText := true, laidKinds := [.data, .pinned], laidTests := true, laidLooks := .later }
def FnExactGetCborUptoCardSaid : Prop := Claim7.holds Tryd.pinned (.plain (OpenSpec.upto fnExactGetCborSpec)) fnExactGetCborUptoCard

/-- THE SECOND FORM's CARD OF 'laws.FnMsg'. -/
def fnMsgUptoCard : Claim7 := { stood := { row := fnMsgUptoRow, standIns := [], harness := (true, "b60840f14b9675725a7269d78c136b638806e2d6dbbee350c7212ba12e8adb3a"), looks := false }, kinds := [], alts := [], laidByText := true, laidKinds := [.data, .pinned], laidTests := true, laidLooks := .later }
def FnMsgUptoCardSaid : Prop := Claim7.holds Tryd.pinned (.plain (OpenSpec.upto fnMsgSpec)) fnMsgUptoCard

/-- THE SECOND FORM's CARD OF 'laws.FnExactPaths'. -/
def fnExactPathsUptoCard : Claim7 := { stood := { row := fnExactPathsUptoRow, standIns := [], harness := (true, "b60840f14b9675725a7269d78c136b638806e2d6dbbee350c7212ba12e8adb3a"), looks := false }, kinds := [], alts := [], laidByText := true, laidKinds := [.data, .data, .data, .data, .pinned], laidTests := true, laidLooks := .later }
def FnExactPathsUptoCardSaid : Prop := Claim7.holds Tryd.pinned (.plain (OpenSpec.upto fnExactPathsSpec)) fnExactPathsUptoCard

/-- THE SECOND FORM's CARD OF 'laws.FnExactPretty'. -/
def fnExactPrettyUptoCard : Claim7 := { stood := { row := fnExactPrettyUptoRow, standIns := [], harness := (true, "b60840f14b9675725a7269d78c136b638806e2d6dbbee350c7212ba12e8adb3a"), looks := false }, kinds := [], alts := [], laidByText := true, laidKinds := [.data, .data, .data, .data, .pinned], laidTests := true, laidLooks := .later }
def FnExactPrettyUptoCardSaid : Prop := Claim7.holds Tryd.pinned (.plain (OpenSpec.upto fnExactPrettySpec)) fnExactPrettyUptoCard

/-- THE SECOND FORM's CARD OF 'laws.FnExactPutJson'. -/
def fnExactPutJsonUptoCard : Claim7 := { stood := { row := fnExactPutJsonUptoRow, standIns := [], harness := (true, "b60840f14b9675725a7269d78c136b638806e2d6dbbee350c7212ba12e8adb3a"), looks := false }, kinds := [], alts := [], laidByText := true, laidKinds := [.data, .data, .data, .data, .pinned], laidTests := true, laidLooks := .later }
def FnExactPutJsonUptoCardSaid : Prop := Claim7.holds Tryd.pinned (.plain (OpenSpec.upto fnExactPutJsonSpec)) fnExactPutJsonUptoCard

/-- THE SECOND FORM's CARD OF 'laws.FnCbor'. -/
def fnCborUptoCard : Claim7 := { stood := { row := fnCborUptoRow, standIns := [], harness := (true, "b60840f14b9675725a7269d78c136b638806e2d6dbbee350c7212ba12e8adb3a"), looks := false }, kinds := [], alts := [], laidByText := true, laidKinds := [.data, .pinned], laidTests := true, laidLooks := .later }
def FnCborUptoCardSaid : Prop := Claim7.holds Tryd.pinned (.plain (OpenSpec.upto fnCborSpec)) fnCborUptoCard
end Rows
end Go.Proofs.YtiemlefmhleaeaaDoor
