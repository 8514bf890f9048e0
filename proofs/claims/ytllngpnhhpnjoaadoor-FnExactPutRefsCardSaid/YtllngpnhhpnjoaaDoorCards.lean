/-
  DERIVED. GIVEN WITH THE SEED: THE CARDS: each row of YtllngpnhhpnjoaaDoorRows.lean that lists a variable, with what it lists TIED to the program's text (the seventh form; the later family's looks); each row that meets fmt, with fmt's text TOLD by the authors' own Lean function (tested against real Go, not proved from fmt's source: count such statements apart). THE CARD IS WHAT COUNTS. Prove the row's statement (the work); the ties are given (YtllngpnhhpnjoaaDoorTie.lean); close each card by the builder's one call (the guide's Derived/Test/ToyasCard.lean, 'card_holds'). Laid BY PROGRAM, IN A SANDBOX (cutbox-door.mjs). By AI agents, Wed Nov 11 2026. No macro, syntax, notation, axiom, sorry.
-/
import Derived.Test.YtllngpnhhpnjoaaDoorRows
import GoSem.ClaimSeven
namespace Go.Proofs.YtllngpnhhpnjoaaDoor
namespace Rows

/-- THE TIED CARD OF 'laws.FnExactRemembered'. -/
def fnExactRememberedCard : Claim7 := { stood := { row := fnExactRememberedRow, standIns := [], harness := (true, "39c1fc0bc38bfe12cfb62b62f353c624256ef6f810ee4e1bf8b08b7db85cdf3b"), looks := false }, kinds := [], alts := [], laidByText := true, laidKinds := [.data, .pinned], laidTests := true, laidLooks := .later }
def FnExactRememberedCardSaid : Prop := Claim7.holds Tryd.pinned (.plain (OpenSpec.ofChange fnExactRememberedSpec)) fnExactRememberedCard

/-- THE TIED CARD OF 'laws.FnExactGetRefs'. -/
def fnExactGetRefsCard : Claim7 := { stood := { row := fnExactGetRefsRow, standIns := [], harness := (true, "39c1fc0bc38bfe12cfb62b62f353c624256ef6f810ee4e1bf8b08b7db85cdf3b"), looks := false }, kinds := [], alts := [], laidByText := true, laidKinds := [.data, .pinned], laidTests := true, laidLooks := .later }
def FnExactGetRefsCardSaid : Prop := Claim7.holds Tryd.pinned (.plain (OpenSpec.ofChange fnExactGetRefsSpec)) fnExactGetRefsCard

/-- THE TIED CARD OF 'laws.FnExactPutRefs'. -/
def fnExactPutRefsCard : Claim7 := { stood := { row := fnExactPutRefsRow, standIns := [], harness := (true, "39c1fc0bc38bfe12cfb62b62f353c624256ef6f810ee4e1bf8b08b7db85cdf3b"), looks := false }, kinds := [], alts := [], laidByText := true, laidKinds := [.data, .pinned], laidTests := true, laidLooks := .later }
def FnExactPutRefsCardSaid : Prop := Claim7.holds Tryd.pinned (.plain (OpenSpec.ofChange fnExactPutRefsSpec)) fnExactPutRefsCard

/-- THE TIED CARD OF 'laws.FnExactMapKeys'. -/
def fnExactMapKeysCard : Claim7 := { stood := { row := fnExactMapKeysRow, standIns := [], harness := (true, "39c1fc0bc38bfe12cfb62b62f353c624256ef6f810ee4e1bf8b08b7db85cdf3b"), looks := false }, kinds := [], alts := [], laidByText := true, laidKinds := [.data, .pinned], laidTests := true, laidLooks := .later }
def FnExactMapKeysCardSaid : Prop := Claim7.holds Tryd.pinned (.plain (OpenSpec.ofChange fnExactMapKeysSpec)) fnExactMapKeysCard

/-- THE TIED CARD OF 'laws.FnExactUnmapKeys'. -/
def fnExactUnmapKeysCard : Claim7 := { stood := { row := fnExactUnmapKeysRow, standIns := [], harness := (true, "39c1fc0bc38bfe12cfb62b62f353c624256ef6f810ee4e1bf8b08b7db85cdf3b"), looks := false }, kinds := [], alts := [], laidByText := true, laidKinds := [.data, .pinned], laidTests := true, laidLooks := .later }
def FnExactUnmapKeysCardSaid : Prop := Claim7.holds Tryd.pinned (.plain (OpenSpec.ofChange fnExactUnmapKeysSpec)) fnExactUnmapKeysCard

/-- THE TIED CARD OF 'laws.FnMerge'. -/
def fnMergeCard : Claim7 := { stood := { row := fnMergeRow, standIns := [], harness := (true, "39c1fc0bc38bfe12cfb62b62f353c624256ef6f810ee4e1bf8b08b7db85cdf3b"), looks := false }, kinds := [], alts := [], laidByText := true, laidKinds := [.data, .pinned], laidTests := true, laidLooks := .later }
def FnMergeCardSaid : Prop := Claim7.holds Tryd.pinned (.plain (OpenSpec.ofChange fnMergeSpec)) fnMergeCard

/-- THE TIED CARD OF 'laws.FnExactSameFields'. -/
def fnExactSameFieldsCard : Claim7 := { stood := { row := fnExactSameFieldsRow, standIns := [], harness := (true, "39c1fc0bc38bfe12cfb62b62f353c624256ef6f810ee4e1bf8b08b7db85cdf3b"), looks := false }, kinds := [], alts := [], laidByText := true, laidKinds := [.data, .pinned], laidTests := true, laidLooks := .later }
def FnExactSameFieldsCardSaid : Prop := Claim7.holds Tryd.pinned (.plain (OpenSpec.ofChange fnExactSameFieldsSpec)) fnExactSameFieldsCard

/-- THE TIED CARD OF 'laws.FnExactSaved'. -/
def fnExactSavedCard : Claim7 := { stood := { row := fnExactSavedRow, standIns := [], harness := (true, "39c1fc0bc38bfe12cfb62b62f353c624256ef6f810ee4e1bf8b08b7db85cdf3b"), looks := false }, kinds := [], alts := [], laidByText := true, laidKinds := [.data, .pinned], laidTests := true, laidLooks := .later }
def FnExactSavedCardSaid : Prop := Claim7.holds Tryd.pinned (.plain (OpenSpec.ofChange fnExactSavedSpec)) fnExactSavedCard

/-- THE TIED CARD OF 'laws.FnExactGain'. -/
def fnExactGainCard : Claim7 := { stood := { row := fnExactGainRow, standIns := [], harness := (true, "39c1fc0bc38bfe12cfb62b62f353c624256ef6f810ee4e1bf8b08b7db85cdf3b"), looks := false }, kinds := [], alts := [], laidByText := true, laidKinds := [.data, .pinned], laidTests := true, laidLooks := .later }
def FnExactGainCardSaid : Prop := Claim7.holds Tryd.pinned (.plain (OpenSpec.ofChange fnExactGainSpec)) fnExactGainCard

/-- THE TIED CARD OF 'laws.FnExactGetMsg'. -/
def fnExactGetMsgCard : Claim7 := { stood := { row := fnExactGetMsgRow, standIns := [], harness := (true, "39c1fc0bc38bfe12cfb62b62f353c624256ef6f810ee4e1bf8b08b7db85cdf3b"), looks := false }, kinds := [], alts := [], laidByText := true, laidKinds := [.data, .pinned], laidTests := true, laidLooks := .later }
def FnExactGetMsgCardSaid : Prop := Claim7.holds Tryd.pinned (.plain (OpenSpec.ofChange fnExactGetMsgSpec)) fnExactGetMsgCard

/-- THE TIED CARD OF 'laws.FnExactPackGain'. -/
def fnExactPackGainCard : Claim7 := { stood := { row := fnExactPackGainRow, standIns := [], harness := (true, "39c1fc0bc38bfe12cfb62b62f353c624256ef6f810ee4e1bf8b08b7db85cdf3b"), looks := false }, kinds := [], alts := [], laidByText := true, laidKinds := [.data, .pinned], laidTests := true, laidLooks := .later }
def FnExactPackGainCardSaid : Prop := Claim7.holds Tryd.pinned (.plain (OpenSpec.ofChange fnExactPackGainSpec)) fnExactPackGainCard

/-- THE SECOND FORM's CARD OF 'laws.FnExactRemembered'. -/
def fnExactRememberedUptoCard : Claim7 := { stood := { row := fnExactRememberedUptoRow, standIns := [], harness := (true, "39c1fc0bc38bfe12cfb62b62f353c624256ef6f810ee4e1bf8b08b7db85cdf3b"), looks := false }, kinds := [], alts := [], laidByText := true, laidKinds := [.data, .pinned], laidTests := true, laidLooks := .later }
def FnExactRememberedUptoCardSaid : Prop := Claim7.holds Tryd.pinned (.plain (OpenSpec.upto fnExactRememberedSpec)) fnExactRememberedUptoCard

/-- THE SECOND FORM's CARD OF 'laws.FnExactGetRefs'. -/
def fnExactGetRefsUptoCard : Claim7 := { stood := { row := fnExactGetRefsUptoRow, standIns := [], harness := (true, "39c1fc0bc38bfe12cfb62b62f353c624256ef6f810ee4e1bf8b08b7db85cdf3b"), looks := false }, kinds := [], alts := [], laidByText := true, laidKinds := [.data, .pinned], laidTests := true, laidLooks := .later }
def FnExactGetRefsUptoCardSaid : Prop := Claim7.holds Tryd.pinned (.plain (OpenSpec.upto fnExactGetRefsSpec)) fnExactGetRefsUptoCard

/-- THE SECOND FORM's CARD OF 'laws.FnExactPutRefs'. -/
def fnExactPutRefsUptoCard : Claim7 := { stood := { row := fnExactPutRefsUptoRow, standIns := [], harness := (true, "39c1fc0bc38bfe12cfb62b62f353c624256ef6f810ee4e1bf8b08b7db85cdf3b"), looks := false }, kinds := [], alts := [], laidByText := true, laidKinds := [.data, .pinned], laidTests := true, laidLooks := .later }
def FnExactPutRefsUptoCardSaid : Prop := Claim7.holds Tryd.pinned (.plain (OpenSpec.upto fnExactPutRefsSpec)) fnExactPutRefsUptoCard

/-- THE SECOND FORM's CARD OF 'laws.FnExactMapKeys'. -/
def fnExactMapKeysUptoCard : Claim7 := { stood := { row := fnExactMapKeysUptoRow, standIns := [], harness := (true, "39c1fc0bc38bfe12cfb62b62f353c624256ef6f810ee4e1bf8b08b7db85cdf3b"), looks := false }, kinds := [], alts := [], laidByText := true, laidKinds := [.data, .pinned], laidTests := true, laidLooks := .later }
def FnExactMapKeysUptoCardSaid : Prop := Claim7.holds Tryd.pinned (.plain (OpenSpec.upto fnExactMapKeysSpec)) fnExactMapKeysUptoCard

/-- THE SECOND FORM's CARD OF 'laws.FnExactUnmapKeys'. -/
def fnExactUnmapKeysUptoCard : Claim7 := { stood := { row := fnExactUnmapKeysUptoRow, standIns := [], harness := (true, "39c1fc0bc38bfe12cfb62b62f353c624256ef6f810ee4e1bf8b08b7db85cdf3b"), looks := false }, kinds := [], alts := [], laidByText := true, laidKinds := [.data, .pinned], laidTests := true, laidLooks := .later }
def FnExactUnmapKeysUptoCardSaid : Prop := Claim7.holds Tryd.pinned (.plain (OpenSpec.upto fnExactUnmapKeysSpec)) fnExactUnmapKeysUptoCard

/-- THE SECOND FORM's CARD OF 'laws.FnMerge'. -/
def fnMergeUptoCard : Claim7 := { stood := { row := fnMergeUptoRow, standIns := [], harness := (true, "39c1fc0bc38bfe12cfb62b62f353c624256ef6f810ee4e1bf8b08b7db85cdf3b"), looks := false }, kinds := [], alts := [], laidByText := true, laidKinds := [.data, .pinned], laidTests := true, laidLooks := .later }
def FnMergeUptoCardSaid : Prop := Claim7.holds Tryd.pinned (.plain (OpenSpec.upto fnMergeSpec)) fnMergeUptoCard

/-- THE SECOND FORM's CARD OF 'laws.FnExactSameFields'. -/
def fnExactSameFieldsUptoCard : Claim7 := { stood := { row := fnExactSameFieldsUptoRow, standIns := [], harness := (true, "39c1fc0bc38bfe12cfb62b62f353c624256ef6f810ee4e1bf8b08b7db85cdf3b"), looks := false }, kinds := [], alts := [], laidByText := true, laidKinds := [.data, .pinned], laidTests := true, laidLooks := .later }
def FnExactSameFieldsUptoCardSaid : Prop := Claim7.holds Tryd.pinned (.plain (OpenSpec.upto fnExactSameFieldsSpec)) fnExactSameFieldsUptoCard

/-- THE SECOND FORM's CARD OF 'laws.FnExactSaved'. -/
def fnExactSavedUptoCard : Claim7 := { stood := { row := fnExactSavedUptoRow, standIns := [], harness := (true, "39c1fc0bc38bfe12cfb62b62f353c624256ef6f810ee4e1bf8b08b7db85cdf3b"), looks := false }, kinds := [], alts := [], laidByText := true, laidKinds := [.data, .pinned], laidTests := true, laidLooks := .later }
def FnExactSavedUptoCardSaid : Prop := Claim7.holds Tryd.pinned (.plain (OpenSpec.upto fnExactSavedSpec)) fnExactSavedUptoCard

/-- THE SECOND FORM's CARD OF 'laws.FnExactGain'. -/
def fnExactGainUptoCard : Claim7 := { stood := { row := fnExactGainUptoRow, standIns := [], harness := (true, "39c1fc0bc38bfe12cfb62b62f353c624256ef6f810ee4e1bf8b08b7db85cdf3b"), looks := false }, kinds := [], alts := [], laidByText := true, laidKinds := [.data, .pinned], laidTests := true, laidLooks := .later }
def FnExactGainUptoCardSaid : Prop := Claim7.holds Tryd.pinned (.plain (OpenSpec.upto fnExactGainSpec)) fnExactGainUptoCard

/-- THE SECOND FORM's CARD OF 'laws.FnExactGetMsg'. -/
def fnExactGetMsgUptoCard : Claim7 := { stood := { row := fnExactGetMsgUptoRow, standIns := [], harness := (true, "39c1fc0bc38bfe12cfb62b62f353c624256ef6f810ee4e1bf8b08b7db85cdf3b"), looks := false }, kinds := [], alts := [], laidByText := true, laidKinds := [.data, .pinned], laidTests := true, laidLooks := .later }
def FnExactGetMsgUptoCardSaid : Prop := Claim7.holds Tryd.pinned (.plain (OpenSpec.upto fnExactGetMsgSpec)) fnExactGetMsgUptoCard

/-- THE SECOND FORM's CARD OF 'laws.FnExactPackGain'. -/
def fnExactPackGainUptoCard : Claim7 := { stood := { row := fnExactPackGainUptoRow, standIns := [], harness := (true, "39c1fc0bc38bfe12cfb62b62f353c624256ef6f810ee4e1bf8b08b7db85cdf3b"), looks := false }, kinds := [], alts := [], laidByText := true, laidKinds := [.data, .pinned], laidTests := true, laidLooks := .later }
def FnExactPackGainUptoCardSaid : Prop := Claim7.holds Tryd.pinned (.plain (OpenSpec.upto fnExactPackGainSpec)) fnExactPackGainUptoCard
end Rows
end Go.Proofs.YtllngpnhhpnjoaaDoor
