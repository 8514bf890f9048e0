/-
  NARROWER THAN 'FOR EVERY INPUT', by the rows' own cells (each row's printed sentence says how): FnExactRemembered: loops, laid · FnExactGetRefs: loops, laid · FnExactPutRefs: loops, laid · FnExactMapKeys: loops, laid · FnExactUnmapKeys: loops, laid · FnMerge: laid · FnExactSameFields: loops, laid · FnExactSaved: loops, laid · FnExactGain: loops, laid · FnExactGetMsg: laid · FnExactPackGain: loops, laid.
  DERIVED. THE GIVEN ROWS OF THIS SEAT. 11 by the template 'for every input the law returns true; each argument reads behind the call as it read before'; 0 by the template 'total and deterministic' (their statements: YtllngpnhhpnjoaaDoorTotals.lean).
  GIVEN WITH THE SEED: the statements are not yours to turn. If you find one false, say at which input.
  Laid BY PROGRAM, IN A SANDBOX (cutbox-rows.mjs): the forced cells as the released guide's own fill.sh prints them over the translation 59fe03e957f86150… (all of the seat's roots in one cut). By AI agents, Wed Nov 11 2026. No macro, syntax, notation, axiom, sorry.
-/
import Derived.Test.YtllngpnhhpnjoaaDoorChecked
import GoSem.PinnedTables
import GoSem.Claim
import GoSem.ClaimJoined
import GoSem.ClaimMapViews
import Derived.JoinedTies
import Derived.KernelRfl
namespace Go.Proofs.YtllngpnhhpnjoaaDoor
/- THE CELL 'sum', in the pinned program and in every row, IS THE sha256 OF THE DUMP (.gsa) THAT YtllngpnhhpnjoaaDoorProg.lean LOADS. Nothing in Lean hashes anything: it is a label: what it is worth is what the hold of that sum in a sandbox is worth. -/
noncomputable def Tryd.pinned : Pinned := { name := "ytllngpnhhpnjoaadoor", sum := "59fe03e957f86150444df05b0a44298b5b3638d14c4ef2b5a8c23a328149924a", checked := Tryd.checked }
namespace Rows
def none {H : Type} : Left H := { results := [], args := [] }

/- WHAT THE LISTED PACKAGE-LEVEL VARIABLES READ AS WHEN THE CALL BEGINS. Each datum BY PROGRAM (the guide's laid-datum.mjs) off the statement by which the dump's own 'gosem.cut.vars' lays the variable. In a bare row this is a premise. The card (YtllngpnhhpnjoaaDoorCards.lean) ties it to the program's text. -/
def laid_unicode_utf8_acceptRanges {H : Type} : DataW H := .agg [.agg [.lit (.int .u8 128), .lit (.int .u8 191)], .agg [.lit (.int .u8 160), .lit (.int .u8 191)], .agg [.lit (.int .u8 128), .lit (.int .u8 159)], .agg [.lit (.int .u8 144), .lit (.int .u8 191)], .agg [.lit (.int .u8 128), .lit (.int .u8 143)], .agg [.lit (.int .u8 0), .lit (.int .u8 0)], .agg [.lit (.int .u8 0), .lit (.int .u8 0)], .agg [.lit (.int .u8 0), .lit (.int .u8 0)], .agg [.lit (.int .u8 0), .lit (.int .u8 0)], .agg [.lit (.int .u8 0), .lit (.int .u8 0)], .agg [.lit (.int .u8 0), .lit (.int .u8 0)], .agg [.lit (.int .u8 0), .lit (.int .u8 0)], .agg [.lit (.int .u8 0), .lit (.int .u8 0)], .agg [.lit (.int .u8 0), .lit (.int .u8 0)], .agg [.lit (.int .u8 0), .lit (.int .u8 0)], .agg [.lit (.int .u8 0), .lit (.int .u8 0)]]
/-- One of Go's own tables, pinned by name: the form's constant. -/
def laid_unicode_utf8_first : DataW Unit := Go.Pinned.utf8First

/-- 'laws.FnExactRemembered': WHATEVER THE INPUT: true; the input reads as it did. -/
def fnExactRememberedSpec : ChangeSpec := { name := "fnExactRemembered", fn := fun _ => fun
  | [d] => { results := [.lit (.bool true)], args := [d] }
  | _ => none }
def fnExactRememberedRow : OpenClaim := { program := "ytllngpnhhpnjoaadoor", sum := "59fe03e957f86150444df05b0a44298b5b3638d14c4ef2b5a8c23a328149924a", func := "loop.example/g00421/laws.FnExactRemembered", spec := "fnExactRemembered", unfollowed := true, recurses := true, named := ["unicode/utf8.first", "unicode/utf8.acceptRanges"], loops := true, apart := false, laid := [("unicode/utf8.acceptRanges", laid_unicode_utf8_acceptRanges), ("unicode/utf8.first", laid_unicode_utf8_first)] }
def FnExactRememberedSaid : Prop := fnExactRememberedRow.holds Tryd.pinned (OpenSpec.ofChange fnExactRememberedSpec)

/-- ITS FALSE NEIGHBOUR: 'it returns false'. Refute it at one input. -/
def fnExactRememberedWrong : ChangeSpec := { name := "fnExactRemembered", fn := fun _ => fun
  | [d] => { results := [.lit (.bool false)], args := [d] }
  | _ => none }
def FnExactRememberedWrongFalsely : Prop := fnExactRememberedRow.holds Tryd.pinned (OpenSpec.ofChange fnExactRememberedWrong)

/-- 'laws.FnExactGetRefs': WHATEVER THE INPUT: true; the input reads as it did. -/
def fnExactGetRefsSpec : ChangeSpec := { name := "fnExactGetRefs", fn := fun _ => fun
  | [d] => { results := [.lit (.bool true)], args := [d] }
  | _ => none }
def fnExactGetRefsRow : OpenClaim := { program := "ytllngpnhhpnjoaadoor", sum := "59fe03e957f86150444df05b0a44298b5b3638d14c4ef2b5a8c23a328149924a", func := "loop.example/g00421/laws.FnExactGetRefs", spec := "fnExactGetRefs", unfollowed := true, recurses := true, named := ["unicode/utf8.first", "unicode/utf8.acceptRanges"], loops := true, apart := false, laid := [("unicode/utf8.acceptRanges", laid_unicode_utf8_acceptRanges), ("unicode/utf8.first", laid_unicode_utf8_first)] }
def FnExactGetRefsSaid : Prop := fnExactGetRefsRow.holds Tryd.pinned (OpenSpec.ofChange fnExactGetRefsSpec)

/-- ITS FALSE NEIGHBOUR: 'it returns false'. Refute it at one input. -/
def fnExactGetRefsWrong : ChangeSpec := { name := "fnExactGetRefs", fn := fun _ => fun
  | [d] => { results := [.lit (.bool false)], args := [d] }
  | _ => none }
def FnExactGetRefsWrongFalsely : Prop := fnExactGetRefsRow.holds Tryd.pinned (OpenSpec.ofChange fnExactGetRefsWrong)

/-- 'laws.FnExactPutRefs': WHATEVER THE INPUT: true; the input reads as it did. -/
def fnExactPutRefsSpec : ChangeSpec := { name := "fnExactPutRefs", fn := fun _ => fun
  | [d] => { results := [.lit (.bool true)], args := [d] }
  | _ => none }
def fnExactPutRefsRow : OpenClaim := { program := "ytllngpnhhpnjoaadoor", sum := "59fe03e957f86150444df05b0a44298b5b3638d14c4ef2b5a8c23a328149924a", func := "loop.example/g00421/laws.FnExactPutRefs", spec := "fnExactPutRefs", unfollowed := true, recurses := true, named := ["unicode/utf8.first", "unicode/utf8.acceptRanges"], loops := true, apart := false, laid := [("unicode/utf8.acceptRanges", laid_unicode_utf8_acceptRanges), ("unicode/utf8.first", laid_unicode_utf8_first)] }
def FnExactPutRefsSaid : Prop := fnExactPutRefsRow.holds Tryd.pinned (OpenSpec.ofChange fnExactPutRefsSpec)

/-- ITS FALSE NEIGHBOUR: 'it returns false'. Refute it at one input. -/
def fnExactPutRefsWrong : ChangeSpec := { name := "fnExactPutRefs", fn := fun _ => fun
  | [d] => { results := [.lit (.bool false)], args := [d] }
  | _ => none }
def FnExactPutRefsWrongFalsely : Prop := fnExactPutRefsRow.holds Tryd.pinned (OpenSpec.ofChange fnExactPutRefsWrong)

/-- 'laws.FnExactMapKeys': WHATEVER THE INPUT: true; the input reads as it did. -/
def fnExactMapKeysSpec : ChangeSpec := { name := "fnExactMapKeys", fn := fun _ => fun
  | [d1, d2] => { results := [.lit (.bool true)], args := [d1, d2] }
  | _ => none }
def fnExactMapKeysRow : OpenClaim := { program := "ytllngpnhhpnjoaadoor", sum := "59fe03e957f86150444df05b0a44298b5b3638d14c4ef2b5a8c23a328149924a", func := "loop.example/g00421/laws.FnExactMapKeys", spec := "fnExactMapKeys", unfollowed := true, recurses := true, named := ["unicode/utf8.first", "unicode/utf8.acceptRanges"], loops := true, apart := false, laid := [("unicode/utf8.acceptRanges", laid_unicode_utf8_acceptRanges), ("unicode/utf8.first", laid_unicode_utf8_first)] }
def FnExactMapKeysSaid : Prop := fnExactMapKeysRow.holds Tryd.pinned (OpenSpec.ofChange fnExactMapKeysSpec)

/-- ITS FALSE NEIGHBOUR: 'it returns false'. Refute it at one input. -/
def fnExactMapKeysWrong : ChangeSpec := { name := "fnExactMapKeys", fn := fun _ => fun
  | [d1, d2] => { results := [.lit (.bool false)], args := [d1, d2] }
  | _ => none }
def FnExactMapKeysWrongFalsely : Prop := fnExactMapKeysRow.holds Tryd.pinned (OpenSpec.ofChange fnExactMapKeysWrong)

/-- 'laws.FnExactUnmapKeys': WHATEVER THE INPUT: true; the input reads as it did. -/
def fnExactUnmapKeysSpec : ChangeSpec := { name := "fnExactUnmapKeys", fn := fun _ => fun
  | [d1, d2] => { results := [.lit (.bool true)], args := [d1, d2] }
  | _ => none }
def fnExactUnmapKeysRow : OpenClaim := { program := "ytllngpnhhpnjoaadoor", sum := "59fe03e957f86150444df05b0a44298b5b3638d14c4ef2b5a8c23a328149924a", func := "loop.example/g00421/laws.FnExactUnmapKeys", spec := "fnExactUnmapKeys", unfollowed := true, recurses := true, named := ["unicode/utf8.first", "unicode/utf8.acceptRanges"], loops := true, apart := false, laid := [("unicode/utf8.acceptRanges", laid_unicode_utf8_acceptRanges), ("unicode/utf8.first", laid_unicode_utf8_first)] }
def FnExactUnmapKeysSaid : Prop := fnExactUnmapKeysRow.holds Tryd.pinned (OpenSpec.ofChange fnExactUnmapKeysSpec)

/-- ITS FALSE NEIGHBOUR: 'it returns false'. Refute it at one input. -/
def fnExactUnmapKeysWrong : ChangeSpec := { name := "fnExactUnmapKeys", fn := fun _ => fun
  | [d1, d2] => { results := [.lit (.bool false)], args := [d1, d2] }
  | _ => none }
def FnExactUnmapKeysWrongFalsely : Prop := fnExactUnmapKeysRow.holds Tryd.pinned (OpenSpec.ofChange fnExactUnmapKeysWrong)

/-- 'laws.FnMerge': WHATEVER THE INPUT: true; the input reads as it did. -/
def fnMergeSpec : ChangeSpec := { name := "fnMerge", fn := fun _ => fun
  | [d] => { results := [.lit (.bool true)], args := [d] }
  | _ => none }
def fnMergeRow : OpenClaim := { program := "ytllngpnhhpnjoaadoor", sum := "59fe03e957f86150444df05b0a44298b5b3638d14c4ef2b5a8c23a328149924a", func := "loop.example/g00421/laws.FnMerge", spec := "fnMerge", unfollowed := true, recurses := true, named := ["unicode/utf8.first", "unicode/utf8.acceptRanges"], apart := false, laid := [("unicode/utf8.acceptRanges", laid_unicode_utf8_acceptRanges), ("unicode/utf8.first", laid_unicode_utf8_first)] }
def FnMergeSaid : Prop := fnMergeRow.holds Tryd.pinned (OpenSpec.ofChange fnMergeSpec)

/-- ITS FALSE NEIGHBOUR: 'it returns false'. Refute it at one input. -/
def fnMergeWrong : ChangeSpec := { name := "fnMerge", fn := fun _ => fun
  | [d] => { results := [.lit (.bool false)], args := [d] }
  | _ => none }
def FnMergeWrongFalsely : Prop := fnMergeRow.holds Tryd.pinned (OpenSpec.ofChange fnMergeWrong)

/-- 'laws.FnExactSameFields': WHATEVER THE INPUT: true; the input reads as it did. -/
def fnExactSameFieldsSpec : ChangeSpec := { name := "fnExactSameFields", fn := fun _ => fun
  | [d1, d2] => { results := [.lit (.bool true)], args := [d1, d2] }
  | _ => none }
def fnExactSameFieldsRow : OpenClaim := { program := "ytllngpnhhpnjoaadoor", sum := "59fe03e957f86150444df05b0a44298b5b3638d14c4ef2b5a8c23a328149924a", func := "loop.example/g00421/laws.FnExactSameFields", spec := "fnExactSameFields", unfollowed := true, recurses := true, named := ["unicode/utf8.first", "unicode/utf8.acceptRanges"], loops := true, apart := false, laid := [("unicode/utf8.acceptRanges", laid_unicode_utf8_acceptRanges), ("unicode/utf8.first", laid_unicode_utf8_first)] }
def FnExactSameFieldsSaid : Prop := fnExactSameFieldsRow.holds Tryd.pinned (OpenSpec.ofChange fnExactSameFieldsSpec)

/-- ITS FALSE NEIGHBOUR: 'it returns false'. Refute it at one input. -/
def fnExactSameFieldsWrong : ChangeSpec := { name := "fnExactSameFields", fn := fun _ => fun
  | [d1, d2] => { results := [.lit (.bool false)], args := [d1, d2] }
  | _ => none }
def FnExactSameFieldsWrongFalsely : Prop := fnExactSameFieldsRow.holds Tryd.pinned (OpenSpec.ofChange fnExactSameFieldsWrong)

/-- 'laws.FnExactSaved': WHATEVER THE INPUT: true; the input reads as it did. -/
def fnExactSavedSpec : ChangeSpec := { name := "fnExactSaved", fn := fun _ => fun
  | [d] => { results := [.lit (.bool true)], args := [d] }
  | _ => none }
def fnExactSavedRow : OpenClaim := { program := "ytllngpnhhpnjoaadoor", sum := "59fe03e957f86150444df05b0a44298b5b3638d14c4ef2b5a8c23a328149924a", func := "loop.example/g00421/laws.FnExactSaved", spec := "fnExactSaved", inPlace := ["internal/abi.NoEscape"], unfollowed := true, recurses := true, named := ["unicode/utf8.first", "unicode/utf8.acceptRanges"], loops := true, apart := false, laid := [("unicode/utf8.acceptRanges", laid_unicode_utf8_acceptRanges), ("unicode/utf8.first", laid_unicode_utf8_first)] }
def FnExactSavedSaid : Prop := fnExactSavedRow.holds Tryd.pinned (OpenSpec.ofChange fnExactSavedSpec)

/-- ITS FALSE NEIGHBOUR: 'it returns false'. Refute it at one input. -/
def fnExactSavedWrong : ChangeSpec := { name := "fnExactSaved", fn := fun _ => fun
  | [d] => { results := [.lit (.bool false)], args := [d] }
  | _ => none }
def FnExactSavedWrongFalsely : Prop := fnExactSavedRow.holds Tryd.pinned (OpenSpec.ofChange fnExactSavedWrong)

/-- 'laws.FnExactGain': WHATEVER THE INPUT: true; the input reads as it did. -/
def fnExactGainSpec : ChangeSpec := { name := "fnExactGain", fn := fun _ => fun
  | [d1, d2] => { results := [.lit (.bool true)], args := [d1, d2] }
  | _ => none }
def fnExactGainRow : OpenClaim := { program := "ytllngpnhhpnjoaadoor", sum := "59fe03e957f86150444df05b0a44298b5b3638d14c4ef2b5a8c23a328149924a", func := "loop.example/g00421/laws.FnExactGain", spec := "fnExactGain", inPlace := ["internal/abi.NoEscape"], unfollowed := true, recurses := true, named := ["unicode/utf8.first", "unicode/utf8.acceptRanges"], loops := true, apart := false, laid := [("unicode/utf8.acceptRanges", laid_unicode_utf8_acceptRanges), ("unicode/utf8.first", laid_unicode_utf8_first)] }
def FnExactGainSaid : Prop := fnExactGainRow.holds Tryd.pinned (OpenSpec.ofChange fnExactGainSpec)

/-- ITS FALSE NEIGHBOUR: 'it returns false'. Refute it at one input. -/
def fnExactGainWrong : ChangeSpec := { name := "fnExactGain", fn := fun _ => fun
  | [d1, d2] => { results := [.lit (.bool false)], args := [d1, d2] }
  | _ => none }
def FnExactGainWrongFalsely : Prop := fnExactGainRow.holds Tryd.pinned (OpenSpec.ofChange fnExactGainWrong)

/-- 'laws.FnExactGetMsg': WHATEVER THE INPUT: true; the input reads as it did. -/
def fnExactGetMsgSpec : ChangeSpec := { name := "fnExactGetMsg", fn := fun _ => fun
  | [d1, d2] => { results := [.lit (.bool true)], args := [d1, d2] }
  | _ => none }
def fnExactGetMsgRow : OpenClaim := { program := "ytllngpnhhpnjoaadoor", sum := "59fe03e957f86150444df05b0a44298b5b3638d14c4ef2b5a8c23a328149924a", func := "loop.example/g00421/laws.FnExactGetMsg", spec := "fnExactGetMsg", inPlace := ["internal/abi.NoEscape"], unfollowed := true, recurses := true, named := ["unicode/utf8.first", "unicode/utf8.acceptRanges"], apart := false, laid := [("unicode/utf8.acceptRanges", laid_unicode_utf8_acceptRanges), ("unicode/utf8.first", laid_unicode_utf8_first)] }
def FnExactGetMsgSaid : Prop := fnExactGetMsgRow.holds Tryd.pinned (OpenSpec.ofChange fnExactGetMsgSpec)

/-- ITS FALSE NEIGHBOUR: 'it returns false'. Refute it at one input. -/
def fnExactGetMsgWrong : ChangeSpec := { name := "fnExactGetMsg", fn := fun _ => fun
  | [d1, d2] => { results := [.lit (.bool false)], args := [d1, d2] }
  | _ => none }
def FnExactGetMsgWrongFalsely : Prop := fnExactGetMsgRow.holds Tryd.pinned (OpenSpec.ofChange fnExactGetMsgWrong)

/-- 'laws.FnExactPackGain': WHATEVER THE INPUT: true; the input reads as it did. -/
def fnExactPackGainSpec : ChangeSpec := { name := "fnExactPackGain", fn := fun _ => fun
  | [d1, d2] => { results := [.lit (.bool true)], args := [d1, d2] }
  | _ => none }
def fnExactPackGainRow : OpenClaim := { program := "ytllngpnhhpnjoaadoor", sum := "59fe03e957f86150444df05b0a44298b5b3638d14c4ef2b5a8c23a328149924a", func := "loop.example/g00421/laws.FnExactPackGain", spec := "fnExactPackGain", inPlace := ["internal/abi.NoEscape"], unfollowed := true, recurses := true, named := ["unicode/utf8.first", "unicode/utf8.acceptRanges"], loops := true, apart := false, laid := [("unicode/utf8.acceptRanges", laid_unicode_utf8_acceptRanges), ("unicode/utf8.first", laid_unicode_utf8_first)] }
def FnExactPackGainSaid : Prop := fnExactPackGainRow.holds Tryd.pinned (OpenSpec.ofChange fnExactPackGainSpec)

/-- ITS FALSE NEIGHBOUR: 'it returns false'. Refute it at one input. -/
def fnExactPackGainWrong : ChangeSpec := { name := "fnExactPackGain", fn := fun _ => fun
  | [d1, d2] => { results := [.lit (.bool false)], args := [d1, d2] }
  | _ => none }
def FnExactPackGainWrongFalsely : Prop := fnExactPackGainRow.holds Tryd.pinned (OpenSpec.ofChange fnExactPackGainWrong)

/- THE SECOND FORM. 'bulk': how many values and letters a reading holds, each counted each time it is reached (what is shared counts as often as it is met; a slice's spare places count too). A statement '..UptoSaid' is the law's where the arguments, and the package variables that the reading takes, are together of bulk at most 1048576: NARROWER than '..Said'. Prove '..Said' where nothing that the law and all that it calls make is longer than what came in: it says more and counts as full. Else prove '..UptoSaid'. A law counts once. -/
mutual
def uptoBulk {H : Type} : DataW H → Nat
  | .lit (.string bytes) => bytes.length + 1
  | .lit _ => 1
  | .nil => 1
  | .ptr d => uptoBulk d + 1
  | .slice elems spare => uptoBulkAll elems + uptoBulkAll spare + 1
  | .agg parts => uptoBulkAll parts + 1
  | .iface _ d => uptoBulk d + 1
  | .map entries => uptoBulkEntries entries + 1
  | .held _ => 1
def uptoBulkAll {H : Type} : List (DataW H) → Nat
  | [] => 0
  | d :: r => uptoBulk d + uptoBulkAll r
def uptoBulkEntries {H : Type} : List (Lit × DataW H) → Nat
  | [] => 0
  | x :: r => uptoBulkEntry x + uptoBulkEntries r
def uptoBulkEntry {H : Type} : Lit × DataW H → Nat
  | (.string bytes, d) => bytes.length + uptoBulk d + 1
  | (_, d) => uptoBulk d + 1
 end
def uptoSmall : (H : Type) → List (DataW H) → Bool := fun _ ds => decide (uptoBulkAll ds ≤ 1048576)
def OpenSpec.upto (s : _root_.Go.ChangeSpec) : _root_.Go.OpenSpec := { _root_.Go.OpenSpec.ofChange s with cond := some uptoSmall }

/-- 'laws.FnExactRemembered', WHERE WHAT IT READS IS OF BULK AT MOST 1048576: true; the input reads as it did. -/
def fnExactRememberedUptoRow : OpenClaim := { program := "ytllngpnhhpnjoaadoor", sum := "59fe03e957f86150444df05b0a44298b5b3638d14c4ef2b5a8c23a328149924a", func := "loop.example/g00421/laws.FnExactRemembered", spec := "fnExactRemembered", unfollowed := true, recurses := true, named := ["unicode/utf8.first", "unicode/utf8.acceptRanges"], loops := true, apart := false, laid := [("unicode/utf8.acceptRanges", laid_unicode_utf8_acceptRanges), ("unicode/utf8.first", laid_unicode_utf8_first)], narrowed := true }
def FnExactRememberedUptoSaid : Prop := fnExactRememberedUptoRow.holds Tryd.pinned (OpenSpec.upto fnExactRememberedSpec)

/-- 'laws.FnExactGetRefs', WHERE WHAT IT READS IS OF BULK AT MOST 1048576: true; the input reads as it did. -/
def fnExactGetRefsUptoRow : OpenClaim := { program := "ytllngpnhhpnjoaadoor", sum := "59fe03e957f86150444df05b0a44298b5b3638d14c4ef2b5a8c23a328149924a", func := "loop.example/g00421/laws.FnExactGetRefs", spec := "fnExactGetRefs", unfollowed := true, recurses := true, named := ["unicode/utf8.first", "unicode/utf8.acceptRanges"], loops := true, apart := false, laid := [("unicode/utf8.acceptRanges", laid_unicode_utf8_acceptRanges), ("unicode/utf8.first", laid_unicode_utf8_first)], narrowed := true }
def FnExactGetRefsUptoSaid : Prop := fnExactGetRefsUptoRow.holds Tryd.pinned (OpenSpec.upto fnExactGetRefsSpec)

/-- 'laws.FnExactPutRefs', WHERE WHAT IT READS IS OF BULK AT MOST 1048576: true; the input reads as it did. -/
def fnExactPutRefsUptoRow : OpenClaim := { program := "ytllngpnhhpnjoaadoor", sum := "59fe03e957f86150444df05b0a44298b5b3638d14c4ef2b5a8c23a328149924a", func := "loop.example/g00421/laws.FnExactPutRefs", spec := "fnExactPutRefs", unfollowed := true, recurses := true, named := ["unicode/utf8.first", "unicode/utf8.acceptRanges"], loops := true, apart := false, laid := [("unicode/utf8.acceptRanges", laid_unicode_utf8_acceptRanges), ("unicode/utf8.first", laid_unicode_utf8_first)], narrowed := true }
def FnExactPutRefsUptoSaid : Prop := fnExactPutRefsUptoRow.holds Tryd.pinned (OpenSpec.upto fnExactPutRefsSpec)

/-- 'laws.FnExactMapKeys', WHERE WHAT IT READS IS OF BULK AT MOST 1048576: true; the input reads as it did. -/
def fnExactMapKeysUptoRow : OpenClaim := { program := "ytllngpnhhpnjoaadoor", sum := "59fe03e957f86150444df05b0a44298b5b3638d14c4ef2b5a8c23a328149924a", func := "loop.example/g00421/laws.FnExactMapKeys", spec := "fnExactMapKeys", unfollowed := true, recurses := true, named := ["unicode/utf8.first", "unicode/utf8.acceptRanges"], loops := true, apart := false, laid := [("unicode/utf8.acceptRanges", laid_unicode_utf8_acceptRanges), ("unicode/utf8.first", laid_unicode_utf8_first)], narrowed := true }
def FnExactMapKeysUptoSaid : Prop := fnExactMapKeysUptoRow.holds Tryd.pinned (OpenSpec.upto fnExactMapKeysSpec)

/-- 'laws.FnExactUnmapKeys', WHERE WHAT IT READS IS OF BULK AT MOST 1048576: true; the input reads as it did. -/
def fnExactUnmapKeysUptoRow : OpenClaim := { program := "ytllngpnhhpnjoaadoor", sum := "59fe03e957f86150444df05b0a44298b5b3638d14c4ef2b5a8c23a328149924a", func := "loop.example/g00421/laws.FnExactUnmapKeys", spec := "fnExactUnmapKeys", unfollowed := true, recurses := true, named := ["unicode/utf8.first", "unicode/utf8.acceptRanges"], loops := true, apart := false, laid := [("unicode/utf8.acceptRanges", laid_unicode_utf8_acceptRanges), ("unicode/utf8.first", laid_unicode_utf8_first)], narrowed := true }
def FnExactUnmapKeysUptoSaid : Prop := fnExactUnmapKeysUptoRow.holds Tryd.pinned (OpenSpec.upto fnExactUnmapKeysSpec)

/-- 'laws.FnMerge', WHERE WHAT IT READS IS OF BULK AT MOST 1048576: true; the input reads as it did. -/
def fnMergeUptoRow : OpenClaim := { program := "ytllngpnhhpnjoaadoor", sum := "59fe03e957f86150444df05b0a44298b5b3638d14c4ef2b5a8c23a328149924a", func := "loop.example/g00421/laws.FnMerge", spec := "fnMerge", unfollowed := true, recurses := true, named := ["unicode/utf8.first", "unicode/utf8.acceptRanges"], apart := false, laid := [("unicode/utf8.acceptRanges", laid_unicode_utf8_acceptRanges), ("unicode/utf8.first", laid_unicode_utf8_first)], narrowed := true }
def FnMergeUptoSaid : Prop := fnMergeUptoRow.holds Tryd.pinned (OpenSpec.upto fnMergeSpec)

/-- 'laws.FnExactSameFields', WHERE WHAT IT READS IS OF BULK AT MOST 1048576: true; the input reads as it did. -/
def fnExactSameFieldsUptoRow : OpenClaim := { program := "ytllngpnhhpnjoaadoor", sum := "59fe03e957f86150444df05b0a44298b5b3638d14c4ef2b5a8c23a328149924a", func := "loop.example/g00421/laws.FnExactSameFields", spec := "fnExactSameFields", unfollowed := true, recurses := true, named := ["unicode/utf8.first", "unicode/utf8.acceptRanges"], loops := true, apart := false, laid := [("unicode/utf8.acceptRanges", laid_unicode_utf8_acceptRanges), ("unicode/utf8.first", laid_unicode_utf8_first)], narrowed := true }
def FnExactSameFieldsUptoSaid : Prop := fnExactSameFieldsUptoRow.holds Tryd.pinned (OpenSpec.upto fnExactSameFieldsSpec)

/-- 'laws.FnExactSaved', WHERE WHAT IT READS IS OF BULK AT MOST 1048576: true; the input reads as it did. -/
def fnExactSavedUptoRow : OpenClaim := { program := "ytllngpnhhpnjoaadoor", sum := "59fe03e957f86150444df05b0a44298b5b3638d14c4ef2b5a8c23a328149924a", func := "loop.example/g00421/laws.FnExactSaved", spec := "fnExactSaved", inPlace := ["internal/abi.NoEscape"], unfollowed := true, recurses := true, named := ["unicode/utf8.first", "unicode/utf8.acceptRanges"], loops := true, apart := false, laid := [("unicode/utf8.acceptRanges", laid_unicode_utf8_acceptRanges), ("unicode/utf8.first", laid_unicode_utf8_first)], narrowed := true }
def FnExactSavedUptoSaid : Prop := fnExactSavedUptoRow.holds Tryd.pinned (OpenSpec.upto fnExactSavedSpec)

/-- 'laws.FnExactGain', WHERE WHAT IT READS IS OF BULK AT MOST 1048576: true; the input reads as it did. -/
def fnExactGainUptoRow : OpenClaim := { program := "ytllngpnhhpnjoaadoor", sum := "59fe03e957f86150444df05b0a44298b5b3638d14c4ef2b5a8c23a328149924a", func := "loop.example/g00421/laws.FnExactGain", spec := "fnExactGain", inPlace := ["internal/abi.NoEscape"], unfollowed := true, recurses := true, named := ["unicode/utf8.first", "unicode/utf8.acceptRanges"], loops := true, apart := false, laid := [("unicode/utf8.acceptRanges", laid_unicode_utf8_acceptRanges), ("unicode/utf8.first", laid_unicode_utf8_first)], narrowed := true }
def FnExactGainUptoSaid : Prop := fnExactGainUptoRow.holds Tryd.pinned (OpenSpec.upto fnExactGainSpec)

/-- 'laws.FnExactGetMsg', WHERE WHAT IT READS IS OF BULK AT MOST 1048576: true; the input reads as it did. -/
def fnExactGetMsgUptoRow : OpenClaim := { program := "ytllngpnhhpnjoaadoor", sum := "59fe03e957f86150444df05b0a44298b5b3638d14c4ef2b5a8c23a328149924a", func := "loop.example/g00421/laws.FnExactGetMsg", spec := "fnExactGetMsg", inPlace := ["internal/abi.NoEscape"], unfollowed := true, recurses := true, named := ["unicode/utf8.first", "unicode/utf8.acceptRanges"], apart := false, laid := [("unicode/utf8.acceptRanges", laid_unicode_utf8_acceptRanges), ("unicode/utf8.first", laid_unicode_utf8_first)], narrowed := true }
def FnExactGetMsgUptoSaid : Prop := fnExactGetMsgUptoRow.holds Tryd.pinned (OpenSpec.upto fnExactGetMsgSpec)

/-- 'laws.FnExactPackGain', WHERE WHAT IT READS IS OF BULK AT MOST 1048576: true; the input reads as it did. -/
def fnExactPackGainUptoRow : OpenClaim := { program := "ytllngpnhhpnjoaadoor", sum := "59fe03e957f86150444df05b0a44298b5b3638d14c4ef2b5a8c23a328149924a", func := "loop.example/g00421/laws.FnExactPackGain", spec := "fnExactPackGain", inPlace := ["internal/abi.NoEscape"], unfollowed := true, recurses := true, named := ["unicode/utf8.first", "unicode/utf8.acceptRanges"], loops := true, apart := false, laid := [("unicode/utf8.acceptRanges", laid_unicode_utf8_acceptRanges), ("unicode/utf8.first", laid_unicode_utf8_first)], narrowed := true }
def FnExactPackGainUptoSaid : Prop := fnExactPackGainUptoRow.holds Tryd.pinned (OpenSpec.upto fnExactPackGainSpec)

end Rows
end Go.Proofs.YtllngpnhhpnjoaaDoor
