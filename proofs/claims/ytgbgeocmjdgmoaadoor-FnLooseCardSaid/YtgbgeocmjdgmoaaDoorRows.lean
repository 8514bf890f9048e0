/-
  NARROWER THAN 'FOR EVERY INPUT', by the rows' own cells (each row's printed sentence says how): FnMerge: laid · FnExactPackGain: loops, laid · FnExactTrain: loops, laid · FnMsg: laid · FnTrain: laid · FnExactPaths: loops, laid · FnExactPretty: loops, laid · FnExactPutJson: loops, laid · FnCbor: laid · FnLoose: laid.
  DERIVED. THE GIVEN ROWS OF THIS SEAT. 10 by the template 'for every input the law returns true; each argument reads behind the call as it read before'; 0 by the template 'total and deterministic' (their statements: YtgbgeocmjdgmoaaDoorTotals.lean).
  GIVEN WITH THE SEED: the statements are not yours to turn. If you find one false, say at which input.
  Laid BY PROGRAM, IN A SANDBOX (cutbox-rows.mjs): the forced cells as the released guide's own fill.sh prints them over the translation 103673645d328f5b… (all of the seat's roots in one cut). By AI agents, Wed Nov 11 2026. No macro, syntax, notation, axiom, sorry.
-/
import Derived.Test.YtgbgeocmjdgmoaaDoorChecked
import GoSem.PinnedTables
import GoSem.Claim
import GoSem.ClaimJoined
import GoSem.ClaimMapViews
import Derived.JoinedTies
import Derived.KernelRfl
namespace Go.Proofs.YtgbgeocmjdgmoaaDoor
/- THE CELL 'sum', in the pinned program and in every row, IS THE sha256 OF THE DUMP (.gsa) THAT YtgbgeocmjdgmoaaDoorProg.lean LOADS. Nothing in Lean hashes anything: it is a label: what it is worth is what the hold of that sum in a sandbox is worth. -/
noncomputable def Tryd.pinned : Pinned := { name := "ytgbgeocmjdgmoaadoor", sum := "103673645d328f5badddc1c6ebd40cb34492a6ed1c78b01caa5d9bdac7fb32a0", checked := Tryd.checked }
namespace Rows
def none {H : Type} : Left H := { results := [], args := [] }

/- WHAT THE LISTED PACKAGE-LEVEL VARIABLES READ AS WHEN THE CALL BEGINS. Each datum BY PROGRAM (the guide's laid-datum.mjs) off the statement by which the dump's own 'gosem.cut.vars' lays the variable. In a bare row this is a premise. The card (YtgbgeocmjdgmoaaDoorCards.lean) ties it to the program's text. -/
def laid_unicode_utf8_acceptRanges {H : Type} : DataW H := .agg [.agg [.lit (.int .u8 128), .lit (.int .u8 191)], .agg [.lit (.int .u8 160), .lit (.int .u8 191)], .agg [.lit (.int .u8 128), .lit (.int .u8 159)], .agg [.lit (.int .u8 144), .lit (.int .u8 191)], .agg [.lit (.int .u8 128), .lit (.int .u8 143)], .agg [.lit (.int .u8 0), .lit (.int .u8 0)], .agg [.lit (.int .u8 0), .lit (.int .u8 0)], .agg [.lit (.int .u8 0), .lit (.int .u8 0)], .agg [.lit (.int .u8 0), .lit (.int .u8 0)], .agg [.lit (.int .u8 0), .lit (.int .u8 0)], .agg [.lit (.int .u8 0), .lit (.int .u8 0)], .agg [.lit (.int .u8 0), .lit (.int .u8 0)], .agg [.lit (.int .u8 0), .lit (.int .u8 0)], .agg [.lit (.int .u8 0), .lit (.int .u8 0)], .agg [.lit (.int .u8 0), .lit (.int .u8 0)], .agg [.lit (.int .u8 0), .lit (.int .u8 0)]]
/-- One of Go's own tables, pinned by name: the form's constant. -/
def laid_unicode_utf8_first : DataW Unit := Go.Pinned.utf8First
def laid_math_bits_deBruijn32tab {H : Type} : DataW H := .agg [.lit (.int .u8 0), .lit (.int .u8 1), .lit (.int .u8 28), .lit (.int .u8 2), .lit (.int .u8 29), .lit (.int .u8 14), .lit (.int .u8 24), .lit (.int .u8 3), .lit (.int .u8 30), .lit (.int .u8 22), .lit (.int .u8 20), .lit (.int .u8 15), .lit (.int .u8 25), .lit (.int .u8 17), .lit (.int .u8 4), .lit (.int .u8 8), .lit (.int .u8 31), .lit (.int .u8 27), .lit (.int .u8 13), .lit (.int .u8 23), .lit (.int .u8 21), .lit (.int .u8 19), .lit (.int .u8 16), .lit (.int .u8 7), .lit (.int .u8 26), .lit (.int .u8 12), .lit (.int .u8 18), .lit (.int .u8 6), .lit (.int .u8 11), .lit (.int .u8 5), .lit (.int .u8 10), .lit (.int .u8 9)]
def laid_math_bits_deBruijn64tab {H : Type} : DataW H := .agg [.lit (.int .u8 0), .lit (.int .u8 1), .lit (.int .u8 56), .lit (.int .u8 2), .lit (.int .u8 57), .lit (.int .u8 49), .lit (.int .u8 28), .lit (.int .u8 3), .lit (.int .u8 61), .lit (.int .u8 58), .lit (.int .u8 42), .lit (.int .u8 50), .lit (.int .u8 38), .lit (.int .u8 29), .lit (.int .u8 17), .lit (.int .u8 4), .lit (.int .u8 62), .lit (.int .u8 47), .lit (.int .u8 59), .lit (.int .u8 36), .lit (.int .u8 45), .lit (.int .u8 43), .lit (.int .u8 51), .lit (.int .u8 22), .lit (.int .u8 53), .lit (.int .u8 39), .lit (.int .u8 33), .lit (.int .u8 30), .lit (.int .u8 24), .lit (.int .u8 18), .lit (.int .u8 12), .lit (.int .u8 5), .lit (.int .u8 63), .lit (.int .u8 55), .lit (.int .u8 48), .lit (.int .u8 27), .lit (.int .u8 60), .lit (.int .u8 41), .lit (.int .u8 37), .lit (.int .u8 16), .lit (.int .u8 46), .lit (.int .u8 35), .lit (.int .u8 44), .lit (.int .u8 21), .lit (.int .u8 52), .lit (.int .u8 32), .lit (.int .u8 23), .lit (.int .u8 11), .lit (.int .u8 54), .lit (.int .u8 26), .lit (.int .u8 40), .lit (.int .u8 15), .lit (.int .u8 34), .lit (.int .u8 20), .lit (.int .u8 31), .lit (.int .u8 10), .lit (.int .u8 25), .lit (.int .u8 14), .lit (.int .u8 19), .lit (.int .u8 9), .lit (.int .u8 13), .lit (.int .u8 8), .lit (.int .u8 7), .lit (.int .u8 6)]
def laid_internal_strconv_uint64pow10 {H : Type} : DataW H := .agg [.lit (.int .u64 1), .lit (.int .u64 10), .lit (.int .u64 100), .lit (.int .u64 1000), .lit (.int .u64 10000), .lit (.int .u64 100000), .lit (.int .u64 1000000), .lit (.int .u64 10000000), .lit (.int .u64 100000000), .lit (.int .u64 1000000000), .lit (.int .u64 10000000000), .lit (.int .u64 100000000000), .lit (.int .u64 1000000000000), .lit (.int .u64 10000000000000), .lit (.int .u64 100000000000000), .lit (.int .u64 1000000000000000), .lit (.int .u64 10000000000000000), .lit (.int .u64 100000000000000000), .lit (.int .u64 1000000000000000000), .lit (.int .u64 10000000000000000000)]

/-- 'laws.FnMerge': WHATEVER THE INPUT: true; the input reads as it did. -/
def fnMergeSpec : ChangeSpec := { name := "fnMerge", fn := fun _ => fun
  | [d] => { results := [.lit (.bool true)], args := [d] }
  | _ => none }
def fnMergeRow : OpenClaim := { program := "ytgbgeocmjdgmoaadoor", sum := "103673645d328f5badddc1c6ebd40cb34492a6ed1c78b01caa5d9bdac7fb32a0", func := "loop.example/g00421/laws.FnMerge", spec := "fnMerge", unfollowed := true, recurses := true, named := ["unicode/utf8.first", "unicode/utf8.acceptRanges"], apart := false, laid := [("unicode/utf8.acceptRanges", laid_unicode_utf8_acceptRanges), ("unicode/utf8.first", laid_unicode_utf8_first)] }
def FnMergeSaid : Prop := fnMergeRow.holds Tryd.pinned (OpenSpec.ofChange fnMergeSpec)

/-- ITS FALSE NEIGHBOUR: 'it returns false'. Refute it at one input. -/
def fnMergeWrong : ChangeSpec := { name := "fnMerge", fn := fun _ => fun
  | [d] => { results := [.lit (.bool false)], args := [d] }
  | _ => none }
def FnMergeWrongFalsely : Prop := fnMergeRow.holds Tryd.pinned (OpenSpec.ofChange fnMergeWrong)

/-- 'laws.FnExactPackGain': WHATEVER THE INPUT: true; the input reads as it did. -/
def fnExactPackGainSpec : ChangeSpec := { name := "fnExactPackGain", fn := fun _ => fun
  | [d1, d2] => { results := [.lit (.bool true)], args := [d1, d2] }
  | _ => none }
def fnExactPackGainRow : OpenClaim := { program := "ytgbgeocmjdgmoaadoor", sum := "103673645d328f5badddc1c6ebd40cb34492a6ed1c78b01caa5d9bdac7fb32a0", func := "loop.example/g00421/laws.FnExactPackGain", spec := "fnExactPackGain", inPlace := ["internal/abi.NoEscape"], unfollowed := true, recurses := true, named := ["unicode/utf8.first", "unicode/utf8.acceptRanges"], loops := true, apart := false, laid := [("unicode/utf8.acceptRanges", laid_unicode_utf8_acceptRanges), ("unicode/utf8.first", laid_unicode_utf8_first)] }
def FnExactPackGainSaid : Prop := fnExactPackGainRow.holds Tryd.pinned (OpenSpec.ofChange fnExactPackGainSpec)

/-- ITS FALSE NEIGHBOUR: 'it returns false'. Refute it at one input. -/
def fnExactPackGainWrong : ChangeSpec := { name := "fnExactPackGain", fn := fun _ => fun
  | [d1, d2] => { results := [.lit (.bool false)], args := [d1, d2] }
  | _ => none }
def FnExactPackGainWrongFalsely : Prop := fnExactPackGainRow.holds Tryd.pinned (OpenSpec.ofChange fnExactPackGainWrong)

/-- 'laws.FnExactTrain': WHATEVER THE INPUT: true; the input reads as it did. -/
def fnExactTrainSpec : ChangeSpec := { name := "fnExactTrain", fn := fun _ => fun
  | [d1, d2] => { results := [.lit (.bool true)], args := [d1, d2] }
  | _ => none }
def fnExactTrainRow : OpenClaim := { program := "ytgbgeocmjdgmoaadoor", sum := "103673645d328f5badddc1c6ebd40cb34492a6ed1c78b01caa5d9bdac7fb32a0", func := "loop.example/g00421/laws.FnExactTrain", spec := "fnExactTrain", unfollowed := true, recurses := true, named := ["unicode/utf8.first", "unicode/utf8.acceptRanges"], loops := true, apart := false, laid := [("unicode/utf8.acceptRanges", laid_unicode_utf8_acceptRanges), ("unicode/utf8.first", laid_unicode_utf8_first)] }
def FnExactTrainSaid : Prop := fnExactTrainRow.holds Tryd.pinned (OpenSpec.ofChange fnExactTrainSpec)

/-- ITS FALSE NEIGHBOUR: 'it returns false'. Refute it at one input. -/
def fnExactTrainWrong : ChangeSpec := { name := "fnExactTrain", fn := fun _ => fun
  | [d1, d2] => { results := [.lit (.bool false)], args := [d1, d2] }
  | _ => none }
def FnExactTrainWrongFalsely : Prop := fnExactTrainRow.holds Tryd.pinned (OpenSpec.ofChange fnExactTrainWrong)

/-- 'laws.FnMsg': WHATEVER THE INPUT: true; the input reads as it did. -/
def fnMsgSpec : ChangeSpec := { name := "fnMsg", fn := fun _ => fun
  | [d] => { results := [.lit (.bool true)], args := [d] }
  | _ => none }
def fnMsgRow : OpenClaim := { program := "ytgbgeocmjdgmoaadoor", sum := "103673645d328f5badddc1c6ebd40cb34492a6ed1c78b01caa5d9bdac7fb32a0", func := "loop.example/g00421/laws.FnMsg", spec := "fnMsg", inPlace := ["internal/abi.NoEscape"], unfollowed := true, recurses := true, named := ["unicode/utf8.first", "unicode/utf8.acceptRanges"], apart := false, laid := [("unicode/utf8.acceptRanges", laid_unicode_utf8_acceptRanges), ("unicode/utf8.first", laid_unicode_utf8_first)] }
def FnMsgSaid : Prop := fnMsgRow.holds Tryd.pinned (OpenSpec.ofChange fnMsgSpec)

/-- ITS FALSE NEIGHBOUR: 'it returns false'. Refute it at one input. -/
def fnMsgWrong : ChangeSpec := { name := "fnMsg", fn := fun _ => fun
  | [d] => { results := [.lit (.bool false)], args := [d] }
  | _ => none }
def FnMsgWrongFalsely : Prop := fnMsgRow.holds Tryd.pinned (OpenSpec.ofChange fnMsgWrong)

/-- 'laws.FnTrain': WHATEVER THE INPUT: true; the input reads as it did. -/
def fnTrainSpec : ChangeSpec := { name := "fnTrain", fn := fun _ => fun
  | [d] => { results := [.lit (.bool true)], args := [d] }
  | _ => none }
def fnTrainRow : OpenClaim := { program := "ytgbgeocmjdgmoaadoor", sum := "103673645d328f5badddc1c6ebd40cb34492a6ed1c78b01caa5d9bdac7fb32a0", func := "loop.example/g00421/laws.FnTrain", spec := "fnTrain", unfollowed := true, recurses := true, named := ["unicode/utf8.first", "unicode/utf8.acceptRanges"], apart := false, laid := [("unicode/utf8.acceptRanges", laid_unicode_utf8_acceptRanges), ("unicode/utf8.first", laid_unicode_utf8_first)] }
def FnTrainSaid : Prop := fnTrainRow.holds Tryd.pinned (OpenSpec.ofChange fnTrainSpec)

/-- ITS FALSE NEIGHBOUR: 'it returns false'. Refute it at one input. -/
def fnTrainWrong : ChangeSpec := { name := "fnTrain", fn := fun _ => fun
  | [d] => { results := [.lit (.bool false)], args := [d] }
  | _ => none }
def FnTrainWrongFalsely : Prop := fnTrainRow.holds Tryd.pinned (OpenSpec.ofChange fnTrainWrong)

/-- 'laws.FnExactPaths': WHATEVER THE INPUT: true; the input reads as it did. -/
def fnExactPathsSpec : ChangeSpec := { name := "fnExactPaths", fn := fun _ => fun
  | [d] => { results := [.lit (.bool true)], args := [d] }
  | _ => none }
def fnExactPathsRow : OpenClaim := { program := "ytgbgeocmjdgmoaadoor", sum := "103673645d328f5badddc1c6ebd40cb34492a6ed1c78b01caa5d9bdac7fb32a0", func := "loop.example/g00421/laws.FnExactPaths", spec := "fnExactPaths", inPlace := ["internal/bytealg.CountString", "internal/bytealg.IndexByteString", "internal/bytealg.IndexString", "internal/abi.NoEscape", "internal/bytealg.MakeNoZero"], unfollowed := true, recurses := true, named := ["unicode/utf8.first", "unicode/utf8.acceptRanges", "internal/bytealg.MaxLen", "internal/strconv.uint64pow10", "math/bits.deBruijn32tab", "math/bits.deBruijn64tab"], loops := true, apart := false, laid := [("math/bits.deBruijn32tab", laid_math_bits_deBruijn32tab), ("math/bits.deBruijn64tab", laid_math_bits_deBruijn64tab), ("internal/strconv.uint64pow10", laid_internal_strconv_uint64pow10), ("unicode/utf8.acceptRanges", laid_unicode_utf8_acceptRanges), ("unicode/utf8.first", laid_unicode_utf8_first)] }
def FnExactPathsSaid : Prop := fnExactPathsRow.holds Tryd.pinned (OpenSpec.ofChange fnExactPathsSpec)

/-- ITS FALSE NEIGHBOUR: 'it returns false'. Refute it at one input. -/
def fnExactPathsWrong : ChangeSpec := { name := "fnExactPaths", fn := fun _ => fun
  | [d] => { results := [.lit (.bool false)], args := [d] }
  | _ => none }
def FnExactPathsWrongFalsely : Prop := fnExactPathsRow.holds Tryd.pinned (OpenSpec.ofChange fnExactPathsWrong)

/-- 'laws.FnExactPretty': WHATEVER THE INPUT: true; the input reads as it did. -/
def fnExactPrettySpec : ChangeSpec := { name := "fnExactPretty", fn := fun _ => fun
  | [d] => { results := [.lit (.bool true)], args := [d] }
  | _ => none }
def fnExactPrettyRow : OpenClaim := { program := "ytgbgeocmjdgmoaadoor", sum := "103673645d328f5badddc1c6ebd40cb34492a6ed1c78b01caa5d9bdac7fb32a0", func := "loop.example/g00421/laws.FnExactPretty", spec := "fnExactPretty", inPlace := ["internal/abi.NoEscape", "internal/bytealg.MakeNoZero", "internal/bytealg.IndexByteString"], unfollowed := true, recurses := true, named := ["unicode/utf8.first", "unicode/utf8.acceptRanges", "internal/strconv.uint64pow10", "math/bits.deBruijn32tab", "math/bits.deBruijn64tab"], loops := true, apart := false, laid := [("math/bits.deBruijn32tab", laid_math_bits_deBruijn32tab), ("math/bits.deBruijn64tab", laid_math_bits_deBruijn64tab), ("internal/strconv.uint64pow10", laid_internal_strconv_uint64pow10), ("unicode/utf8.acceptRanges", laid_unicode_utf8_acceptRanges), ("unicode/utf8.first", laid_unicode_utf8_first)] }
def FnExactPrettySaid : Prop := fnExactPrettyRow.holds Tryd.pinned (OpenSpec.ofChange fnExactPrettySpec)

/-- ITS FALSE NEIGHBOUR: 'it returns false'. Refute it at one input. -/
def fnExactPrettyWrong : ChangeSpec := { name := "fnExactPretty", fn := fun _ => fun
  | [d] => { results := [.lit (.bool false)], args := [d] }
  | _ => none }
def FnExactPrettyWrongFalsely : Prop := fnExactPrettyRow.holds Tryd.pinned (OpenSpec.ofChange fnExactPrettyWrong)

/-- 'laws.FnExactPutJson': WHATEVER THE INPUT: true; the input reads as it did. -/
def fnExactPutJsonSpec : ChangeSpec := { name := "fnExactPutJson", fn := fun _ => fun
  | [d] => { results := [.lit (.bool true)], args := [d] }
  | _ => none }
def fnExactPutJsonRow : OpenClaim := { program := "ytgbgeocmjdgmoaadoor", sum := "103673645d328f5badddc1c6ebd40cb34492a6ed1c78b01caa5d9bdac7fb32a0", func := "loop.example/g00421/laws.FnExactPutJson", spec := "fnExactPutJson", inPlace := ["internal/abi.NoEscape", "internal/bytealg.MakeNoZero", "internal/bytealg.IndexByteString"], unfollowed := true, recurses := true, named := ["unicode/utf8.first", "unicode/utf8.acceptRanges", "internal/strconv.uint64pow10", "math/bits.deBruijn32tab", "math/bits.deBruijn64tab"], loops := true, apart := false, laid := [("math/bits.deBruijn32tab", laid_math_bits_deBruijn32tab), ("math/bits.deBruijn64tab", laid_math_bits_deBruijn64tab), ("internal/strconv.uint64pow10", laid_internal_strconv_uint64pow10), ("unicode/utf8.acceptRanges", laid_unicode_utf8_acceptRanges), ("unicode/utf8.first", laid_unicode_utf8_first)] }
def FnExactPutJsonSaid : Prop := fnExactPutJsonRow.holds Tryd.pinned (OpenSpec.ofChange fnExactPutJsonSpec)

/-- ITS FALSE NEIGHBOUR: 'it returns false'. Refute it at one input. -/
def fnExactPutJsonWrong : ChangeSpec := { name := "fnExactPutJson", fn := fun _ => fun
  | [d] => { results := [.lit (.bool false)], args := [d] }
  | _ => none }
def FnExactPutJsonWrongFalsely : Prop := fnExactPutJsonRow.holds Tryd.pinned (OpenSpec.ofChange fnExactPutJsonWrong)

/-- 'laws.FnCbor': WHATEVER THE INPUT: true; the input reads as it did. -/
def fnCborSpec : ChangeSpec := { name := "fnCbor", fn := fun _ => fun
  | [d] => { results := [.lit (.bool true)], args := [d] }
  | _ => none }
def fnCborRow : OpenClaim := { program := "ytgbgeocmjdgmoaadoor", sum := "103673645d328f5badddc1c6ebd40cb34492a6ed1c78b01caa5d9bdac7fb32a0", func := "loop.example/g00421/laws.FnCbor", spec := "fnCbor", inPlace := ["internal/abi.NoEscape"], unfollowed := true, recurses := true, named := ["unicode/utf8.first", "unicode/utf8.acceptRanges"], apart := false, laid := [("unicode/utf8.acceptRanges", laid_unicode_utf8_acceptRanges), ("unicode/utf8.first", laid_unicode_utf8_first)] }
def FnCborSaid : Prop := fnCborRow.holds Tryd.pinned (OpenSpec.ofChange fnCborSpec)

/-- ITS FALSE NEIGHBOUR: 'it returns false'. Refute it at one input. -/
def fnCborWrong : ChangeSpec := { name := "fnCbor", fn := fun _ => fun
  | [d] => { results := [.lit (.bool false)], args := [d] }
  | _ => none }
def FnCborWrongFalsely : Prop := fnCborRow.holds Tryd.pinned (OpenSpec.ofChange fnCborWrong)

/-- 'laws.FnLoose': WHATEVER THE INPUT: true; the input reads as it did. -/
def fnLooseSpec : ChangeSpec := { name := "fnLoose", fn := fun _ => fun
  | [d] => { results := [.lit (.bool true)], args := [d] }
  | _ => none }
def fnLooseRow : OpenClaim := { program := "ytgbgeocmjdgmoaadoor", sum := "103673645d328f5badddc1c6ebd40cb34492a6ed1c78b01caa5d9bdac7fb32a0", func := "loop.example/g00421/laws.FnLoose", spec := "fnLoose", inPlace := ["internal/abi.NoEscape"], unfollowed := true, recurses := true, named := ["unicode/utf8.first", "unicode/utf8.acceptRanges"], apart := false, laid := [("unicode/utf8.acceptRanges", laid_unicode_utf8_acceptRanges), ("unicode/utf8.first", laid_unicode_utf8_first)] }
def FnLooseSaid : Prop := fnLooseRow.holds Tryd.pinned (OpenSpec.ofChange fnLooseSpec)

/-- ITS FALSE NEIGHBOUR: 'it returns false'. Refute it at one input. -/
def fnLooseWrong : ChangeSpec := { name := "fnLoose", fn := fun _ => fun
  | [d] => { results := [.lit (.bool false)], args := [d] }
  | _ => none }
def FnLooseWrongFalsely : Prop := fnLooseRow.holds Tryd.pinned (OpenSpec.ofChange fnLooseWrong)

/- THE SECOND FORM. 'bulk': how many values and letters a reading holds, each counted each time it is reached (what is shared counts as often as it is met; a slice's spare places count too). A statement '..UptoSaid' is the law's where the arguments, and the package variables that the reading takes, are together of bulk at most 1048576: NARROWER than '..Said'. Prove '..Said' where nothing that the law and all that it calls make is longer than what came in: it says more and counts as full. Else prove '..UptoSaid'. A law counts once. -/
mutual
def uptoBulk {H : Type} : DataW H → Nat
  | .lit (.string bytes) => bytes.length + 1
  | .lit _ => 1
  | .nil => 1
  | .ptr d => uptoBulk d + 1
  | .slice elems spare => uptoBulkAll elems + uptoBulkAll spare + 1
  | .agg parts => uptoBulkAll parts + 1
  | .iface _ d => uptoBulk d + 1
  | .map entries => uptoBulkEntries entries + 1
  | .held _ => 1
def uptoBulkAll {H : Type} : List (DataW H) → Nat
  | [] => 0
  | d :: r => uptoBulk d + uptoBulkAll r
def uptoBulkEntries {H : Type} : List (Lit × DataW H) → Nat
  | [] => 0
  | x :: r => uptoBulkEntry x + uptoBulkEntries r
def uptoBulkEntry {H : Type} : Lit × DataW H → Nat
  | (.string bytes, d) => bytes.length + uptoBulk d + 1
  | (_, d) => uptoBulk d + 1
 end
def uptoSmall : (H : Type) → List (DataW H) → Bool := fun _ ds => decide (uptoBulkAll ds ≤ 1048576)
def OpenSpec.upto (s : _root_.Go.ChangeSpec) : _root_.Go.OpenSpec := { _root_.Go.OpenSpec.ofChange s with cond := some uptoSmall }

/-- 'laws.FnMerge', WHERE WHAT IT READS IS OF BULK AT MOST 1048576: true; the input reads as it did. -/
def fnMergeUptoRow : OpenClaim := { program := "ytgbgeocmjdgmoaadoor", sum := "103673645d328f5badddc1c6ebd40cb34492a6ed1c78b01caa5d9bdac7fb32a0", func := "loop.example/g00421/laws.FnMerge", spec := "fnMerge", unfollowed := true, recurses := true, named := ["unicode/utf8.first", "unicode/utf8.acceptRanges"], apart := false, laid := [("unicode/utf8.acceptRanges", laid_unicode_utf8_acceptRanges), ("unicode/utf8.first", laid_unicode_utf8_first)], narrowed := true }
def FnMergeUptoSaid : Prop := fnMergeUptoRow.holds Tryd.pinned (OpenSpec.upto fnMergeSpec)

/-- 'laws.FnExactPackGain', WHERE WHAT IT READS IS OF BULK AT MOST 1048576: true; the input reads as it did. -/
def fnExactPackGainUptoRow : OpenClaim := { program := "ytgbgeocmjdgmoaadoor", sum := "103673645d328f5badddc1c6ebd40cb34492a6ed1c78b01caa5d9bdac7fb32a0", func := "loop.example/g00421/laws.FnExactPackGain", spec := "fnExactPackGain", inPlace := ["internal/abi.NoEscape"], unfollowed := true, recurses := true, named := ["unicode/utf8.first", "unicode/utf8.acceptRanges"], loops := true, apart := false, laid := [("unicode/utf8.acceptRanges", laid_unicode_utf8_acceptRanges), ("unicode/utf8.first", laid_unicode_utf8_first)], narrowed := true }
def FnExactPackGainUptoSaid : Prop := fnExactPackGainUptoRow.holds Tryd.pinned (OpenSpec.upto fnExactPackGainSpec)

/-- 'laws.FnExactTrain', WHERE WHAT IT READS IS OF BULK AT MOST 1048576: true; the input reads as it did. -/
def fnExactTrainUptoRow : OpenClaim := { program := "ytgbgeocmjdgmoaadoor", sum := "103673645d328f5badddc1c6ebd40cb34492a6ed1c78b01caa5d9bdac7fb32a0", func := "loop.example/g00421/laws.FnExactTrain", spec := "fnExactTrain", unfollowed := true, recurses := true, named := ["unicode/utf8.first", "unicode/utf8.acceptRanges"], loops := true, apart := false, laid := [("unicode/utf8.acceptRanges", laid_unicode_utf8_acceptRanges), ("unicode/utf8.first", laid_unicode_utf8_first)], narrowed := true }
def FnExactTrainUptoSaid : Prop := fnExactTrainUptoRow.holds Tryd.pinned (OpenSpec.upto fnExactTrainSpec)

/-- 'laws.FnMsg', WHERE WHAT IT READS IS OF BULK AT MOST 1048576: true; the input reads as it did. -/
def fnMsgUptoRow : OpenClaim := { program := "ytgbgeocmjdgmoaadoor", sum := "103673645d328f5badddc1c6ebd40cb34492a6ed1c78b01caa5d9bdac7fb32a0", func := "loop.example/g00421/laws.FnMsg", spec := "fnMsg", inPlace := ["internal/abi.NoEscape"], unfollowed := true, recurses := true, named := ["unicode/utf8.first", "unicode/utf8.acceptRanges"], apart := false, laid := [("unicode/utf8.acceptRanges", laid_unicode_utf8_acceptRanges), ("unicode/utf8.first", laid_unicode_utf8_first)], narrowed := true }
def FnMsgUptoSaid : Prop := fnMsgUptoRow.holds Tryd.pinned (OpenSpec.upto fnMsgSpec)

/-- 'laws.FnTrain', WHERE WHAT IT READS IS OF BULK AT MOST 1048576: true; the input reads as it did. -/
def fnTrainUptoRow : OpenClaim := { program := "ytgbgeocmjdgmoaadoor", sum := "103673645d328f5badddc1c6ebd40cb34492a6ed1c78b01caa5d9bdac7fb32a0", func := "loop.example/g00421/laws.FnTrain", spec := "fnTrain", unfollowed := true, recurses := true, named := ["unicode/utf8.first", "unicode/utf8.acceptRanges"], apart := false, laid := [("unicode/utf8.acceptRanges", laid_unicode_utf8_acceptRanges), ("unicode/utf8.first", laid_unicode_utf8_first)], narrowed := true }
def FnTrainUptoSaid : Prop := fnTrainUptoRow.holds Tryd.pinned (OpenSpec.upto fnTrainSpec)

/-- 'laws.FnExactPaths', WHERE WHAT IT READS IS OF BULK AT MOST 1048576: true; the input reads as it did. -/
def fnExactPathsUptoRow : OpenClaim := { program := "ytgbgeocmjdgmoaadoor", sum := "103673645d328f5badddc1c6ebd40cb34492a6ed1c78b01caa5d9bdac7fb32a0", func := "loop.example/g00421/laws.FnExactPaths", spec := "fnExactPaths", inPlace := ["internal/bytealg.CountString", "internal/bytealg.IndexByteString", "internal/bytealg.IndexString", "internal/abi.NoEscape", "internal/bytealg.MakeNoZero"], unfollowed := true, recurses := true, named := ["unicode/utf8.first", "unicode/utf8.acceptRanges", "internal/bytealg.MaxLen", "internal/strconv.uint64pow10", "math/bits.deBruijn32tab", "math/bits.deBruijn64tab"], loops := true, apart := false, laid := [("math/bits.deBruijn32tab", laid_math_bits_deBruijn32tab), ("math/bits.deBruijn64tab", laid_math_bits_deBruijn64tab), ("internal/strconv.uint64pow10", laid_internal_strconv_uint64pow10), ("unicode/utf8.acceptRanges", laid_unicode_utf8_acceptRanges), ("unicode/utf8.first", laid_unicode_utf8_first)], narrowed := true }
def FnExactPathsUptoSaid : Prop := fnExactPathsUptoRow.holds Tryd.pinned (OpenSpec.upto fnExactPathsSpec)

/-- 'laws.FnExactPretty', WHERE WHAT IT READS IS OF BULK AT MOST 1048576: true; the input reads as it did. -/
def fnExactPrettyUptoRow : OpenClaim := { program := "ytgbgeocmjdgmoaadoor", sum := "103673645d328f5badddc1c6ebd40cb34492a6ed1c78b01caa5d9bdac7fb32a0", func := "loop.example/g00421/laws.FnExactPretty", spec := "fnExactPretty", inPlace := ["internal/abi.NoEscape", "internal/bytealg.MakeNoZero", "internal/bytealg.IndexByteString"], unfollowed := true, recurses := true, named := ["unicode/utf8.first", "unicode/utf8.acceptRanges", "internal/strconv.uint64pow10", "math/bits.deBruijn32tab", "math/bits.deBruijn64tab"], loops := true, apart := false, laid := [("math/bits.deBruijn32tab", laid_math_bits_deBruijn32tab), ("math/bits.deBruijn64tab", laid_math_bits_deBruijn64tab), ("internal/strconv.uint64pow10", laid_internal_strconv_uint64pow10), ("unicode/utf8.acceptRanges", laid_unicode_utf8_acceptRanges), ("unicode/utf8.first", laid_unicode_utf8_first)], narrowed := true }
def FnExactPrettyUptoSaid : Prop := fnExactPrettyUptoRow.holds Tryd.pinned (OpenSpec.upto fnExactPrettySpec)

/-- 'laws.FnExactPutJson', WHERE WHAT IT READS IS OF BULK AT MOST 1048576: true; the input reads as it did. -/
def fnExactPutJsonUptoRow : OpenClaim := { program := "ytgbgeocmjdgmoaadoor", sum := "103673645d328f5badddc1c6ebd40cb34492a6ed1c78b01caa5d9bdac7fb32a0", func := "loop.example/g00421/laws.FnExactPutJson", spec := "fnExactPutJson", inPlace := ["internal/abi.NoEscape", "internal/bytealg.MakeNoZero", "internal/bytealg.IndexByteString"], unfollowed := true, recurses := true, named := ["unicode/utf8.first", "unicode/utf8.acceptRanges", "internal/strconv.uint64pow10", "math/bits.deBruijn32tab", "math/bits.deBruijn64tab"], loops := true, apart := false, laid := [("math/bits.deBruijn32tab", laid_math_bits_deBruijn32tab), ("math/bits.deBruijn64tab", laid_math_bits_deBruijn64tab), ("internal/strconv.uint64pow10", laid_internal_strconv_uint64pow10), ("unicode/utf8.acceptRanges", laid_unicode_utf8_acceptRanges), ("unicode/utf8.first", laid_unicode_utf8_first)], narrowed := true }
def FnExactPutJsonUptoSaid : Prop := fnExactPutJsonUptoRow.holds Tryd.pinned (OpenSpec.upto fnExactPutJsonSpec)

/-- 'laws.FnCbor', WHERE WHAT IT READS IS OF BULK AT MOST 1048576: true; the input reads as it did. -/
def fnCborUptoRow : OpenClaim := { program := "ytgbgeocmjdgmoaadoor", sum := "103673645d328f5badddc1c6ebd40cb34492a6ed1c78b01caa5d9bdac7fb32a0", func := "loop.example/g00421/laws.FnCbor", spec := "fnCbor", inPlace := ["internal/abi.NoEscape"], unfollowed := true, recurses := true, named := ["unicode/utf8.first", "unicode/utf8.acceptRanges"], apart := false, laid := [("unicode/utf8.acceptRanges", laid_unicode_utf8_acceptRanges), ("unicode/utf8.first", laid_unicode_utf8_first)], narrowed := true }
def FnCborUptoSaid : Prop := fnCborUptoRow.holds Tryd.pinned (OpenSpec.upto fnCborSpec)

/-- 'laws.FnLoose', WHERE WHAT IT READS IS OF BULK AT MOST 1048576: true; the input reads as it did. -/
def fnLooseUptoRow : OpenClaim := { program := "ytgbgeocmjdgmoaadoor", sum := "103673645d328f5badddc1c6ebd40cb34492a6ed1c78b01caa5d9bdac7fb32a0", func := "loop.example/g00421/laws.FnLoose", spec := "fnLoose", inPlace := ["internal/abi.NoEscape"], unfollowed := true, recurses := true, named := ["unicode/utf8.first", "unicode/utf8.acceptRanges"], apart := false, laid := [("unicode/utf8.acceptRanges", laid_unicode_utf8_acceptRanges), ("unicode/utf8.first", laid_unicode_utf8_first)], narrowed := true }
def FnLooseUptoSaid : Prop := fnLooseUptoRow.holds Tryd.pinned (OpenSpec.upto fnLooseSpec)

end Rows
end Go.Proofs.YtgbgeocmjdgmoaaDoor
