/-
  NARROWER THAN 'FOR EVERY INPUT', by the rows' own cells (each row's printed sentence says how): FnMerge: laid · FnExactSameFields: loops, laid · FnExactSumOf: loops, laid · FnExactRoot: loops, laid · FnExactCheckBranch: loops, laid · FnExactBranch: loops, laid.
  DERIVED. THE GIVEN ROWS OF THIS SEAT. 6 by the template 'for every input the law returns true; each argument reads behind the call as it read before'; 0 by the template 'total and deterministic' (their statements: YtppmoajoffeleaaDoorTotals.lean).
  GIVEN WITH THE SEED: the statements are not yours to turn. If you find one false, say at which input.
  Laid BY PROGRAM, IN A SANDBOX (cutbox-rows.mjs): the forced cells as the released guide's own fill.sh prints them over the translation fcc756a5d640a5dc… (all of the seat's roots in one cut). By AI agents, Wed Nov 11 2026. No macro, syntax, notation, axiom, sorry.
-/
import Derived.Test.YtppmoajoffeleaaDoorChecked
import GoSem.PinnedTables
import GoSem.Claim
import GoSem.ClaimJoined
import GoSem.ClaimMapViews
import Derived.JoinedTies
import Derived.KernelRfl
namespace Go.Proofs.YtppmoajoffeleaaDoor
/- THE CELL 'sum', in the pinned program and in every row, IS THE sha256 OF THE DUMP (.gsa) THAT YtppmoajoffeleaaDoorProg.lean LOADS. Nothing in Lean hashes anything: it is a label: what it is worth is what the hold of that sum in a sandbox is worth. -/
noncomputable def Tryd.pinned : Pinned := { name := "ytppmoajoffeleaadoor", sum := "fcc756a5d640a5dc87b65b8b66ad5bf2a004d129ea9c10c2b3a2300748ee0644", checked := Tryd.checked }
namespace Rows
def none {H : Type} : Left H := { results := [], args := [] }

/- WHAT THE LISTED PACKAGE-LEVEL VARIABLES READ AS WHEN THE CALL BEGINS. Each datum BY PROGRAM (the guide's laid-datum.mjs) off the statement by which the dump's own 'gosem.cut.vars' lays the variable. In a bare row this is a premise. The card (YtppmoajoffeleaaDoorCards.lean) ties it to the program's text. -/
def laid_unicode_utf8_acceptRanges {H : Type} : DataW H := .agg [.agg [.lit (.int .u8 128), .lit (.int .u8 191)], .agg [.lit (.int .u8 160), .lit (.int .u8 191)], .agg [.lit (.int .u8 128), .lit (.int .u8 159)], .agg [.lit (.int .u8 144), .lit (.int .u8 191)], .agg [.lit (.int .u8 128), .lit (.int .u8 143)], .agg [.lit (.int .u8 0), .lit (.int .u8 0)], .agg [.lit (.int .u8 0), .lit (.int .u8 0)], .agg [.lit (.int .u8 0), .lit (.int .u8 0)], .agg [.lit (.int .u8 0), .lit (.int .u8 0)], .agg [.lit (.int .u8 0), .lit (.int .u8 0)], .agg [.lit (.int .u8 0), .lit (.int .u8 0)], .agg [.lit (.int .u8 0), .lit (.int .u8 0)], .agg [.lit (.int .u8 0), .lit (.int .u8 0)], .agg [.lit (.int .u8 0), .lit (.int .u8 0)], .agg [.lit (.int .u8 0), .lit (.int .u8 0)], .agg [.lit (.int .u8 0), .lit (.int .u8 0)]]
/-- One of Go's own tables, pinned by name: the form's constant. -/
def laid_unicode_utf8_first : DataW Unit := Go.Pinned.utf8First

/-- 'laws.FnMerge': WHATEVER THE INPUT: true; the input reads as it did. -/
def fnMergeSpec : ChangeSpec := { name := "fnMerge", fn := fun _ => fun
  | [d] => { results := [.lit (.bool true)], args := [d] }
  | _ => none }
def fnMergeRow : OpenClaim := { program := "ytppmoajoffeleaadoor", sum := "fcc756a5d640a5dc87b65b8b66ad5bf2a004d129ea9c10c2b3a2300748ee0644", func := "loop.example/g00421/laws.FnMerge", spec := "fnMerge", unfollowed := true, recurses := true, named := ["unicode/utf8.first", "unicode/utf8.acceptRanges"], apart := false, laid := [("unicode/utf8.acceptRanges", laid_unicode_utf8_acceptRanges), ("unicode/utf8.first", laid_unicode_utf8_first)] }
def FnMergeSaid : Prop := fnMergeRow.holds Tryd.pinned (OpenSpec.ofChange fnMergeSpec)

/-- ITS FALSE NEIGHBOUR: 'it returns false'. Refute it at one input. -/
def fnMergeWrong : ChangeSpec := { name := "fnMerge", fn := fun _ => fun
  | [d] => { results := [.lit (.bool false)], args := [d] }
  | _ => none }
def FnMergeWrongFalsely : Prop := fnMergeRow.holds Tryd.pinned (OpenSpec.ofChange fnMergeWrong)

/-- 'laws.FnExactSameFields': WHATEVER THE INPUT: true; the input reads as it did. -/
def fnExactSameFieldsSpec : ChangeSpec := { name := "fnExactSameFields", fn := fun _ => fun
  | [d1, d2] => { results := [.lit (.bool true)], args := [d1, d2] }
  | _ => none }
def fnExactSameFieldsRow : OpenClaim := { program := "ytppmoajoffeleaadoor", sum := "fcc756a5d640a5dc87b65b8b66ad5bf2a004d129ea9c10c2b3a2300748ee0644", func := "loop.example/g00421/laws.FnExactSameFields", spec := "fnExactSameFields", unfollowed := true, recurses := true, named := ["unicode/utf8.first", "unicode/utf8.acceptRanges"], loops := true, apart := false, laid := [("unicode/utf8.acceptRanges", laid_unicode_utf8_acceptRanges), ("unicode/utf8.first", laid_unicode_utf8_first)] }
def FnExactSameFieldsSaid : Prop := fnExactSameFieldsRow.holds Tryd.pinned (OpenSpec.ofChange fnExactSameFieldsSpec)

/-- ITS FALSE NEIGHBOUR: 'it returns false'. Refute it at one input. -/
def fnExactSameFieldsWrong : ChangeSpec := { name := "fnExactSameFields", fn := fun _ => fun
  | [d1, d2] => { results := [.lit (.bool false)], args := [d1, d2] }
  | _ => none }
def FnExactSameFieldsWrongFalsely : Prop := fnExactSameFieldsRow.holds Tryd.pinned (OpenSpec.ofChange fnExactSameFieldsWrong)

/-- 'laws.FnExactSumOf': WHATEVER THE INPUT: true; the input reads as it did. -/
def fnExactSumOfSpec : ChangeSpec := { name := "fnExactSumOf", fn := fun _ => fun
  | [d] => { results := [.lit (.bool true)], args := [d] }
  | _ => none }
def fnExactSumOfRow : OpenClaim := { program := "ytppmoajoffeleaadoor", sum := "fcc756a5d640a5dc87b65b8b66ad5bf2a004d129ea9c10c2b3a2300748ee0644", func := "loop.example/g00421/laws.FnExactSumOf", spec := "fnExactSumOf", inPlace := ["internal/abi.NoEscape"], unfollowed := true, recurses := true, named := ["unicode/utf8.first", "unicode/utf8.acceptRanges"], loops := true, apart := false, laid := [("unicode/utf8.acceptRanges", laid_unicode_utf8_acceptRanges), ("unicode/utf8.first", laid_unicode_utf8_first)] }
def FnExactSumOfSaid : Prop := fnExactSumOfRow.holds Tryd.pinned (OpenSpec.ofChange fnExactSumOfSpec)

/-- ITS FALSE NEIGHBOUR: 'it returns false'. Refute it at one input. -/
def fnExactSumOfWrong : ChangeSpec := { name := "fnExactSumOf", fn := fun _ => fun
  | [d] => { results := [.lit (.bool false)], args := [d] }
  | _ => none }
def FnExactSumOfWrongFalsely : Prop := fnExactSumOfRow.holds Tryd.pinned (OpenSpec.ofChange fnExactSumOfWrong)

/-- 'laws.FnExactRoot': WHATEVER THE INPUT: true; the input reads as it did. -/
def fnExactRootSpec : ChangeSpec := { name := "fnExactRoot", fn := fun _ => fun
  | [d] => { results := [.lit (.bool true)], args := [d] }
  | _ => none }
def fnExactRootRow : OpenClaim := { program := "ytppmoajoffeleaadoor", sum := "fcc756a5d640a5dc87b65b8b66ad5bf2a004d129ea9c10c2b3a2300748ee0644", func := "loop.example/g00421/laws.FnExactRoot", spec := "fnExactRoot", inPlace := ["internal/abi.NoEscape"], unfollowed := true, recurses := true, named := ["unicode/utf8.first", "unicode/utf8.acceptRanges"], loops := true, apart := false, laid := [("unicode/utf8.acceptRanges", laid_unicode_utf8_acceptRanges), ("unicode/utf8.first", laid_unicode_utf8_first)] }
def FnExactRootSaid : Prop := fnExactRootRow.holds Tryd.pinned (OpenSpec.ofChange fnExactRootSpec)

/-- ITS FALSE NEIGHBOUR: 'it returns false'. Refute it at one input. -/
def fnExactRootWrong : ChangeSpec := { name := "fnExactRoot", fn := fun _ => fun
  | [d] => { results := [.lit (.bool false)], args := [d] }
  | _ => none }
def FnExactRootWrongFalsely : Prop := fnExactRootRow.holds Tryd.pinned (OpenSpec.ofChange fnExactRootWrong)

/-- 'laws.FnExactCheckBranch': WHATEVER THE INPUT: true; the input reads as it did. -/
def fnExactCheckBranchSpec : ChangeSpec := { name := "fnExactCheckBranch", fn := fun _ => fun
  | [d1, d2, d3, d4, d5] => { results := [.lit (.bool true)], args := [d1, d2, d3, d4, d5] }
  | _ => none }
def fnExactCheckBranchRow : OpenClaim := { program := "ytppmoajoffeleaadoor", sum := "fcc756a5d640a5dc87b65b8b66ad5bf2a004d129ea9c10c2b3a2300748ee0644", func := "loop.example/g00421/laws.FnExactCheckBranch", spec := "fnExactCheckBranch", inPlace := ["internal/abi.NoEscape"], unfollowed := true, recurses := true, named := ["unicode/utf8.first", "unicode/utf8.acceptRanges"], loops := true, apart := false, laid := [("unicode/utf8.acceptRanges", laid_unicode_utf8_acceptRanges), ("unicode/utf8.first", laid_unicode_utf8_first)] }
def FnExactCheckBranchSaid : Prop := fnExactCheckBranchRow.holds Tryd.pinned (OpenSpec.ofChange fnExactCheckBranchSpec)

/-- ITS FALSE NEIGHBOUR: 'it returns false'. Refute it at one input. -/
def fnExactCheckBranchWrong : ChangeSpec := { name := "fnExactCheckBranch", fn := fun _ => fun
  | [d1, d2, d3, d4, d5] => { results := [.lit (.bool false)], args := [d1, d2, d3, d4, d5] }
  | _ => none }
def FnExactCheckBranchWrongFalsely : Prop := fnExactCheckBranchRow.holds Tryd.pinned (OpenSpec.ofChange fnExactCheckBranchWrong)

/-- 'laws.FnExactBranch': WHATEVER THE INPUT: true; the input reads as it did. -/
def fnExactBranchSpec : ChangeSpec := { name := "fnExactBranch", fn := fun _ => fun
  | [d1, d2] => { results := [.lit (.bool true)], args := [d1, d2] }
  | _ => none }
def fnExactBranchRow : OpenClaim := { program := "ytppmoajoffeleaadoor", sum := "fcc756a5d640a5dc87b65b8b66ad5bf2a004d129ea9c10c2b3a2300748ee0644", func := "loop.example/g00421/laws.FnExactBranch", spec := "fnExactBranch", inPlace := ["internal/abi.NoEscape"], unfollowed := true, recurses := true, named := ["unicode/utf8.first", "unicode/utf8.acceptRanges"], loops := true, apart := false, laid := [("unicode/utf8.acceptRanges", laid_unicode_utf8_acceptRanges), ("unicode/utf8.first", laid_unicode_utf8_first)] }
def FnExactBranchSaid : Prop := fnExactBranchRow.holds Tryd.pinned (OpenSpec.ofChange fnExactBranchSpec)

/-- ITS FALSE NEIGHBOUR: 'it returns false'. Refute it at one input. -/
def fnExactBranchWrong : ChangeSpec := { name := "fnExactBranch", fn := fun _ => fun
  | [d1, d2] => { results := [.lit (.bool false)], args := [d1, d2] }
  | _ => none }
def FnExactBranchWrongFalsely : Prop := fnExactBranchRow.holds Tryd.pinned (OpenSpec.ofChange fnExactBranchWrong)

/- THE SECOND FORM. 'bulk': how many values and letters a reading holds, each counted each time it is reached (what is shared counts as often as it is met; a slice's spare places count too). A statement '..UptoSaid' is the law's where the arguments, and the package variables that the reading takes, are together of bulk at most 1048576: NARROWER than '..Said'. Prove '..Said' where nothing that the law and all that it calls make is longer than what came in: it says more and counts as full. Else prove '..UptoSaid'. A law counts once. -/
mutual
def uptoBulk {H : Type} : DataW H → Nat
  | .lit (.string bytes) => bytes.length + 1
  | .lit _ => 1
  | .nil => 1
  | .ptr d => uptoBulk d + 1
  | .slice elems spare => uptoBulkAll elems + uptoBulkAll spare + 1
  | .agg parts => uptoBulkAll parts + 1
  | .iface _ d => uptoBulk d + 1
  | .map entries => uptoBulkEntries entries + 1
  | .held _ => 1
def uptoBulkAll {H : Type} : List (DataW H) → Nat
  | [] => 0
  | d :: r => uptoBulk d + uptoBulkAll r
def uptoBulkEntries {H : Type} : List (Lit × DataW H) → Nat
  | [] => 0
  | x :: r => uptoBulkEntry x + uptoBulkEntries r
def uptoBulkEntry {H : Type} : Lit × DataW H → Nat
  | (.string bytes, d) => bytes.length + uptoBulk d + 1
  | (_, d) => uptoBulk d + 1
 end
def uptoSmall : (H : Type) → List (DataW H) → Bool := fun _ ds => decide (uptoBulkAll ds ≤ 1048576)
def OpenSpec.upto (s : _root_.Go.ChangeSpec) : _root_.Go.OpenSpec := { _root_.Go.OpenSpec.ofChange s with cond := some uptoSmall }

/-- 'laws.FnMerge', WHERE WHAT IT READS IS OF BULK AT MOST 1048576: true; the input reads as it did. -/
def fnMergeUptoRow : OpenClaim := { program := "ytppmoajoffeleaadoor", sum := "fcc756a5d640a5dc87b65b8b66ad5bf2a004d129ea9c10c2b3a2300748ee0644", func := "loop.example/g00421/laws.FnMerge", spec := "fnMerge", unfollowed := true, recurses := true, named := ["unicode/utf8.first", "unicode/utf8.acceptRanges"], apart := false, laid := [("unicode/utf8.acceptRanges", laid_unicode_utf8_acceptRanges), ("unicode/utf8.first", laid_unicode_utf8_first)], narrowed := true }
def FnMergeUptoSaid : Prop := fnMergeUptoRow.holds Tryd.pinned (OpenSpec.upto fnMergeSpec)

/-- 'laws.FnExactSameFields', WHERE WHAT IT READS IS OF BULK AT MOST 1048576: true; the input reads as it did. -/
def fnExactSameFieldsUptoRow : OpenClaim := { program := "ytppmoajoffeleaadoor", sum := "fcc756a5d640a5dc87b65b8b66ad5bf2a004d129ea9c10c2b3a2300748ee0644", func := "loop.example/g00421/laws.FnExactSameFields", spec := "fnExactSameFields", unfollowed := true, recurses := true, named := ["unicode/utf8.first", "unicode/utf8.acceptRanges"], loops := true, apart := false, laid := [("unicode/utf8.acceptRanges", laid_unicode_utf8_acceptRanges), ("unicode/utf8.first", laid_unicode_utf8_first)], narrowed := true }
def FnExactSameFieldsUptoSaid : Prop := fnExactSameFieldsUptoRow.holds Tryd.pinned (OpenSpec.upto fnExactSameFieldsSpec)

/-- 'laws.FnExactSumOf', WHERE WHAT IT READS IS OF BULK AT MOST 1048576: true; the input reads as it did. -/
def fnExactSumOfUptoRow : OpenClaim := { program := "ytppmoajoffeleaadoor", sum := "fcc756a5d640a5dc87b65b8b66ad5bf2a004d129ea9c10c2b3a2300748ee0644", func := "loop.example/g00421/laws.FnExactSumOf", spec := "fnExactSumOf", inPlace := ["internal/abi.NoEscape"], unfollowed := true, recurses := true, named := ["unicode/utf8.first", "unicode/utf8.acceptRanges"], loops := true, apart := false, laid := [("unicode/utf8.acceptRanges", laid_unicode_utf8_acceptRanges), ("unicode/utf8.first", laid_unicode_utf8_first)], narrowed := true }
def FnExactSumOfUptoSaid : Prop := fnExactSumOfUptoRow.holds Tryd.pinned (OpenSpec.upto fnExactSumOfSpec)

/-- 'laws.FnExactRoot', WHERE WHAT IT READS IS OF BULK AT MOST 1048576: true; the input reads as it did. -/
def fnExactRootUptoRow : OpenClaim := { program := "ytppmoajoffeleaadoor", sum := "fcc756a5d640a5dc87b65b8b66ad5bf2a004d129ea9c10c2b3a2300748ee0644", func := "loop.example/g00421/laws.FnExactRoot", spec := "fnExactRoot", inPlace := ["internal/abi.NoEscape"], unfollowed := true, recurses := true, named := ["unicode/utf8.first", "unicode/utf8.acceptRanges"], loops := true, apart := false, laid := [("unicode/utf8.acceptRanges", laid_unicode_utf8_acceptRanges), ("unicode/utf8.first", laid_unicode_utf8_first)], narrowed := true }
def FnExactRootUptoSaid : Prop := fnExactRootUptoRow.holds Tryd.pinned (OpenSpec.upto fnExactRootSpec)

/-- 'laws.FnExactCheckBranch', WHERE WHAT IT READS IS OF BULK AT MOST 1048576: true; the input reads as it did. -/
def fnExactCheckBranchUptoRow : OpenClaim := { program := "ytppmoajoffeleaadoor", sum := "fcc756a5d640a5dc87b65b8b66ad5bf2a004d129ea9c10c2b3a2300748ee0644", func := "loop.example/g00421/laws.FnExactCheckBranch", spec := "fnExactCheckBranch", inPlace := ["internal/abi.NoEscape"], unfollowed := true, recurses := true, named := ["unicode/utf8.first", "unicode/utf8.acceptRanges"], loops := true, apart := false, laid := [("unicode/utf8.acceptRanges", laid_unicode_utf8_acceptRanges), ("unicode/utf8.first", laid_unicode_utf8_first)], narrowed := true }
def FnExactCheckBranchUptoSaid : Prop := fnExactCheckBranchUptoRow.holds Tryd.pinned (OpenSpec.upto fnExactCheckBranchSpec)

/-- 'laws.FnExactBranch', WHERE WHAT IT READS IS OF BULK AT MOST 1048576: true; the input reads as it did. -/
def fnExactBranchUptoRow : OpenClaim := { program := "ytppmoajoffeleaadoor", sum := "fcc756a5d640a5dc87b65b8b66ad5bf2a004d129ea9c10c2b3a2300748ee0644", func := "loop.example/g00421/laws.FnExactBranch", spec := "fnExactBranch", inPlace := ["internal/abi.NoEscape"], unfollowed := true, recurses := true, named := ["unicode/utf8.first", "unicode/utf8.acceptRanges"], loops := true, apart := false, laid := [("unicode/utf8.acceptRanges", laid_unicode_utf8_acceptRanges), ("unicode/utf8.first", laid_unicode_utf8_first)], narrowed := true }
def FnExactBranchUptoSaid : Prop := fnExactBranchUptoRow.holds Tryd.pinned (OpenSpec.upto fnExactBranchSpec)

end Rows
end Go.Proofs.YtppmoajoffeleaaDoor
