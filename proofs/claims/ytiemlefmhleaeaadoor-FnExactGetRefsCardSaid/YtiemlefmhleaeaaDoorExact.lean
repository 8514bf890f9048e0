/- Small facts for the walks that exact.py prints. -/
import Derived.Test.YtiemlefmhleaeaaDoorLawAid
import Derived.Test.YtiemlefmhleaeaaDoorMarks
import Derived.Test.YtiemlefmhleaeaaDoorMarkV
import Derived.Test.YtiemlefmhleaeaaDoorSzVal
import Derived.Test.YtiemlefmhleaeaaDoorToVal
import Derived.Test.YtiemlefmhleaeaaDoorEqVal
import Derived.Test.YtiemlefmhleaeaaDoorNames
namespace Go.Proofs.YtiemlefmhleaeaaDoor
set_option linter.unusedVariables false
set_option maxRecDepth 100000
open Go.RowKit
theorem Box.over {w w' : World} {F : Nat → Prop} {b : Nat} {k n e : Int} {s : ByteArray} {sl : Value} {T : TypeId} (h : Box w b k n e s sl T) (ht : Touch F F w w') (hn : ¬ F b) : Box w' b k n e s sl T :=
  (ht.block b h.lt hn).trans h
theorem touch_of_grown {w w' : World} {v : Value} (h : w.grownBy w' v.ownBlock) : Touch (fun x => v.ownBlock = some x) (fun x => v.ownBlock = some x) w w' :=
  ⟨h.os, h.tape, h.output, h.size, fun k hk hn => h.block k hk (fun e => hn e.symm), fun k hk => .inl hk⟩
theorem SRow.stay2 {w w' : World} {base : Nat} {v : Value} {l : List ByteArray} (h : SRow w base v l) (hb : Below w.heap.size w w') : SRow w' base v l :=
  h.keep (fun x hx => hb.block x (h.lt x hx).2)
theorem cnts_kids_le {t : V} (h : t.sz ≤ 1048576) : cnts t.kids ≤ 4194304 := by have h1 := cnts_sz t.kids; have h2 := V.sz_eq t; omega
theorem cnts_list_le {ts : List V} (h : szs ts ≤ 1048576) : cnts ts ≤ 4194304 := by have h1 := cnts_sz ts; omega
theorem szr_ok {L : Int} {n : Nat} (h : ¬ szr L n < 0) : (n : Int) ≤ L ∧ szr L n ≤ L := by unfold szr at *; split at h <;> omega
end Go.Proofs.YtiemlefmhleaeaaDoor
