/- Small facts for the walks that exact.py prints. -/
import Derived.Test.YtllngpnhhpnjoaaDoorLawAid
import Derived.Test.YtllngpnhhpnjoaaDoorMarks
import Derived.Test.YtllngpnhhpnjoaaDoorMarkV
import Derived.Test.YtllngpnhhpnjoaaDoorSzVal
import Derived.Test.YtllngpnhhpnjoaaDoorToVal
import Derived.Test.YtllngpnhhpnjoaaDoorEqVal
import Derived.Test.YtllngpnhhpnjoaaDoorNames
namespace Go.Proofs.YtllngpnhhpnjoaaDoor
set_option linter.unusedVariables false
set_option maxRecDepth 100000
open Go.RowKit
theorem Box.over {w w' : World} {F : Nat → Prop} {b : Nat} {k n e : Int} {s : ByteArray} {sl : Value} {T : TypeId} (h : Box w b k n e s sl T) (ht : Touch F F w w') (hn : ¬ F b) : Box w' b k n e s sl T :=
  (ht.block b h.lt hn).trans h
theorem touch_of_grown {w w' : World} {v : Value} (h : w.grownBy w' v.ownBlock) : Touch (fun x => v.ownBlock = some x) (fun x => v.ownBlock = some x) w w' :=
  ⟨h.os, h.tape, h.output, h.size, fun k hk hn => h.block k hk (fun e => hn e.symm), fun k hk => .inl hk⟩
theorem SRow.stay2 {w w' : World} {base : Nat} {v : Value} {l : List ByteArray} (h : SRow w base v l) (hb : Below w.heap.size w w') : SRow w' base v l :=
  h.keep (fun x hx => hb.block x (h.lt x hx).2)
theorem cnts_kids_le {t : V} (h : t.sz ≤ 1048576) : cnts t.kids ≤ 4194304 := by have h1 := cnts_sz t.kids; have h2 := V.sz_eq t; omega
theorem cnts_list_le {ts : List V} (h : szs ts ≤ 1048576) : cnts ts ≤ 4194304 := by have h1 := cnts_sz ts; omega
theorem szr_ok {L : Int} {n : Nat} (h : ¬ szr L n < 0) : (n : Int) ≤ L ∧ szr L n ≤ L := by unfold szr at *; split at h <;> omega
theorem sz_namesB (w0 : World) (v : Value) (l : List ByteArray) (h : RepSs w0 v l) (w : World) (hw : Below w0.heap.size w0 w) (m : Int) (h0 : 0 ≤ m) (h1 : m ≤ 1048576) :
    Calls Tryd.prog 28 #[v, .int .i64 m] w fun e w' => e = .returned (.int .i64 (szr m (szl l))) ∧ Below w.heap.size w w' :=
  (sz_names w0 v l h w hw m h0 h1).mono fun e w' ⟨h1, h2⟩ => ⟨h1, by subst h2; exact Below.refl _ _⟩
end Go.Proofs.YtllngpnhhpnjoaaDoor
