/- Small facts for the walks of the laws: a boxed value, kept from world to world. -/
import Derived.Test.YtllngpnhhpnjoaaDoorOwnV
import Derived.Test.YtllngpnhhpnjoaaDoorBytes
import Derived.Test.YtllngpnhhpnjoaaDoorLawKit
namespace Go.Proofs.YtllngpnhhpnjoaaDoor
set_option linter.unusedVariables false
set_option maxRecDepth 100000
open Go.RowKit
theorem OwnS.repV {w : World} {B : Nat} {t : V} {sl : Value} (hw : t.wf) (h : OwnS w (fun x => B ≤ x) sl t.kids) : Rep w (t.agg sl) t := ⟨sl, rfl, hw, h.rep⟩
/-- block b holds a value -/
def Box (w : World) (b : Nat) (k n e : Int) (s : ByteArray) (sl : Value) (T : TypeId) : Prop := w.heap[b]? = some (.cells #[.int .i64 k, .int .i64 n, .int .i64 e, .string s, sl] T (0, 0))
theorem Box.cells {w : World} {b : Nat} {k n e : Int} {s : ByteArray} {sl : Value} {T : TypeId} (h : Box w b k n e s sl T) :
    w.cell? ⟨b, 0, none⟩ = some (.int .i64 k) ∧ w.cell? ⟨b, 1, none⟩ = some (.int .i64 n) ∧ w.cell? ⟨b, 2, none⟩ = some (.int .i64 e) ∧ w.cell? ⟨b, 3, none⟩ = some (.string s) ∧ w.cell? ⟨b, 4, none⟩ = some sl := by
  unfold Box at h
  refine ⟨?_, ?_, ?_, ?_, ?_⟩ <;> (rw [cell_of_row w b _ _ _ (0, 0) h]; rfl)
theorem Box.lt {w : World} {b : Nat} {k n e : Int} {s : ByteArray} {sl : Value} {T : TypeId} (h : Box w b k n e s sl T) : b < w.heap.size := lt_of_heap h
theorem Box.keep {w w' : World} {B b : Nat} {k n e : Int} {s : ByteArray} {sl : Value} {T : TypeId} (h : Box w b k n e s sl T) (hb : Below B w w') (hB : w.heap.size ≤ B) : Box w' b k n e s sl T :=
  (hb.block b (Nat.lt_of_lt_of_le h.lt hB)).trans h
theorem Box.stay {w w' : World} {b : Nat} {k n e : Int} {s : ByteArray} {sl : Value} {T : TypeId} (h : Box w b k n e s sl T) (hb : Below w.heap.size w w') : Box w' b k n e s sl T := h.keep hb (Nat.le_refl _)
theorem Box.alloc {w : World} {b : Nat} {k n e : Int} {s : ByteArray} {sl : Value} {T : TypeId} (h : Box w b k n e s sl T) (o : Obj) : Box (w.alloc o) b k n e s sl T := (heap_alloc_old w o h.lt).trans h
theorem Box.new (w : World) (k n e : Int) (s : ByteArray) (sl : Value) (T : TypeId) : Box (w.alloc (.cells #[.int .i64 k, .int .i64 n, .int .i64 e, .string s, sl] T)) w.heap.size k n e s sl T := heap_alloc_new w _
end Go.Proofs.YtllngpnhhpnjoaaDoor
