/- What a call does to memory whose own blocks are told. -/
import Derived.Test.YtllngpnhhpnjoaaDoorOwnV
namespace Go.Proofs.YtllngpnhhpnjoaaDoor
set_option linter.unusedVariables false
set_option maxRecDepth 100000
open Go.RowKit
/-- what a call does to memory whose own blocks are A before and A' behind it: of old blocks none but A's turn; what is new in A' is a new block -/
structure Touch (A A' : Nat → Prop) (w w' : World) : Prop where
  os : w'.os = w.os
  tape : w'.tape = w.tape
  output : w'.output = w.output
  size : w.heap.size ≤ w'.heap.size
  block : ∀ k, k < w.heap.size → ¬ A k → w'.heap[k]? = w.heap[k]?
  new : ∀ k, A' k → A k ∨ w.heap.size ≤ k
theorem Touch.trans {A A' A'' : Nat → Prop} {a b c : World} (h : Touch A A' a b) (k : Touch A' A'' b c) : Touch A A'' a c :=
  ⟨k.os.trans h.os, k.tape.trans h.tape, k.output.trans h.output, Nat.le_trans h.size k.size,
    fun i hi hn => (k.block i (Nat.lt_of_lt_of_le hi h.size) (fun e => (h.new i e).elim hn (fun e => by omega))).trans (h.block i hi hn),
    fun i hi => (k.new i hi).elim (fun e => h.new i e) (fun e => .inr (Nat.le_trans h.size e))⟩
theorem Touch.of_below {A : Nat → Prop} {w w' : World} (h : Below w.heap.size w w') : Touch A A w w' :=
  ⟨h.os, h.tape, h.output, h.size, fun k hk _ => h.block k hk, fun _ h => .inl h⟩
theorem Touch.refl (A : Nat → Prop) (w : World) : Touch A A w w := .of_below (Below.refl _ _)
theorem Touch.below {A A' : Nat → Prop} {w w' : World} {B : Nat} (h : Touch A A' w w') (hA : ∀ x, A x → B ≤ x) (hB : B ≤ w.heap.size) : Below B w w' :=
  ⟨h.os, h.tape, h.output, h.size, fun k hk => h.block k (by omega) (fun e => by have := hA k e; omega)⟩
/-- what a captured variable c that holds the slice o owns -/
def own2 (c : Nat) (o : Value) : Nat → Prop := fun x => x = c ∨ o.ownBlock = some x
theorem touch_app {c : Nat} {o v2 : Value} {wr W w2 : World} (hW : Below wr.heap.size wr W) (hg : W.grownBy w2 o.ownBlock) (hfr : FreshOr W o v2) (u : Value) :
    Touch (own2 c o) (own2 c v2) wr (w2.setCell ⟨c, 0, none⟩ u) := by
  refine ⟨hg.os.trans hW.os, hg.tape.trans hW.tape, hg.output.trans hW.output, by simp; exact Nat.le_trans hW.size hg.size, fun k hk hn => ?_, fun k hk => ?_⟩
  · rw [heap_setCell_other _ _ _ _ (fun e => hn (.inl e)), hg.block k (Nat.lt_of_lt_of_le hk hW.size) (fun e => hn (.inr e.symm))]
    exact hW.block k hk
  · rcases hk with hk | hk
    · exact .inl (.inl hk)
    · rcases hfr with e | e
      · rw [e] at hk; exact .inl (.inr hk)
      · rw [e] at hk; simp only [Option.some.injEq] at hk; right; rw [← hk]; exact hW.size
/-- what a slice of the call's own owns -/
def ownR (o : Value) : Nat → Prop := fun x => o.ownBlock = some x
theorem touch_row {o v2 : Value} {wr W w2 : World} (hW : Below wr.heap.size wr W) (hg : W.grownBy w2 o.ownBlock) (hfr : FreshOr W o v2) : Touch (ownR o) (ownR v2) wr w2 := by
  refine ⟨hg.os.trans hW.os, hg.tape.trans hW.tape, hg.output.trans hW.output, Nat.le_trans hW.size hg.size, fun k hk hn => ?_, fun k hk => ?_⟩
  · rw [hg.block k (Nat.lt_of_lt_of_le hk hW.size) (fun e => hn e.symm)]; exact hW.block k hk
  · unfold ownR at hk ⊢
    rcases hfr with e | e
    · rw [e] at hk; exact .inl hk
    · rw [e] at hk; simp only [Option.some.injEq] at hk; right; rw [← hk]; exact hW.size
end Go.Proofs.YtllngpnhhpnjoaaDoor
