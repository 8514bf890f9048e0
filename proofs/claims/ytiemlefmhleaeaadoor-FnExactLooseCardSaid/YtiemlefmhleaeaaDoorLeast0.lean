/- Least of both, and what is remembered with a text more: spec.l10Keep. -/
import Derived.Test.YtiemlefmhleaeaaDoorTexts
import Derived.Deep.RegionHeld3
import Derived.Deep.RegionLaw
import Derived.Deep.QuietTactic
import Derived.BigQuiet
import Derived.BigRegion
namespace Go.Proofs.YtiemlefmhleaeaaDoor
set_option linter.unusedVariables false
set_option maxRecDepth 100000
open Go.RowKit
def least0 (n : Int) : Int := if n < 24 then 3 else if n < 256 then 4 else if n < 65536 then 5 else if n < 4294967296 then 7 else 11
def leafV (t : V) : V := .mk t.k 0 0 t.s []
theorem leafV_wf {t : V} (h : t.wf) : (leafV t).wf := by
  refine ⟨h.1, ?_, ?_, h.2.2.2⟩ <;> (show In64 0; unfold In64; omega)
def keepR (R : List V) (t : V) : List V := if least0 R.length ≤ t.s.size then R ++ [leafV t] else R
theorem keepR_length (R : List V) (t : V) : (keepR R t).length ≤ R.length + 1 := by unfold keepR; split <;> simp
set_option maxHeartbeats 400000 in
theorem Least_spec (n : Int) (w : World) : Calls Tryd.prog 189 #[.int .i64 n] w fun e w' => e = .returned (.int .i64 (least0 n)) ∧ w' = w := by
  unfold least0
  go_enter Tryd.func189, Tryd.ntmps189
  go_wp2
  all_goals go_ret
  all_goals simp [*]
set_option maxHeartbeats 400000 in
theorem Least_impl (n : Int) (w : World) : Calls Tryd.prog 194 #[.int .i64 n] w fun e w' => e = .returned (.int .i64 (least0 n)) ∧ w' = w := by
  unfold least0
  go_enter Tryd.func194, Tryd.ntmps194
  go_wp2
  all_goals go_ret
  all_goals simp [*]
theorem vsrc_box {w : World} {F : Nat → Prop} {b : Nat} {t : V} {sl : Value} (hb : Box w b t.k t.n t.e t.s sl 28) (hw : t.wf) (h : RepF w F sl t.kids) :
    VSrc w F (.slice (some ⟨b, 0, none⟩) 1 1) [t] [sl] := by
  refine ⟨Src.ofSlice _ Tryd.underlying26 _ _ _ _ (by simp [flat]) ?_ (flat_one [t] [sl] ?_), rfl, ?_, ?_⟩
  · intro j u hu
    rw [addr_add _ _ rfl, Nat.zero_add]
    rw [cell_of_row _ _ _ _ _ (0, 0) hb]
    simpa [flat] using hu
  · intro s hs
    obtain rfl := List.mem_singleton.1 hs
    obtain ⟨a, cap, e⟩ := h.slice
    exact ⟨a, _, cap, e⟩
  · intro i hi
    obtain rfl : i = 0 := by simpa using hi
    exact hw
  · intro i hi
    obtain rfl : i = 0 := by simpa using hi
    exact h
theorem vsrc_leaf {w : World} {b : Nat} {k : Int} {s : ByteArray} (hb : Box w b k 0 0 s (.slice none 0 0) 28) (hw : (V.mk k 0 0 s []).wf) :
    VSrc w (fun _ => False) (.slice (some ⟨b, 0, none⟩) 1 1) [V.mk k 0 0 s []] [.slice none 0 0] := vsrc_box (t := .mk k 0 0 s []) hb hw (RepF.nil _ _)
theorem heap_alloc_at {w : World} {b : Nat} (o : Obj) (hb : b = w.heap.size) : (w.alloc o).heap[b]? = some o := by rw [hb]; exact heap_alloc_new w o
theorem PRow.at0 {w : World} {base b : Nat} (hb : base ≤ b) (h : w.heap[b]? = some (.cells #[] 28 (0, 0))) : PRow w base (fun _ => False) (.slice (some ⟨b, 0, none⟩) 0 0) [] :=
  ⟨[], ⟨⟨rfl, .inr ⟨b, 0, #[], rfl, hb, h, Nat.le_refl 0, by simp [maxLen], by simp, by simp [flat]⟩⟩, rfl, by simp, by simp, by simp, by simp⟩⟩
theorem Box.grown {w w' : World} {b : Nat} {k n e : Int} {s : ByteArray} {sl : Value} {T : TypeId} (h : Box w b k n e s sl T) {o : Option Nat} (hg : w.grownBy w' o) (hn : o ≠ some b) : Box w' b k n e s sl T :=
  (hg.block b h.lt (fun e => hn e.symm)).trans h
def KeepRet (R : List V) (w : World) (e : Ending) (w' : World) : Prop := ∃ v', e = .returned v' ∧ RepS w' v' R ∧ Below w.heap.size w w'
def KeepFar (Gl : Nat → Prop) (R : List V) (w : World) (e : Ending) (w' : World) : Prop := ∃ v', e = .returned v' ∧ RepF w' (fun x => Gl x ∨ w.heap.size ≤ x) v' R ∧ Below w.heap.size w w'
set_option maxHeartbeats 1000000 in
theorem l10Keep_far (Gl : Nat → Prop) (R : List V) (v : Value) (t : V) (sl : Value) (w : World) (h : RepF w Gl v R) (hR : R.length ≤ 2097152) (hwf : t.wf) :
    Calls Tryd.prog 126 #[v, t.agg sl] w (KeepFar Gl (keepR R t) w) := by
  obtain ⟨ka, kcap, rfl⟩ := h.slice
  have HK := Lib.hid (show keepR R t = if least0 R.length ≤ t.s.size then R ++ [leafV t] else R from rfl)
  have LS := Lib.hid (fun (W : World) => Least_spec (R.length : Int) W)
  have HR := Lib.hid h
  have HWF := Lib.hid (leafV_wf hwf)
  generalize keepR R t = R2 at *
  clear h
  have B0 := Lib.hid (Box.new w t.k t.n t.e t.s sl 28)
  generalize least0 R.length = q at *
  have HLF := Lib.hid (show leafV t = .mk t.k 0 0 t.s [] from rfl)
  unfold V.agg
  generalize leafV t = lf at *
  generalize t.k = vk at *
  generalize t.n = vn at *
  generalize t.e = ve at *
  generalize t.s = vs at *
  by_cases hq : q ≤ vs.size
  · have t1 : decide (q ≤ (vs.size : Int)) = true := decide_eq_true hq
    rw [if_pos hq] at HK
    clear hq hwf
    rw [HK.out]
    clear HK
    go_enter Tryd.func126, Tryd.ntmps126
    go_wp2_with fail
    go_quiet ((go_at_call 189; exact Calls.quiet_of_same (LS.out _)))
    go_wp2_with fail
    have HB1 := Lib.hid (show Below w.heap.size w ((w.alloc (.cells #[.int .i64 vk, .int .i64 vn, .int .i64 ve, .string vs, sl] 28)).drewN nq) from (by (repeat' (first | with_reducible exact Below.refl _ _ | with_reducible refine below_alloc ?_ _ ?_ | with_reducible refine Below.setCell ?_ ?_ _ | with_reducible refine Below.drew ?_ | with_reducible refine below_drewN ?_ _ | with_reducible refine below_step ?_ (by assumption) ?_ | with_reducible refine below_mark ?_ (by assumption) ?_)); all_goals (first | omega | (simp; done) | (simp; omega))))
    have HZ1 := Lib.hid (show ((w.alloc (.cells #[.int .i64 vk, .int .i64 vn, .int .i64 ve, .string vs, sl] 28)).drewN nq).heap.size = w.heap.size + 1 by simp)
    have B1 := Lib.hid (show Box ((w.alloc (.cells #[.int .i64 vk, .int .i64 vn, .int .i64 ve, .string vs, sl] 28)).drewN nq) w.heap.size vk vn ve vs sl 28 from B0.out)
    generalize (w.alloc (.cells #[.int .i64 vk, .int .i64 vn, .int .i64 ve, .string vs, sl] 28)).drewN nq = W1 at *
    obtain ⟨c0, c1, c2, c3, c4⟩ := B1.out.cells
    clear B0 c1 c2 c4
    have hlf := HLF.out
    subst hlf
    have hz1 : ∀ W : World, Below W1.heap.size W1 W → w.heap.size + 1 ≤ W.heap.size := fun W h => by have := h.size; have := HZ1.out; omega
    have SR := Lib.hid (fun (W : World) (hW : Below W1.heap.size W1 W) => Classical.choose_spec (vsrc_of (HR.out.bound.stay (HB1.out.trans (hW.mono (by have := HZ1.out; omega))))))
    have hn1 : w.heap.size ≠ W1.heap.size := by have := HZ1.out; omega
    have hn2 := hn1.symm
    have hn3 : w.heap.size ≠ W1.heap.size + 1 := by have := HZ1.out; omega
    have hn4 := hn3.symm
    have hl1 : w.heap.size < W1.heap.size := by have := HZ1.out; omega
    have CX := Lib.hid (fun (W : World) (hW : Below W1.heap.size W1 W) => (B1.out.over2 hW hl1).cells)
    obtain ⟨x00, -, -, x03, -⟩ := CX.out (W1.alloc (.cells #[] 28)) ((by (repeat' (first | with_reducible exact Below.refl _ _ | with_reducible refine below_alloc ?_ _ ?_ | with_reducible refine Below.setCell ?_ ?_ _ | with_reducible refine Below.drew ?_ | with_reducible refine below_drewN ?_ _ | with_reducible refine below_step ?_ (by assumption) ?_ | with_reducible refine below_mark ?_ (by assumption) ?_)); all_goals (first | omega | (simp; done) | (simp; omega))))
    obtain ⟨x10, -, -, x13, -⟩ := CX.out (W1.alloc (.cells #[.int .i64 vk, .int .i64 0, .int .i64 0, .string vs, .slice none 0 0] 28)) ((by (repeat' (first | with_reducible exact Below.refl _ _ | with_reducible refine below_alloc ?_ _ ?_ | with_reducible refine Below.setCell ?_ ?_ _ | with_reducible refine Below.drew ?_ | with_reducible refine below_drewN ?_ _ | with_reducible refine below_step ?_ (by assumption) ?_ | with_reducible refine below_mark ?_ (by assumption) ?_)); all_goals (first | omega | (simp; done) | (simp; omega))))
    obtain ⟨x20, -, -, x23, -⟩ := CX.out ((W1.alloc (.cells #[] 28)).alloc (.cells #[.int .i64 vk, .int .i64 0, .int .i64 0, .string vs, .slice none 0 0] 28)) ((by (repeat' (first | with_reducible exact Below.refl _ _ | with_reducible refine below_alloc ?_ _ ?_ | with_reducible refine Below.setCell ?_ ?_ _ | with_reducible refine Below.drew ?_ | with_reducible refine below_drewN ?_ _ | with_reducible refine below_step ?_ (by assumption) ?_ | with_reducible refine below_mark ?_ (by assumption) ?_)); all_goals (first | omega | (simp; done) | (simp; omega))))
    obtain ⟨x30, -, -, x33, -⟩ := CX.out ((W1.alloc (.cells #[.int .i64 vk, .int .i64 0, .int .i64 0, .string vs, .slice none 0 0] 28)).alloc (.cells #[] 28)) ((by (repeat' (first | with_reducible exact Below.refl _ _ | with_reducible refine below_alloc ?_ _ ?_ | with_reducible refine Below.setCell ?_ ?_ _ | with_reducible refine Below.drew ?_ | with_reducible refine below_drewN ?_ _ | with_reducible refine below_step ?_ (by assumption) ?_ | with_reducible refine below_mark ?_ (by assumption) ?_)); all_goals (first | omega | (simp; done) | (simp; omega))))
    go_region_law (first | (refine step_vals rfl _ _ rfl W1.heap.size _ (fun _ => False) _ _ [V.mk vk 0 0 vs []] _ rfl (H2.out.stay ((by (repeat' (first | with_reducible exact Below.refl _ _ | with_reducible refine below_alloc ?_ _ ?_ | with_reducible refine Below.setCell ?_ ?_ _ | with_reducible refine Below.drew ?_ | with_reducible refine below_drewN ?_ _ | with_reducible refine below_step ?_ (by assumption) ?_ | with_reducible refine below_mark ?_ (by assumption) ?_)); all_goals (first | omega | (simp; done) | (simp; omega))))) _ rfl (vsrc_leaf (by first | exact HLB.out | exact heap_alloc_at _ (by simp)) HWF.out) (fun x hx => hx.elim) (by (first | (simp; done) | (simp; omega))) (by have := HB2.out.size; (first | (simp; done) | (simp; omega))) ?_; intro v3 w3 hrow3 hg3 hfr3; have hb3 : Below W1.heap.size W1 w3 := Below.grown (below_step HB2.out ((by (repeat' (first | with_reducible exact Below.refl _ _ | with_reducible refine below_alloc ?_ _ ?_ | with_reducible refine Below.setCell ?_ ?_ _ | with_reducible refine Below.drew ?_ | with_reducible refine below_drewN ?_ _ | with_reducible refine below_step ?_ (by assumption) ?_ | with_reducible refine below_mark ?_ (by assumption) ?_)); all_goals (first | omega | (simp; done) | (simp; omega)))) (by have := HB2.out.size; omega)) hg3 (by have := HB2.out.size; (first | (simp; done) | (simp; omega))) (fun k' hk' => (H2.out.lt k' hk').1); have H3 := Lib.hid hrow3; have HB3 := Lib.hid hb3; clear hrow3 hg3 hfr3 hb3) | (refine step_vals rfl _ _ rfl W1.heap.size (fun _ => False) (fun x => Gl x ∧ x < w.heap.size) _ [] R _ rfl (PRow.at0 (b := W1.heap.size) (Nat.le_refl _) (by first | exact heap_alloc_at _ (by simp) | exact (heap_alloc_old _ _ (by simp; done)).trans (heap_alloc_at _ (by simp)) | exact (heap_alloc_old _ _ (by (first | (simp; done) | (simp; omega)))).trans (heap_alloc_at _ (by simp)))) _ rfl (SR.out _ ((by (repeat' (first | with_reducible exact Below.refl _ _ | with_reducible refine below_alloc ?_ _ ?_ | with_reducible refine Below.setCell ?_ ?_ _ | with_reducible refine Below.drew ?_ | with_reducible refine below_drewN ?_ _ | with_reducible refine below_step ?_ (by assumption) ?_ | with_reducible refine below_mark ?_ (by assumption) ?_)); all_goals (first | omega | (simp; done) | (simp; omega))))) (fun x hx => ⟨by have hx' : x < w.heap.size := hx.2; have := HZ1.out; (first | (simp; done) | (simp; omega)), fun e => by have hx' : x < w.heap.size := hx.2; have e' : some (W1.heap.size) = some x := e; simp only [Option.some.injEq] at e'; have := HZ1.out; omega⟩) (by (first | (simp; done) | (simp; omega))) (by (first | (simp; done) | (simp; omega))) ?_; intro v2 w2 hrow2 hg2 hfr2; have hb2 : Below W1.heap.size W1 w2 := Below.grown ((by (repeat' (first | with_reducible exact Below.refl _ _ | with_reducible refine below_alloc ?_ _ ?_ | with_reducible refine Below.setCell ?_ ?_ _ | with_reducible refine Below.drew ?_ | with_reducible refine below_drewN ?_ _ | with_reducible refine below_step ?_ (by assumption) ?_ | with_reducible refine below_mark ?_ (by assumption) ?_)); all_goals (first | omega | (simp; done) | (simp; omega)))) hg2 (by (first | (simp; done) | (simp; omega))) (fun k' hk' => by have e' : some (W1.heap.size) = some k' := hk'; simp only [Option.some.injEq] at e'; omega); obtain ⟨d0, d1, d2, d3, d4⟩ := (B1.out.over2 hb2 (by have := HZ1.out; omega)).cells; have H2 := Lib.hid hrow2; have HB2 := Lib.hid hb2; have hm1 : w.heap.size ≠ w2.heap.size := (by have := hb2.size; have := HZ1.out; omega); have hm2 := hm1.symm; (first | have HLB := Lib.hid (show Box w2 (W1.heap.size + 1) vk 0 0 vs (.slice none 0 0) 28 from Box.grown (by first | exact heap_alloc_at _ (by simp) | exact (heap_alloc_old _ _ (by simp; done)).trans (heap_alloc_at _ (by simp)) | exact (heap_alloc_old _ _ (by (first | (simp; done) | (simp; omega)))).trans (heap_alloc_at _ (by simp))) hg2 (fun e => by have e' : some (W1.heap.size) = some (W1.heap.size + 1) := e; simp only [Option.some.injEq] at e'; omega)) | have HLB := Lib.hid (show Box w2 W1.heap.size vk 0 0 vs (.slice none 0 0) 28 from Box.grown (by first | exact heap_alloc_at _ (by simp) | exact (heap_alloc_old _ _ (by simp; done)).trans (heap_alloc_at _ (by simp)) | exact (heap_alloc_old _ _ (by (first | (simp; done) | (simp; omega)))).trans (heap_alloc_at _ (by simp))) hg2 (fun e => by have e' : some (W1.heap.size) = some W1.heap.size := e; simp only [Option.some.injEq] at e'; omega)) | skip); obtain ⟨y0, -, -, y3, -⟩ := CX.out (w2.alloc (.cells #[.int .i64 vk, .int .i64 0, .int .i64 0, .string vs, .slice none 0 0] 28)) ((by (repeat' (first | with_reducible exact Below.refl _ _ | with_reducible refine below_alloc ?_ _ ?_ | with_reducible refine Below.setCell ?_ ?_ _ | with_reducible refine Below.drew ?_ | with_reducible refine below_drewN ?_ _ | with_reducible refine below_step ?_ (by assumption) ?_ | with_reducible refine below_mark ?_ (by assumption) ?_)); all_goals (first | omega | (simp; done) | (simp; omega)))); clear hrow2 hg2 hfr2 hb2 d1 d2 d4) | (refine step_vals rfl _ _ rfl W1.heap.size (fun _ => False) (fun x => Gl x ∧ x < w.heap.size) _ [] R _ rfl (PRow.at0 (b := W1.heap.size + 1) (Nat.le_add_right _ _) (by first | exact heap_alloc_at _ (by simp) | exact (heap_alloc_old _ _ (by simp; done)).trans (heap_alloc_at _ (by simp)) | exact (heap_alloc_old _ _ (by (first | (simp; done) | (simp; omega)))).trans (heap_alloc_at _ (by simp)))) _ rfl (SR.out _ ((by (repeat' (first | with_reducible exact Below.refl _ _ | with_reducible refine below_alloc ?_ _ ?_ | with_reducible refine Below.setCell ?_ ?_ _ | with_reducible refine Below.drew ?_ | with_reducible refine below_drewN ?_ _ | with_reducible refine below_step ?_ (by assumption) ?_ | with_reducible refine below_mark ?_ (by assumption) ?_)); all_goals (first | omega | (simp; done) | (simp; omega))))) (fun x hx => ⟨by have hx' : x < w.heap.size := hx.2; have := HZ1.out; (first | (simp; done) | (simp; omega)), fun e => by have hx' : x < w.heap.size := hx.2; have e' : some (W1.heap.size + 1) = some x := e; simp only [Option.some.injEq] at e'; have := HZ1.out; omega⟩) (by (first | (simp; done) | (simp; omega))) (by (first | (simp; done) | (simp; omega))) ?_; intro v2 w2 hrow2 hg2 hfr2; have hb2 : Below W1.heap.size W1 w2 := Below.grown ((by (repeat' (first | with_reducible exact Below.refl _ _ | with_reducible refine below_alloc ?_ _ ?_ | with_reducible refine Below.setCell ?_ ?_ _ | with_reducible refine Below.drew ?_ | with_reducible refine below_drewN ?_ _ | with_reducible refine below_step ?_ (by assumption) ?_ | with_reducible refine below_mark ?_ (by assumption) ?_)); all_goals (first | omega | (simp; done) | (simp; omega)))) hg2 (by (first | (simp; done) | (simp; omega))) (fun k' hk' => by have e' : some (W1.heap.size + 1) = some k' := hk'; simp only [Option.some.injEq] at e'; omega); obtain ⟨d0, d1, d2, d3, d4⟩ := (B1.out.over2 hb2 (by have := HZ1.out; omega)).cells; have H2 := Lib.hid hrow2; have HB2 := Lib.hid hb2; (first | have HLB := Lib.hid (show Box w2 (W1.heap.size + 1) vk 0 0 vs (.slice none 0 0) 28 from Box.grown (by first | exact heap_alloc_at _ (by simp) | exact (heap_alloc_old _ _ (by simp; done)).trans (heap_alloc_at _ (by simp)) | exact (heap_alloc_old _ _ (by (first | (simp; done) | (simp; omega)))).trans (heap_alloc_at _ (by simp))) hg2 (fun e => by have e' : some (W1.heap.size + 1) = some (W1.heap.size + 1) := e; simp only at e'; omega)) | have HLB := Lib.hid (show Box w2 W1.heap.size vk 0 0 vs (.slice none 0 0) 28 from Box.grown (by first | exact heap_alloc_at _ (by simp) | exact (heap_alloc_old _ _ (by simp; done)).trans (heap_alloc_at _ (by simp)) | exact (heap_alloc_old _ _ (by (first | (simp; done) | (simp; omega)))).trans (heap_alloc_at _ (by simp))) hg2 (fun e => by have e' : some (W1.heap.size + 1) = some W1.heap.size := e; simp only [Option.some.injEq] at e'; omega)) | skip); obtain ⟨y0, -, -, y3, -⟩ := CX.out (w2.alloc (.cells #[.int .i64 vk, .int .i64 0, .int .i64 0, .string vs, .slice none 0 0] 28)) ((by (repeat' (first | with_reducible exact Below.refl _ _ | with_reducible refine below_alloc ?_ _ ?_ | with_reducible refine Below.setCell ?_ ?_ _ | with_reducible refine Below.drew ?_ | with_reducible refine below_drewN ?_ _ | with_reducible refine below_step ?_ (by assumption) ?_ | with_reducible refine below_mark ?_ (by assumption) ?_)); all_goals (first | omega | (simp; done) | (simp; omega)))); clear hrow2 hg2 hfr2 hb2 d1 d2 d4))
    all_goals go_wp2_with fail
    all_goals go_ret
    all_goals exact ⟨_, rfl, H3.out.repF.mono (fun x hx _ => hx.elim (fun h => h.elim (fun h => h.elim False.elim (fun h => .inl h.1)) False.elim) (fun h => .inr (by have := (H3.out.lt x h).1; have := HZ1.out; omega))), HB1.out.trans (HB3.out.mono (by have := HZ1.out; omega))⟩
  · have t1 : decide (q ≤ (vs.size : Int)) = false := decide_eq_false hq
    rw [if_neg hq] at HK
    clear hq hwf
    rw [HK.out]
    clear HK
    go_enter Tryd.func126, Tryd.ntmps126
    go_wp2_with fail
    go_quiet ((go_at_call 189; exact Calls.quiet_of_same (LS.out _)))
    go_wp2_with fail
    go_ret
    exact ⟨_, rfl, (HR.out.stay ((by (repeat' (first | with_reducible exact Below.refl _ _ | with_reducible refine below_alloc ?_ _ ?_ | with_reducible refine Below.setCell ?_ ?_ _ | with_reducible refine Below.drew ?_ | with_reducible refine below_drewN ?_ _ | with_reducible refine below_step ?_ (by assumption) ?_ | with_reducible refine below_mark ?_ (by assumption) ?_)); all_goals (first | omega | (simp; done) | (simp; omega))))).mono (fun x hx _ => .inl hx), (by (repeat' (first | with_reducible exact Below.refl _ _ | with_reducible refine below_alloc ?_ _ ?_ | with_reducible refine Below.setCell ?_ ?_ _ | with_reducible refine Below.drew ?_ | with_reducible refine below_drewN ?_ _ | with_reducible refine below_step ?_ (by assumption) ?_ | with_reducible refine below_mark ?_ (by assumption) ?_)); all_goals (first | omega | (simp; done) | (simp; omega)))⟩
theorem l10Keep_any (R : List V) (v : Value) (t : V) (sl : Value) (w : World) (h : RepS w v R) (hR : R.length ≤ 2097152) (hwf : t.wf) :
    Calls Tryd.prog 126 #[v, t.agg sl] w (KeepRet (keepR R t) w) :=
  (l10Keep_far _ R v t sl w h.toF hR hwf).mono (fun _ _ ⟨v', h1, h2, h3⟩ => ⟨v', h1, h2.rep, h3⟩)
end Go.Proofs.YtiemlefmhleaeaaDoor
