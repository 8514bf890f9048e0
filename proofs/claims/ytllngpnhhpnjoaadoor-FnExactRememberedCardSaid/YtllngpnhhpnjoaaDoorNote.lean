/- impl.memory.note. -/
import Derived.Test.YtllngpnhhpnjoaaDoorNoteA
import Derived.Deep.RegionHeld3
import Derived.Deep.RegionLaw
import Derived.BigRegion
namespace Go.Proofs.YtllngpnhhpnjoaaDoor
set_option linter.unusedVariables false
set_option maxRecDepth 100000
open Go.RowKit
set_option maxHeartbeats 12000000 in
theorem note_any (B m : Nat) (R : List V) (bad : Bool) (o : Value) (t : V) (sl : Value) (w : World) (h : MOf B m R bad o w) (hR : R.length ≤ 8388608) (hwf : t.wf) :
    Calls Tryd.prog 62 #[.pointer (some ⟨m, 0, none⟩), t.agg sl] w (NoteRet B m (keepR R t) bad o w) := by
  obtain ⟨oa, ocap, rfl⟩ := h.hr.slice
  have HM := Lib.hid h
  have hml := lt_of_heap h.hm
  have HK := Lib.hid (show keepR R t = if least0 R.length ≤ t.s.size then R ++ [leafV t] else R from rfl)
  have LS := Lib.hid (fun (W : World) => Least_impl (R.length : Int) W)
  have HWF := Lib.hid (leafV_wf hwf)
  generalize keepR R t = R2 at *
  have B0 := Lib.hid (Box.new w t.k t.n t.e t.s sl 30)
  generalize least0 R.length = q at *
  have HLF := Lib.hid (show leafV t = .mk t.k 0 0 t.s [] from rfl)
  have hm0 : w.cell? ⟨m, 0, none⟩ = some (.slice oa R.length ocap) := by rw [cell_of_row _ _ _ _ _ (0, 0) h.hm]; rfl
  unfold V.agg
  generalize leafV t = lf at *
  generalize t.k = vk at *
  generalize t.n = vn at *
  generalize t.e = ve at *
  generalize t.s = vs at *
  clear h
  by_cases hq : q ≤ vs.size
  · have t1 : decide (q ≤ (vs.size : Int)) = true := decide_eq_true hq
    rw [if_pos hq] at HK
    clear hq hwf
    rw [HK.out]
    clear HK
    go_enter Tryd.func62, Tryd.ntmps62
    go_wp2_with fail
    go_quiet ((go_at_call 106; exact Calls.quiet_of_same (LS.out _)))
    go_wp2_with fail
    have HB1 := Lib.hid (show Below w.heap.size w ((w.alloc (.cells #[.int .i64 vk, .int .i64 vn, .int .i64 ve, .string vs, sl] 30)).drewN nq) from (by (repeat' (first | with_reducible exact Below.refl _ _ | with_reducible refine below_alloc ?_ _ ?_ | with_reducible refine Below.setCell ?_ ?_ _ | with_reducible refine Below.drew ?_ | with_reducible refine below_drewN ?_ _ | with_reducible refine below_step ?_ (by assumption) ?_ | with_reducible refine below_mark ?_ (by assumption) ?_)); all_goals (first | omega | (simp; done) | (simp; omega))))
    have HZ1 := Lib.hid (show ((w.alloc (.cells #[.int .i64 vk, .int .i64 vn, .int .i64 ve, .string vs, sl] 30)).drewN nq).heap.size = w.heap.size + 1 by simp)
    have B1 := Lib.hid (show Box ((w.alloc (.cells #[.int .i64 vk, .int .i64 vn, .int .i64 ve, .string vs, sl] 30)).drewN nq) w.heap.size vk vn ve vs sl 30 from B0.out)
    generalize (w.alloc (.cells #[.int .i64 vk, .int .i64 vn, .int .i64 ve, .string vs, sl] 30)).drewN nq = W1 at *
    obtain ⟨c0, c1, c2, c3, c4⟩ := B1.out.cells
    have HL1 := Lib.hid (show w.heap.size ≤ W1.heap.size by have := HZ1.out; omega)
    have hm1 : W1.cell? ⟨m, 0, none⟩ = some (.slice oa R.length ocap) := by rw [HB1.out.cell (p := ⟨m, 0, none⟩) hml]; exact hm0
    clear B0 c1 c2 c4
    have hlf := HLF.out
    subst hlf
    have hl1 : w.heap.size < W1.heap.size := by have := HZ1.out; omega
    have hl2 : m < W1.heap.size := by omega
    go_region_law (refine step_vals rfl _ _ rfl B (fun _ => False) (fun _ => False) _ R [V.mk 0 0 0 ⟨#[]⟩ []] _ rfl (HM.out.hr.stay (HB1.out.trans (Below.mono ((by (repeat' (first | with_reducible exact Below.refl _ _ | with_reducible refine below_alloc ?_ _ ?_ | with_reducible refine Below.setCell ?_ ?_ _ | with_reducible refine Below.drew ?_ | with_reducible refine below_drewN ?_ _ | with_reducible refine below_step ?_ (by assumption) ?_ | with_reducible refine below_mark ?_ (by assumption) ?_)); all_goals (first | omega | (simp; done) | (simp; omega)))) HL1.out))) _ rfl (vsrc_leaf (b := W1.heap.size) (by first | exact heap_alloc_at _ (by simp) | exact (heap_alloc_old _ _ (by simp; done)).trans (heap_alloc_at _ (by simp)) | exact (heap_alloc_old _ _ (by simp; omega)).trans (heap_alloc_at _ (by simp))) zero_wf) (fun x hx => hx.elim) (by first | omega | (simp; done) | (simp; omega)) (by have := HM.out.bm; have := HL1.out; first | omega | (simp; omega)) ?_; intro v2 w2 hrow2 hg2 hfr2; obtain ⟨g, gcap, rfl⟩ := prow_addr1 hrow2; have H2 := Lib.hid hrow2; have HP2 := Lib.hid (show NPre W1 w2 (.slice oa R.length ocap) (.slice (some ⟨g, 0, none⟩) (R.length + 1) gcap) from ⟨_, (by (repeat' (first | with_reducible exact Below.refl _ _ | with_reducible refine below_alloc ?_ _ ?_ | with_reducible refine Below.setCell ?_ ?_ _ | with_reducible refine Below.drew ?_ | with_reducible refine below_drewN ?_ _ | with_reducible refine below_step ?_ (by assumption) ?_ | with_reducible refine below_mark ?_ (by assumption) ?_)); all_goals (first | omega | (simp; done) | (simp; omega))), hg2, hfr2⟩); have hix : (R.length : Int) < (R.length : Int) + 1 := (by omega); have HMC := Lib.hid (note_cells1 HM.out HB1.out HP2.out hrow2); obtain ⟨e0, e1, e2, e3, ⟨u4, e4⟩, f0, f1, f2, f3, f4, em, fm, gm1, gm2⟩ := HMC.out; clear hrow2 hg2 hfr2 HMC)
    all_goals go_end0
    all_goals first | with_reducible refine note_finL HM.out HB1.out HP2.out H2.out no_ff HWF.out gm1 ?_ | with_reducible refine note_finR HM.out HB1.out HP2.out H2.out no_ff HWF.out gm1 ?_
    all_goals rfl
  · have t1 : decide (q ≤ (vs.size : Int)) = false := decide_eq_false hq
    rw [if_neg hq] at HK
    clear hq hwf
    rw [HK.out]
    clear HK
    go_enter Tryd.func62, Tryd.ntmps62
    go_wp2_with fail
    go_quiet ((go_at_call 106; exact Calls.quiet_of_same (LS.out _)))
    go_wp2_with fail
    go_end0
    have hbb : Below w.heap.size w ((w.alloc (.cells #[.int .i64 vk, .int .i64 vn, .int .i64 ve, .string vs, sl] 30)).drewN nq) := (by (repeat' (first | with_reducible exact Below.refl _ _ | with_reducible refine below_alloc ?_ _ ?_ | with_reducible refine Below.setCell ?_ ?_ _ | with_reducible refine Below.drew ?_ | with_reducible refine below_drewN ?_ _ | with_reducible refine below_step ?_ (by assumption) ?_ | with_reducible refine below_mark ?_ (by assumption) ?_)); all_goals (first | omega | (simp; done) | (simp; omega)))
    exact ⟨rfl, _, HM.out.keep hbb.size (fun x hx => hbb.block x (HM.out.lt x hx).2), Touch.of_below hbb⟩
end Go.Proofs.YtllngpnhhpnjoaaDoor
