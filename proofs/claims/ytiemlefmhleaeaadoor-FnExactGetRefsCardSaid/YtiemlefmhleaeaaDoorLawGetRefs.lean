/- For every value the program's GetRefs and the reference's return the same value and truth, in memory of their own, and leave the argument as it was: the law returns true. -/
import Derived.Test.YtiemlefmhleaeaaDoorGetI
import Derived.Test.YtiemlefmhleaeaaDoorExact
import Derived.Test.YtiemlefmhleaeaaDoorCardKit
import Derived.Deep.RegionWith
import Derived.Deep.DeepCutAuto
namespace Go.Proofs.YtiemlefmhleaeaaDoor
set_option linter.unusedVariables false
set_option maxRecDepth 100000
open Go.ChangeShapes Go.WideShapes Go.ChangeAt Go.RowKit Go.Lib
set_option maxHeartbeats 8000000 in
theorem walk_FnExactGetRefs {w00 : World} (v0 : Value) (t0 : V) (hv0 : Rep w00 v0 t0) (w : World) (hww : w = w00) (hE : Env w) : Calls Tryd.prog 3 #[v0] w (LawRet w) := by
  subst hww
  have SZ0 := Lib.hid (fun w' (hh : Below w.heap.size w w') (m : Int) (h0 : 0 ≤ m) (h1 : m ≤ 1048576) => sz_any w v0 t0 hv0 w' hh m h0 h1)
  have TO0 := Lib.hid (fun w' (hh : Below w.heap.size w w') (hz : t0.sz ≤ 1048576) => to_any w v0 t0 hv0 hz w' hh)
  have EQ0 := Lib.hid (fun w1 x y (h1 : Rep w1 x t0) (h2 : Rep w1 y t0) => eq_any w1 x y t0 h1 h2 w1 (Below.refl _ _))
  have KS := Lib.hid (fun w1 x0 (h0 : Rep w1 x0 t0) (z0 : t0.sz ≤ 1048576) => GetRefs_spec w1 x0 t0 h0 z0 w1 (Below.refl _ _))
  have KI := Lib.hid (fun w1 x0 (h0 : Rep w1 x0 t0) (z0 : t0.sz ≤ 1048576) (hh : Below w.heap.size w w1) => GetRefs_impl w1 x0 t0 h0 z0 w1 (Below.refl _ _) (Env.keep hE hh))
  clear hE
  have HCN0 := Lib.hid (fun (h : t0.sz ≤ 1048576) => cnts_kids_le h)
  have HR0 := Lib.hid (fun (h : t0.sz ≤ 1048576) => cnts_kids_le (grR_sz h))
  obtain ⟨sl0, rfl, _, _⟩ := hv0
  unfold V.agg at SZ0 TO0 ⊢
  generalize (grR t0).getD t0 = r0 at *
  generalize (grR t0).isSome = r1 at *
  go_enter Tryd.func3, Tryd.ntmps3
  go_wp2_with fail
  have BA0_0 := Lib.hid (Box.new (w) t0.k t0.n t0.e t0.s sl0 24)
  have HOK0 := Lib.hid (fun (h : ¬ szr (1048576) (t0.sz) < 0) => szr_ok h)
  have hlo0 := szr_lo (1048576) (t0.sz)
  refine (SZ0.out _ (by (repeat' (first | with_reducible exact Below.refl _ _ | with_reducible refine below_alloc ?_ _ ?_ | with_reducible refine Below.setCell ?_ ?_ _ | with_reducible refine Below.drew ?_ | with_reducible refine below_drewN ?_ _ | with_reducible refine below_step ?_ (by assumption) ?_ | with_reducible refine below_mark ?_ (by assumption) ?_)); all_goals (first | omega | (simp; done) | (simp; omega))) _ (by omega) (by omega)).mono ?_
  rintro e1 w1 ⟨rfl, hb1⟩
  have hz1 := hb1.size; try simp at hz1
  generalize szr (1048576) (t0.sz) = m0 at *
  have BA0_1 := Lib.hid (Box.stay BA0_0.out (w' := w1) (by (repeat' (first | with_reducible exact Below.refl _ _ | with_reducible refine below_alloc ?_ _ ?_ | with_reducible refine Below.setCell ?_ ?_ _ | with_reducible refine Below.drew ?_ | with_reducible refine below_drewN ?_ _ | with_reducible refine below_step ?_ (by assumption) ?_ | with_reducible refine below_mark ?_ (by assumption) ?_)); all_goals (first | omega | (simp; done) | (simp; omega))))
  obtain ⟨cBA01_0, cBA01_1, cBA01_2, cBA01_3, cBA01_4⟩ := BA0_1.out.cells
  by_cases hm0 : m0 < 0
  · go_wp2_with fail
    go_ret
    exact ⟨rfl, (by (repeat' (first | with_reducible exact Below.refl _ _ | with_reducible refine below_alloc ?_ _ ?_ | with_reducible refine Below.setCell ?_ ?_ _ | with_reducible refine Below.drew ?_ | with_reducible refine below_drewN ?_ _ | with_reducible refine below_step ?_ (by assumption) ?_ | with_reducible refine below_mark ?_ (by assumption) ?_)); all_goals (first | omega | (simp; done) | (simp; omega)))⟩
  obtain ⟨hq0, hr0⟩ := HOK0.out hm0
  have hm0' : ¬ m0 < 0 := hm0
  have hs0 := HCN0.out (by omega)
  go_wp2_with fail
  have hHR0 := HR0.out (by omega)
  clear cBA01_0 cBA01_1 cBA01_2 cBA01_3 cBA01_4
  refine (TO0.out _ (by (repeat' (first | with_reducible exact Below.refl _ _ | with_reducible refine below_alloc ?_ _ ?_ | with_reducible refine Below.setCell ?_ ?_ _ | with_reducible refine Below.drew ?_ | with_reducible refine below_drewN ?_ _ | with_reducible refine below_step ?_ (by assumption) ?_ | with_reducible refine below_mark ?_ (by assumption) ?_)); all_goals (first | omega | (simp; done) | (simp; omega))) (by omega)).mono ?_
  rintro e2 w2 ⟨ps0, rfl, pf0, po0, hb2⟩
  have hz2 := hb2.size; try simp at hz2
  obtain ⟨pa0, pc0, rfl⟩ := po0.slice
  have pO0 := Lib.hid po0
  have pR0 := Lib.hid (po0.repV pf0)
  clear po0
  unfold V.agg at pR0 ⊢
  go_wp2_with fail
  refine (KS.out _ _ (pR0.out.keep (by (repeat' (first | with_reducible exact Below.refl _ _ | with_reducible refine below_alloc ?_ _ ?_ | with_reducible refine Below.setCell ?_ ?_ _ | with_reducible refine Below.drew ?_ | with_reducible refine below_drewN ?_ _ | with_reducible refine below_step ?_ (by assumption) ?_ | with_reducible refine below_mark ?_ (by assumption) ?_)); all_goals (first | omega | (simp; done) | (simp; omega)))) (by omega)).mono ?_
  rintro e3 w3 ⟨qs0, rfl, qf0, qo0, hb3⟩
  have hz3 := hb3.size; try simp at hz3
  obtain ⟨qa0, qc0, rfl⟩ := qo0.slice
  have qR0 := Lib.hid (show Rep w3 (r0.agg (.slice qa0 r0.kids.length qc0)) r0 from ⟨_, rfl, qf0, qo0.rep⟩)
  clear qo0
  unfold V.agg at qR0 ⊢
  have BQ0_n := Lib.hid (Box.new w3 r0.k r0.n r0.e r0.s (.slice qa0 r0.kids.length qc0) 28)
  have BA0_3 := Lib.hid (Box.stay BA0_1.out (w' := w3) (by (repeat' (first | with_reducible exact Below.refl _ _ | with_reducible refine below_alloc ?_ _ ?_ | with_reducible refine Below.setCell ?_ ?_ _ | with_reducible refine Below.drew ?_ | with_reducible refine below_drewN ?_ _ | with_reducible refine below_step ?_ (by assumption) ?_ | with_reducible refine below_mark ?_ (by assumption) ?_)); all_goals (first | omega | (simp; done) | (simp; omega))))
  obtain ⟨cBA03_0, cBA03_1, cBA03_2, cBA03_3, cBA03_4⟩ := BA0_3.out.cells
  have hn3 : w.heap.size < w3.heap.size := by omega
  have hnn3 : w.heap.size ≠ w3.heap.size := by omega
  go_wp2_with fail
  clear cBA03_0 cBA03_1 cBA03_2 cBA03_3 cBA03_4
  refine (TO0.out _ (by (repeat' (first | with_reducible exact Below.refl _ _ | with_reducible refine below_alloc ?_ _ ?_ | with_reducible refine Below.setCell ?_ ?_ _ | with_reducible refine Below.drew ?_ | with_reducible refine below_drewN ?_ _ | with_reducible refine below_step ?_ (by assumption) ?_ | with_reducible refine below_mark ?_ (by assumption) ?_)); all_goals (first | omega | (simp; done) | (simp; omega))) (by omega)).mono ?_
  rintro e4 w4 ⟨xs0, rfl, xf0, xo0, hb4⟩
  have hz4 := hb4.size; try simp at hz4
  obtain ⟨xa0, xc0, rfl⟩ := xo0.slice
  have xO0 := Lib.hid xo0.bound
  have xR0 := Lib.hid (xo0.repV xf0)
  clear xo0
  unfold V.agg at xR0 ⊢
  have BX0_n := Lib.hid (Box.new w4 t0.k t0.n t0.e t0.s (.slice xa0 t0.kids.length xc0) 28)
  go_wp2_with fail
  refine (KI.out _ _ (xR0.out.keep (by (repeat' (first | with_reducible exact Below.refl _ _ | with_reducible refine below_alloc ?_ _ ?_ | with_reducible refine Below.setCell ?_ ?_ _ | with_reducible refine Below.drew ?_ | with_reducible refine below_drewN ?_ _ | with_reducible refine below_step ?_ (by assumption) ?_ | with_reducible refine below_mark ?_ (by assumption) ?_)); all_goals (first | omega | (simp; done) | (simp; omega)))) (by omega) (by (repeat' (first | with_reducible exact Below.refl _ _ | with_reducible refine below_alloc ?_ _ ?_ | with_reducible refine Below.setCell ?_ ?_ _ | with_reducible refine Below.drew ?_ | with_reducible refine below_drewN ?_ _ | with_reducible refine below_step ?_ (by assumption) ?_ | with_reducible refine below_mark ?_ (by assumption) ?_)); all_goals (first | omega | (simp; done) | (simp; omega)))).mono ?_
  rintro e5 w5 ⟨gs0, rfl, gf0, go0, hb5⟩
  have hz5 := hb5.size; try simp at hz5
  obtain ⟨ga0, gc0, rfl⟩ := go0.slice
  have gR0 := Lib.hid (show Rep w5 (r0.agg (.slice ga0 r0.kids.length gc0)) r0 from ⟨_, rfl, gf0, go0.rep⟩)
  have gO0 := Lib.hid go0.bound
  clear go0
  unfold V.agg at gR0 ⊢
  have BG0_n := Lib.hid (Box.new w5 r0.k r0.n r0.e r0.s (.slice ga0 r0.kids.length gc0) 28)
  have tn1 : (r1 != r1) = false := by simp
  have BQ0_5 := Lib.hid (Box.stay BQ0_n.out (w' := w5) (by (repeat' (first | with_reducible exact Below.refl _ _ | with_reducible refine below_alloc ?_ _ ?_ | with_reducible refine Below.setCell ?_ ?_ _ | with_reducible refine Below.drew ?_ | with_reducible refine below_drewN ?_ _ | with_reducible refine below_step ?_ (by assumption) ?_ | with_reducible refine below_mark ?_ (by assumption) ?_)); all_goals (first | omega | (simp; done) | (simp; omega))))
  obtain ⟨cBQ05_0, cBQ05_1, cBQ05_2, cBQ05_3, cBQ05_4⟩ := BQ0_5.out.cells
  have hnq5 : w3.heap.size < w5.heap.size := by omega
  have hnr5 : w3.heap.size ≠ w5.heap.size := by omega
  go_wp2_with fail
  clear cBQ05_0 cBQ05_1 cBQ05_2 cBQ05_3 cBQ05_4
  refine (eq_any _ _ _ r0 (gR0.out.keep (by (repeat' (first | with_reducible exact Below.refl _ _ | with_reducible refine below_alloc ?_ _ ?_ | with_reducible refine Below.setCell ?_ ?_ _ | with_reducible refine Below.drew ?_ | with_reducible refine below_drewN ?_ _ | with_reducible refine below_step ?_ (by assumption) ?_ | with_reducible refine below_mark ?_ (by assumption) ?_)); all_goals (first | omega | (simp; done) | (simp; omega)))) (qR0.out.keep (by (repeat' (first | with_reducible exact Below.refl _ _ | with_reducible refine below_alloc ?_ _ ?_ | with_reducible refine Below.setCell ?_ ?_ _ | with_reducible refine Below.drew ?_ | with_reducible refine below_drewN ?_ _ | with_reducible refine below_step ?_ (by assumption) ?_ | with_reducible refine below_mark ?_ (by assumption) ?_)); all_goals (first | omega | (simp; done) | (simp; omega)))) _ (Below.refl _ _)).mono ?_
  rintro e6 w6 ⟨rfl, hb6⟩
  have hz6 := hb6.size; try simp at hz6
  have BX0_6 := Lib.hid (Box.stay BX0_n.out (w' := w6) (by (repeat' (first | with_reducible exact Below.refl _ _ | with_reducible refine below_alloc ?_ _ ?_ | with_reducible refine Below.setCell ?_ ?_ _ | with_reducible refine Below.drew ?_ | with_reducible refine below_drewN ?_ _ | with_reducible refine below_step ?_ (by assumption) ?_ | with_reducible refine below_mark ?_ (by assumption) ?_)); all_goals (first | omega | (simp; done) | (simp; omega))))
  obtain ⟨cBX06_0, cBX06_1, cBX06_2, cBX06_3, cBX06_4⟩ := BX0_6.out.cells
  have BA0_6 := Lib.hid (Box.stay BA0_3.out (w' := w6) (by (repeat' (first | with_reducible exact Below.refl _ _ | with_reducible refine below_alloc ?_ _ ?_ | with_reducible refine Below.setCell ?_ ?_ _ | with_reducible refine Below.drew ?_ | with_reducible refine below_drewN ?_ _ | with_reducible refine below_step ?_ (by assumption) ?_ | with_reducible refine below_mark ?_ (by assumption) ?_)); all_goals (first | omega | (simp; done) | (simp; omega))))
  obtain ⟨cBA06_0, cBA06_1, cBA06_2, cBA06_3, cBA06_4⟩ := BA0_6.out.cells
  go_upto_region 10 with fail
  go_cut [45] (fun s wx => s = .bool false ∧ Below w6.heap.size w6 wx)
  case first =>
    go_region_with (first | (go_at_call 16; refine (TO0.out _ (by (repeat' (first | with_reducible exact Below.refl _ _ | with_reducible refine below_alloc ?_ _ ?_ | with_reducible refine Below.setCell ?_ ?_ _ | with_reducible refine Below.drew ?_ | with_reducible refine below_drewN ?_ _ | with_reducible refine below_step ?_ (by assumption) ?_ | with_reducible refine below_mark ?_ (by assumption) ?_)); all_goals (first | omega | (simp; done) | (simp; omega))) (by omega)).mono ?_; rintro e0 wa0 ⟨ys0, rfl, yf0, yo0, yb0⟩; have yR0 := Lib.hid (yo0.repV yf0); obtain ⟨y0, y1, y2, y3, y4⟩ := (Box.keep BX0_6.out (Below.trans (Below.drew (Below.refl _ _)) yb0) (Nat.le_refl _)).cells; clear yo0) | (go_at_call 18; refine (EQ0.out _ _ _ (xR0.out.keep (by (repeat' (first | with_reducible exact Below.refl _ _ | with_reducible refine below_alloc ?_ _ ?_ | with_reducible refine Below.setCell ?_ ?_ _ | with_reducible refine Below.drew ?_ | with_reducible refine below_drewN ?_ _ | with_reducible refine below_step ?_ (by assumption) ?_ | with_reducible refine below_mark ?_ (by assumption) ?_)); all_goals (first | omega | (simp; done) | (simp; omega)))) yR0.out).mono ?_; rintro e0 wb0 ⟨rfl, zb0⟩))
    all_goals (go_wp2_with fail; go_meet; exact ⟨rfl, (by (repeat' (first | with_reducible exact Below.refl _ _ | with_reducible refine below_alloc ?_ _ ?_ | with_reducible refine Below.setCell ?_ ?_ _ | with_reducible refine Below.drew ?_ | with_reducible refine below_drewN ?_ _ | with_reducible refine below_step ?_ (by assumption) ?_ | with_reducible refine below_mark ?_ (by assumption) ?_)); all_goals (first | omega | (simp; done) | (simp; omega)))⟩)
  case rest =>
    obtain ⟨rfl, hb7⟩ := hcut
    obtain ⟨w7, rfl⟩ : ∃ W : World, W = wc := ⟨_, rfl⟩
    have hz7 := hb7.size; try simp at hz7
    clear cBX06_0 cBX06_1 cBX06_2 cBX06_3 cBX06_4 cBA06_0 cBA06_1 cBA06_2 cBA06_3 cBA06_4
    have BX0_7 := Lib.hid (Box.stay BX0_6.out (w' := w7) (by (repeat' (first | with_reducible exact Below.refl _ _ | with_reducible refine below_alloc ?_ _ ?_ | with_reducible refine Below.setCell ?_ ?_ _ | with_reducible refine Below.drew ?_ | with_reducible refine below_drewN ?_ _ | with_reducible refine below_step ?_ (by assumption) ?_ | with_reducible refine below_mark ?_ (by assumption) ?_)); all_goals (first | omega | (simp; done) | (simp; omega))))
    obtain ⟨cBX07_0, cBX07_1, cBX07_2, cBX07_3, cBX07_4⟩ := BX0_7.out.cells
    go_wp2_with fail
    have XB0 := Lib.hid ((xO0.out).keep (w' := w7) (fun x hx hxs => (show Below w4.heap.size w4 w7 by exact (by (repeat' (first | with_reducible exact Below.refl _ _ | with_reducible refine below_alloc ?_ _ ?_ | with_reducible refine Below.setCell ?_ ?_ _ | with_reducible refine Below.drew ?_ | with_reducible refine below_drewN ?_ _ | with_reducible refine below_step ?_ (by assumption) ?_ | with_reducible refine below_mark ?_ (by assumption) ?_)); all_goals (first | omega | (simp; done) | (simp; omega)))).block x hxs))
    clear cBX07_0 cBX07_1 cBX07_2 cBX07_3 cBX07_4
    refine (mark_value t0 _ _ (1) _ XB0.out (by omega) (by omega)).mono ?_
    rintro e8 w8 ⟨rfl, ho8, ht8⟩
    have HT8 := Lib.hid ht8; clear ho8 ht8
    have hb8 : Below w3.heap.size w7 w8 := HT8.out.below (fun x hx => by have h1 := hx.1; (first | omega | (simp at h1; done) | (simp at h1; omega))) (by omega)
    have hz8 := HT8.out.size; try simp at hz8
    have BA0_8 := Lib.hid (Box.over (Box.stay BA0_6.out (w' := w7) (by (repeat' (first | with_reducible exact Below.refl _ _ | with_reducible refine below_alloc ?_ _ ?_ | with_reducible refine Below.setCell ?_ ?_ _ | with_reducible refine Below.drew ?_ | with_reducible refine below_drewN ?_ _ | with_reducible refine below_step ?_ (by assumption) ?_ | with_reducible refine below_mark ?_ (by assumption) ?_)); all_goals (first | omega | (simp; done) | (simp; omega)))) HT8.out (fun hx => by have h1 := hx.1; have h2 := hx.2; first | omega | (simp at h1 h2; done) | (simp at h1; done) | (simp at h1; omega) | (simp at h2; omega) | (simp at h1 h2; omega)))
    have BQ0_8 := Lib.hid (Box.over (Box.stay BQ0_5.out (w' := w7) (by (repeat' (first | with_reducible exact Below.refl _ _ | with_reducible refine below_alloc ?_ _ ?_ | with_reducible refine Below.setCell ?_ ?_ _ | with_reducible refine Below.drew ?_ | with_reducible refine below_drewN ?_ _ | with_reducible refine below_step ?_ (by assumption) ?_ | with_reducible refine below_mark ?_ (by assumption) ?_)); all_goals (first | omega | (simp; done) | (simp; omega)))) HT8.out (fun hx => by have h1 := hx.1; have h2 := hx.2; first | omega | (simp at h1 h2; done) | (simp at h1; done) | (simp at h1; omega) | (simp at h2; omega) | (simp at h1 h2; omega)))
    have BX0_8 := Lib.hid (Box.over (Box.stay BX0_7.out (w' := w7) (by (repeat' (first | with_reducible exact Below.refl _ _ | with_reducible refine below_alloc ?_ _ ?_ | with_reducible refine Below.setCell ?_ ?_ _ | with_reducible refine Below.drew ?_ | with_reducible refine below_drewN ?_ _ | with_reducible refine below_step ?_ (by assumption) ?_ | with_reducible refine below_mark ?_ (by assumption) ?_)); all_goals (first | omega | (simp; done) | (simp; omega)))) HT8.out (fun hx => by have h1 := hx.1; have h2 := hx.2; first | omega | (simp at h1 h2; done) | (simp at h1; done) | (simp at h1; omega) | (simp at h2; omega) | (simp at h1 h2; omega)))
    have BG0_8 := Lib.hid (Box.over (Box.stay BG0_n.out (w' := w7) (by (repeat' (first | with_reducible exact Below.refl _ _ | with_reducible refine below_alloc ?_ _ ?_ | with_reducible refine Below.setCell ?_ ?_ _ | with_reducible refine Below.drew ?_ | with_reducible refine below_drewN ?_ _ | with_reducible refine below_step ?_ (by assumption) ?_ | with_reducible refine below_mark ?_ (by assumption) ?_)); all_goals (first | omega | (simp; done) | (simp; omega)))) HT8.out (fun hx => by have h1 := hx.1; have h2 := hx.2; first | omega | (simp at h1 h2; done) | (simp at h1; done) | (simp at h1; omega) | (simp at h2; omega) | (simp at h1 h2; omega)))
    have gO0_8 := Lib.hid ((gO0.out.keep (w' := w7) (fun x hx hxs => (show Below w5.heap.size w5 w7 by exact (by (repeat' (first | with_reducible exact Below.refl _ _ | with_reducible refine below_alloc ?_ _ ?_ | with_reducible refine Below.setCell ?_ ?_ _ | with_reducible refine Below.drew ?_ | with_reducible refine below_drewN ?_ _ | with_reducible refine below_step ?_ (by assumption) ?_ | with_reducible refine below_mark ?_ (by assumption) ?_)); all_goals (first | omega | (simp; done) | (simp; omega)))).block x hxs)).keep (w' := w8) (fun x hx hxs => HT8.out.block x hxs (fun hy => by have h1 := hx.1; have h2 := hy.2; (first | omega | (simp at h1; done) | (simp at h1; omega)))))
    have gR0_8 := Lib.hid (show Rep w8 (.agg #[.int .i64 r0.k, .int .i64 r0.n, .int .i64 r0.e, .string r0.s, .slice ga0 r0.kids.length gc0]) r0 from ⟨_, rfl, gf0, gO0_8.out.rep⟩)
    clear gO0 gR0
    have gO0 := gO0_8; have gR0 := gR0_8; clear gO0_8 gR0_8
    have tk : decide ((1 + (cnts t0.kids : Nat) : Int) < 0) = false := by simp; omega
    have BQ0_8 := Lib.hid (Box.stay BQ0_8.out (w' := w8) (by (repeat' (first | with_reducible exact Below.refl _ _ | with_reducible refine below_alloc ?_ _ ?_ | with_reducible refine Below.setCell ?_ ?_ _ | with_reducible refine Below.drew ?_ | with_reducible refine below_drewN ?_ _ | with_reducible refine below_step ?_ (by assumption) ?_ | with_reducible refine below_mark ?_ (by assumption) ?_)); all_goals (first | omega | (simp; done) | (simp; omega))))
    obtain ⟨cBQ08_0, cBQ08_1, cBQ08_2, cBQ08_3, cBQ08_4⟩ := BQ0_8.out.cells
    have BG0_8 := Lib.hid (Box.stay BG0_8.out (w' := w8) (by (repeat' (first | with_reducible exact Below.refl _ _ | with_reducible refine below_alloc ?_ _ ?_ | with_reducible refine Below.setCell ?_ ?_ _ | with_reducible refine Below.drew ?_ | with_reducible refine below_drewN ?_ _ | with_reducible refine below_step ?_ (by assumption) ?_ | with_reducible refine below_mark ?_ (by assumption) ?_)); all_goals (first | omega | (simp; done) | (simp; omega))))
    obtain ⟨cBG08_0, cBG08_1, cBG08_2, cBG08_3, cBG08_4⟩ := BG0_8.out.cells
    go_wp2_with fail
    clear cBQ08_0 cBQ08_1 cBQ08_2 cBQ08_3 cBQ08_4 cBG08_0 cBG08_1 cBG08_2 cBG08_3 cBG08_4
    refine (eq_any _ _ _ r0 (gR0.out.keep (by (repeat' (first | with_reducible exact Below.refl _ _ | with_reducible refine below_alloc ?_ _ ?_ | with_reducible refine Below.setCell ?_ ?_ _ | with_reducible refine Below.drew ?_ | with_reducible refine below_drewN ?_ _ | with_reducible refine below_step ?_ (by assumption) ?_ | with_reducible refine below_mark ?_ (by assumption) ?_)); all_goals (first | omega | (simp; done) | (simp; omega)))) (qR0.out.keep (by (repeat' (first | with_reducible exact Below.refl _ _ | with_reducible refine below_alloc ?_ _ ?_ | with_reducible refine Below.setCell ?_ ?_ _ | with_reducible refine Below.drew ?_ | with_reducible refine below_drewN ?_ _ | with_reducible refine below_step ?_ (by assumption) ?_ | with_reducible refine below_mark ?_ (by assumption) ?_)); all_goals (first | omega | (simp; done) | (simp; omega)))) _ (Below.refl _ _)).mono ?_
    rintro e9 w9 ⟨rfl, hb9⟩
    have hz9 := hb9.size; try simp at hz9
    have BG0_9 := Lib.hid (Box.stay BG0_8.out (w' := w9) (by (repeat' (first | with_reducible exact Below.refl _ _ | with_reducible refine below_alloc ?_ _ ?_ | with_reducible refine Below.setCell ?_ ?_ _ | with_reducible refine Below.drew ?_ | with_reducible refine below_drewN ?_ _ | with_reducible refine below_step ?_ (by assumption) ?_ | with_reducible refine below_mark ?_ (by assumption) ?_)); all_goals (first | omega | (simp; done) | (simp; omega))))
    obtain ⟨cBG09_0, cBG09_1, cBG09_2, cBG09_3, cBG09_4⟩ := BG0_9.out.cells
    go_wp2_with fail
    have GB := Lib.hid (gO0.out.keep (w' := w9) (fun x hx hxs => (show Below w8.heap.size w8 w9 by exact (by (repeat' (first | with_reducible exact Below.refl _ _ | with_reducible refine below_alloc ?_ _ ?_ | with_reducible refine Below.setCell ?_ ?_ _ | with_reducible refine Below.drew ?_ | with_reducible refine below_drewN ?_ _ | with_reducible refine below_step ?_ (by assumption) ?_ | with_reducible refine below_mark ?_ (by assumption) ?_)); all_goals (first | omega | (simp; done) | (simp; omega)))).block x hxs))
    clear cBG09_0 cBG09_1 cBG09_2 cBG09_3 cBG09_4
    refine (mark_value r0 _ _ 1 _ GB.out (by omega) (by omega)).mono ?_
    rintro e10 w10 ⟨rfl, ho10, ht10⟩
    have HT10 := Lib.hid ht10; have HM := Lib.hid ho10.rep; clear ho10 ht10
    have hb10 : Below w4.heap.size w9 w10 := HT10.out.below (fun x hx => by have h1 := hx.1; (first | omega | (simp at h1; done) | (simp at h1; omega))) (by omega)
    have hz10 := HT10.out.size; try simp at hz10
    have BA0_10 := Lib.hid (Box.over (Box.stay BA0_8.out (w' := w9) (by (repeat' (first | with_reducible exact Below.refl _ _ | with_reducible refine below_alloc ?_ _ ?_ | with_reducible refine Below.setCell ?_ ?_ _ | with_reducible refine Below.drew ?_ | with_reducible refine below_drewN ?_ _ | with_reducible refine below_step ?_ (by assumption) ?_ | with_reducible refine below_mark ?_ (by assumption) ?_)); all_goals (first | omega | (simp; done) | (simp; omega)))) HT10.out (fun hx => by have h1 := hx.1; have h2 := hx.2; first | omega | (simp at h1 h2; done) | (simp at h1; done) | (simp at h1; omega) | (simp at h2; omega) | (simp at h1 h2; omega)))
    have BQ0_10 := Lib.hid (Box.over (Box.stay BQ0_8.out (w' := w9) (by (repeat' (first | with_reducible exact Below.refl _ _ | with_reducible refine below_alloc ?_ _ ?_ | with_reducible refine Below.setCell ?_ ?_ _ | with_reducible refine Below.drew ?_ | with_reducible refine below_drewN ?_ _ | with_reducible refine below_step ?_ (by assumption) ?_ | with_reducible refine below_mark ?_ (by assumption) ?_)); all_goals (first | omega | (simp; done) | (simp; omega)))) HT10.out (fun hx => by have h1 := hx.1; have h2 := hx.2; first | omega | (simp at h1 h2; done) | (simp at h1; done) | (simp at h1; omega) | (simp at h2; omega) | (simp at h1 h2; omega)))
    have BG0_10 := Lib.hid (Box.over (Box.stay BG0_9.out (w' := w9) (by (repeat' (first | with_reducible exact Below.refl _ _ | with_reducible refine below_alloc ?_ _ ?_ | with_reducible refine Below.setCell ?_ ?_ _ | with_reducible refine Below.drew ?_ | with_reducible refine below_drewN ?_ _ | with_reducible refine below_step ?_ (by assumption) ?_ | with_reducible refine below_mark ?_ (by assumption) ?_)); all_goals (first | omega | (simp; done) | (simp; omega)))) HT10.out (fun hx => by have h1 := hx.1; have h2 := hx.2; first | omega | (simp at h1 h2; done) | (simp at h1; done) | (simp at h1; omega) | (simp at h2; omega) | (simp at h1 h2; omega)))
    have t1 : ((1 + (cnts r0.kids : Nat) : Int) != (1 + (cnts r0.kids : Nat) : Int)) = false := by simp
    have t2 : decide ((1 + (cnts r0.kids : Nat) : Int) < 0) = false := by simp; omega
    have BG0_10 := Lib.hid (Box.stay BG0_10.out (w' := w10) (by (repeat' (first | with_reducible exact Below.refl _ _ | with_reducible refine below_alloc ?_ _ ?_ | with_reducible refine Below.setCell ?_ ?_ _ | with_reducible refine Below.drew ?_ | with_reducible refine below_drewN ?_ _ | with_reducible refine below_step ?_ (by assumption) ?_ | with_reducible refine below_mark ?_ (by assumption) ?_)); all_goals (first | omega | (simp; done) | (simp; omega))))
    obtain ⟨cBG010_0, cBG010_1, cBG010_2, cBG010_3, cBG010_4⟩ := BG0_10.out.cells
    go_wp2_with fail
    clear cBG010_0 cBG010_1 cBG010_2 cBG010_3 cBG010_4
    refine (held_value _ r0 _ 1 _ HM.out (by (repeat' (first | with_reducible exact Below.refl _ _ | with_reducible refine below_alloc ?_ _ ?_ | with_reducible refine Below.setCell ?_ ?_ _ | with_reducible refine Below.drew ?_ | with_reducible refine below_drewN ?_ _ | with_reducible refine below_step ?_ (by assumption) ?_ | with_reducible refine below_mark ?_ (by assumption) ?_)); all_goals (first | omega | (simp; done) | (simp; omega))) _ _ _ _ (by omega) (by omega)).mono ?_
    rintro e11 w11 ⟨rfl, hb11⟩
    have hz11 := hb11.size; try simp at hz11
    have BA0_11 := Lib.hid (Box.stay BA0_10.out (w' := w11) (by (repeat' (first | with_reducible exact Below.refl _ _ | with_reducible refine below_alloc ?_ _ ?_ | with_reducible refine Below.setCell ?_ ?_ _ | with_reducible refine Below.drew ?_ | with_reducible refine below_drewN ?_ _ | with_reducible refine below_step ?_ (by assumption) ?_ | with_reducible refine below_mark ?_ (by assumption) ?_)); all_goals (first | omega | (simp; done) | (simp; omega))))
    obtain ⟨cBA011_0, cBA011_1, cBA011_2, cBA011_3, cBA011_4⟩ := BA0_11.out.cells
    go_wp2_with fail
    clear cBA011_0 cBA011_1 cBA011_2 cBA011_3 cBA011_4
    refine (TO0.out _ (by (repeat' (first | with_reducible exact Below.refl _ _ | with_reducible refine below_alloc ?_ _ ?_ | with_reducible refine Below.setCell ?_ ?_ _ | with_reducible refine Below.drew ?_ | with_reducible refine below_drewN ?_ _ | with_reducible refine below_step ?_ (by assumption) ?_ | with_reducible refine below_mark ?_ (by assumption) ?_)); all_goals (first | omega | (simp; done) | (simp; omega))) (by omega)).mono ?_
    rintro e12 w12 ⟨zs0, rfl, zf0, zo0, hb12⟩
    have hz12 := hb12.size; try simp at hz12
    obtain ⟨za0, zc0, rfl⟩ := zo0.slice
    have zO0 := Lib.hid zo0
    have zR0 := Lib.hid (zo0.repV zf0)
    clear zo0
    unfold V.agg at zR0 ⊢
    go_wp2_with fail
    refine (KI.out _ _ (zR0.out.keep (by (repeat' (first | with_reducible exact Below.refl _ _ | with_reducible refine below_alloc ?_ _ ?_ | with_reducible refine Below.setCell ?_ ?_ _ | with_reducible refine Below.drew ?_ | with_reducible refine below_drewN ?_ _ | with_reducible refine below_step ?_ (by assumption) ?_ | with_reducible refine below_mark ?_ (by assumption) ?_)); all_goals (first | omega | (simp; done) | (simp; omega)))) (by omega) (by (repeat' (first | with_reducible exact Below.refl _ _ | with_reducible refine below_alloc ?_ _ ?_ | with_reducible refine Below.setCell ?_ ?_ _ | with_reducible refine Below.drew ?_ | with_reducible refine below_drewN ?_ _ | with_reducible refine below_step ?_ (by assumption) ?_ | with_reducible refine below_mark ?_ (by assumption) ?_)); all_goals (first | omega | (simp; done) | (simp; omega)))).mono ?_
    rintro e13 w13 ⟨hs0, rfl, hf0, ho0, hb13⟩
    have hz13 := hb13.size; try simp at hz13
    obtain ⟨ha0, hc0, rfl⟩ := ho0.slice
    have hR0 := Lib.hid (show Rep w13 (r0.agg (.slice ha0 r0.kids.length hc0)) r0 from ⟨_, rfl, hf0, ho0.rep⟩)
    have hO0 := Lib.hid ho0.bound
    clear ho0
    unfold V.agg at hR0 ⊢
    have BQ0_13 := Lib.hid (Box.stay BQ0_10.out (w' := w13) (by (repeat' (first | with_reducible exact Below.refl _ _ | with_reducible refine below_alloc ?_ _ ?_ | with_reducible refine Below.setCell ?_ ?_ _ | with_reducible refine Below.drew ?_ | with_reducible refine below_drewN ?_ _ | with_reducible refine below_step ?_ (by assumption) ?_ | with_reducible refine below_mark ?_ (by assumption) ?_)); all_goals (first | omega | (simp; done) | (simp; omega))))
    obtain ⟨cBQ013_0, cBQ013_1, cBQ013_2, cBQ013_3, cBQ013_4⟩ := BQ0_13.out.cells
    have hnq13 : w3.heap.size < w13.heap.size := by omega
    have hnr13 : w3.heap.size ≠ w13.heap.size := by omega
    go_wp2_with fail
    clear cBQ013_0 cBQ013_1 cBQ013_2 cBQ013_3 cBQ013_4
    refine (eq_any _ _ _ r0 (hR0.out.keep (by (repeat' (first | with_reducible exact Below.refl _ _ | with_reducible refine below_alloc ?_ _ ?_ | with_reducible refine Below.setCell ?_ ?_ _ | with_reducible refine Below.drew ?_ | with_reducible refine below_drewN ?_ _ | with_reducible refine below_step ?_ (by assumption) ?_ | with_reducible refine below_mark ?_ (by assumption) ?_)); all_goals (first | omega | (simp; done) | (simp; omega)))) (qR0.out.keep (by (repeat' (first | with_reducible exact Below.refl _ _ | with_reducible refine below_alloc ?_ _ ?_ | with_reducible refine Below.setCell ?_ ?_ _ | with_reducible refine Below.drew ?_ | with_reducible refine below_drewN ?_ _ | with_reducible refine below_step ?_ (by assumption) ?_ | with_reducible refine below_mark ?_ (by assumption) ?_)); all_goals (first | omega | (simp; done) | (simp; omega)))) _ (Below.refl _ _)).mono ?_
    rintro e14 w14 ⟨rfl, hb14⟩
    have hz14 := hb14.size; try simp at hz14
    have BG0_14 := Lib.hid (Box.stay BG0_10.out (w' := w14) (by (repeat' (first | with_reducible exact Below.refl _ _ | with_reducible refine below_alloc ?_ _ ?_ | with_reducible refine Below.setCell ?_ ?_ _ | with_reducible refine Below.drew ?_ | with_reducible refine below_drewN ?_ _ | with_reducible refine below_step ?_ (by assumption) ?_ | with_reducible refine below_mark ?_ (by assumption) ?_)); all_goals (first | omega | (simp; done) | (simp; omega))))
    obtain ⟨cBG014_0, cBG014_1, cBG014_2, cBG014_3, cBG014_4⟩ := BG0_14.out.cells
    go_wp2_with fail
    clear cBG014_0 cBG014_1 cBG014_2 cBG014_3 cBG014_4
    refine (held_value _ r0 _ 1 _ HM.out (by (repeat' (first | with_reducible exact Below.refl _ _ | with_reducible refine below_alloc ?_ _ ?_ | with_reducible refine Below.setCell ?_ ?_ _ | with_reducible refine Below.drew ?_ | with_reducible refine below_drewN ?_ _ | with_reducible refine below_step ?_ (by assumption) ?_ | with_reducible refine below_mark ?_ (by assumption) ?_)); all_goals (first | omega | (simp; done) | (simp; omega))) _ _ _ _ (by omega) (by omega)).mono ?_
    rintro e15 w15 ⟨rfl, hb15⟩
    have hz15 := hb15.size; try simp at hz15
    go_wp2_with fail
    go_ret
    exact ⟨rfl, (by (repeat' (first | with_reducible exact Below.refl _ _ | with_reducible refine below_alloc ?_ _ ?_ | with_reducible refine Below.setCell ?_ ?_ _ | with_reducible refine Below.drew ?_ | with_reducible refine below_drewN ?_ _ | with_reducible refine below_step ?_ (by assumption) ?_ | with_reducible refine below_mark ?_ (by assumption) ?_)); all_goals (first | omega | (simp; done) | (simp; omega)))⟩
set_option maxRecDepth 100000 in
set_option maxHeartbeats 2000000 in
theorem lifted_FnExactGetRefs (os : Os) (started : os.Started) (H : Type) (enc : TypeId × Value → H) :
    ReturnsInHanded {} Tryd.checked os 3 .any (fun w args => (Rows.fnExactGetRefsSpec.pre enc Tryd.prog Tryd.f3 [] false w args ∧ laidMetH Tryd.prog Rows.fnExactGetRefsRow.laid w) ∧ sizedMet enc Tryd.prog Tryd.f3 (OpenSpec.ofChange Rows.fnExactGetRefsSpec) false w args)
      (Rows.fnExactGetRefsSpec.post enc Tryd.prog Tryd.f3 false true false false) := by
  refine returnsInHanded_of_change_and (C := Tryd.checked) (X := fun w _ => laidMetH Tryd.prog Rows.fnExactGetRefsRow.laid w) (fun _ _ _ hh h => h.of_heap hh) lawOwn started (by kernel_rfl) Tryd.func3
    (ChangeSpec.witness_shaped (enc := enc) (C := Tryd.checked) (os := os) (X := fun w _ => laidMetH Tryd.prog Rows.fnExactGetRefsRow.laid w) false (World.laidAll Tryd.prog os Rows.fnExactGetRefsRow.laid) #[.agg #[.int .i64 0, .int .i64 0, .int .i64 0, .string ByteArray.empty, .slice none 0 0]] 8 (World.laidAll_os _ _ _)
      (World.shaped_of_ZipB (by kernel_rfl) (by kernel_rfl)) (by kernel_rfl) (by kernel_rfl) (by kernel_rfl)
      (by rw [MakeChecks.laidMetH_plain _ _ _ (by kernel_rfl)]; exact laidMet_laidAll _ (by kernel_rfl) (by kernel_rfl))) ?_
  intro W base args ds gs before hval0 hW _ _ hL _
  have hval : ∀ (j : Nat) t v, Tryd.f3.params[j]? = some t → args[j]? = some v → Value.okWide Tryd.prog W .any base t v := hval0
  have hW' := hW
  obtain ⟨p, q, hA0, hV, hpq, hfz, hnd⟩ := hW
  have hA : DataW.TrodAll enc Tryd.prog W 0 (fun _ => true) true Tryd.f3.params.toList args.toList ds p := hA0
  rw [Tryd.params3] at hA hval
  rw [MakeChecks.laidMetH_plain _ _ _ (by kernel_rfl)] at hL
  have hE : Env W := env_of (Lib.laidMet.reads hL (.tail _ (.head _))) (Lib.laidMet.reads hL (.head _))
  obtain ⟨v0, vs0, d0, ds0, p0, q0, hargs, rfl, hp, h0, r0⟩ := trodAll_cons hA
  obtain ⟨rfl, rfl, rfl⟩ := trodAll_nil r0
  obtain rfl : args = #[v0] := by cases args; simp_all
  obtain ⟨a0, w0⟩ := open_V (okV (hval 0 24 v0 rfl rfl)) h0
  refine (walk_FnExactGetRefs v0 a0 w0 W rfl hE).mono fun e W' ⟨he, hb⟩ => ?_
  subst he
  refine ⟨_, rfl, law_post rfl rfl rfl ?_ hW' hb⟩
  rw [Tryd.params3]
  intro t ht
  obtain rfl := List.mem_singleton.1 ht
  exact ⟨by kernel_rfl, of_decide_eq_true (by kernel_rfl)⟩
set_option maxHeartbeats 4000000 in
theorem row_FnExactGetRefs : Rows.FnExactGetRefsSaid :=
  OpenClaim.holds_of_wide 3 Tryd.f3 rfl rfl rfl rfl rfl rfl rfl ⟨rfl, rfl, rfl, rfl, rfl⟩ rfl rfl rfl rfl rfl (by as_aux_lemma => kernel_rfl) Tryd.func3 (by as_aux_lemma => kernel_rfl)
    (of_decide_eq_true (by as_aux_lemma => kernel_rfl)) (by unfold Func.isWrapper; first | (rw [if_pos (by decide +kernel)]; kernel_rfl) | (rw [if_neg (by decide +kernel)]; exact ⟨rfl, rfl⟩))
    (fun os started H enc _ => lifted_FnExactGetRefs os started H enc)
set_option maxHeartbeats 4000000 in
/-- THE STATEMENT -/
theorem holds_FnExactGetRefsCard : Rows.FnExactGetRefsCardSaid :=
  Claim7.holds_tied_plain_at .later [] [.data, .pinned] true (true, "b60840f14b9675725a7269d78c136b638806e2d6dbbee350c7212ba12e8adb3a") false row_FnExactGetRefs (fun _ h => by cases h) (by as_aux_lemma => kernel_rfl) (fun _ h => by cases h) fnExactGetRefs_row_tie rfl ⟨rfl, rfl⟩ (by as_aux_lemma => kernel_rfl) rfl
    (fun f fn hf hfn => by
      obtain rfl : f = 3 := Option.some.inj ((show Tryd.prog.funcNamed "loop.example/g00421/laws.FnExactGetRefs" = some 3 by as_aux_lemma => kernel_rfl).symm.trans hf) |>.symm
      obtain rfl : fn = Tryd.f3 := (Option.some.inj (Tryd.func3.symm.trans hfn)).symm
      exact ⟨by as_aux_lemma => kernel_rfl, fun j t ht => by
        have hm : t ∈ Tryd.f3.params.toList := by simpa using Array.mem_of_getElem? ht
        have hall : (Tryd.f3.params.toList.all fun u => !Tryd.prog.wantsStandIn u) = true := by as_aux_lemma => kernel_rfl
        exact (show Tryd.prog.wantsStandIn t = false by simpa using List.all_eq_true.1 hall t hm)⟩)
    (by as_aux_lemma => kernel_rfl)
#print axioms holds_FnExactGetRefsCard
end Go.Proofs.YtiemlefmhleaeaaDoor
