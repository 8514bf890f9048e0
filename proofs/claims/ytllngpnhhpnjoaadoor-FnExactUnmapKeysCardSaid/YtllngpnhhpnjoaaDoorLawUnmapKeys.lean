/- For every value and every list of names the program's UnmapKeys and the reference's return the same value and truth, in memory of their own, and leave the arguments as they were: the law returns true. -/
import Derived.Test.YtllngpnhhpnjoaaDoorKeyO
import Derived.Test.YtllngpnhhpnjoaaDoorExact
import Derived.Test.YtllngpnhhpnjoaaDoorMarkN
import Derived.Test.YtllngpnhhpnjoaaDoorCardKit
import Derived.Deep.RegionWith
import Derived.Deep.DeepCutAuto
namespace Go.Proofs.YtllngpnhhpnjoaaDoor
set_option linter.unusedVariables false
set_option maxRecDepth 100000
open Go.ChangeShapes Go.WideShapes Go.ChangeAt Go.RowKit Go.Lib
set_option maxHeartbeats 8000000 in
theorem walk_FnExactUnmapKeys {w00 : World} (v0 : Value) (t0 : V) (hv0 : Rep w00 v0 t0) (v1 : Value) (t1 : List ByteArray) (hv1 : RepSs w00 v1 t1) (w : World) (hww : w = w00) (hE : Env w) : Calls Tryd.prog 7 #[v0, v1] w (LawRet w) := by
  subst hww
  have SZ0 := Lib.hid (fun w' (hh : Below w.heap.size w w') (m : Int) (h0 : 0 ≤ m) (h1 : m ≤ 1048576) => sz_any w v0 t0 hv0 w' hh m h0 h1)
  have TO0 := Lib.hid (fun w' (hh : Below w.heap.size w w') (hz : t0.sz ≤ 1048576) => to_any w v0 t0 hv0 hz w' hh)
  have EQ0 := Lib.hid (fun w1 x y (h1 : Rep w1 x t0) (h2 : Rep w1 y t0) => eq_any w1 x y t0 h1 h2 w1 (Below.refl _ _))
  have SZ1 := Lib.hid (fun w' (hh : Below w.heap.size w w') (m : Int) (h0 : 0 ≤ m) (h1 : m ≤ 1048576) => sz_namesB w v1 t1 hv1 w' hh m h0 h1)
  have TO1 := Lib.hid (fun w' (hh : Below w.heap.size w w') (hz : szl t1 ≤ 1048576) => to_names w v1 t1 hv1 (Nat.le_trans (szl_length _) hz) w' hh)
  have EQ1 := Lib.hid (fun w1 x y (h1 : RepSs w1 x t1) (h2 : RepSs w1 y t1) => eq_names w1 x y t1 h1 h2 w1 (Below.refl _ _))
  have KS := Lib.hid (fun w1 x0 (h0 : Rep w1 x0 t0) (z0 : t0.sz ≤ 1048576) x1 (h1 : RepSs w1 x1 t1) (z1 : szl t1 ≤ 1048576) => UnmapKeys_spec w1 x0 t0 h0 z0 x1 t1 h1 z1 w1 (Below.refl _ _))
  have KI := Lib.hid (fun w1 x0 (h0 : Rep w1 x0 t0) (z0 : t0.sz ≤ 1048576) x1 (h1 : RepSs w1 x1 t1) (z1 : szl t1 ≤ 1048576) (hh : Below w.heap.size w w1) => UnmapKeys_impl w1 x0 t0 h0 z0 x1 t1 h1 z1 w1 (Below.refl _ _) (Env.keep hE hh))
  clear hE
  have HCN0 := Lib.hid (fun (h : t0.sz ≤ 1048576) => cnts_kids_le h)
  have HCN1 := Lib.hid (fun (h : szl t1 ≤ 1048576) => Nat.le_trans (szl_length t1) h)
  have HR0 := Lib.hid (fun (h : t0.sz ≤ 1048576) (h2 : szl t1 ≤ 1048576) => cnts_kids_le (kyR_sz (byUn t1) t1 h))
  obtain ⟨sl0, rfl, _, _⟩ := hv0
  obtain ⟨va1, vb1, vo1, vc1, rfl, _⟩ := hv1
  unfold V.agg at SZ0 TO0 ⊢
  generalize (kyR (byUn t1) t1 t0).getD t0 = r0 at *
  generalize (kyR (byUn t1) t1 t0).isSome = r1 at *
  go_enter Tryd.func7, Tryd.ntmps7
  go_wp2_with fail
  have BA0_0 := Lib.hid (Box.new (w) t0.k t0.n t0.e t0.s sl0 24)
  have HOK0 := Lib.hid (fun (h : ¬ szr (1048576) (t0.sz) < 0) => szr_ok h)
  have hlo0 := szr_lo (1048576) (t0.sz)
  refine (SZ0.out _ (by (repeat' (first | with_reducible exact Below.refl _ _ | with_reducible refine below_alloc ?_ _ ?_ | with_reducible refine Below.setCell ?_ ?_ _ | with_reducible refine Below.drew ?_ | with_reducible refine below_drewN ?_ _ | with_reducible refine below_step ?_ (by assumption) ?_ | with_reducible refine below_mark ?_ (by assumption) ?_)); all_goals (first | omega | (simp; done) | (simp; omega))) _ (by omega) (by omega)).mono ?_
  rintro e1 w1 ⟨rfl, hb1⟩
  have hz1 := hb1.size; try simp at hz1
  generalize szr (1048576) (t0.sz) = m0 at *
  by_cases hm0 : m0 < 0
  · go_wp2_with fail
    go_ret
    exact ⟨rfl, (by (repeat' (first | with_reducible exact Below.refl _ _ | with_reducible refine below_alloc ?_ _ ?_ | with_reducible refine Below.setCell ?_ ?_ _ | with_reducible refine Below.drew ?_ | with_reducible refine below_drewN ?_ _ | with_reducible refine below_step ?_ (by assumption) ?_ | with_reducible refine below_mark ?_ (by assumption) ?_)); all_goals (first | omega | (simp; done) | (simp; omega)))⟩
  obtain ⟨hq0, hr0⟩ := HOK0.out hm0
  have hm0' : ¬ m0 < 0 := hm0
  have hs0 := HCN0.out (by omega)
  go_wp2_with fail
  have HOK1 := Lib.hid (fun (h : ¬ szr (m0) (szl t1) < 0) => szr_ok h)
  have hlo1 := szr_lo (m0) (szl t1)
  refine (SZ1.out _ (by (repeat' (first | with_reducible exact Below.refl _ _ | with_reducible refine below_alloc ?_ _ ?_ | with_reducible refine Below.setCell ?_ ?_ _ | with_reducible refine Below.drew ?_ | with_reducible refine below_drewN ?_ _ | with_reducible refine below_step ?_ (by assumption) ?_ | with_reducible refine below_mark ?_ (by assumption) ?_)); all_goals (first | omega | (simp; done) | (simp; omega))) _ (by omega) (by omega)).mono ?_
  rintro e2 w2 ⟨rfl, hb2⟩
  have hz2 := hb2.size; try simp at hz2
  generalize szr (m0) (szl t1) = m1 at *
  have BA0_2 := Lib.hid (Box.stay BA0_0.out (w' := w2) (by (repeat' (first | with_reducible exact Below.refl _ _ | with_reducible refine below_alloc ?_ _ ?_ | with_reducible refine Below.setCell ?_ ?_ _ | with_reducible refine Below.drew ?_ | with_reducible refine below_drewN ?_ _ | with_reducible refine below_step ?_ (by assumption) ?_ | with_reducible refine below_mark ?_ (by assumption) ?_)); all_goals (first | omega | (simp; done) | (simp; omega))))
  obtain ⟨cBA02_0, cBA02_1, cBA02_2, cBA02_3, cBA02_4⟩ := BA0_2.out.cells
  by_cases hm1 : m1 < 0
  · go_wp2_with fail
    go_ret
    exact ⟨rfl, (by (repeat' (first | with_reducible exact Below.refl _ _ | with_reducible refine below_alloc ?_ _ ?_ | with_reducible refine Below.setCell ?_ ?_ _ | with_reducible refine Below.drew ?_ | with_reducible refine below_drewN ?_ _ | with_reducible refine below_step ?_ (by assumption) ?_ | with_reducible refine below_mark ?_ (by assumption) ?_)); all_goals (first | omega | (simp; done) | (simp; omega)))⟩
  obtain ⟨hq1, hr1⟩ := HOK1.out hm1
  have hm1' : ¬ m1 < 0 := hm1
  have hs1 := HCN1.out (by omega)
  go_wp2_with fail
  have hHR0 := HR0.out (by omega) (by omega)
  clear cBA02_0 cBA02_1 cBA02_2 cBA02_3 cBA02_4
  refine (TO0.out _ (by (repeat' (first | with_reducible exact Below.refl _ _ | with_reducible refine below_alloc ?_ _ ?_ | with_reducible refine Below.setCell ?_ ?_ _ | with_reducible refine Below.drew ?_ | with_reducible refine below_drewN ?_ _ | with_reducible refine below_step ?_ (by assumption) ?_ | with_reducible refine below_mark ?_ (by assumption) ?_)); all_goals (first | omega | (simp; done) | (simp; omega))) (by omega)).mono ?_
  rintro e3 w3 ⟨ps0, rfl, pf0, po0, hb3⟩
  have hz3 := hb3.size; try simp at hz3
  obtain ⟨pa0, pc0, rfl⟩ := po0.slice
  have pO0 := Lib.hid po0
  have pR0 := Lib.hid (po0.repV pf0)
  clear po0
  unfold V.agg at pR0 ⊢
  go_wp2_with fail
  refine (TO1.out _ (by (repeat' (first | with_reducible exact Below.refl _ _ | with_reducible refine below_alloc ?_ _ ?_ | with_reducible refine Below.setCell ?_ ?_ _ | with_reducible refine Below.drew ?_ | with_reducible refine below_drewN ?_ _ | with_reducible refine below_step ?_ (by assumption) ?_ | with_reducible refine below_mark ?_ (by assumption) ?_)); all_goals (first | omega | (simp; done) | (simp; omega))) (by omega)).mono ?_
  rintro e4 w4 ⟨_, rfl, po1, hb4⟩
  have hz4 := hb4.size; try simp at hz4
  obtain ⟨pa1, pc1, rfl⟩ := po1.slice
  have pO1 := Lib.hid po1
  have pR1 := Lib.hid po1.rep
  clear po1
  go_wp2_with fail
  refine (KS.out _ _ (pR0.out.keep (by (repeat' (first | with_reducible exact Below.refl _ _ | with_reducible refine below_alloc ?_ _ ?_ | with_reducible refine Below.setCell ?_ ?_ _ | with_reducible refine Below.drew ?_ | with_reducible refine below_drewN ?_ _ | with_reducible refine below_step ?_ (by assumption) ?_ | with_reducible refine below_mark ?_ (by assumption) ?_)); all_goals (first | omega | (simp; done) | (simp; omega)))) (by omega) _ (pR1.out.keep (by (repeat' (first | with_reducible exact Below.refl _ _ | with_reducible refine below_alloc ?_ _ ?_ | with_reducible refine Below.setCell ?_ ?_ _ | with_reducible refine Below.drew ?_ | with_reducible refine below_drewN ?_ _ | with_reducible refine below_step ?_ (by assumption) ?_ | with_reducible refine below_mark ?_ (by assumption) ?_)); all_goals (first | omega | (simp; done) | (simp; omega)))) (by omega)).mono ?_
  rintro e5 w5 ⟨qs0, rfl, qf0, qo0, hb5⟩
  have hz5 := hb5.size; try simp at hz5
  obtain ⟨qa0, qc0, rfl⟩ := qo0.slice
  have qR0 := Lib.hid (show Rep w5 (r0.agg (.slice qa0 r0.kids.length qc0)) r0 from ⟨_, rfl, qf0, qo0.rep⟩)
  clear qo0
  unfold V.agg at qR0 ⊢
  have BQ0_n := Lib.hid (Box.new w5 r0.k r0.n r0.e r0.s (.slice qa0 r0.kids.length qc0) 30)
  have BA0_5 := Lib.hid (Box.stay BA0_2.out (w' := w5) (by (repeat' (first | with_reducible exact Below.refl _ _ | with_reducible refine below_alloc ?_ _ ?_ | with_reducible refine Below.setCell ?_ ?_ _ | with_reducible refine Below.drew ?_ | with_reducible refine below_drewN ?_ _ | with_reducible refine below_step ?_ (by assumption) ?_ | with_reducible refine below_mark ?_ (by assumption) ?_)); all_goals (first | omega | (simp; done) | (simp; omega))))
  obtain ⟨cBA05_0, cBA05_1, cBA05_2, cBA05_3, cBA05_4⟩ := BA0_5.out.cells
  have hn5 : w.heap.size < w5.heap.size := by omega
  have hnn5 : w.heap.size ≠ w5.heap.size := by omega
  go_wp2_with fail
  clear cBA05_0 cBA05_1 cBA05_2 cBA05_3 cBA05_4
  refine (TO0.out _ (by (repeat' (first | with_reducible exact Below.refl _ _ | with_reducible refine below_alloc ?_ _ ?_ | with_reducible refine Below.setCell ?_ ?_ _ | with_reducible refine Below.drew ?_ | with_reducible refine below_drewN ?_ _ | with_reducible refine below_step ?_ (by assumption) ?_ | with_reducible refine below_mark ?_ (by assumption) ?_)); all_goals (first | omega | (simp; done) | (simp; omega))) (by omega)).mono ?_
  rintro e6 w6 ⟨xs0, rfl, xf0, xo0, hb6⟩
  have hz6 := hb6.size; try simp at hz6
  obtain ⟨xa0, xc0, rfl⟩ := xo0.slice
  have xO0 := Lib.hid xo0.bound
  have xR0 := Lib.hid (xo0.repV xf0)
  clear xo0
  unfold V.agg at xR0 ⊢
  have BX0_n := Lib.hid (Box.new w6 t0.k t0.n t0.e t0.s (.slice xa0 t0.kids.length xc0) 30)
  go_wp2_with fail
  refine (TO1.out _ (by (repeat' (first | with_reducible exact Below.refl _ _ | with_reducible refine below_alloc ?_ _ ?_ | with_reducible refine Below.setCell ?_ ?_ _ | with_reducible refine Below.drew ?_ | with_reducible refine below_drewN ?_ _ | with_reducible refine below_step ?_ (by assumption) ?_ | with_reducible refine below_mark ?_ (by assumption) ?_)); all_goals (first | omega | (simp; done) | (simp; omega))) (by omega)).mono ?_
  rintro e7 w7 ⟨_, rfl, xo1, hb7⟩
  have hz7 := hb7.size; try simp at hz7
  obtain ⟨xa1, xc1, rfl⟩ := xo1.slice
  have xO1 := Lib.hid xo1
  have xR1 := Lib.hid xo1.rep
  have XL1 := Lib.hid (fun x hx => xO1.out.lt x hx)
  clear xo1
  have BX0_7 := Lib.hid (Box.stay BX0_n.out (w' := w7) (by (repeat' (first | with_reducible exact Below.refl _ _ | with_reducible refine below_alloc ?_ _ ?_ | with_reducible refine Below.setCell ?_ ?_ _ | with_reducible refine Below.drew ?_ | with_reducible refine below_drewN ?_ _ | with_reducible refine below_step ?_ (by assumption) ?_ | with_reducible refine below_mark ?_ (by assumption) ?_)); all_goals (first | omega | (simp; done) | (simp; omega))))
  obtain ⟨cBX07_0, cBX07_1, cBX07_2, cBX07_3, cBX07_4⟩ := BX0_7.out.cells
  go_wp2_with fail
  clear cBX07_0 cBX07_1 cBX07_2 cBX07_3 cBX07_4
  refine (KI.out _ _ (xR0.out.keep (by (repeat' (first | with_reducible exact Below.refl _ _ | with_reducible refine below_alloc ?_ _ ?_ | with_reducible refine Below.setCell ?_ ?_ _ | with_reducible refine Below.drew ?_ | with_reducible refine below_drewN ?_ _ | with_reducible refine below_step ?_ (by assumption) ?_ | with_reducible refine below_mark ?_ (by assumption) ?_)); all_goals (first | omega | (simp; done) | (simp; omega)))) (by omega) _ (xR1.out.keep (by (repeat' (first | with_reducible exact Below.refl _ _ | with_reducible refine below_alloc ?_ _ ?_ | with_reducible refine Below.setCell ?_ ?_ _ | with_reducible refine Below.drew ?_ | with_reducible refine below_drewN ?_ _ | with_reducible refine below_step ?_ (by assumption) ?_ | with_reducible refine below_mark ?_ (by assumption) ?_)); all_goals (first | omega | (simp; done) | (simp; omega)))) (by omega) (by (repeat' (first | with_reducible exact Below.refl _ _ | with_reducible refine below_alloc ?_ _ ?_ | with_reducible refine Below.setCell ?_ ?_ _ | with_reducible refine Below.drew ?_ | with_reducible refine below_drewN ?_ _ | with_reducible refine below_step ?_ (by assumption) ?_ | with_reducible refine below_mark ?_ (by assumption) ?_)); all_goals (first | omega | (simp; done) | (simp; omega)))).mono ?_
  rintro e8 w8 ⟨gs0, rfl, gf0, go0, hb8⟩
  have hz8 := hb8.size; try simp at hz8
  obtain ⟨ga0, gc0, rfl⟩ := go0.slice
  have gR0 := Lib.hid (show Rep w8 (r0.agg (.slice ga0 r0.kids.length gc0)) r0 from ⟨_, rfl, gf0, go0.rep⟩)
  have gO0 := Lib.hid go0.bound
  clear go0
  unfold V.agg at gR0 ⊢
  have BG0_n := Lib.hid (Box.new w8 r0.k r0.n r0.e r0.s (.slice ga0 r0.kids.length gc0) 30)
  have tn1 : (r1 != r1) = false := by simp
  have BQ0_8 := Lib.hid (Box.stay BQ0_n.out (w' := w8) (by (repeat' (first | with_reducible exact Below.refl _ _ | with_reducible refine below_alloc ?_ _ ?_ | with_reducible refine Below.setCell ?_ ?_ _ | with_reducible refine Below.drew ?_ | with_reducible refine below_drewN ?_ _ | with_reducible refine below_step ?_ (by assumption) ?_ | with_reducible refine below_mark ?_ (by assumption) ?_)); all_goals (first | omega | (simp; done) | (simp; omega))))
  obtain ⟨cBQ08_0, cBQ08_1, cBQ08_2, cBQ08_3, cBQ08_4⟩ := BQ0_8.out.cells
  have hnq8 : w5.heap.size < w8.heap.size := by omega
  have hnr8 : w5.heap.size ≠ w8.heap.size := by omega
  go_wp2_with fail
  clear cBQ08_0 cBQ08_1 cBQ08_2 cBQ08_3 cBQ08_4
  refine (eq_any _ _ _ r0 (gR0.out.keep (by (repeat' (first | with_reducible exact Below.refl _ _ | with_reducible refine below_alloc ?_ _ ?_ | with_reducible refine Below.setCell ?_ ?_ _ | with_reducible refine Below.drew ?_ | with_reducible refine below_drewN ?_ _ | with_reducible refine below_step ?_ (by assumption) ?_ | with_reducible refine below_mark ?_ (by assumption) ?_)); all_goals (first | omega | (simp; done) | (simp; omega)))) (qR0.out.keep (by (repeat' (first | with_reducible exact Below.refl _ _ | with_reducible refine below_alloc ?_ _ ?_ | with_reducible refine Below.setCell ?_ ?_ _ | with_reducible refine Below.drew ?_ | with_reducible refine below_drewN ?_ _ | with_reducible refine below_step ?_ (by assumption) ?_ | with_reducible refine below_mark ?_ (by assumption) ?_)); all_goals (first | omega | (simp; done) | (simp; omega)))) _ (Below.refl _ _)).mono ?_
  rintro e9 w9 ⟨rfl, hb9⟩
  have hz9 := hb9.size; try simp at hz9
  have BX0_9 := Lib.hid (Box.stay BX0_7.out (w' := w9) (by (repeat' (first | with_reducible exact Below.refl _ _ | with_reducible refine below_alloc ?_ _ ?_ | with_reducible refine Below.setCell ?_ ?_ _ | with_reducible refine Below.drew ?_ | with_reducible refine below_drewN ?_ _ | with_reducible refine below_step ?_ (by assumption) ?_ | with_reducible refine below_mark ?_ (by assumption) ?_)); all_goals (first | omega | (simp; done) | (simp; omega))))
  obtain ⟨cBX09_0, cBX09_1, cBX09_2, cBX09_3, cBX09_4⟩ := BX0_9.out.cells
  have BA0_9 := Lib.hid (Box.stay BA0_5.out (w' := w9) (by (repeat' (first | with_reducible exact Below.refl _ _ | with_reducible refine below_alloc ?_ _ ?_ | with_reducible refine Below.setCell ?_ ?_ _ | with_reducible refine Below.drew ?_ | with_reducible refine below_drewN ?_ _ | with_reducible refine below_step ?_ (by assumption) ?_ | with_reducible refine below_mark ?_ (by assumption) ?_)); all_goals (first | omega | (simp; done) | (simp; omega))))
  obtain ⟨cBA09_0, cBA09_1, cBA09_2, cBA09_3, cBA09_4⟩ := BA0_9.out.cells
  go_upto_region 14 with fail
  go_cut [58] (fun s wx => s = .bool false ∧ Below w9.heap.size w9 wx)
  case first =>
    go_region_with (first | (go_at_call 16; refine (TO0.out _ (by (repeat' (first | with_reducible exact Below.refl _ _ | with_reducible refine below_alloc ?_ _ ?_ | with_reducible refine Below.setCell ?_ ?_ _ | with_reducible refine Below.drew ?_ | with_reducible refine below_drewN ?_ _ | with_reducible refine below_step ?_ (by assumption) ?_ | with_reducible refine below_mark ?_ (by assumption) ?_)); all_goals (first | omega | (simp; done) | (simp; omega))) (by omega)).mono ?_; rintro e0 wa0 ⟨ys0, rfl, yf0, yo0, yb0⟩; have yR0 := Lib.hid (yo0.repV yf0); obtain ⟨y0, y1, y2, y3, y4⟩ := (Box.keep BX0_9.out (Below.trans (Below.drew (Below.refl _ _)) yb0) (Nat.le_refl _)).cells; clear yo0) | (go_at_call 19; refine (EQ0.out _ _ _ (xR0.out.keep (by (repeat' (first | with_reducible exact Below.refl _ _ | with_reducible refine below_alloc ?_ _ ?_ | with_reducible refine Below.setCell ?_ ?_ _ | with_reducible refine Below.drew ?_ | with_reducible refine below_drewN ?_ _ | with_reducible refine below_step ?_ (by assumption) ?_ | with_reducible refine below_mark ?_ (by assumption) ?_)); all_goals (first | omega | (simp; done) | (simp; omega)))) yR0.out).mono ?_; rintro e0 wb0 ⟨rfl, zb0⟩))
    all_goals (go_wp2_with fail; go_meet; exact ⟨rfl, (by (repeat' (first | with_reducible exact Below.refl _ _ | with_reducible refine below_alloc ?_ _ ?_ | with_reducible refine Below.setCell ?_ ?_ _ | with_reducible refine Below.drew ?_ | with_reducible refine below_drewN ?_ _ | with_reducible refine below_step ?_ (by assumption) ?_ | with_reducible refine below_mark ?_ (by assumption) ?_)); all_goals (first | omega | (simp; done) | (simp; omega)))⟩)
  case rest =>
    obtain ⟨rfl, hb10⟩ := hcut
    obtain ⟨w10, rfl⟩ : ∃ W : World, W = wc := ⟨_, rfl⟩
    have hz10 := hb10.size; try simp at hz10
    clear cBX09_0 cBX09_1 cBX09_2 cBX09_3 cBX09_4 cBA09_0 cBA09_1 cBA09_2 cBA09_3 cBA09_4
    go_wp2_with fail
    refine (TO1.out _ (by (repeat' (first | with_reducible exact Below.refl _ _ | with_reducible refine below_alloc ?_ _ ?_ | with_reducible refine Below.setCell ?_ ?_ _ | with_reducible refine Below.drew ?_ | with_reducible refine below_drewN ?_ _ | with_reducible refine below_step ?_ (by assumption) ?_ | with_reducible refine below_mark ?_ (by assumption) ?_)); all_goals (first | omega | (simp; done) | (simp; omega))) (by omega)).mono ?_
    rintro e11 w11 ⟨_, rfl, yo1, hb11⟩
    have hz11 := hb11.size; try simp at hz11
    have yR1 := Lib.hid yo1.rep
    clear yo1
    go_wp2_with fail
    refine (EQ1.out _ _ _ (xR1.out.keep (by (repeat' (first | with_reducible exact Below.refl _ _ | with_reducible refine below_alloc ?_ _ ?_ | with_reducible refine Below.setCell ?_ ?_ _ | with_reducible refine Below.drew ?_ | with_reducible refine below_drewN ?_ _ | with_reducible refine below_step ?_ (by assumption) ?_ | with_reducible refine below_mark ?_ (by assumption) ?_)); all_goals (first | omega | (simp; done) | (simp; omega)))) yR1.out).mono ?_
    rintro e12 w12 ⟨rfl, hb12⟩
    have hz12 := hb12.size; try simp at hz12
    have BX0_12 := Lib.hid (Box.stay BX0_9.out (w' := w12) (by (repeat' (first | with_reducible exact Below.refl _ _ | with_reducible refine below_alloc ?_ _ ?_ | with_reducible refine Below.setCell ?_ ?_ _ | with_reducible refine Below.drew ?_ | with_reducible refine below_drewN ?_ _ | with_reducible refine below_step ?_ (by assumption) ?_ | with_reducible refine below_mark ?_ (by assumption) ?_)); all_goals (first | omega | (simp; done) | (simp; omega))))
    obtain ⟨cBX012_0, cBX012_1, cBX012_2, cBX012_3, cBX012_4⟩ := BX0_12.out.cells
    go_wp2_with fail
    have XB0 := Lib.hid ((xO0.out).keep (w' := w12) (fun x hx hxs => (show Below w6.heap.size w6 w12 by exact (by (repeat' (first | with_reducible exact Below.refl _ _ | with_reducible refine below_alloc ?_ _ ?_ | with_reducible refine Below.setCell ?_ ?_ _ | with_reducible refine Below.drew ?_ | with_reducible refine below_drewN ?_ _ | with_reducible refine below_step ?_ (by assumption) ?_ | with_reducible refine below_mark ?_ (by assumption) ?_)); all_goals (first | omega | (simp; done) | (simp; omega)))).block x hxs))
    clear cBX012_0 cBX012_1 cBX012_2 cBX012_3 cBX012_4
    refine (mark_value t0 _ _ (1) _ XB0.out (by omega) (by omega)).mono ?_
    rintro e13 w13 ⟨rfl, ho13, ht13⟩
    have HT13 := Lib.hid ht13; clear ho13 ht13
    have hb13 : Below w5.heap.size w12 w13 := HT13.out.below (fun x hx => by have h1 := hx.1; (first | omega | (simp at h1; done) | (simp at h1; omega))) (by omega)
    have hz13 := HT13.out.size; try simp at hz13
    have BA0_13 := Lib.hid (Box.over (Box.stay BA0_9.out (w' := w12) (by (repeat' (first | with_reducible exact Below.refl _ _ | with_reducible refine below_alloc ?_ _ ?_ | with_reducible refine Below.setCell ?_ ?_ _ | with_reducible refine Below.drew ?_ | with_reducible refine below_drewN ?_ _ | with_reducible refine below_step ?_ (by assumption) ?_ | with_reducible refine below_mark ?_ (by assumption) ?_)); all_goals (first | omega | (simp; done) | (simp; omega)))) HT13.out (fun hx => by have h1 := hx.1; have h2 := hx.2; first | omega | (simp at h1 h2; done) | (simp at h1; done) | (simp at h1; omega) | (simp at h2; omega) | (simp at h1 h2; omega)))
    have BQ0_13 := Lib.hid (Box.over (Box.stay BQ0_8.out (w' := w12) (by (repeat' (first | with_reducible exact Below.refl _ _ | with_reducible refine below_alloc ?_ _ ?_ | with_reducible refine Below.setCell ?_ ?_ _ | with_reducible refine Below.drew ?_ | with_reducible refine below_drewN ?_ _ | with_reducible refine below_step ?_ (by assumption) ?_ | with_reducible refine below_mark ?_ (by assumption) ?_)); all_goals (first | omega | (simp; done) | (simp; omega)))) HT13.out (fun hx => by have h1 := hx.1; have h2 := hx.2; first | omega | (simp at h1 h2; done) | (simp at h1; done) | (simp at h1; omega) | (simp at h2; omega) | (simp at h1 h2; omega)))
    have BX0_13 := Lib.hid (Box.over (Box.stay BX0_12.out (w' := w12) (by (repeat' (first | with_reducible exact Below.refl _ _ | with_reducible refine below_alloc ?_ _ ?_ | with_reducible refine Below.setCell ?_ ?_ _ | with_reducible refine Below.drew ?_ | with_reducible refine below_drewN ?_ _ | with_reducible refine below_step ?_ (by assumption) ?_ | with_reducible refine below_mark ?_ (by assumption) ?_)); all_goals (first | omega | (simp; done) | (simp; omega)))) HT13.out (fun hx => by have h1 := hx.1; have h2 := hx.2; first | omega | (simp at h1 h2; done) | (simp at h1; done) | (simp at h1; omega) | (simp at h2; omega) | (simp at h1 h2; omega)))
    have BG0_13 := Lib.hid (Box.over (Box.stay BG0_n.out (w' := w12) (by (repeat' (first | with_reducible exact Below.refl _ _ | with_reducible refine below_alloc ?_ _ ?_ | with_reducible refine Below.setCell ?_ ?_ _ | with_reducible refine Below.drew ?_ | with_reducible refine below_drewN ?_ _ | with_reducible refine below_step ?_ (by assumption) ?_ | with_reducible refine below_mark ?_ (by assumption) ?_)); all_goals (first | omega | (simp; done) | (simp; omega)))) HT13.out (fun hx => by have h1 := hx.1; have h2 := hx.2; first | omega | (simp at h1 h2; done) | (simp at h1; done) | (simp at h1; omega) | (simp at h2; omega) | (simp at h1 h2; omega)))
    have gO0_13 := Lib.hid ((gO0.out.keep (w' := w12) (fun x hx hxs => (show Below w8.heap.size w8 w12 by exact (by (repeat' (first | with_reducible exact Below.refl _ _ | with_reducible refine below_alloc ?_ _ ?_ | with_reducible refine Below.setCell ?_ ?_ _ | with_reducible refine Below.drew ?_ | with_reducible refine below_drewN ?_ _ | with_reducible refine below_step ?_ (by assumption) ?_ | with_reducible refine below_mark ?_ (by assumption) ?_)); all_goals (first | omega | (simp; done) | (simp; omega)))).block x hxs)).keep (w' := w13) (fun x hx hxs => HT13.out.block x hxs (fun hy => by have h1 := hx.1; have h2 := hy.2; (first | omega | (simp at h1; done) | (simp at h1; omega)))))
    have gR0_13 := Lib.hid (show Rep w13 (.agg #[.int .i64 r0.k, .int .i64 r0.n, .int .i64 r0.e, .string r0.s, .slice ga0 r0.kids.length gc0]) r0 from ⟨_, rfl, gf0, gO0_13.out.rep⟩)
    clear gO0 gR0
    have gO0 := gO0_13; have gR0 := gR0_13; clear gO0_13 gR0_13
    have xO1_13 := Lib.hid ((xO1.out.stay2 (w' := w12) (by (repeat' (first | with_reducible exact Below.refl _ _ | with_reducible refine below_alloc ?_ _ ?_ | with_reducible refine Below.setCell ?_ ?_ _ | with_reducible refine Below.drew ?_ | with_reducible refine below_drewN ?_ _ | with_reducible refine below_step ?_ (by assumption) ?_ | with_reducible refine below_mark ?_ (by assumption) ?_)); all_goals (first | omega | (simp; done) | (simp; omega)))).keep (w' := w13) (fun x hx => HT13.out.block x (by have h3 := xO1.out.lt x hx; omega) (fun hy => by have h1 := (XL1.out x hx).1; have h2 := hy.2; (first | omega | (simp at h1; done) | (simp at h1; omega)))))
    clear xO1
    have xO1 := xO1_13; clear xO1_13
    go_wp2_with fail
    have XB1 := Lib.hid (xO1.out.stay2 (w' := w13) (by (repeat' (first | with_reducible exact Below.refl _ _ | with_reducible refine below_alloc ?_ _ ?_ | with_reducible refine Below.setCell ?_ ?_ _ | with_reducible refine Below.drew ?_ | with_reducible refine below_drewN ?_ _ | with_reducible refine below_step ?_ (by assumption) ?_ | with_reducible refine below_mark ?_ (by assumption) ?_)); all_goals (first | omega | (simp; done) | (simp; omega))))
    refine (markNames_any _ _ t1 (1 + (cnts t0.kids : Nat)) _ XB1.out (by omega) (by omega) (by omega)).mono ?_
    rintro e14 w14 ⟨rfl, ho14, hg14⟩
    have HL14 := Lib.hid (fun x hx => XL1.out x hx)
    have HU14 := Lib.hid (fun x hx => XL1.out x hx)
    have HT14 := Lib.hid (touch_of_grown hg14); clear ho14 hg14
    have hb14 : Below w6.heap.size w13 w14 := HT14.out.below (fun x hx => by have h1 := (HL14.out x hx).1; (first | omega | (simp at h1; done) | (simp at h1; omega))) (by omega)
    have hz14 := HT14.out.size; try simp at hz14
    have BA0_14 := Lib.hid (Box.over (Box.stay BA0_13.out (w' := w13) (by (repeat' (first | with_reducible exact Below.refl _ _ | with_reducible refine below_alloc ?_ _ ?_ | with_reducible refine Below.setCell ?_ ?_ _ | with_reducible refine Below.drew ?_ | with_reducible refine below_drewN ?_ _ | with_reducible refine below_step ?_ (by assumption) ?_ | with_reducible refine below_mark ?_ (by assumption) ?_)); all_goals (first | omega | (simp; done) | (simp; omega)))) HT14.out (fun hx => by have h1 := (HU14.out _ hx).1; have h2 := (HU14.out _ hx).2; first | omega | (simp at h1 h2; done) | (simp at h1; done) | (simp at h1; omega) | (simp at h2; omega) | (simp at h1 h2; omega)))
    have BQ0_14 := Lib.hid (Box.over (Box.stay BQ0_13.out (w' := w13) (by (repeat' (first | with_reducible exact Below.refl _ _ | with_reducible refine below_alloc ?_ _ ?_ | with_reducible refine Below.setCell ?_ ?_ _ | with_reducible refine Below.drew ?_ | with_reducible refine below_drewN ?_ _ | with_reducible refine below_step ?_ (by assumption) ?_ | with_reducible refine below_mark ?_ (by assumption) ?_)); all_goals (first | omega | (simp; done) | (simp; omega)))) HT14.out (fun hx => by have h1 := (HU14.out _ hx).1; have h2 := (HU14.out _ hx).2; first | omega | (simp at h1 h2; done) | (simp at h1; done) | (simp at h1; omega) | (simp at h2; omega) | (simp at h1 h2; omega)))
    have BX0_14 := Lib.hid (Box.over (Box.stay BX0_13.out (w' := w13) (by (repeat' (first | with_reducible exact Below.refl _ _ | with_reducible refine below_alloc ?_ _ ?_ | with_reducible refine Below.setCell ?_ ?_ _ | with_reducible refine Below.drew ?_ | with_reducible refine below_drewN ?_ _ | with_reducible refine below_step ?_ (by assumption) ?_ | with_reducible refine below_mark ?_ (by assumption) ?_)); all_goals (first | omega | (simp; done) | (simp; omega)))) HT14.out (fun hx => by have h1 := (HU14.out _ hx).1; have h2 := (HU14.out _ hx).2; first | omega | (simp at h1 h2; done) | (simp at h1; done) | (simp at h1; omega) | (simp at h2; omega) | (simp at h1 h2; omega)))
    have BG0_14 := Lib.hid (Box.over (Box.stay BG0_13.out (w' := w13) (by (repeat' (first | with_reducible exact Below.refl _ _ | with_reducible refine below_alloc ?_ _ ?_ | with_reducible refine Below.setCell ?_ ?_ _ | with_reducible refine Below.drew ?_ | with_reducible refine below_drewN ?_ _ | with_reducible refine below_step ?_ (by assumption) ?_ | with_reducible refine below_mark ?_ (by assumption) ?_)); all_goals (first | omega | (simp; done) | (simp; omega)))) HT14.out (fun hx => by have h1 := (HU14.out _ hx).1; have h2 := (HU14.out _ hx).2; first | omega | (simp at h1 h2; done) | (simp at h1; done) | (simp at h1; omega) | (simp at h2; omega) | (simp at h1 h2; omega)))
    have gO0_14 := Lib.hid ((gO0.out.keep (w' := w13) (fun x hx hxs => (show Below w13.heap.size w13 w13 by exact (by (repeat' (first | with_reducible exact Below.refl _ _ | with_reducible refine below_alloc ?_ _ ?_ | with_reducible refine Below.setCell ?_ ?_ _ | with_reducible refine Below.drew ?_ | with_reducible refine below_drewN ?_ _ | with_reducible refine below_step ?_ (by assumption) ?_ | with_reducible refine below_mark ?_ (by assumption) ?_)); all_goals (first | omega | (simp; done) | (simp; omega)))).block x hxs)).keep (w' := w14) (fun x hx hxs => HT14.out.block x hxs (fun hy => by have h1 := hx.1; have h2 := (HU14.out _ hy).2; (first | omega | (simp at h1; done) | (simp at h1; omega)))))
    have gR0_14 := Lib.hid (show Rep w14 (.agg #[.int .i64 r0.k, .int .i64 r0.n, .int .i64 r0.e, .string r0.s, .slice ga0 r0.kids.length gc0]) r0 from ⟨_, rfl, gf0, gO0_14.out.rep⟩)
    clear gO0 gR0
    have gO0 := gO0_14; have gR0 := gR0_14; clear gO0_14 gR0_14
    have tk : decide ((1 + (cnts t0.kids : Nat) + (t1.length : Nat) : Int) < 0) = false := by simp; omega
    have BQ0_14 := Lib.hid (Box.stay BQ0_14.out (w' := w14) (by (repeat' (first | with_reducible exact Below.refl _ _ | with_reducible refine below_alloc ?_ _ ?_ | with_reducible refine Below.setCell ?_ ?_ _ | with_reducible refine Below.drew ?_ | with_reducible refine below_drewN ?_ _ | with_reducible refine below_step ?_ (by assumption) ?_ | with_reducible refine below_mark ?_ (by assumption) ?_)); all_goals (first | omega | (simp; done) | (simp; omega))))
    obtain ⟨cBQ014_0, cBQ014_1, cBQ014_2, cBQ014_3, cBQ014_4⟩ := BQ0_14.out.cells
    have BG0_14 := Lib.hid (Box.stay BG0_14.out (w' := w14) (by (repeat' (first | with_reducible exact Below.refl _ _ | with_reducible refine below_alloc ?_ _ ?_ | with_reducible refine Below.setCell ?_ ?_ _ | with_reducible refine Below.drew ?_ | with_reducible refine below_drewN ?_ _ | with_reducible refine below_step ?_ (by assumption) ?_ | with_reducible refine below_mark ?_ (by assumption) ?_)); all_goals (first | omega | (simp; done) | (simp; omega))))
    obtain ⟨cBG014_0, cBG014_1, cBG014_2, cBG014_3, cBG014_4⟩ := BG0_14.out.cells
    go_wp2_with fail
    clear cBQ014_0 cBQ014_1 cBQ014_2 cBQ014_3 cBQ014_4 cBG014_0 cBG014_1 cBG014_2 cBG014_3 cBG014_4
    refine (eq_any _ _ _ r0 (gR0.out.keep (by (repeat' (first | with_reducible exact Below.refl _ _ | with_reducible refine below_alloc ?_ _ ?_ | with_reducible refine Below.setCell ?_ ?_ _ | with_reducible refine Below.drew ?_ | with_reducible refine below_drewN ?_ _ | with_reducible refine below_step ?_ (by assumption) ?_ | with_reducible refine below_mark ?_ (by assumption) ?_)); all_goals (first | omega | (simp; done) | (simp; omega)))) (qR0.out.keep (by (repeat' (first | with_reducible exact Below.refl _ _ | with_reducible refine below_alloc ?_ _ ?_ | with_reducible refine Below.setCell ?_ ?_ _ | with_reducible refine Below.drew ?_ | with_reducible refine below_drewN ?_ _ | with_reducible refine below_step ?_ (by assumption) ?_ | with_reducible refine below_mark ?_ (by assumption) ?_)); all_goals (first | omega | (simp; done) | (simp; omega)))) _ (Below.refl _ _)).mono ?_
    rintro e15 w15 ⟨rfl, hb15⟩
    have hz15 := hb15.size; try simp at hz15
    have BG0_15 := Lib.hid (Box.stay BG0_14.out (w' := w15) (by (repeat' (first | with_reducible exact Below.refl _ _ | with_reducible refine below_alloc ?_ _ ?_ | with_reducible refine Below.setCell ?_ ?_ _ | with_reducible refine Below.drew ?_ | with_reducible refine below_drewN ?_ _ | with_reducible refine below_step ?_ (by assumption) ?_ | with_reducible refine below_mark ?_ (by assumption) ?_)); all_goals (first | omega | (simp; done) | (simp; omega))))
    obtain ⟨cBG015_0, cBG015_1, cBG015_2, cBG015_3, cBG015_4⟩ := BG0_15.out.cells
    go_wp2_with fail
    have GB := Lib.hid (gO0.out.keep (w' := w15) (fun x hx hxs => (show Below w14.heap.size w14 w15 by exact (by (repeat' (first | with_reducible exact Below.refl _ _ | with_reducible refine below_alloc ?_ _ ?_ | with_reducible refine Below.setCell ?_ ?_ _ | with_reducible refine Below.drew ?_ | with_reducible refine below_drewN ?_ _ | with_reducible refine below_step ?_ (by assumption) ?_ | with_reducible refine below_mark ?_ (by assumption) ?_)); all_goals (first | omega | (simp; done) | (simp; omega)))).block x hxs))
    clear cBG015_0 cBG015_1 cBG015_2 cBG015_3 cBG015_4
    refine (mark_value r0 _ _ 1 _ GB.out (by omega) (by omega)).mono ?_
    rintro e16 w16 ⟨rfl, ho16, ht16⟩
    have HT16 := Lib.hid ht16; have HM := Lib.hid ho16.rep; clear ho16 ht16
    have hb16 : Below w7.heap.size w15 w16 := HT16.out.below (fun x hx => by have h1 := hx.1; (first | omega | (simp at h1; done) | (simp at h1; omega))) (by omega)
    have hz16 := HT16.out.size; try simp at hz16
    have BA0_16 := Lib.hid (Box.over (Box.stay BA0_14.out (w' := w15) (by (repeat' (first | with_reducible exact Below.refl _ _ | with_reducible refine below_alloc ?_ _ ?_ | with_reducible refine Below.setCell ?_ ?_ _ | with_reducible refine Below.drew ?_ | with_reducible refine below_drewN ?_ _ | with_reducible refine below_step ?_ (by assumption) ?_ | with_reducible refine below_mark ?_ (by assumption) ?_)); all_goals (first | omega | (simp; done) | (simp; omega)))) HT16.out (fun hx => by have h1 := hx.1; have h2 := hx.2; first | omega | (simp at h1 h2; done) | (simp at h1; done) | (simp at h1; omega) | (simp at h2; omega) | (simp at h1 h2; omega)))
    have BQ0_16 := Lib.hid (Box.over (Box.stay BQ0_14.out (w' := w15) (by (repeat' (first | with_reducible exact Below.refl _ _ | with_reducible refine below_alloc ?_ _ ?_ | with_reducible refine Below.setCell ?_ ?_ _ | with_reducible refine Below.drew ?_ | with_reducible refine below_drewN ?_ _ | with_reducible refine below_step ?_ (by assumption) ?_ | with_reducible refine below_mark ?_ (by assumption) ?_)); all_goals (first | omega | (simp; done) | (simp; omega)))) HT16.out (fun hx => by have h1 := hx.1; have h2 := hx.2; first | omega | (simp at h1 h2; done) | (simp at h1; done) | (simp at h1; omega) | (simp at h2; omega) | (simp at h1 h2; omega)))
    have BG0_16 := Lib.hid (Box.over (Box.stay BG0_15.out (w' := w15) (by (repeat' (first | with_reducible exact Below.refl _ _ | with_reducible refine below_alloc ?_ _ ?_ | with_reducible refine Below.setCell ?_ ?_ _ | with_reducible refine Below.drew ?_ | with_reducible refine below_drewN ?_ _ | with_reducible refine below_step ?_ (by assumption) ?_ | with_reducible refine below_mark ?_ (by assumption) ?_)); all_goals (first | omega | (simp; done) | (simp; omega)))) HT16.out (fun hx => by have h1 := hx.1; have h2 := hx.2; first | omega | (simp at h1 h2; done) | (simp at h1; done) | (simp at h1; omega) | (simp at h2; omega) | (simp at h1 h2; omega)))
    have t1 : ((1 + (cnts r0.kids : Nat) : Int) != (1 + (cnts r0.kids : Nat) : Int)) = false := by simp
    have t2 : decide ((1 + (cnts r0.kids : Nat) : Int) < 0) = false := by simp; omega
    have BG0_16 := Lib.hid (Box.stay BG0_16.out (w' := w16) (by (repeat' (first | with_reducible exact Below.refl _ _ | with_reducible refine below_alloc ?_ _ ?_ | with_reducible refine Below.setCell ?_ ?_ _ | with_reducible refine Below.drew ?_ | with_reducible refine below_drewN ?_ _ | with_reducible refine below_step ?_ (by assumption) ?_ | with_reducible refine below_mark ?_ (by assumption) ?_)); all_goals (first | omega | (simp; done) | (simp; omega))))
    obtain ⟨cBG016_0, cBG016_1, cBG016_2, cBG016_3, cBG016_4⟩ := BG0_16.out.cells
    go_wp2_with fail
    clear cBG016_0 cBG016_1 cBG016_2 cBG016_3 cBG016_4
    refine (held_value _ r0 _ 1 _ HM.out (by (repeat' (first | with_reducible exact Below.refl _ _ | with_reducible refine below_alloc ?_ _ ?_ | with_reducible refine Below.setCell ?_ ?_ _ | with_reducible refine Below.drew ?_ | with_reducible refine below_drewN ?_ _ | with_reducible refine below_step ?_ (by assumption) ?_ | with_reducible refine below_mark ?_ (by assumption) ?_)); all_goals (first | omega | (simp; done) | (simp; omega))) _ _ _ _ (by omega) (by omega)).mono ?_
    rintro e17 w17 ⟨rfl, hb17⟩
    have hz17 := hb17.size; try simp at hz17
    have BA0_17 := Lib.hid (Box.stay BA0_16.out (w' := w17) (by (repeat' (first | with_reducible exact Below.refl _ _ | with_reducible refine below_alloc ?_ _ ?_ | with_reducible refine Below.setCell ?_ ?_ _ | with_reducible refine Below.drew ?_ | with_reducible refine below_drewN ?_ _ | with_reducible refine below_step ?_ (by assumption) ?_ | with_reducible refine below_mark ?_ (by assumption) ?_)); all_goals (first | omega | (simp; done) | (simp; omega))))
    obtain ⟨cBA017_0, cBA017_1, cBA017_2, cBA017_3, cBA017_4⟩ := BA0_17.out.cells
    go_wp2_with fail
    clear cBA017_0 cBA017_1 cBA017_2 cBA017_3 cBA017_4
    refine (TO0.out _ (by (repeat' (first | with_reducible exact Below.refl _ _ | with_reducible refine below_alloc ?_ _ ?_ | with_reducible refine Below.setCell ?_ ?_ _ | with_reducible refine Below.drew ?_ | with_reducible refine below_drewN ?_ _ | with_reducible refine below_step ?_ (by assumption) ?_ | with_reducible refine below_mark ?_ (by assumption) ?_)); all_goals (first | omega | (simp; done) | (simp; omega))) (by omega)).mono ?_
    rintro e18 w18 ⟨zs0, rfl, zf0, zo0, hb18⟩
    have hz18 := hb18.size; try simp at hz18
    obtain ⟨za0, zc0, rfl⟩ := zo0.slice
    have zO0 := Lib.hid zo0
    have zR0 := Lib.hid (zo0.repV zf0)
    clear zo0
    unfold V.agg at zR0 ⊢
    go_wp2_with fail
    refine (TO1.out _ (by (repeat' (first | with_reducible exact Below.refl _ _ | with_reducible refine below_alloc ?_ _ ?_ | with_reducible refine Below.setCell ?_ ?_ _ | with_reducible refine Below.drew ?_ | with_reducible refine below_drewN ?_ _ | with_reducible refine below_step ?_ (by assumption) ?_ | with_reducible refine below_mark ?_ (by assumption) ?_)); all_goals (first | omega | (simp; done) | (simp; omega))) (by omega)).mono ?_
    rintro e19 w19 ⟨_, rfl, zo1, hb19⟩
    have hz19 := hb19.size; try simp at hz19
    obtain ⟨za1, zc1, rfl⟩ := zo1.slice
    have zO1 := Lib.hid zo1
    have zR1 := Lib.hid zo1.rep
    clear zo1
    go_wp2_with fail
    refine (KI.out _ _ (zR0.out.keep (by (repeat' (first | with_reducible exact Below.refl _ _ | with_reducible refine below_alloc ?_ _ ?_ | with_reducible refine Below.setCell ?_ ?_ _ | with_reducible refine Below.drew ?_ | with_reducible refine below_drewN ?_ _ | with_reducible refine below_step ?_ (by assumption) ?_ | with_reducible refine below_mark ?_ (by assumption) ?_)); all_goals (first | omega | (simp; done) | (simp; omega)))) (by omega) _ (zR1.out.keep (by (repeat' (first | with_reducible exact Below.refl _ _ | with_reducible refine below_alloc ?_ _ ?_ | with_reducible refine Below.setCell ?_ ?_ _ | with_reducible refine Below.drew ?_ | with_reducible refine below_drewN ?_ _ | with_reducible refine below_step ?_ (by assumption) ?_ | with_reducible refine below_mark ?_ (by assumption) ?_)); all_goals (first | omega | (simp; done) | (simp; omega)))) (by omega) (by (repeat' (first | with_reducible exact Below.refl _ _ | with_reducible refine below_alloc ?_ _ ?_ | with_reducible refine Below.setCell ?_ ?_ _ | with_reducible refine Below.drew ?_ | with_reducible refine below_drewN ?_ _ | with_reducible refine below_step ?_ (by assumption) ?_ | with_reducible refine below_mark ?_ (by assumption) ?_)); all_goals (first | omega | (simp; done) | (simp; omega)))).mono ?_
    rintro e20 w20 ⟨hs0, rfl, hf0, ho0, hb20⟩
    have hz20 := hb20.size; try simp at hz20
    obtain ⟨ha0, hc0, rfl⟩ := ho0.slice
    have hR0 := Lib.hid (show Rep w20 (r0.agg (.slice ha0 r0.kids.length hc0)) r0 from ⟨_, rfl, hf0, ho0.rep⟩)
    have hO0 := Lib.hid ho0.bound
    clear ho0
    unfold V.agg at hR0 ⊢
    have BQ0_20 := Lib.hid (Box.stay BQ0_16.out (w' := w20) (by (repeat' (first | with_reducible exact Below.refl _ _ | with_reducible refine below_alloc ?_ _ ?_ | with_reducible refine Below.setCell ?_ ?_ _ | with_reducible refine Below.drew ?_ | with_reducible refine below_drewN ?_ _ | with_reducible refine below_step ?_ (by assumption) ?_ | with_reducible refine below_mark ?_ (by assumption) ?_)); all_goals (first | omega | (simp; done) | (simp; omega))))
    obtain ⟨cBQ020_0, cBQ020_1, cBQ020_2, cBQ020_3, cBQ020_4⟩ := BQ0_20.out.cells
    have hnq20 : w5.heap.size < w20.heap.size := by omega
    have hnr20 : w5.heap.size ≠ w20.heap.size := by omega
    go_wp2_with fail
    clear cBQ020_0 cBQ020_1 cBQ020_2 cBQ020_3 cBQ020_4
    refine (eq_any _ _ _ r0 (hR0.out.keep (by (repeat' (first | with_reducible exact Below.refl _ _ | with_reducible refine below_alloc ?_ _ ?_ | with_reducible refine Below.setCell ?_ ?_ _ | with_reducible refine Below.drew ?_ | with_reducible refine below_drewN ?_ _ | with_reducible refine below_step ?_ (by assumption) ?_ | with_reducible refine below_mark ?_ (by assumption) ?_)); all_goals (first | omega | (simp; done) | (simp; omega)))) (qR0.out.keep (by (repeat' (first | with_reducible exact Below.refl _ _ | with_reducible refine below_alloc ?_ _ ?_ | with_reducible refine Below.setCell ?_ ?_ _ | with_reducible refine Below.drew ?_ | with_reducible refine below_drewN ?_ _ | with_reducible refine below_step ?_ (by assumption) ?_ | with_reducible refine below_mark ?_ (by assumption) ?_)); all_goals (first | omega | (simp; done) | (simp; omega)))) _ (Below.refl _ _)).mono ?_
    rintro e21 w21 ⟨rfl, hb21⟩
    have hz21 := hb21.size; try simp at hz21
    have BG0_21 := Lib.hid (Box.stay BG0_16.out (w' := w21) (by (repeat' (first | with_reducible exact Below.refl _ _ | with_reducible refine below_alloc ?_ _ ?_ | with_reducible refine Below.setCell ?_ ?_ _ | with_reducible refine Below.drew ?_ | with_reducible refine below_drewN ?_ _ | with_reducible refine below_step ?_ (by assumption) ?_ | with_reducible refine below_mark ?_ (by assumption) ?_)); all_goals (first | omega | (simp; done) | (simp; omega))))
    obtain ⟨cBG021_0, cBG021_1, cBG021_2, cBG021_3, cBG021_4⟩ := BG0_21.out.cells
    go_wp2_with fail
    clear cBG021_0 cBG021_1 cBG021_2 cBG021_3 cBG021_4
    refine (held_value _ r0 _ 1 _ HM.out (by (repeat' (first | with_reducible exact Below.refl _ _ | with_reducible refine below_alloc ?_ _ ?_ | with_reducible refine Below.setCell ?_ ?_ _ | with_reducible refine Below.drew ?_ | with_reducible refine below_drewN ?_ _ | with_reducible refine below_step ?_ (by assumption) ?_ | with_reducible refine below_mark ?_ (by assumption) ?_)); all_goals (first | omega | (simp; done) | (simp; omega))) _ _ _ _ (by omega) (by omega)).mono ?_
    rintro e22 w22 ⟨rfl, hb22⟩
    have hz22 := hb22.size; try simp at hz22
    go_wp2_with fail
    go_ret
    exact ⟨rfl, (by (repeat' (first | with_reducible exact Below.refl _ _ | with_reducible refine below_alloc ?_ _ ?_ | with_reducible refine Below.setCell ?_ ?_ _ | with_reducible refine Below.drew ?_ | with_reducible refine below_drewN ?_ _ | with_reducible refine below_step ?_ (by assumption) ?_ | with_reducible refine below_mark ?_ (by assumption) ?_)); all_goals (first | omega | (simp; done) | (simp; omega)))⟩
set_option maxRecDepth 100000 in
set_option maxHeartbeats 2000000 in
theorem lifted_FnExactUnmapKeys (os : Os) (started : os.Started) (H : Type) (enc : TypeId × Value → H) :
    ReturnsInHanded {} Tryd.checked os 7 .any (fun w args => (Rows.fnExactUnmapKeysSpec.pre enc Tryd.prog Tryd.f7 [] false w args ∧ laidMetH Tryd.prog Rows.fnExactUnmapKeysRow.laid w) ∧ sizedMet enc Tryd.prog Tryd.f7 (OpenSpec.ofChange Rows.fnExactUnmapKeysSpec) false w args)
      (Rows.fnExactUnmapKeysSpec.post enc Tryd.prog Tryd.f7 false true false false) := by
  refine returnsInHanded_of_change_and (C := Tryd.checked) (X := fun w _ => laidMetH Tryd.prog Rows.fnExactUnmapKeysRow.laid w) (fun _ _ _ hh h => h.of_heap hh) lawOwn started (by kernel_rfl) Tryd.func7
    (ChangeSpec.witness_shaped (enc := enc) (C := Tryd.checked) (os := os) (X := fun w _ => laidMetH Tryd.prog Rows.fnExactUnmapKeysRow.laid w) false (World.laidAll Tryd.prog os Rows.fnExactUnmapKeysRow.laid) #[.agg #[.int .i64 0, .int .i64 0, .int .i64 0, .string ByteArray.empty, .slice none 0 0], .slice none 0 0] 8 (World.laidAll_os _ _ _)
      (World.shaped_of_ZipB (by kernel_rfl) (by kernel_rfl)) (by kernel_rfl) (by kernel_rfl) (by kernel_rfl)
      (by rw [MakeChecks.laidMetH_plain _ _ _ (by kernel_rfl)]; exact laidMet_laidAll _ (by kernel_rfl) (by kernel_rfl))) ?_
  intro W base args ds gs before hval0 hW _ _ hL _
  have hval : ∀ (j : Nat) t v, Tryd.f7.params[j]? = some t → args[j]? = some v → Value.okWide Tryd.prog W .any base t v := hval0
  have hW' := hW
  obtain ⟨p, q, hA0, hV, hpq, hfz, hnd⟩ := hW
  have hA : DataW.TrodAll enc Tryd.prog W 0 (fun _ => true) true Tryd.f7.params.toList args.toList ds p := hA0
  rw [Tryd.params7] at hA hval
  rw [MakeChecks.laidMetH_plain _ _ _ (by kernel_rfl)] at hL
  have hE : Env W := env_of (Lib.laidMet.reads hL (.tail _ (.head _))) (Lib.laidMet.reads hL (.head _))
  obtain ⟨v0, vs0, d0, ds0, p0, q0, hargs, rfl, hp, h0, r0⟩ := trodAll_cons hA
  obtain ⟨v1, vs1, d1, ds1, p1, q1, rfl, rfl, rfl, h1, r1⟩ := trodAll_cons r0
  obtain ⟨rfl, rfl, rfl⟩ := trodAll_nil r1
  obtain rfl : args = #[v0, v1] := by cases args; simp_all
  obtain ⟨a0, w0⟩ := open_V (okV (hval 0 24 v0 rfl rfl)) h0
  obtain ⟨a1, w1⟩ := open_Ss (okWide_slice Tryd.underlying26 (hval 1 26 v1 rfl rfl)) h1
  refine (walk_FnExactUnmapKeys v0 a0 w0 v1 a1 w1 W rfl hE).mono fun e W' ⟨he, hb⟩ => ?_
  subst he
  refine ⟨_, rfl, law_post rfl rfl rfl ?_ hW' hb⟩
  rw [Tryd.params7]
  intro t ht
  simp only [List.mem_cons, List.not_mem_nil, or_false] at ht
  rcases ht with rfl | rfl
  all_goals exact ⟨by kernel_rfl, of_decide_eq_true (by kernel_rfl)⟩
theorem row_FnExactUnmapKeys : Rows.FnExactUnmapKeysSaid :=
  OpenClaim.holds_of_wide 7 Tryd.f7 rfl rfl rfl rfl rfl rfl rfl ⟨rfl, rfl, rfl, rfl, rfl⟩ rfl rfl rfl rfl rfl (by kernel_rfl) Tryd.func7 (by kernel_rfl)
    (of_decide_eq_true (by kernel_rfl)) (by unfold Func.isWrapper; first | (rw [if_pos (by decide +kernel)]; kernel_rfl) | (rw [if_neg (by decide +kernel)]; exact ⟨rfl, rfl⟩))
    (fun os started H enc _ => lifted_FnExactUnmapKeys os started H enc)
/-- THE STATEMENT -/
theorem holds_FnExactUnmapKeysCard : Rows.FnExactUnmapKeysCardSaid :=
  Claim7.holds_tied_plain_at .later [] [.data, .pinned] true (true, "39c1fc0bc38bfe12cfb62b62f353c624256ef6f810ee4e1bf8b08b7db85cdf3b") false row_FnExactUnmapKeys (fun _ h => by cases h) (by kernel_rfl) (fun _ h => by cases h) fnExactUnmapKeys_row_tie rfl ⟨rfl, rfl⟩ (by kernel_rfl) rfl
    (fun f fn hf hfn => by
      obtain rfl : f = 7 := Option.some.inj ((show Tryd.prog.funcNamed "loop.example/g00421/laws.FnExactUnmapKeys" = some 7 by kernel_rfl).symm.trans hf) |>.symm
      obtain rfl : fn = Tryd.f7 := (Option.some.inj (Tryd.func7.symm.trans hfn)).symm
      exact ⟨by kernel_rfl, fun j t ht => by
        have hm : t ∈ Tryd.f7.params.toList := by simpa using Array.mem_of_getElem? ht
        have hall : (Tryd.f7.params.toList.all fun u => !Tryd.prog.wantsStandIn u) = true := by kernel_rfl
        exact (show Tryd.prog.wantsStandIn t = false by simpa using List.all_eq_true.1 hall t hm)⟩)
    (by kernel_rfl)
#print axioms holds_FnExactUnmapKeysCard
end Go.Proofs.YtllngpnhhpnjoaaDoor
