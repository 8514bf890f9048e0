/- For every value the program's Saved and the reference's return the same number, and leave the argument as it was: the law returns true. -/
import Derived.Test.YtiemlefmhleaeaaDoorCborZ
import Derived.Test.YtiemlefmhleaeaaDoorPutR
import Derived.Test.YtiemlefmhleaeaaDoorExact
import Derived.Test.YtiemlefmhleaeaaDoorCardKit
import Derived.Deep.RegionWith
import Derived.Deep.DeepCutAuto
namespace Go.Proofs.YtiemlefmhleaeaaDoor
set_option linter.unusedVariables false
set_option maxRecDepth 100000
open Go.RowKit
theorem wrap_gain {x y : Nat} (hx : x ≤ 615000) (hy : y ≤ 615000) : wrap64 ((x : Int) - y) = (x : Int) - y := by unfold wrap64; omega
theorem gain_cases (b : Bool) (x y : Nat) : (gainN b x y = 0 ∧ (b = false ∨ b = true ∧ ((x : Int) == 0) = true ∨ b = true ∧ ((x : Int) == 0) = false ∧ ((y : Int) == 0) = true)) ∨ (gainN b x y = (x : Int) - y ∧ b = true ∧ ((x : Int) == 0) = false ∧ ((y : Int) == 0) = false) := by
  unfold gainN
  cases b with
  | false => exact .inl ⟨by simp, .inl rfl⟩
  | true =>
    by_cases hx : x = 0
    · exact .inl ⟨by simp [hx], .inr (.inl ⟨rfl, by simp [hx]⟩)⟩
    · by_cases hy : y = 0
      · exact .inl ⟨by simp [hy], .inr (.inr ⟨rfl, by simp; omega, by simp [hy]⟩)⟩
      · exact .inr ⟨by rw [if_neg (by simp; omega)], rfl, by simp; omega, by simp; omega⟩
set_option maxHeartbeats 1000000 in
theorem Saved_impl (w0 : World) (v : Value) (t : V) (h : Rep w0 v t) (hsz : t.sz ≤ 1048576) (w : World) (hw : Below w0.heap.size w0 w) (hE : Env w0) :
    Calls Tryd.prog 22 #[v] w (GainRet (prR t).isSome t ((prR t).getD t) w) := by
  have MK := Lib.hid (fun (W : World) (hW : Below w.heap.size w W) => PutRefs_impl w0 v t h hsz W (hw.trans (hW.mono hw.size)) hE)
  have SH := Lib.hid (fun (b : Bool) (u : V) (v2 : Value) (hu : u.sz ≤ 1048576) (w1 : World) (h1 : Rep w1 v2 u) (hb : Below w.heap.size w w1) (W : World) (hW : Below w1.heap.size w1 W) => shorter_any w1 (Env.keep (Env.keep hE hw) hb) v t ((h.keep hw).keep hb) hsz v2 u h1 hu b W hW)
  have HS := Lib.hid (prR_sz hsz)
  obtain ⟨sl, rfl, -, hr⟩ := h
  obtain ⟨sa, sc, rfl⟩ := hr.slice
  clear hr hsz
  unfold VBRet at MK
  unfold GainRet at *
  generalize (prR t).getD t = u at *
  generalize (prR t).isSome = b at *
  replace SH := Lib.hid (SH.out b u)
  unfold V.agg at SH MK ⊢
  generalize sizB t = x at *
  generalize sizB u = y at *
  generalize t.k = k at *
  generalize t.n = n at *
  generalize t.e = e at *
  generalize t.s = s at *
  generalize t.kids.length = m at *
  have BX := Lib.hid (Box.new w k n e s (.slice sa m sc) 28)
  go_enter Tryd.func22, Tryd.ntmps22
  go_wp2_with fail
  refine (MK.out _ ((by (repeat' (first | with_reducible exact Below.refl _ _ | with_reducible refine below_alloc ?_ _ ?_ | with_reducible refine Below.setCell ?_ ?_ _ | with_reducible refine Below.drew ?_ | with_reducible refine below_drewN ?_ _ | with_reducible refine below_step ?_ (by assumption) ?_ | with_reducible refine below_mark ?_ (by assumption) ?_)); all_goals (first | omega | (simp; done) | (simp; omega))))).mono ?_
  rintro x1 w1 ⟨s1, rfl, wf1, ho1, hb1⟩
  obtain ⟨oa, oc, rfl⟩ := ho1.slice
  have HB1 := Lib.hid (show Below w.heap.size w w1 from (by (repeat' (first | with_reducible exact Below.refl _ _ | with_reducible refine below_alloc ?_ _ ?_ | with_reducible refine Below.setCell ?_ ?_ _ | with_reducible refine Below.drew ?_ | with_reducible refine below_drewN ?_ _ | with_reducible refine below_step ?_ (by assumption) ?_ | with_reducible refine below_mark ?_ (by assumption) ?_)); all_goals (first | omega | (simp; done) | (simp; omega))))
  have SH1 := Lib.hid (SH.out _ HS.out w1 ⟨_, rfl, wf1, ho1.rep⟩ HB1.out)
  have BX1 := Lib.hid (BX.out.stay hb1)
  clear ho1 wf1 SH MK HS
  unfold V.agg at *
  generalize u.k = k2 at *
  generalize u.n = n2 at *
  generalize u.e = e2 at *
  generalize u.s = s2 at *
  generalize u.kids.length = m2 at *
  obtain ⟨p0, p1, p2, p3, p4⟩ := BX1.out.cells
  have hne : w.heap.size ≠ w1.heap.size := by have := BX1.out.lt; omega
  have hlt := BX1.out.lt
  go_wp2_with fail
  refine (SH1.out _ ((by (repeat' (first | with_reducible exact Below.refl _ _ | with_reducible refine below_alloc ?_ _ ?_ | with_reducible refine Below.setCell ?_ ?_ _ | with_reducible refine Below.drew ?_ | with_reducible refine below_drewN ?_ _ | with_reducible refine below_step ?_ (by assumption) ?_ | with_reducible refine below_mark ?_ (by assumption) ?_)); all_goals (first | omega | (simp; done) | (simp; omega))))).mono ?_
  rintro x2 w2 ⟨rfl, hb2⟩
  have HB2 := Lib.hid (show Below w.heap.size w w2 from HB1.out.trans (Below.mono ((by (repeat' (first | with_reducible exact Below.refl _ _ | with_reducible refine below_alloc ?_ _ ?_ | with_reducible refine Below.setCell ?_ ?_ _ | with_reducible refine Below.drew ?_ | with_reducible refine below_drewN ?_ _ | with_reducible refine below_step ?_ (by assumption) ?_ | with_reducible refine below_mark ?_ (by assumption) ?_)); all_goals (first | omega | (simp; done) | (simp; omega)))) HB1.out.size))
  go_wp2_with fail
  go_ret
  exact ⟨rfl, HB2.out⟩
set_option maxHeartbeats 2000000 in
theorem Saved_spec (w0 : World) (v : Value) (t : V) (h : Rep w0 v t) (hsz : t.sz ≤ 1048576) (w : World) (hw : Below w0.heap.size w0 w) :
    Calls Tryd.prog 21 #[v] w (GainRet (prR t).isSome t ((prR t).getD t) w) := by
  have MK := Lib.hid (fun (W : World) (hW : Below w.heap.size w W) => PutRefs_spec w0 v t h hsz W (hw.trans (hW.mono hw.size)))
  have CT := Lib.hid (fun (W : World) (hW : Below w.heap.size w W) => CborSize_spec w0 v t h hsz W (hw.trans (hW.mono hw.size)))
  have CU0 := Lib.hid (fun (u : V) (v2 : Value) (hu : u.sz ≤ 1048576) (w1 : World) (h1 : Rep w1 v2 u) (W : World) (hW : Below w1.heap.size w1 W) => CborSize_spec w1 v2 u h1 hu W hW)
  have HS := Lib.hid (prR_sz hsz)
  have lt := sizB_le t
  have lu := sizB_le ((prR t).getD t)
  obtain ⟨sl, rfl, -, hr⟩ := h
  obtain ⟨sa, sc, rfl⟩ := hr.slice
  clear hr hsz
  unfold VBRet at MK
  unfold GainRet
  unfold SizRet at *
  generalize (prR t).getD t = u at *
  generalize (prR t).isSome = b at *
  replace CU0 := Lib.hid (CU0.out u)
  unfold V.agg at CT MK ⊢
  generalize sizB t = x at *
  generalize sizB u = y at *
  generalize t.k = k at *
  generalize t.n = n at *
  generalize t.e = e at *
  generalize t.s = s at *
  generalize t.kids.length = m at *
  have BX := Lib.hid (Box.new w k n e s (.slice sa m sc) 28)
  have hw0 := wrap_gain lt lu
  have hcase := gain_cases b x y
  obtain ⟨g, hg⟩ : ∃ g, g = gainN b x y := ⟨_, rfl⟩
  rw [← hg] at hcase ⊢
  clear hg lt lu
  rcases hcase with ⟨rfl, rfl | ⟨rfl, t1⟩ | ⟨rfl, t1, t2⟩⟩ | ⟨rfl, rfl, t1, t2⟩
  all_goals
    go_enter Tryd.func21, Tryd.ntmps21
    go_wp2_with fail
    refine (MK.out _ ((by (repeat' (first | with_reducible exact Below.refl _ _ | with_reducible refine below_alloc ?_ _ ?_ | with_reducible refine Below.setCell ?_ ?_ _ | with_reducible refine Below.drew ?_ | with_reducible refine below_drewN ?_ _ | with_reducible refine below_step ?_ (by assumption) ?_ | with_reducible refine below_mark ?_ (by assumption) ?_)); all_goals (first | omega | (simp; done) | (simp; omega))))).mono ?_
    rintro x1 w1 ⟨s1, rfl, wf1, ho1, hb1⟩
    obtain ⟨oa, oc, rfl⟩ := ho1.slice
    have HB1 := Lib.hid (show Below w.heap.size w w1 from (by (repeat' (first | with_reducible exact Below.refl _ _ | with_reducible refine below_alloc ?_ _ ?_ | with_reducible refine Below.setCell ?_ ?_ _ | with_reducible refine Below.drew ?_ | with_reducible refine below_drewN ?_ _ | with_reducible refine below_step ?_ (by assumption) ?_ | with_reducible refine below_mark ?_ (by assumption) ?_)); all_goals (first | omega | (simp; done) | (simp; omega))))
    have CU := Lib.hid (CU0.out _ HS.out w1 ⟨_, rfl, wf1, ho1.rep⟩)
    have BX1 := Lib.hid (BX.out.stay hb1)
    clear ho1 wf1 CU0 MK HS
    unfold V.agg at *
    generalize u.k = k2 at *
    generalize u.n = n2 at *
    generalize u.e = e2 at *
    generalize u.s = s2 at *
    generalize u.kids.length = m2 at *
    obtain ⟨p0, p1, p2, p3, p4⟩ := BX1.out.cells
    have hlt := BX1.out.lt
    have hne : w.heap.size ≠ w1.heap.size := by omega
    have B0 : Below (w1.alloc (.cells #[.int .i64 k2, .int .i64 n2, .int .i64 e2, .string s2, .slice oa m2 oc] 28)).heap.size (w1.alloc (.cells #[.int .i64 k2, .int .i64 n2, .int .i64 e2, .string s2, .slice oa m2 oc] 28)) (w1.alloc (.cells #[.int .i64 k2, .int .i64 n2, .int .i64 e2, .string s2, .slice oa m2 oc] 28)).drew := (Below.refl _ _).drew
    have TC := Lib.hid (fun (W : World) (h : Below (w1.alloc (.cells #[.int .i64 k2, .int .i64 n2, .int .i64 e2, .string s2, .slice oa m2 oc] 28)).heap.size (w1.alloc (.cells #[.int .i64 k2, .int .i64 n2, .int .i64 e2, .string s2, .slice oa m2 oc] 28)) W) => And.intro ((BX1.out.alloc _).stay h).cells ((Box.new w1 k2 n2 e2 s2 (.slice oa m2 oc) 28).stay h).cells)
    have BU := Lib.hid (show ∀ W, Below (w1.alloc (.cells #[.int .i64 k2, .int .i64 n2, .int .i64 e2, .string s2, .slice oa m2 oc] 28)).heap.size (w1.alloc (.cells #[.int .i64 k2, .int .i64 n2, .int .i64 e2, .string s2, .slice oa m2 oc] 28)) W → Below w1.heap.size w1 W from fun W h => (by (repeat' (first | with_reducible exact Below.refl _ _ | with_reducible refine below_alloc ?_ _ ?_ | with_reducible refine Below.setCell ?_ ?_ _ | with_reducible refine Below.drew ?_ | with_reducible refine below_drewN ?_ _ | with_reducible refine below_step ?_ (by assumption) ?_ | with_reducible refine below_mark ?_ (by assumption) ?_)); all_goals (first | omega | (simp; done) | (simp; omega))))
    have BW := Lib.hid (fun (W : World) h => HB1.out.trans ((BU.out W h).mono HB1.out.size))
    obtain ⟨-, ⟨r0, r1, r2, r3, r4⟩⟩ := TC.out _ B0
    go_wp2_with fail
    obtain ⟨⟨p0, p1, p2, p3, p4⟩, -⟩ := TC.out _ B0
    go_region_held3 (fun w' => w'.cell? ⟨w.heap.size, 0, none⟩ = some (.int .i64 k) ∧ w'.cell? ⟨w.heap.size, 1, none⟩ = some (.int .i64 n) ∧ w'.cell? ⟨w.heap.size, 2, none⟩ = some (.int .i64 e) ∧ w'.cell? ⟨w.heap.size, 3, none⟩ = some (.string s) ∧ w'.cell? ⟨w.heap.size, 4, none⟩ = some (.slice sa m sc) ∧
      w'.cell? ⟨w1.heap.size, 0, none⟩ = some (.int .i64 k2) ∧ w'.cell? ⟨w1.heap.size, 1, none⟩ = some (.int .i64 n2) ∧ w'.cell? ⟨w1.heap.size, 2, none⟩ = some (.int .i64 e2) ∧ w'.cell? ⟨w1.heap.size, 3, none⟩ = some (.string s2) ∧ w'.cell? ⟨w1.heap.size, 4, none⟩ = some (.slice oa m2 oc))
      (first | with_reducible exact ⟨by assumption, by assumption, by assumption, by assumption, by assumption, by assumption, by assumption, by assumption, by assumption, by assumption⟩ | with_reducible assumption | exact ⟨p0, p1, p2, p3, p4, r0, r1, r2, r3, r4⟩ | go_keep)
      (((first | with_reducible refine (CT.out _ (BW.out _ (by assumption))).mono ?_ | with_reducible refine (CU.out _ (BU.out _ (by assumption))).mono ?_); rintro x1 w3 ⟨rfl, hb3⟩; have hG := below_next hb3 (by with_reducible assumption); obtain ⟨⟨p0, p1, p2, p3, p4⟩, ⟨r0, r1, r2, r3, r4⟩⟩ := TC.out _ hG))
    all_goals
      go_wp2_with fail
      go_ret
      first | exact ⟨rfl, BW.out _ hG⟩ | exact ⟨by show Ending.returned (Value.int .i64 (wrap64 ((x : Int) - y))) = _; rw [hw0], BW.out _ hG⟩
end Go.Proofs.YtiemlefmhleaeaaDoor
namespace Go.Proofs.YtiemlefmhleaeaaDoor
set_option linter.unusedVariables false
set_option maxRecDepth 100000
open Go.ChangeShapes Go.WideShapes Go.ChangeAt Go.RowKit Go.Lib
set_option maxHeartbeats 8000000 in
theorem walk_FnExactSaved {w00 : World} (v0 : Value) (t0 : V) (hv0 : Rep w00 v0 t0) (w : World) (hww : w = w00) (hE : Env w) : Calls Tryd.prog 4 #[v0] w (LawRet w) := by
  subst hww
  have SZ0 := Lib.hid (fun w' (hh : Below w.heap.size w w') (m : Int) (h0 : 0 ≤ m) (h1 : m ≤ 1048576) => sz_any w v0 t0 hv0 w' hh m h0 h1)
  have TO0 := Lib.hid (fun w' (hh : Below w.heap.size w w') (hz : t0.sz ≤ 1048576) => to_any w v0 t0 hv0 hz w' hh)
  have EQ0 := Lib.hid (fun w1 x y (h1 : Rep w1 x t0) (h2 : Rep w1 y t0) => eq_any w1 x y t0 h1 h2 w1 (Below.refl _ _))
  have KS := Lib.hid (fun w1 x0 (h0 : Rep w1 x0 t0) (z0 : t0.sz ≤ 1048576) => Saved_spec w1 x0 t0 h0 z0 w1 (Below.refl _ _))
  have KI := Lib.hid (fun w1 x0 (h0 : Rep w1 x0 t0) (z0 : t0.sz ≤ 1048576) (hh : Below w.heap.size w w1) => Saved_impl w1 x0 t0 h0 z0 w1 (Below.refl _ _) (Env.keep hE hh))
  clear hE
  have HCN0 := Lib.hid (fun (h : t0.sz ≤ 1048576) => cnts_kids_le h)
  obtain ⟨sl0, rfl, _, _⟩ := hv0
  unfold V.agg at SZ0 TO0 ⊢
  generalize gainN (prR t0).isSome (sizB t0) (sizB ((prR t0).getD t0)) = r0 at *
  go_enter Tryd.func4, Tryd.ntmps4
  go_wp2_with fail
  have BA0_0 := Lib.hid (Box.new (w) t0.k t0.n t0.e t0.s sl0 24)
  have HOK0 := Lib.hid (fun (h : ¬ szr (1048576) (t0.sz) < 0) => szr_ok h)
  have hlo0 := szr_lo (1048576) (t0.sz)
  refine (SZ0.out _ (by (repeat' (first | with_reducible exact Below.refl _ _ | with_reducible refine below_alloc ?_ _ ?_ | with_reducible refine Below.setCell ?_ ?_ _ | with_reducible refine Below.drew ?_ | with_reducible refine below_drewN ?_ _ | with_reducible refine below_step ?_ (by assumption) ?_ | with_reducible refine below_mark ?_ (by assumption) ?_)); all_goals (first | omega | (simp; done) | (simp; omega))) _ (by omega) (by omega)).mono ?_
  rintro e1 w1 ⟨rfl, hb1⟩
  have hz1 := hb1.size; try simp at hz1
  generalize szr (1048576) (t0.sz) = m0 at *
  have BA0_1 := Lib.hid (Box.stay BA0_0.out (w' := w1) (by (repeat' (first | with_reducible exact Below.refl _ _ | with_reducible refine below_alloc ?_ _ ?_ | with_reducible refine Below.setCell ?_ ?_ _ | with_reducible refine Below.drew ?_ | with_reducible refine below_drewN ?_ _ | with_reducible refine below_step ?_ (by assumption) ?_ | with_reducible refine below_mark ?_ (by assumption) ?_)); all_goals (first | omega | (simp; done) | (simp; omega))))
  obtain ⟨cBA01_0, cBA01_1, cBA01_2, cBA01_3, cBA01_4⟩ := BA0_1.out.cells
  by_cases hm0 : m0 < 0
  · go_wp2_with fail
    go_ret
    exact ⟨rfl, (by (repeat' (first | with_reducible exact Below.refl _ _ | with_reducible refine below_alloc ?_ _ ?_ | with_reducible refine Below.setCell ?_ ?_ _ | with_reducible refine Below.drew ?_ | with_reducible refine below_drewN ?_ _ | with_reducible refine below_step ?_ (by assumption) ?_ | with_reducible refine below_mark ?_ (by assumption) ?_)); all_goals (first | omega | (simp; done) | (simp; omega)))⟩
  obtain ⟨hq0, hr0⟩ := HOK0.out hm0
  have hm0' : ¬ m0 < 0 := hm0
  have hs0 := HCN0.out (by omega)
  go_wp2_with fail
  clear cBA01_0 cBA01_1 cBA01_2 cBA01_3 cBA01_4
  refine (TO0.out _ (by (repeat' (first | with_reducible exact Below.refl _ _ | with_reducible refine below_alloc ?_ _ ?_ | with_reducible refine Below.setCell ?_ ?_ _ | with_reducible refine Below.drew ?_ | with_reducible refine below_drewN ?_ _ | with_reducible refine below_step ?_ (by assumption) ?_ | with_reducible refine below_mark ?_ (by assumption) ?_)); all_goals (first | omega | (simp; done) | (simp; omega))) (by omega)).mono ?_
  rintro e2 w2 ⟨ps0, rfl, pf0, po0, hb2⟩
  have hz2 := hb2.size; try simp at hz2
  obtain ⟨pa0, pc0, rfl⟩ := po0.slice
  have pO0 := Lib.hid po0
  have pR0 := Lib.hid (po0.repV pf0)
  clear po0
  unfold V.agg at pR0 ⊢
  go_wp2_with fail
  refine (KS.out _ _ (pR0.out.keep (by (repeat' (first | with_reducible exact Below.refl _ _ | with_reducible refine below_alloc ?_ _ ?_ | with_reducible refine Below.setCell ?_ ?_ _ | with_reducible refine Below.drew ?_ | with_reducible refine below_drewN ?_ _ | with_reducible refine below_step ?_ (by assumption) ?_ | with_reducible refine below_mark ?_ (by assumption) ?_)); all_goals (first | omega | (simp; done) | (simp; omega)))) (by omega)).mono ?_
  rintro e3 w3 ⟨rfl, hb3⟩
  have hz3 := hb3.size; try simp at hz3
  have BA0_3 := Lib.hid (Box.stay BA0_1.out (w' := w3) (by (repeat' (first | with_reducible exact Below.refl _ _ | with_reducible refine below_alloc ?_ _ ?_ | with_reducible refine Below.setCell ?_ ?_ _ | with_reducible refine Below.drew ?_ | with_reducible refine below_drewN ?_ _ | with_reducible refine below_step ?_ (by assumption) ?_ | with_reducible refine below_mark ?_ (by assumption) ?_)); all_goals (first | omega | (simp; done) | (simp; omega))))
  obtain ⟨cBA03_0, cBA03_1, cBA03_2, cBA03_3, cBA03_4⟩ := BA0_3.out.cells
  go_wp2_with fail
  clear cBA03_0 cBA03_1 cBA03_2 cBA03_3 cBA03_4
  refine (TO0.out _ (by (repeat' (first | with_reducible exact Below.refl _ _ | with_reducible refine below_alloc ?_ _ ?_ | with_reducible refine Below.setCell ?_ ?_ _ | with_reducible refine Below.drew ?_ | with_reducible refine below_drewN ?_ _ | with_reducible refine below_step ?_ (by assumption) ?_ | with_reducible refine below_mark ?_ (by assumption) ?_)); all_goals (first | omega | (simp; done) | (simp; omega))) (by omega)).mono ?_
  rintro e4 w4 ⟨xs0, rfl, xf0, xo0, hb4⟩
  have hz4 := hb4.size; try simp at hz4
  obtain ⟨xa0, xc0, rfl⟩ := xo0.slice
  have xO0 := Lib.hid xo0.bound
  have xR0 := Lib.hid (xo0.repV xf0)
  clear xo0
  unfold V.agg at xR0 ⊢
  have BX0_n := Lib.hid (Box.new w4 t0.k t0.n t0.e t0.s (.slice xa0 t0.kids.length xc0) 28)
  go_wp2_with fail
  refine (KI.out _ _ (xR0.out.keep (by (repeat' (first | with_reducible exact Below.refl _ _ | with_reducible refine below_alloc ?_ _ ?_ | with_reducible refine Below.setCell ?_ ?_ _ | with_reducible refine Below.drew ?_ | with_reducible refine below_drewN ?_ _ | with_reducible refine below_step ?_ (by assumption) ?_ | with_reducible refine below_mark ?_ (by assumption) ?_)); all_goals (first | omega | (simp; done) | (simp; omega)))) (by omega) (by (repeat' (first | with_reducible exact Below.refl _ _ | with_reducible refine below_alloc ?_ _ ?_ | with_reducible refine Below.setCell ?_ ?_ _ | with_reducible refine Below.drew ?_ | with_reducible refine below_drewN ?_ _ | with_reducible refine below_step ?_ (by assumption) ?_ | with_reducible refine below_mark ?_ (by assumption) ?_)); all_goals (first | omega | (simp; done) | (simp; omega)))).mono ?_
  rintro e5 w5 ⟨rfl, hb5⟩
  have hz5 := hb5.size; try simp at hz5
  have tn0 : ((r0 : Int) != r0) = false := by simp
  have BX0_5 := Lib.hid (Box.stay BX0_n.out (w' := w5) (by (repeat' (first | with_reducible exact Below.refl _ _ | with_reducible refine below_alloc ?_ _ ?_ | with_reducible refine Below.setCell ?_ ?_ _ | with_reducible refine Below.drew ?_ | with_reducible refine below_drewN ?_ _ | with_reducible refine below_step ?_ (by assumption) ?_ | with_reducible refine below_mark ?_ (by assumption) ?_)); all_goals (first | omega | (simp; done) | (simp; omega))))
  obtain ⟨cBX05_0, cBX05_1, cBX05_2, cBX05_3, cBX05_4⟩ := BX0_5.out.cells
  have BA0_5 := Lib.hid (Box.stay BA0_3.out (w' := w5) (by (repeat' (first | with_reducible exact Below.refl _ _ | with_reducible refine below_alloc ?_ _ ?_ | with_reducible refine Below.setCell ?_ ?_ _ | with_reducible refine Below.drew ?_ | with_reducible refine below_drewN ?_ _ | with_reducible refine below_step ?_ (by assumption) ?_ | with_reducible refine below_mark ?_ (by assumption) ?_)); all_goals (first | omega | (simp; done) | (simp; omega))))
  obtain ⟨cBA05_0, cBA05_1, cBA05_2, cBA05_3, cBA05_4⟩ := BA0_5.out.cells
  go_upto_region 10 with fail
  go_cut [26] (fun s wx => s = .bool false ∧ Below w5.heap.size w5 wx)
  case first =>
    go_region_with (first | (go_at_call 16; refine (TO0.out _ (by (repeat' (first | with_reducible exact Below.refl _ _ | with_reducible refine below_alloc ?_ _ ?_ | with_reducible refine Below.setCell ?_ ?_ _ | with_reducible refine Below.drew ?_ | with_reducible refine below_drewN ?_ _ | with_reducible refine below_step ?_ (by assumption) ?_ | with_reducible refine below_mark ?_ (by assumption) ?_)); all_goals (first | omega | (simp; done) | (simp; omega))) (by omega)).mono ?_; rintro e0 wa0 ⟨ys0, rfl, yf0, yo0, yb0⟩; have yR0 := Lib.hid (yo0.repV yf0); obtain ⟨y0, y1, y2, y3, y4⟩ := (Box.keep BX0_5.out (Below.trans (Below.drew (Below.refl _ _)) yb0) (Nat.le_refl _)).cells; clear yo0) | (go_at_call 18; refine (EQ0.out _ _ _ (xR0.out.keep (by (repeat' (first | with_reducible exact Below.refl _ _ | with_reducible refine below_alloc ?_ _ ?_ | with_reducible refine Below.setCell ?_ ?_ _ | with_reducible refine Below.drew ?_ | with_reducible refine below_drewN ?_ _ | with_reducible refine below_step ?_ (by assumption) ?_ | with_reducible refine below_mark ?_ (by assumption) ?_)); all_goals (first | omega | (simp; done) | (simp; omega)))) yR0.out).mono ?_; rintro e0 wb0 ⟨rfl, zb0⟩))
    all_goals (go_wp2_with fail; go_meet; exact ⟨rfl, (by (repeat' (first | with_reducible exact Below.refl _ _ | with_reducible refine below_alloc ?_ _ ?_ | with_reducible refine Below.setCell ?_ ?_ _ | with_reducible refine Below.drew ?_ | with_reducible refine below_drewN ?_ _ | with_reducible refine below_step ?_ (by assumption) ?_ | with_reducible refine below_mark ?_ (by assumption) ?_)); all_goals (first | omega | (simp; done) | (simp; omega)))⟩)
  case rest =>
    obtain ⟨rfl, hb6⟩ := hcut
    obtain ⟨w6, rfl⟩ : ∃ W : World, W = wc := ⟨_, rfl⟩
    have hz6 := hb6.size; try simp at hz6
    clear cBX05_0 cBX05_1 cBX05_2 cBX05_3 cBX05_4 cBA05_0 cBA05_1 cBA05_2 cBA05_3 cBA05_4
    go_wp2_with fail
    go_ret
    exact ⟨rfl, (by (repeat' (first | with_reducible exact Below.refl _ _ | with_reducible refine below_alloc ?_ _ ?_ | with_reducible refine Below.setCell ?_ ?_ _ | with_reducible refine Below.drew ?_ | with_reducible refine below_drewN ?_ _ | with_reducible refine below_step ?_ (by assumption) ?_ | with_reducible refine below_mark ?_ (by assumption) ?_)); all_goals (first | omega | (simp; done) | (simp; omega)))⟩
set_option maxRecDepth 100000 in
set_option maxHeartbeats 2000000 in
theorem lifted_FnExactSaved (os : Os) (started : os.Started) (H : Type) (enc : TypeId × Value → H) :
    ReturnsInHanded {} Tryd.checked os 4 .any (fun w args => (Rows.fnExactSavedSpec.pre enc Tryd.prog Tryd.f4 [] false w args ∧ laidMetH Tryd.prog Rows.fnExactSavedRow.laid w) ∧ sizedMet enc Tryd.prog Tryd.f4 (OpenSpec.ofChange Rows.fnExactSavedSpec) false w args)
      (Rows.fnExactSavedSpec.post enc Tryd.prog Tryd.f4 false true false false) := by
  refine returnsInHanded_of_change_and (C := Tryd.checked) (X := fun w _ => laidMetH Tryd.prog Rows.fnExactSavedRow.laid w) (fun _ _ _ hh h => h.of_heap hh) lawOwn started (by kernel_rfl) Tryd.func4
    (ChangeSpec.witness_shaped (enc := enc) (C := Tryd.checked) (os := os) (X := fun w _ => laidMetH Tryd.prog Rows.fnExactSavedRow.laid w) false (World.laidAll Tryd.prog os Rows.fnExactSavedRow.laid) #[.agg #[.int .i64 0, .int .i64 0, .int .i64 0, .string ByteArray.empty, .slice none 0 0]] 8 (World.laidAll_os _ _ _)
      (World.shaped_of_ZipB (by kernel_rfl) (by kernel_rfl)) (by kernel_rfl) (by kernel_rfl) (by kernel_rfl)
      (by rw [MakeChecks.laidMetH_plain _ _ _ (by kernel_rfl)]; exact laidMet_laidAll _ (by kernel_rfl) (by kernel_rfl))) ?_
  intro W base args ds gs before hval0 hW _ _ hL _
  have hval : ∀ (j : Nat) t v, Tryd.f4.params[j]? = some t → args[j]? = some v → Value.okWide Tryd.prog W .any base t v := hval0
  have hW' := hW
  obtain ⟨p, q, hA0, hV, hpq, hfz, hnd⟩ := hW
  have hA : DataW.TrodAll enc Tryd.prog W 0 (fun _ => true) true Tryd.f4.params.toList args.toList ds p := hA0
  rw [Tryd.params4] at hA hval
  rw [MakeChecks.laidMetH_plain _ _ _ (by kernel_rfl)] at hL
  have hE : Env W := env_of (Lib.laidMet.reads hL (.tail _ (.head _))) (Lib.laidMet.reads hL (.head _))
  obtain ⟨v0, vs0, d0, ds0, p0, q0, hargs, rfl, hp, h0, r0⟩ := trodAll_cons hA
  obtain ⟨rfl, rfl, rfl⟩ := trodAll_nil r0
  obtain rfl : args = #[v0] := by cases args; simp_all
  obtain ⟨a0, w0⟩ := open_V (okV (hval 0 24 v0 rfl rfl)) h0
  refine (walk_FnExactSaved v0 a0 w0 W rfl hE).mono fun e W' ⟨he, hb⟩ => ?_
  subst he
  refine ⟨_, rfl, law_post rfl rfl rfl ?_ hW' hb⟩
  rw [Tryd.params4]
  intro t ht
  obtain rfl := List.mem_singleton.1 ht
  exact ⟨by kernel_rfl, of_decide_eq_true (by kernel_rfl)⟩
set_option maxHeartbeats 4000000 in
theorem row_FnExactSaved : Rows.FnExactSavedSaid :=
  OpenClaim.holds_of_wide 4 Tryd.f4 rfl rfl rfl rfl rfl rfl rfl ⟨rfl, rfl, rfl, rfl, rfl⟩ rfl rfl rfl rfl rfl (by as_aux_lemma => kernel_rfl) Tryd.func4 (by as_aux_lemma => kernel_rfl)
    (of_decide_eq_true (by as_aux_lemma => kernel_rfl)) (by unfold Func.isWrapper; first | (rw [if_pos (by decide +kernel)]; kernel_rfl) | (rw [if_neg (by decide +kernel)]; exact ⟨rfl, rfl⟩))
    (fun os started H enc _ => lifted_FnExactSaved os started H enc)
set_option maxHeartbeats 4000000 in
/-- THE STATEMENT -/
theorem holds_FnExactSavedCard : Rows.FnExactSavedCardSaid :=
  Claim7.holds_tied_plain_at .later [] [.data, .pinned] true (true, "b60840f14b9675725a7269d78c136b638806e2d6dbbee350c7212ba12e8adb3a") false row_FnExactSaved (fun _ h => by cases h) (by as_aux_lemma => kernel_rfl) (fun _ h => by cases h) fnExactSaved_row_tie rfl ⟨rfl, rfl⟩ (by as_aux_lemma => kernel_rfl) rfl
    (fun f fn hf hfn => by
      obtain rfl : f = 4 := Option.some.inj ((show Tryd.prog.funcNamed "loop.example/g00421/laws.FnExactSaved" = some 4 by as_aux_lemma => kernel_rfl).symm.trans hf) |>.symm
      obtain rfl : fn = Tryd.f4 := (Option.some.inj (Tryd.func4.symm.trans hfn)).symm
      exact ⟨by as_aux_lemma => kernel_rfl, fun j t ht => by
        have hm : t ∈ Tryd.f4.params.toList := by simpa using Array.mem_of_getElem? ht
        have hall : (Tryd.f4.params.toList.all fun u => !Tryd.prog.wantsStandIn u) = true := by as_aux_lemma => kernel_rfl
        exact (show Tryd.prog.wantsStandIn t = false by simpa using List.all_eq_true.1 hall t hm)⟩)
    (by as_aux_lemma => kernel_rfl)
#print axioms holds_FnExactSavedCard
end Go.Proofs.YtiemlefmhleaeaaDoor
