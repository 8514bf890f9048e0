/- Lemmas for the statement of the last text of this claim: texts joined. -/
import Derived.Test.YtppmoajoffeleaaDoorMg01
import Derived.Test.YtppmoajoffeleaaDoorMg02
import Derived.Test.YtppmoajoffeleaaDoorMg03
import Derived.Test.YtppmoajoffeleaaDoorMg04
import Derived.Test.YtppmoajoffeleaaDoorMg05
import Derived.Deep.RegionHeld3
import Derived.Deep.RegionWith
import Derived.Deep.DeepCutAuto
import Derived.Lib.Hide
import Derived.Deep.QuietTactic
import Derived.BigQuiet
import Derived.BigGuard
import Derived.OwnWalk
import Derived.WalkSpells
namespace Go.Proofs.YtppmoajoffeleaaDoor
set_option linter.unusedSimpArgs false
set_option linter.unusedVariables false
set_option maxRecDepth 100000
open Go.RowKit
theorem okT_right {t : V} (h : okT t = true) : rightB t 12 = true := by
  unfold okT at h
  rw [Bool.and_eq_true] at h
  exact h.1
def mgp (v p : V) : V := if okT v = true ∧ okT p = true then (if okT (mrg v p) = true then mrg v p else v) else v
set_option maxHeartbeats 8000000 in
theorem MergePatch_impl (w0 : World) (hE : Env w0) (v p : V) (sv sp : Value) (hvw : v.wf) (hv : RepS w0 sv v.kids) (hpw : p.wf) (hpb : RepS w0 sp p.kids) (hsz : v.sz + p.sz ≤ 1000000) (w : World) (hw : Below w0.heap.size w0 w) :
    Calls Tryd.prog 11 #[v.agg sv, p.agg sp] w (MgsRet w (mgp v p)) := by
  obtain ⟨av, cv, rfl⟩ := hv.slice
  obtain ⟨ap, cp, rfl⟩ := hpb.slice
  have BV := Lib.hid (((Box.new w v.k v.n v.e v.s (.slice av v.kids.length cv) 26).alloc (.cells #[.int .i64 p.k, .int .i64 p.n, .int .i64 p.e, .string p.s, .slice ap p.kids.length cp] 26)).alloc (.cells #[.int .i64 0, .int .i64 0, .int .i64 0, .string ⟨#[]⟩, .slice none 0 0] 26))
  have BP := Lib.hid ((Box.new (w.alloc (.cells #[.int .i64 v.k, .int .i64 v.n, .int .i64 v.e, .string v.s, .slice av v.kids.length cv] 26)) p.k p.n p.e p.s (.slice ap p.kids.length cp) 26).alloc (.cells #[.int .i64 0, .int .i64 0, .int .i64 0, .string ⟨#[]⟩, .slice none 0 0] 26))
  have BZ := Lib.hid (Box.new ((w.alloc (.cells #[.int .i64 v.k, .int .i64 v.n, .int .i64 v.e, .string v.s, .slice av v.kids.length cv] 26)).alloc (.cells #[.int .i64 p.k, .int .i64 p.n, .int .i64 p.e, .string p.s, .slice ap p.kids.length cp] 26)) 0 0 0 ⟨#[]⟩ (.slice none 0 0) 26)
  obtain ⟨W0, hW0⟩ : ∃ W0, W0 = ((w.alloc (.cells #[.int .i64 v.k, .int .i64 v.n, .int .i64 v.e, .string v.s, .slice av v.kids.length cv] 26)).alloc (.cells #[.int .i64 p.k, .int .i64 p.n, .int .i64 p.e, .string p.s, .slice ap p.kids.length cp] 26)).alloc (.cells #[.int .i64 0, .int .i64 0, .int .i64 0, .string ⟨#[]⟩, .slice none 0 0] 26) := ⟨_, rfl⟩
  have hz0 : W0.heap.size = w.heap.size + 3 := by rw [hW0]; simp
  have HB0 := Lib.hid (show Below w.heap.size w W0 from by rw [hW0]; exact (by (with_reducible (repeat' (first | exact Below.refl _ _ | refine below_alloc ?_ _ ?_ | refine Below.setCell ?_ ?_ _ | refine Below.drew ?_ | refine below_drewN ?_ _ | refine below_step ?_ (by assumption) ?_ | refine below_mark ?_ (by assumption) ?_))); all_goals (first | omega | (simp; done) | (simp; omega))))
  rw [← hW0] at BV BP BZ
  rw [show (w.alloc (.cells #[.int .i64 v.k, .int .i64 v.n, .int .i64 v.e, .string v.s, .slice av v.kids.length cv] 26)).heap.size = w.heap.size + 1 by simp] at BP
  rw [show ((w.alloc (.cells #[.int .i64 v.k, .int .i64 v.n, .int .i64 v.e, .string v.s, .slice av v.kids.length cv] 26)).alloc (.cells #[.int .i64 p.k, .int .i64 p.n, .int .i64 p.e, .string p.s, .slice ap p.kids.length cp] 26)).heap.size = w.heap.size + 2 by simp] at BZ
  have HW := Lib.hid hw
  have OK1 := Lib.hid (fun (W : World) (hW : Below w.heap.size w W) => ValueOk_impl w0 hE (v.agg (.slice av v.kids.length cv)) v ⟨_, rfl, hvw, hv⟩ (by omega) W (hw.trans (hW.mono hw.size)))
  have OK2 := Lib.hid (fun (W : World) (hW : Below w.heap.size w W) => ValueOk_impl w0 hE (p.agg (.slice ap p.kids.length cp)) p ⟨_, rfl, hpw, hpb⟩ (by omega) W (hw.trans (hW.mono hw.size)))
  have CV := Lib.hid (fun (W : World) (hW : Below w.heap.size w W) => own_any w0 (v.agg (.slice av v.kids.length cv)) v ⟨_, rfl, hvw, hv⟩ (by omega) W (hw.trans (hW.mono hw.size)))
  have MG := Lib.hid (fun (h1 : okT v = true) (h2 : okT p = true) (W : World) (hW : Below w.heap.size w W) => merged_all p.nodes p 12 (Nat.le_refl _) (okT_right h2) v _ _ (.slice av v.kids.length cv) (.slice ap p.kids.length cp) W (.inr ⟨12, okT_right h1⟩) hvw hpw (hv.keep (hw.trans (hW.mono hw.size))).toF (hpb.keep (hw.trans (hW.mono hw.size))).toF)
  have HMS := Lib.hid (fun (h1 : okT v = true) (h2 : okT p = true) => mrg_sz p.nodes p 12 (Nat.le_refl _) (okT_right h2) v (fun h8 => (right_map (okT_right h1) h8).1) (fun z hz => by
    obtain ⟨j, hj, rfl⟩ := List.getElem_of_mem hz
    exact .inr ⟨12 - 1, rightsB_at (right_kids (okT_right h1)) j hj⟩))
  have HE := Lib.hid hE
  obtain ⟨x0, x1, x2, x3, x4⟩ := BV.out.cells
  obtain ⟨y0, y1, y2, y3, y4⟩ := BP.out.cells
  clear hvw hv hpw hpb hw hE
  obtain ⟨b1, hb1⟩ : ∃ b, b = okT v := ⟨_, rfl⟩
  obtain ⟨b2, hb2⟩ : ∃ b, b = okT p := ⟨_, rfl⟩
  obtain ⟨R, hR⟩ : ∃ R, R = mgp v p := ⟨_, rfl⟩
  have HR := Lib.hid (show R = if b1 = true ∧ b2 = true then (if okT (mrg v p) = true then mrg v p else v) else v by rw [hR, hb1, hb2]; rfl)
  rw [← hb1] at OK1 MG HMS
  rw [← hb2] at OK2 MG HMS
  rw [← hR]
  clear hb1 hb2 hR
  generalize mrg v p = y at *
  unfold V.agg at OK1 OK2 CV MG ⊢
  unfold ValRet at CV
  unfold MrgRet at MG
  go_enter Tryd.func11, Tryd.ntmps11
  go_upto_region 1 with fail
  rw [← hW0]
  clear hW0
  go_wp2_with fail
  refine (OK1.out W0 HB0.out).mono ?_
  rintro e1 w1 ⟨rfl, hb1⟩
  have HB1 := Lib.hid (HB0.out.trans (hb1.mono HB0.out.size))
  have HB13 := Lib.hid (hb1.mono (Nat.le_of_eq hz0.symm))
  clear hb1 x0 x1 x2 x3 x4 y0 y1 y2 y3 y4
  obtain ⟨x0, x1, x2, x3, x4⟩ := ((show Box w1 w.heap.size v.k v.n v.e v.s (.slice av v.kids.length cv) 26 from (HB13.out.block _ (by omega)).trans BV.out)).cells
  obtain ⟨y0, y1, y2, y3, y4⟩ := ((show Box w1 (w.heap.size + 1) p.k p.n p.e p.s (.slice ap p.kids.length cp) 26 from (HB13.out.block _ (by omega)).trans BP.out)).cells
  cases b1 with
  | false =>
    have hRv := HR.out
    rw [if_neg (by simp)] at hRv
    have HRQ := Lib.hid hRv
    clear hRv HR MG HMS OK1 OK2
    go_wp2_with fail
    refine (CV.out w1 HB1.out).mono ?_
    rintro e9 w9 ⟨sl, rfl, ywf, yo, hb9⟩
    obtain ⟨ya, yc, rfl⟩ := yo.slice
    have BZ9 := Lib.hid ((show Box w1 (w.heap.size + 2) 0 0 0 ⟨#[]⟩ (.slice none 0 0) 26 from (HB13.out.block (w.heap.size + 2) (by omega)).trans BZ.out).stay hb9)
    have HF := Lib.hid (show MgsRet w R (.returned (v.agg (.slice ya v.kids.length yc))) (set5 w9 (w.heap.size + 2) (.int .i64 v.k) (.int .i64 v.n) (.int .i64 v.e) (.string v.s) (.slice ya v.kids.length yc)) from by
      rw [HRQ.out]
      have hz := HB13.out.size
      refine ⟨_, rfl, ywf, ?_, (HB1.out.trans (hb9.mono HB1.out.size)).trans ((below_set5 w9 (w.heap.size + 2) _ _ _ _ _).mono (by omega))⟩
      exact (yo.toF.keep (Nat.le_of_eq (size_set5 _ _ _ _ _ _ _).symm) (fun x hx _ => heap_set5 _ _ _ _ _ _ _ _ (by omega))).mono (fun x hx _ => by omega))
    obtain ⟨z0, z1, z2, z3, z4⟩ := BZ9.out.cells
    have zf0 := BZ9.out.free (i := 0); have zf1 := BZ9.out.free (i := 1); have zf2 := BZ9.out.free (i := 2); have zf3 := BZ9.out.free (i := 3); have zf4 := BZ9.out.free (i := 4)
    clear ywf yo hb9
    unfold V.agg at HF ⊢
    go_wp2_with fail
    exact bodyPost_ret (v := .agg #[.int .i64 v.k, .int .i64 v.n, .int .i64 v.e, .string v.s, .slice ya v.kids.length yc]) (by simp [results, Tryd.results11, go_sem, z0, z1, z2, z3, z4]) rfl HF.out
  | true =>
    go_wp2_with fail
    refine (OK2.out w1 HB1.out).mono ?_
    rintro e2 w2 ⟨rfl, hb2⟩
    have HB2 := Lib.hid (HB1.out.trans (hb2.mono HB1.out.size))
    have HB23 := Lib.hid (HB13.out.trans (hb2.mono (by have := HB13.out.size; omega)))
    clear hb2 x0 x1 x2 x3 x4 y0 y1 y2 y3 y4
    obtain ⟨x0, x1, x2, x3, x4⟩ := ((show Box w2 w.heap.size v.k v.n v.e v.s (.slice av v.kids.length cv) 26 from (HB23.out.block _ (by omega)).trans BV.out)).cells
    obtain ⟨y0, y1, y2, y3, y4⟩ := ((show Box w2 (w.heap.size + 1) p.k p.n p.e p.s (.slice ap p.kids.length cp) 26 from (HB23.out.block _ (by omega)).trans BP.out)).cells
    cases b2 with
    | false =>
      have hRv := HR.out
      rw [if_neg (by simp)] at hRv
      have HRQ := Lib.hid hRv
      clear hRv HR MG HMS OK1 OK2
      go_wp2_with fail
      refine (CV.out w2 HB2.out).mono ?_
      rintro e9 w9 ⟨sl, rfl, ywf, yo, hb9⟩
      obtain ⟨ya, yc, rfl⟩ := yo.slice
      have BZ9 := Lib.hid ((show Box w2 (w.heap.size + 2) 0 0 0 ⟨#[]⟩ (.slice none 0 0) 26 from (HB23.out.block (w.heap.size + 2) (by omega)).trans BZ.out).stay hb9)
      have HF := Lib.hid (show MgsRet w R (.returned (v.agg (.slice ya v.kids.length yc))) (set5 w9 (w.heap.size + 2) (.int .i64 v.k) (.int .i64 v.n) (.int .i64 v.e) (.string v.s) (.slice ya v.kids.length yc)) from by
        rw [HRQ.out]
        have hz := HB23.out.size
        refine ⟨_, rfl, ywf, ?_, (HB2.out.trans (hb9.mono HB2.out.size)).trans ((below_set5 w9 (w.heap.size + 2) _ _ _ _ _).mono (by omega))⟩
        exact (yo.toF.keep (Nat.le_of_eq (size_set5 _ _ _ _ _ _ _).symm) (fun x hx _ => heap_set5 _ _ _ _ _ _ _ _ (by omega))).mono (fun x hx _ => by omega))
      obtain ⟨z0, z1, z2, z3, z4⟩ := BZ9.out.cells
      have zf0 := BZ9.out.free (i := 0); have zf1 := BZ9.out.free (i := 1); have zf2 := BZ9.out.free (i := 2); have zf3 := BZ9.out.free (i := 3); have zf4 := BZ9.out.free (i := 4)
      clear ywf yo hb9
      unfold V.agg at HF ⊢
      go_wp2_with fail
      exact bodyPost_ret (v := .agg #[.int .i64 v.k, .int .i64 v.n, .int .i64 v.e, .string v.s, .slice ya v.kids.length yc]) (by simp [results, Tryd.results11, go_sem, z0, z1, z2, z3, z4]) rfl HF.out
    | true =>
      have hys := HMS.out (by first | rfl | trivial) (by first | rfl | trivial)
      have hRv := HR.out
      rw [if_pos (by first | exact ⟨rfl, rfl⟩ | exact ⟨trivial, rfl⟩ | exact ⟨trivial, trivial⟩)] at hRv
      have HRV := Lib.hid hRv
      clear hRv HR HMS OK1 OK2
      go_wp2_with fail
      refine (MG.out (by first | rfl | trivial) (by first | rfl | trivial) w2 HB2.out).mono ?_
      rintro e3 w3 ⟨ys, rfl, ywf, yrep0, hb3⟩
      have yrep := yrep0.rep
      obtain ⟨ya, yc, rfl⟩ := yrep.slice
      unfold V.agg
      have HB3 := Lib.hid (HB2.out.trans (hb3.mono HB2.out.size))
      have HB33 := Lib.hid (HB23.out.trans (hb3.mono (by have := HB23.out.size; omega)))
      have BY := Lib.hid (Box.new w3 y.k y.n y.e y.s (.slice ya y.kids.length yc) 26)
      obtain ⟨w4, hw4⟩ : ∃ w4, w4 = w3.alloc (.cells #[.int .i64 y.k, .int .i64 y.n, .int .i64 y.e, .string y.s, .slice ya y.kids.length yc] 26) := ⟨_, rfl⟩
      have hb4 : Below w3.heap.size w3 w4 := by rw [hw4]; exact (Below.refl _ _).alloc (Nat.le_refl _) _
      rw [← hw4] at BY
      have HB4 := Lib.hid (HB3.out.trans (hb4.mono HB3.out.size))
      have HB43 := Lib.hid (HB33.out.trans (hb4.mono (by have := HB33.out.size; omega)))
      have HY := Lib.hid (yrep.keep hb4)
      have HYW := Lib.hid ywf
      have HYF := Lib.hid (yrep0.stay hb4)
      have hz2 := HB23.out.size
      have hz33 := HB33.out.size
      have OK3 := Lib.hid (ValueOk_impl w4 (Env.keep HE.out (HW.out.trans (HB4.out.mono HW.out.size))) (y.agg (.slice ya y.kids.length yc)) y ⟨_, rfl, HYW.out, HY.out⟩ (by omega) w4 (Below.refl _ _))
      have COP := Lib.hid (fun (W : World) (hW : Below w4.heap.size w4 W) => own_any w4 (y.agg (.slice ya y.kids.length yc)) y ⟨_, rfl, HYW.out, HY.out⟩ (by omega) W hW)
      clear yrep0 yrep ywf hb3 hb4 MG x0 x1 x2 x3 x4 y0 y1 y2 y3 y4
      unfold V.agg at OK3 COP
      unfold ValRet at COP
      obtain ⟨b3, hb3⟩ : ∃ b, b = okT y := ⟨_, rfl⟩
      rw [← hb3] at OK3 HRV
      clear hb3
      go_upto_region 4 with fail
      rw [← hw4]
      clear hw4
      obtain ⟨u0, u1, u2, u3, u4⟩ := BY.out.cells
      go_wp2_with fail
      refine OK3.out.mono ?_
      rintro e5 w5 ⟨rfl, hb5⟩
      have HB5 := Lib.hid (HB4.out.trans (hb5.mono HB4.out.size))
      have HB53 := Lib.hid (HB43.out.trans (hb5.mono (by have := HB43.out.size; omega)))
      have BY5 := Lib.hid (BY.out.stay hb5)
      have HYF5 := Lib.hid (HYF.out.stay hb5)
      have HB45 := Lib.hid hb5
      have hz53 := HB53.out.size
      clear hb5 u0 u1 u2 u3 u4
      obtain ⟨u0, u1, u2, u3, u4⟩ := BY5.out.cells
      obtain ⟨x0, x1, x2, x3, x4⟩ := ((show Box w5 w.heap.size v.k v.n v.e v.s (.slice av v.kids.length cv) 26 from (HB53.out.block _ (by omega)).trans BV.out)).cells
      cases b3 with
      | false =>
        have hRv := HRV.out
        rw [if_neg (by simp)] at hRv
        have HRQ := Lib.hid hRv
        clear hRv HRV OK3 COP
        go_wp2_with fail
        refine (CV.out w5 HB5.out).mono ?_
        rintro e9 w9 ⟨sl, rfl, ywf, yo, hb9⟩
        obtain ⟨ya, yc, rfl⟩ := yo.slice
        have BZ9 := Lib.hid ((show Box w5 (w.heap.size + 2) 0 0 0 ⟨#[]⟩ (.slice none 0 0) 26 from (HB53.out.block (w.heap.size + 2) (by omega)).trans BZ.out).stay hb9)
        have HF := Lib.hid (show MgsRet w R (.returned (v.agg (.slice ya v.kids.length yc))) (set5 w9 (w.heap.size + 2) (.int .i64 v.k) (.int .i64 v.n) (.int .i64 v.e) (.string v.s) (.slice ya v.kids.length yc)) from by
          rw [HRQ.out]
          have hz := HB53.out.size
          refine ⟨_, rfl, ywf, ?_, (HB5.out.trans (hb9.mono HB5.out.size)).trans ((below_set5 w9 (w.heap.size + 2) _ _ _ _ _).mono (by omega))⟩
          exact (yo.toF.keep (Nat.le_of_eq (size_set5 _ _ _ _ _ _ _).symm) (fun x hx _ => heap_set5 _ _ _ _ _ _ _ _ (by omega))).mono (fun x hx _ => by omega))
        obtain ⟨z0, z1, z2, z3, z4⟩ := BZ9.out.cells
        have zf0 := BZ9.out.free (i := 0); have zf1 := BZ9.out.free (i := 1); have zf2 := BZ9.out.free (i := 2); have zf3 := BZ9.out.free (i := 3); have zf4 := BZ9.out.free (i := 4)
        clear ywf yo hb9
        unfold V.agg at HF ⊢
        go_wp2_with fail
        exact bodyPost_ret (v := .agg #[.int .i64 v.k, .int .i64 v.n, .int .i64 v.e, .string v.s, .slice ya v.kids.length yc]) (by simp [results, Tryd.results11, go_sem, z0, z1, z2, z3, z4]) rfl HF.out
      | true =>
        have hRv := HRV.out
        rw [if_pos rfl] at hRv
        have HRQ := Lib.hid hRv
        clear hRv HRV OK3
        go_wp2_with fail
        refine (COP.out w5 HB45.out).mono ?_
        rintro e9 w9 ⟨sl, rfl, ywf, yo, hb9⟩
        obtain ⟨qa, qc, rfl⟩ := yo.slice
        have BZ9 := Lib.hid ((show Box w5 (w.heap.size + 2) 0 0 0 ⟨#[]⟩ (.slice none 0 0) 26 from (HB53.out.block (w.heap.size + 2) (by omega)).trans BZ.out).stay hb9)
        have HF := Lib.hid (show MgsRet w R (.returned (y.agg (.slice qa y.kids.length qc))) (set5 w9 (w.heap.size + 2) (.int .i64 y.k) (.int .i64 y.n) (.int .i64 y.e) (.string y.s) (.slice qa y.kids.length qc)) from by
          rw [HRQ.out]
          refine ⟨_, rfl, ywf, ?_, (HB5.out.trans (hb9.mono HB5.out.size)).trans ((below_set5 w9 (w.heap.size + 2) _ _ _ _ _).mono (by omega))⟩
          exact (yo.toF.keep (Nat.le_of_eq (size_set5 _ _ _ _ _ _ _).symm) (fun x hx _ => heap_set5 _ _ _ _ _ _ _ _ (by omega))).mono (fun x hx _ => by omega))
        obtain ⟨z0, z1, z2, z3, z4⟩ := BZ9.out.cells
        have zf0 := BZ9.out.free (i := 0); have zf1 := BZ9.out.free (i := 1); have zf2 := BZ9.out.free (i := 2); have zf3 := BZ9.out.free (i := 3); have zf4 := BZ9.out.free (i := 4)
        clear ywf yo hb9
        unfold V.agg at HF ⊢
        go_wp2_with fail
        exact bodyPost_ret (v := .agg #[.int .i64 y.k, .int .i64 y.n, .int .i64 y.e, .string y.s, .slice qa y.kids.length qc]) (by simp [results, Tryd.results11, go_sem, z0, z1, z2, z3, z4]) rfl HF.out
set_option maxHeartbeats 8000000 in
theorem MergePatch_spec (w0 : World) (v p : V) (sv sp : Value) (hvw : v.wf) (hv : RepS w0 sv v.kids) (hpw : p.wf) (hpb : RepS w0 sp p.kids) (hsz : v.sz + p.sz ≤ 1000000) (w : World) (hw : Below w0.heap.size w0 w) :
    Calls Tryd.prog 13 #[v.agg sv, p.agg sp] w (MgsRet w (mgp v p)) := by
  obtain ⟨av, cv, rfl⟩ := hv.slice
  obtain ⟨ap, cp, rfl⟩ := hpb.slice
  have BV := Lib.hid (((Box.new w v.k v.n v.e v.s (.slice av v.kids.length cv) 26).alloc (.cells #[.int .i64 p.k, .int .i64 p.n, .int .i64 p.e, .string p.s, .slice ap p.kids.length cp] 26)).alloc (.cells #[.int .i64 0, .int .i64 0, .int .i64 0, .string ⟨#[]⟩, .slice none 0 0] 26))
  have BP := Lib.hid ((Box.new (w.alloc (.cells #[.int .i64 v.k, .int .i64 v.n, .int .i64 v.e, .string v.s, .slice av v.kids.length cv] 26)) p.k p.n p.e p.s (.slice ap p.kids.length cp) 26).alloc (.cells #[.int .i64 0, .int .i64 0, .int .i64 0, .string ⟨#[]⟩, .slice none 0 0] 26))
  have BZ := Lib.hid (Box.new ((w.alloc (.cells #[.int .i64 v.k, .int .i64 v.n, .int .i64 v.e, .string v.s, .slice av v.kids.length cv] 26)).alloc (.cells #[.int .i64 p.k, .int .i64 p.n, .int .i64 p.e, .string p.s, .slice ap p.kids.length cp] 26)) 0 0 0 ⟨#[]⟩ (.slice none 0 0) 26)
  obtain ⟨W0, hW0⟩ : ∃ W0, W0 = ((w.alloc (.cells #[.int .i64 v.k, .int .i64 v.n, .int .i64 v.e, .string v.s, .slice av v.kids.length cv] 26)).alloc (.cells #[.int .i64 p.k, .int .i64 p.n, .int .i64 p.e, .string p.s, .slice ap p.kids.length cp] 26)).alloc (.cells #[.int .i64 0, .int .i64 0, .int .i64 0, .string ⟨#[]⟩, .slice none 0 0] 26) := ⟨_, rfl⟩
  have hz0 : W0.heap.size = w.heap.size + 3 := by rw [hW0]; simp
  have HB0 := Lib.hid (show Below w.heap.size w W0 from by rw [hW0]; exact (by (with_reducible (repeat' (first | exact Below.refl _ _ | refine below_alloc ?_ _ ?_ | refine Below.setCell ?_ ?_ _ | refine Below.drew ?_ | refine below_drewN ?_ _ | refine below_step ?_ (by assumption) ?_ | refine below_mark ?_ (by assumption) ?_))); all_goals (first | omega | (simp; done) | (simp; omega))))
  rw [← hW0] at BV BP BZ
  rw [show (w.alloc (.cells #[.int .i64 v.k, .int .i64 v.n, .int .i64 v.e, .string v.s, .slice av v.kids.length cv] 26)).heap.size = w.heap.size + 1 by simp] at BP
  rw [show ((w.alloc (.cells #[.int .i64 v.k, .int .i64 v.n, .int .i64 v.e, .string v.s, .slice av v.kids.length cv] 26)).alloc (.cells #[.int .i64 p.k, .int .i64 p.n, .int .i64 p.e, .string p.s, .slice ap p.kids.length cp] 26)).heap.size = w.heap.size + 2 by simp] at BZ
  have HW := Lib.hid hw
  have OK1 := Lib.hid (fun (W : World) (hW : Below w.heap.size w W) => ValueOk_spec w0 (v.agg (.slice av v.kids.length cv)) v ⟨_, rfl, hvw, hv⟩ (by omega) W (hw.trans (hW.mono hw.size)))
  have OK2 := Lib.hid (fun (W : World) (hW : Below w.heap.size w W) => ValueOk_spec w0 (p.agg (.slice ap p.kids.length cp)) p ⟨_, rfl, hpw, hpb⟩ (by omega) W (hw.trans (hW.mono hw.size)))
  have CV := Lib.hid (fun (W : World) (hW : Below w.heap.size w W) => copy_any w0 (v.agg (.slice av v.kids.length cv)) v ⟨_, rfl, hvw, hv⟩ (by omega) W (hw.trans (hW.mono hw.size)))
  have MG := Lib.hid (fun (h1 : okT v = true) (h2 : okT p = true) (W : World) (hW : Below w.heap.size w W) => l09Merge_all p.nodes p 12 (Nat.le_refl _) (okT_right h2) v (.slice av v.kids.length cv) (.slice ap p.kids.length cp) W (.inr ⟨12, okT_right h1⟩) hvw hpw hsz (hv.keep (hw.trans (hW.mono hw.size))) (hpb.keep (hw.trans (hW.mono hw.size))))
  have HMS := Lib.hid (fun (h1 : okT v = true) (h2 : okT p = true) => mrg_sz p.nodes p 12 (Nat.le_refl _) (okT_right h2) v (fun h8 => (right_map (okT_right h1) h8).1) (fun z hz => by
    obtain ⟨j, hj, rfl⟩ := List.getElem_of_mem hz
    exact .inr ⟨12 - 1, rightsB_at (right_kids (okT_right h1)) j hj⟩))
  obtain ⟨x0, x1, x2, x3, x4⟩ := BV.out.cells
  obtain ⟨y0, y1, y2, y3, y4⟩ := BP.out.cells
  clear hvw hv hpw hpb hw
  obtain ⟨b1, hb1⟩ : ∃ b, b = okT v := ⟨_, rfl⟩
  obtain ⟨b2, hb2⟩ : ∃ b, b = okT p := ⟨_, rfl⟩
  obtain ⟨R, hR⟩ : ∃ R, R = mgp v p := ⟨_, rfl⟩
  have HR := Lib.hid (show R = if b1 = true ∧ b2 = true then (if okT (mrg v p) = true then mrg v p else v) else v by rw [hR, hb1, hb2]; rfl)
  rw [← hb1] at OK1 MG HMS
  rw [← hb2] at OK2 MG HMS
  rw [← hR]
  clear hb1 hb2 hR
  generalize mrg v p = y at *
  unfold V.agg at OK1 OK2 CV MG ⊢
  unfold ValRet at CV
  unfold MgsRet at MG
  go_enter Tryd.func13, Tryd.ntmps13
  go_upto_region 1 with fail
  rw [← hW0]
  clear hW0
  go_wp2_with fail
  refine (OK1.out W0 HB0.out).mono ?_
  rintro e1 w1 ⟨rfl, hb1⟩
  have HB1 := Lib.hid (HB0.out.trans (hb1.mono HB0.out.size))
  have HB13 := Lib.hid (hb1.mono (Nat.le_of_eq hz0.symm))
  clear hb1 x0 x1 x2 x3 x4 y0 y1 y2 y3 y4
  obtain ⟨x0, x1, x2, x3, x4⟩ := ((show Box w1 w.heap.size v.k v.n v.e v.s (.slice av v.kids.length cv) 26 from (HB13.out.block _ (by omega)).trans BV.out)).cells
  obtain ⟨y0, y1, y2, y3, y4⟩ := ((show Box w1 (w.heap.size + 1) p.k p.n p.e p.s (.slice ap p.kids.length cp) 26 from (HB13.out.block _ (by omega)).trans BP.out)).cells
  cases b1 with
  | false =>
    have hRv := HR.out
    rw [if_neg (by simp)] at hRv
    have HRQ := Lib.hid hRv
    clear hRv HR MG HMS OK1 OK2
    go_wp2_with fail
    refine (CV.out w1 HB1.out).mono ?_
    rintro e9 w9 ⟨sl, rfl, ywf, yo, hb9⟩
    obtain ⟨ya, yc, rfl⟩ := yo.slice
    have BZ9 := Lib.hid ((show Box w1 (w.heap.size + 2) 0 0 0 ⟨#[]⟩ (.slice none 0 0) 26 from (HB13.out.block (w.heap.size + 2) (by omega)).trans BZ.out).stay hb9)
    have HF := Lib.hid (show MgsRet w R (.returned (v.agg (.slice ya v.kids.length yc))) (set5 w9 (w.heap.size + 2) (.int .i64 v.k) (.int .i64 v.n) (.int .i64 v.e) (.string v.s) (.slice ya v.kids.length yc)) from by
      rw [HRQ.out]
      have hz := HB13.out.size
      refine ⟨_, rfl, ywf, ?_, (HB1.out.trans (hb9.mono HB1.out.size)).trans ((below_set5 w9 (w.heap.size + 2) _ _ _ _ _).mono (by omega))⟩
      exact (yo.toF.keep (Nat.le_of_eq (size_set5 _ _ _ _ _ _ _).symm) (fun x hx _ => heap_set5 _ _ _ _ _ _ _ _ (by omega))).mono (fun x hx _ => by omega))
    obtain ⟨z0, z1, z2, z3, z4⟩ := BZ9.out.cells
    have zf0 := BZ9.out.free (i := 0); have zf1 := BZ9.out.free (i := 1); have zf2 := BZ9.out.free (i := 2); have zf3 := BZ9.out.free (i := 3); have zf4 := BZ9.out.free (i := 4)
    clear ywf yo hb9
    unfold V.agg at HF ⊢
    go_wp2_with fail
    exact bodyPost_ret (v := .agg #[.int .i64 v.k, .int .i64 v.n, .int .i64 v.e, .string v.s, .slice ya v.kids.length yc]) (by simp [results, Tryd.results13, go_sem, z0, z1, z2, z3, z4]) rfl HF.out
  | true =>
    go_wp2_with fail
    refine (OK2.out w1 HB1.out).mono ?_
    rintro e2 w2 ⟨rfl, hb2⟩
    have HB2 := Lib.hid (HB1.out.trans (hb2.mono HB1.out.size))
    have HB23 := Lib.hid (HB13.out.trans (hb2.mono (by have := HB13.out.size; omega)))
    clear hb2 x0 x1 x2 x3 x4 y0 y1 y2 y3 y4
    obtain ⟨x0, x1, x2, x3, x4⟩ := ((show Box w2 w.heap.size v.k v.n v.e v.s (.slice av v.kids.length cv) 26 from (HB23.out.block _ (by omega)).trans BV.out)).cells
    obtain ⟨y0, y1, y2, y3, y4⟩ := ((show Box w2 (w.heap.size + 1) p.k p.n p.e p.s (.slice ap p.kids.length cp) 26 from (HB23.out.block _ (by omega)).trans BP.out)).cells
    cases b2 with
    | false =>
      have hRv := HR.out
      rw [if_neg (by simp)] at hRv
      have HRQ := Lib.hid hRv
      clear hRv HR MG HMS OK1 OK2
      go_wp2_with fail
      refine (CV.out w2 HB2.out).mono ?_
      rintro e9 w9 ⟨sl, rfl, ywf, yo, hb9⟩
      obtain ⟨ya, yc, rfl⟩ := yo.slice
      have BZ9 := Lib.hid ((show Box w2 (w.heap.size + 2) 0 0 0 ⟨#[]⟩ (.slice none 0 0) 26 from (HB23.out.block (w.heap.size + 2) (by omega)).trans BZ.out).stay hb9)
      have HF := Lib.hid (show MgsRet w R (.returned (v.agg (.slice ya v.kids.length yc))) (set5 w9 (w.heap.size + 2) (.int .i64 v.k) (.int .i64 v.n) (.int .i64 v.e) (.string v.s) (.slice ya v.kids.length yc)) from by
        rw [HRQ.out]
        have hz := HB23.out.size
        refine ⟨_, rfl, ywf, ?_, (HB2.out.trans (hb9.mono HB2.out.size)).trans ((below_set5 w9 (w.heap.size + 2) _ _ _ _ _).mono (by omega))⟩
        exact (yo.toF.keep (Nat.le_of_eq (size_set5 _ _ _ _ _ _ _).symm) (fun x hx _ => heap_set5 _ _ _ _ _ _ _ _ (by omega))).mono (fun x hx _ => by omega))
      obtain ⟨z0, z1, z2, z3, z4⟩ := BZ9.out.cells
      have zf0 := BZ9.out.free (i := 0); have zf1 := BZ9.out.free (i := 1); have zf2 := BZ9.out.free (i := 2); have zf3 := BZ9.out.free (i := 3); have zf4 := BZ9.out.free (i := 4)
      clear ywf yo hb9
      unfold V.agg at HF ⊢
      go_wp2_with fail
      exact bodyPost_ret (v := .agg #[.int .i64 v.k, .int .i64 v.n, .int .i64 v.e, .string v.s, .slice ya v.kids.length yc]) (by simp [results, Tryd.results13, go_sem, z0, z1, z2, z3, z4]) rfl HF.out
    | true =>
      have hys := HMS.out (by first | rfl | trivial) (by first | rfl | trivial)
      have hRv := HR.out
      rw [if_pos (by first | exact ⟨rfl, rfl⟩ | exact ⟨trivial, rfl⟩ | exact ⟨trivial, trivial⟩)] at hRv
      have HRV := Lib.hid hRv
      clear hRv HR HMS OK1 OK2
      go_wp2_with fail
      refine (MG.out (by first | rfl | trivial) (by first | rfl | trivial) w2 HB2.out).mono ?_
      rintro e3 w3 ⟨ys, rfl, ywf, yrep0, hb3⟩
      have yrep := yrep0.rep
      obtain ⟨ya, yc, rfl⟩ := yrep.slice
      unfold V.agg
      have HB3 := Lib.hid (HB2.out.trans (hb3.mono HB2.out.size))
      have HB33 := Lib.hid (HB23.out.trans (hb3.mono (by have := HB23.out.size; omega)))
      have BY := Lib.hid (Box.new w3 y.k y.n y.e y.s (.slice ya y.kids.length yc) 26)
      obtain ⟨w4, hw4⟩ : ∃ w4, w4 = w3.alloc (.cells #[.int .i64 y.k, .int .i64 y.n, .int .i64 y.e, .string y.s, .slice ya y.kids.length yc] 26) := ⟨_, rfl⟩
      have hb4 : Below w3.heap.size w3 w4 := by rw [hw4]; exact (Below.refl _ _).alloc (Nat.le_refl _) _
      rw [← hw4] at BY
      have HB4 := Lib.hid (HB3.out.trans (hb4.mono HB3.out.size))
      have HB43 := Lib.hid (HB33.out.trans (hb4.mono (by have := HB33.out.size; omega)))
      have HY := Lib.hid (yrep.keep hb4)
      have HYW := Lib.hid ywf
      have HYF := Lib.hid (yrep0.stay hb4)
      have hz2 := HB23.out.size
      have hz33 := HB33.out.size
      have OK3 := Lib.hid (ValueOk_spec w4 (y.agg (.slice ya y.kids.length yc)) y ⟨_, rfl, HYW.out, HY.out⟩ (by omega) w4 (Below.refl _ _))
      have COP := Lib.hid (fun (W : World) (hW : Below w4.heap.size w4 W) => copy_any w4 (y.agg (.slice ya y.kids.length yc)) y ⟨_, rfl, HYW.out, HY.out⟩ (by omega) W hW)
      clear yrep0 yrep ywf hb3 hb4 MG x0 x1 x2 x3 x4 y0 y1 y2 y3 y4
      unfold V.agg at OK3 COP
      unfold ValRet at COP
      obtain ⟨b3, hb3⟩ : ∃ b, b = okT y := ⟨_, rfl⟩
      rw [← hb3] at OK3 HRV
      clear hb3
      go_upto_region 4 with fail
      rw [← hw4]
      clear hw4
      obtain ⟨u0, u1, u2, u3, u4⟩ := BY.out.cells
      go_wp2_with fail
      refine OK3.out.mono ?_
      rintro e5 w5 ⟨rfl, hb5⟩
      have HB5 := Lib.hid (HB4.out.trans (hb5.mono HB4.out.size))
      have HB53 := Lib.hid (HB43.out.trans (hb5.mono (by have := HB43.out.size; omega)))
      have BY5 := Lib.hid (BY.out.stay hb5)
      have HYF5 := Lib.hid (HYF.out.stay hb5)
      have HB45 := Lib.hid hb5
      have hz53 := HB53.out.size
      clear hb5 u0 u1 u2 u3 u4
      obtain ⟨u0, u1, u2, u3, u4⟩ := BY5.out.cells
      obtain ⟨x0, x1, x2, x3, x4⟩ := ((show Box w5 w.heap.size v.k v.n v.e v.s (.slice av v.kids.length cv) 26 from (HB53.out.block _ (by omega)).trans BV.out)).cells
      cases b3 with
      | false =>
        have hRv := HRV.out
        rw [if_neg (by simp)] at hRv
        have HRQ := Lib.hid hRv
        clear hRv HRV OK3 COP
        go_wp2_with fail
        refine (CV.out w5 HB5.out).mono ?_
        rintro e9 w9 ⟨sl, rfl, ywf, yo, hb9⟩
        obtain ⟨ya, yc, rfl⟩ := yo.slice
        have BZ9 := Lib.hid ((show Box w5 (w.heap.size + 2) 0 0 0 ⟨#[]⟩ (.slice none 0 0) 26 from (HB53.out.block (w.heap.size + 2) (by omega)).trans BZ.out).stay hb9)
        have HF := Lib.hid (show MgsRet w R (.returned (v.agg (.slice ya v.kids.length yc))) (set5 w9 (w.heap.size + 2) (.int .i64 v.k) (.int .i64 v.n) (.int .i64 v.e) (.string v.s) (.slice ya v.kids.length yc)) from by
          rw [HRQ.out]
          have hz := HB53.out.size
          refine ⟨_, rfl, ywf, ?_, (HB5.out.trans (hb9.mono HB5.out.size)).trans ((below_set5 w9 (w.heap.size + 2) _ _ _ _ _).mono (by omega))⟩
          exact (yo.toF.keep (Nat.le_of_eq (size_set5 _ _ _ _ _ _ _).symm) (fun x hx _ => heap_set5 _ _ _ _ _ _ _ _ (by omega))).mono (fun x hx _ => by omega))
        obtain ⟨z0, z1, z2, z3, z4⟩ := BZ9.out.cells
        have zf0 := BZ9.out.free (i := 0); have zf1 := BZ9.out.free (i := 1); have zf2 := BZ9.out.free (i := 2); have zf3 := BZ9.out.free (i := 3); have zf4 := BZ9.out.free (i := 4)
        clear ywf yo hb9
        unfold V.agg at HF ⊢
        go_wp2_with fail
        exact bodyPost_ret (v := .agg #[.int .i64 v.k, .int .i64 v.n, .int .i64 v.e, .string v.s, .slice ya v.kids.length yc]) (by simp [results, Tryd.results13, go_sem, z0, z1, z2, z3, z4]) rfl HF.out
      | true =>
        have hRv := HRV.out
        rw [if_pos rfl] at hRv
        have HRQ := Lib.hid hRv
        clear hRv HRV OK3
        have BZ9 := Lib.hid (show Box w5 (w.heap.size + 2) 0 0 0 ⟨#[]⟩ (.slice none 0 0) 26 from (HB53.out.block (w.heap.size + 2) (by omega)).trans BZ.out)
        have HF := Lib.hid (show MgsRet w R (.returned (y.agg (.slice ya y.kids.length yc))) (set5 w5 (w.heap.size + 2) (.int .i64 y.k) (.int .i64 y.n) (.int .i64 y.e) (.string y.s) (.slice ya y.kids.length yc)) from by
          rw [HRQ.out]
          refine ⟨_, rfl, HYW.out, ?_, HB5.out.trans ((below_set5 w5 (w.heap.size + 2) _ _ _ _ _).mono (by omega))⟩
          exact (HYF5.out.keep (Nat.le_of_eq (size_set5 _ _ _ _ _ _ _).symm) (fun x hx _ => heap_set5 _ _ _ _ _ _ _ _ (by omega))).mono (fun x hx _ => by omega))
        obtain ⟨z0, z1, z2, z3, z4⟩ := BZ9.out.cells
        have zf0 := BZ9.out.free (i := 0); have zf1 := BZ9.out.free (i := 1); have zf2 := BZ9.out.free (i := 2); have zf3 := BZ9.out.free (i := 3); have zf4 := BZ9.out.free (i := 4)
        unfold V.agg at HF
        go_wp2_with fail
        exact bodyPost_ret (v := .agg #[.int .i64 y.k, .int .i64 y.n, .int .i64 y.e, .string y.s, .slice ya y.kids.length yc]) (by simp [results, Tryd.results13, go_sem, z0, z1, z2, z3, z4]) rfl HF.out
end Go.Proofs.YtppmoajoffeleaaDoor
namespace Go.Proofs.YtppmoajoffeleaaDoor
set_option linter.unusedSimpArgs false
set_option linter.unusedVariables false
set_option maxRecDepth 100000
open Go.RowKit
def lcI : Nat → Int → Int
  | 0, h => h
  | n + 1, h => lcI n (h * 6364136223846793005 + 1442695040888963407)
theorem lcI_add : ∀ (n m : Nat) (h : Int), lcI (n + m) h = lcI m (lcI n h)
  | 0, m, h => by rw [Nat.zero_add]; rfl
  | n + 1, m, h => by rw [show n + 1 + m = (n + m) + 1 by omega, lcI, lcI, lcI_add n m]
theorem lcI_jump : ∀ k : Nat, ∃ b s q r : Int, (∀ h, lcI (2 ^ k) h = b * h + s * 1442695040888963407) ∧ b = 1 + 6364136223846793004 * s ∧ s = 2 ^ k * (2 * q + 1) ∧ b = 4 * r + 1
  | 0 => ⟨6364136223846793005, 1, 0, 1591034055961698251, fun h => by simp [lcI]; omega, by omega, by simp, by omega⟩
  | k + 1 => by
    obtain ⟨b, s, q, r, h1, h2, h3, h4⟩ := lcI_jump k
    refine ⟨b * b, s * (b + 1), 2 * q * r + q + r, 4 * r * r + 2 * r, fun h => ?_, ?_, ?_, ?_⟩
    · rw [show 2 ^ (k + 1) = 2 ^ k + 2 ^ k by rw [Nat.pow_succ]; omega, lcI_add, h1, h1, Int.mul_add, Int.mul_add, Int.mul_one, Int.add_mul, ← Int.mul_assoc, ← Int.mul_assoc, Int.mul_comm s b, Int.add_assoc]
    · have e : b * b = 1 + (b - 1) * (b + 1) := by rw [Int.sub_mul, Int.mul_add, Int.one_mul, Int.mul_one]; omega
      rw [e, show b - 1 = 6364136223846793004 * s by omega, Int.mul_assoc]
    · rw [h3, h4, Int.pow_succ, show 4 * r + 1 + 1 = 2 * (2 * r + 1) by omega, Int.mul_assoc, Int.mul_assoc, ← Int.mul_assoc (2 * q + 1) 2, Int.mul_comm (2 * q + 1) 2, Int.mul_assoc 2]
      congr 2
      rw [Int.mul_add, Int.add_mul, Int.mul_one, Int.one_mul]
      rw [show 2 * q * (2 * r) = 2 * (2 * q * r) by rw [Int.mul_assoc, Int.mul_assoc, Int.mul_left_comm q 2 r]]
      omega
    · rw [h4, Int.mul_add, Int.add_mul, Int.mul_one, Int.one_mul]
      rw [show 4 * r * (4 * r) = 4 * (4 * r * r) by rw [Int.mul_assoc, Int.mul_assoc, Int.mul_left_comm r 4 r]]
      omega
theorem lcI_reach (h t : Int) : ∀ k : Nat, ∃ (n : Nat) (m : Int), n < 2 ^ k ∧ lcI n h - t = 2 ^ k * m
  | 0 => ⟨0, h - t, by simp, by simp [lcI]⟩
  | k + 1 => by
    obtain ⟨n, m, hn, e⟩ := lcI_reach h t k
    have hp : 2 ^ (k + 1) = 2 ^ k + 2 ^ k := by rw [Nat.pow_succ]; omega
    rcases Int.emod_two_eq m with h2 | h2
    · refine ⟨n, m / 2, by omega, ?_⟩
      rw [e, Int.pow_succ, Int.mul_assoc]
      congr 1; omega
    · obtain ⟨b, s, q, r, h1, h2', h3, h4⟩ := lcI_jump k
      refine ⟨n + 2 ^ k, (m + (2 * q + 1) * (6364136223846793004 * lcI n h + 1442695040888963407)) / 2, by omega, ?_⟩
      rw [lcI_add, h1, h2', Int.add_mul, Int.one_mul]
      have e1 : lcI n h + 6364136223846793004 * s * lcI n h + s * 1442695040888963407 - t = 2 ^ k * (m + (2 * q + 1) * (6364136223846793004 * lcI n h + 1442695040888963407)) := by
        have e2 : 6364136223846793004 * s * lcI n h + s * 1442695040888963407 = 2 ^ k * ((2 * q + 1) * (6364136223846793004 * lcI n h + 1442695040888963407)) := by
          rw [← Int.mul_assoc, ← h3, Int.mul_add, Int.mul_comm 6364136223846793004 s, Int.mul_assoc]
        rw [Int.mul_add, ← e2, ← e]; omega
      rw [e1, Int.pow_succ, Int.mul_assoc]
      congr 1
      have e3 : (2 * q + 1) * (6364136223846793004 * lcI n h + 1442695040888963407) = 2 * (q * (6364136223846793004 * lcI n h + 1442695040888963407) + 3182068111923396502 * lcI n h + 721347520444481703) + 1 := by
        rw [Int.add_mul, Int.one_mul, Int.mul_assoc]; omega
      rw [e3]; omega
def lcT (h : Int) : Int := wrap64 (wrap64 (h * 6364136223846793005) + 1442695040888963407)
def lcN : Nat → Int → Int
  | 0, h => h
  | n + 1, h => lcN n (lcT h)
theorem lcT_in (h : Int) : In64 (lcT h) := by unfold lcT wrap64 In64; omega
theorem lcN_add : ∀ (n m : Nat) (h : Int), lcN (n + m) h = lcN m (lcN n h)
  | 0, m, h => by rw [Nat.zero_add]; rfl
  | n + 1, m, h => by rw [show n + 1 + m = (n + m) + 1 by omega, lcN, lcN, lcN_add n m]
theorem lcN_succ (n : Nat) (h : Int) : lcN (n + 1) h = lcT (lcN n h) := by rw [lcN_add n 1]; rfl
theorem lcN_mod : ∀ (n : Nat) (h h' : Int), (∃ m, h - h' = 18446744073709551616 * m) → ∃ m, lcN n h - lcI n h' = 18446744073709551616 * m
  | 0, h, h', e => e
  | n + 1, h, h', ⟨m, e⟩ => by
    rw [lcN, lcI]
    refine lcN_mod n _ _ ⟨?_, ?_⟩
    · exact m * 6364136223846793005 + ((lcT h - (h * 6364136223846793005 + 1442695040888963407)) / 18446744073709551616)
    · have e1 : h * 6364136223846793005 = h' * 6364136223846793005 + 18446744073709551616 * (m * 6364136223846793005) := by
        rw [show h = h' + 18446744073709551616 * m by omega, Int.add_mul, Int.mul_assoc]
      unfold lcT wrap64
      omega
theorem lcN_in {n : Nat} {h : Int} (hh : In64 h) : In64 (lcN n h) := by
  cases n with
  | zero => exact hh
  | succ n => rw [lcN_succ]; exact lcT_in _
theorem lc_reach {h t : Int} (ht : In64 t) (hh : In64 h) : ∃ n, n < 18446744073709551616 ∧ lcN n h = t := by
  obtain ⟨n, m, hn, e⟩ := lcI_reach h t 64
  obtain ⟨m2, e2⟩ := lcN_mod n h h ⟨0, by omega⟩
  have h3 := lcN_in (n := n) hh
  refine ⟨n, hn, ?_⟩
  have e3 : (2 : Int) ^ 64 = 18446744073709551616 := by decide
  rw [e3] at e
  unfold In64 at *
  omega
end Go.Proofs.YtppmoajoffeleaaDoor
namespace Go.Proofs.YtppmoajoffeleaaDoor
set_option linter.unusedSimpArgs false
set_option linter.unusedVariables false
set_option maxRecDepth 100000
open Go.RowKit
def headL (major n : Nat) : List UInt8 :=
  if n < 24 then [UInt8.ofNat (32 * major + n)]
  else if n < 256 then UInt8.ofNat (32 * major + 24) :: big 1 n
  else if n < 65536 then UInt8.ofNat (32 * major + 25) :: big 2 n
  else if n < 4294967296 then UInt8.ofNat (32 * major + 26) :: big 4 n
  else UInt8.ofNat (32 * major + 27) :: big 8 n
end Go.Proofs.YtppmoajoffeleaaDoor
namespace Go.Proofs.YtppmoajoffeleaaDoor
set_option linter.unusedSimpArgs false
set_option linter.unusedVariables false
set_option maxRecDepth 100000
open Go.RowKit
def BRead (w : World) (v : Value) (L : List Int) : Prop := ∃ (a : Option Addr) (b off cap : Nat), v = .slice a L.length cap ∧ (L ≠ [] → a = some ⟨b, off, none⟩ ∧ b < w.heap.size) ∧ L.length ≤ cap ∧ cap ≤ 9223372036854775807 ∧
  (∀ i (h : i < L.length), w.cell? ⟨b, off + i, none⟩ = some (.int .u8 L[i])) ∧ ∀ n ∈ L, 0 ≤ n ∧ n ≤ 255
def CB (w : World) (c : Nat) (v : Value) (i : Nat) (h : Int) : Prop := w.heap[c]? = some (.cells #[v, .int .i64 (i : Int), .int .i64 h] 73 (0, 0))
theorem CB.stay {w w' : World} {c : Nat} {v : Value} {i : Nat} {h : Int} (hc : CB w c v i h) (hb : Below w.heap.size w w') : CB w' c v i h := (hb.block c (lt_of_heap hc)).trans hc
theorem CB.cells {w : World} {c : Nat} {v : Value} {i : Nat} {h : Int} (hc : CB w c v i h) : w.cell? ⟨c, 0, none⟩ = some v ∧ w.cell? ⟨c, 1, none⟩ = some (.int .i64 (i : Int)) ∧ w.cell? ⟨c, 2, none⟩ = some (.int .i64 h) ∧ w.frozen? ⟨c, 1, none⟩ = false ∧ w.frozen? ⟨c, 2, none⟩ = false :=
  ⟨by rw [cell_of_row _ _ _ _ _ (0, 0) hc]; rfl, by rw [cell_of_row _ _ _ _ _ (0, 0) hc]; rfl, by rw [cell_of_row _ _ _ _ _ (0, 0) hc]; rfl, frozen_of_row w c 1 _ _ hc, frozen_of_row w c 2 _ _ hc⟩
theorem CB.setI {w : World} {c : Nat} {v : Value} {i : Nat} {h : Int} (hc : CB w c v i h) (i' : Nat) (x : Int) (hx : x = (i' : Int)) : CB (w.setCell ⟨c, 1, none⟩ (.int .i64 x)) c v i' h := by
  subst hx; unfold CB at *; rw [heap_setCell_same w c 1 _ _ _ hc]; rfl
theorem CB.setH {w : World} {c : Nat} {v : Value} {i : Nat} {h : Int} (hc : CB w c v i h) (h' : Int) : CB (w.setCell ⟨c, 2, none⟩ (.int .i64 h')) c v i h' := by
  unfold CB at *; rw [heap_setCell_same w c 2 _ _ _ hc]; rfl
theorem Touch.cellC {c i : Nat} {w W : World} (h : Touch (fun x => x = c) (fun x => x = c) w W) (v : Value) : Touch (fun x => x = c) (fun x => x = c) w (W.setCell ⟨c, i, none⟩ v) :=
  ⟨h.os, h.tape, h.output, by simpa using h.size, fun x hx hn => (heap_setCell_other _ _ _ _ hn).trans (h.block x hx hn), h.new⟩
theorem touch_drewN2 {d : Nat} {w W : World} (n : Nat) (h : Touch (fun x => x = d) (fun x => x = d) w W) : Touch (fun x => x = d) (fun x => x = d) w (W.drewN n) := h.trans (Touch.of_below (below_drewN (Below.refl _ _) n))
def lcX (h : Int) : Int := bits BinOp.and IntKind.i64 (bits BinOp.xor IntKind.i64 (h / 8589934592) (h / 35184372088832)) 255
theorem bits255 (n : Int) : bits BinOp.and IntKind.i64 n 255 = n % 256 := by
  have key : (((BitVec.ofInt 64 n &&& BitVec.ofInt 64 ((255 : Nat) : Int)).toNat : Nat) : Int) = n % 256 := by
    rw [BitVec.toNat_and, BitVec.ofInt_natCast, BitVec.toNat_ofNat, BitVec.toNat_ofInt, show (255 : Nat) % 2 ^ 64 = 2 ^ 8 - 1 by decide, Nat.and_two_pow_sub_one_eq_mod]
    omega
  show IntKind.i64.wrap (((BitVec.ofInt 64 n &&& BitVec.ofInt 64 ((255 : Nat) : Int)).toNat : Nat) : Int) = _
  rw [key]
  simp only [IntKind.wrap, IntKind.signed, IntKind.bits]
  simp
  omega
theorem bits255_le (n : Int) : 0 ≤ bits BinOp.and IntKind.i64 n 255 ∧ bits BinOp.and IntKind.i64 n 255 ≤ 255 := by rw [bits255]; omega
def adv (n m : Nat) (st : Nat × Int) : Nat × Int := (min n (st.1 + m), lcN m st.2)
theorem adv_adv (n m k : Nat) (st : Nat × Int) : adv n k (adv n m st) = adv n (m + k) st := by
  unfold adv
  rw [lcN_add]
  simp only [Prod.mk.injEq, and_true]
  omega
structure Cu (w0 : World) (c : Nat) (v : Value) (n : Nat) (st : Nat × Int) (w : World) : Prop where
  cb : CB w c v st.1 st.2
  le : st.1 ≤ n
  h64 : In64 st.2
  below : Below w0.heap.size w0 w
  hc : w0.heap.size ≤ c
theorem Cu.stay {w0 w w' : World} {c n : Nat} {v : Value} {st : Nat × Int} (h : Cu w0 c v n st w) (hb : Below w.heap.size w w') : Cu w0 c v n st w' := ⟨h.cb.stay hb, h.le, h.h64, h.below.trans (hb.mono h.below.size), h.hc⟩
set_option maxHeartbeats 2000000 in
theorem l01Byte_any (w0 : World) (c : Nat) (v : Value) (L : List Int) (hL : BRead w0 v L) (hn : L.length ≤ 1048576) (st : Nat × Int) (w : World) (h : Cu w0 c v L.length st w) :
    Calls Tryd.prog 116 #[.pointer (some ⟨c, 0, none⟩)] w fun e w' => ∃ x : Int, e = .returned (.int .i64 x) ∧ 0 ≤ x ∧ x ≤ 255 ∧ (L.length ≤ st.1 → x = lcX (lcT st.2)) ∧ Cu w0 c v L.length (adv L.length 1 st) w' ∧ Touch (fun x => x = c) (fun x => x = c) w w' := by
  obtain ⟨i, hh⟩ := st
  obtain ⟨a, b, off, cap, rfl, h1, h2, h3, h4, h5⟩ := hL
  have HU := Lib.hid h
  have hcw := lt_of_heap h.cb
  have hc0 := h.hc
  have hle : i ≤ L.length := h.le
  obtain ⟨u0, u1, u2, f1, f2⟩ := h.cb.cells
  simp only at u1 u2
  have HT := Lib.hid (Touch.refl (fun x => x = c) w)
  have HX := Lib.hid (bits255_le)
  clear h
  by_cases hi : i < L.length
  · obtain ⟨rfl, hb⟩ := h1 (by intro e; rw [e] at hi; simp at hi)
    have hci : w0.cell? ⟨b, off + i, none⟩ = some (.int .u8 L[i]) := h4 i hi
    have hcell : w.cell? ⟨b, off + i, none⟩ = some (.int .u8 L[i]) := by rw [HU.out.below.cell hb]; exact hci
    have hrng := h5 L[i] (List.getElem_mem hi)
    have hb1 : b ≠ c := by omega
    have hb2 : c ≠ b := by omega
    clear h4 h5 hci
    generalize L[i] = y at *
    have HC := Lib.hid (show ∀ W, CB W c (.slice (some ⟨b, off, none⟩) L.length cap) (i + 1) (lcT hh) → Below w0.heap.size w0 W → Cu w0 c (.slice (some ⟨b, off, none⟩) L.length cap) L.length (adv L.length 1 (i, hh)) W from fun W h1 h2 => by
      have e : adv L.length 1 (i, hh) = (i + 1, lcT hh) := by unfold adv lcN lcN; simp only [Prod.mk.injEq, and_true]; omega
      rw [e]; exact ⟨h1, by simp only; omega, lcT_in _, h2, hc0⟩)
    have HB := Lib.hid (fun (W : World) (hT : Touch (fun x => x = c) (fun x => x = c) w W) => HU.out.below.trans (hT.below (fun x hx => by omega) HU.out.below.size))
    have HCB := Lib.hid (show CB w c (.slice (some ⟨b, off, none⟩) L.length cap) i hh from HU.out.cb)
    have hcap : 0 ≤ L.length := by omega
    generalize hn2 : L.length = n at *
    go_enter Tryd.func116, Tryd.ntmps116
    go_wp2_with fail
    go_quiet (fail)
    go_wp2_with fail
    go_quiet (fail)
    go_wp2_with fail
    go_quiet (fail)
    go_wp2_with fail
    go_ret
    refine ⟨_, rfl, (HX.out _).1, (HX.out _).2, fun hc => by omega, ?_, ?_⟩
    · exact HC.out _ ((CB.stay (CB.setH HCB.out _) (by repeat' (first | exact Below.refl _ _ | refine below_drewN ?_ _))).setI (i + 1) _ (by omega)) (HB.out _ ((touch_drewN2 _ (HT.out.cellC _)).cellC _))
    · exact ((touch_drewN2 _ (HT.out.cellC _)).cellC _)
  · obtain rfl : i = L.length := by omega
    have HC := Lib.hid (show ∀ W, CB W c (.slice a L.length cap) L.length (lcT hh) → Below w0.heap.size w0 W → Cu w0 c (.slice a L.length cap) L.length (adv L.length 1 (L.length, hh)) W from fun W h1 h2 => by
      have e : adv L.length 1 (L.length, hh) = (L.length, lcT hh) := by unfold adv lcN lcN; simp only [Prod.mk.injEq, and_true]; omega
      rw [e]; exact ⟨h1, by simp only; omega, lcT_in _, h2, hc0⟩)
    have HB := Lib.hid (fun (W : World) (hT : Touch (fun x => x = c) (fun x => x = c) w W) => HU.out.below.trans (hT.below (fun x hx => by omega) HU.out.below.size))
    have HCB := Lib.hid (show CB w c (.slice a L.length cap) L.length hh from HU.out.cb)
    clear h1 h4 h5
    generalize L.length = n at *
    go_enter Tryd.func116, Tryd.ntmps116
    go_wp2_with fail
    go_quiet (fail)
    go_wp2_with fail
    go_quiet (fail)
    go_wp2_with fail
    go_ret
    refine ⟨_, rfl, (HX.out _).1, (HX.out _).2, fun _ => rfl, ?_, ?_⟩
    · exact HC.out _ (CB.stay (CB.setH HCB.out _) (by repeat' (first | exact Below.refl _ _ | refine below_drewN ?_ _))) (HB.out _ (touch_drewN2 _ (touch_drewN2 _ (HT.out.cellC _))))
    · exact (touch_drewN2 _ (touch_drewN2 _ (HT.out.cellC _)))
set_option maxHeartbeats 2000000 in
theorem l01Below_any (w0 : World) (c : Nat) (v : Value) (L : List Int) (hL : BRead w0 v L) (hn : L.length ≤ 1048576) (n : Int) (hn64 : In64 n) (st : Nat × Int) (w : World) (h : Cu w0 c v L.length st w) :
    Calls Tryd.prog 90 #[.pointer (some ⟨c, 0, none⟩), .int .i64 n] w fun e w' => ∃ (x : Int) (m : Nat), e = .returned (.int .i64 x) ∧ 0 ≤ x ∧ (x < n ∨ x = 0) ∧ m ≤ 4 ∧ (1 ≤ n → 1 ≤ m) ∧ (1 ≤ n → n ≤ 256 → m = 1 ∧ (L.length ≤ st.1 → x = lcX (lcT st.2) % n)) ∧ Cu w0 c v L.length (adv L.length m st) w' ∧ Touch (fun x => x = c) (fun x => x = c) w w' := by
  have BY := Lib.hid (fun st W h => l01Byte_any w0 c v L hL hn st W h)
  have HU := Lib.hid h
  obtain ⟨n0, n1⟩ := hn64
  clear h hL
  by_cases h0 : n ≤ 0
  · have t0 : decide (n ≤ 0) = true := decide_eq_true h0
    go_enter Tryd.func90, Tryd.ntmps90
    go_wp2_with fail
    go_ret
    exact ⟨0, 0, rfl, by omega, .inr rfl, by omega, fun _ => by omega, fun _ => by omega, by
      have e : adv L.length 0 st = st := by unfold adv lcN; have := HU.out.le; rw [Nat.add_zero, Nat.min_eq_right this]
      rw [e]; exact HU.out, Touch.refl _ _⟩
  have t0 : decide (n ≤ 0) = false := decide_eq_false h0
  by_cases h1 : n ≤ 256
  · have t1 : decide (n ≤ 256) = true := decide_eq_true h1
    go_enter Tryd.func90, Tryd.ntmps90
    go_wp2_with fail
    refine (BY.out st w HU.out).mono ?_
    rintro e1 w1 ⟨x, rfl, hx0, hx1, hx2, hcu, ht⟩
    have HX2 := Lib.hid hx2; have HCU := Lib.hid hcu; have HT := Lib.hid ht
    have hm0 : 0 ≤ x % n := Int.emod_nonneg _ (by omega)
    have hm1 : x % n < n := Int.emod_lt_of_pos _ (by omega)
    have hne : n ≠ 0 := by omega
    clear hx2 hcu ht
    go_wp2_with fail
    go_ret
    exact ⟨_, 1, rfl, hm0, .inl hm1, by omega, fun _ => by omega, fun _ _ => ⟨rfl, fun hc => by rw [HX2.out hc]⟩, HCU.out, HT.out⟩
  · have t1 : decide (n ≤ 256) = false := decide_eq_false h1
    go_enter Tryd.func90, Tryd.ntmps90
    go_wp2_with fail
    refine (BY.out st w HU.out).mono ?_
    rintro e1 w1 ⟨x, rfl, hx0, hx1, hx2, hcu1, ht1⟩
    clear hx2
    have HCU1 := Lib.hid hcu1; have HT1 := Lib.hid ht1
    clear hcu1 ht1
    go_wp2_with fail
    refine (BY.out _ w1 HCU1.out).mono ?_
    rintro e2 w2 ⟨y, rfl, hy0, hy1, hx2, hcu1, ht1⟩
    clear hx2
    have HCU2 := Lib.hid hcu1; have HT2 := Lib.hid (HT1.out.trans ht1)
    clear hcu1 ht1
    go_wp2_with fail
    refine (BY.out _ w2 HCU2.out).mono ?_
    rintro e3 w3 ⟨z, rfl, hz0, hz1, hx2, hcu1, ht1⟩
    clear hx2
    have HCU3 := Lib.hid hcu1; have HT3 := Lib.hid (HT2.out.trans ht1)
    clear hcu1 ht1
    go_wp2_with fail
    refine (BY.out _ w3 HCU3.out).mono ?_
    rintro e4 w4 ⟨q, rfl, hq0, hq1, hx2, hcu1, ht1⟩
    clear hx2
    have HCU4 := Lib.hid hcu1; have HT4 := Lib.hid (HT3.out.trans ht1)
    clear hcu1 ht1
    have hm0 : 0 ≤ (x * 16777216 + y * 65536 + z * 256 + q) % n := Int.emod_nonneg _ (by omega)
    have hm1 : (x * 16777216 + y * 65536 + z * 256 + q) % n < n := Int.emod_lt_of_pos _ (by omega)
    have hne : n ≠ 0 := by omega
    go_wp2_with fail
    go_ret
    exact ⟨_, 4, rfl, hm0, .inl hm1, by omega, fun _ => by omega, fun _ _ => by omega, by
      have e := HCU4.out
      rw [adv_adv, adv_adv, adv_adv] at e
      exact e, HT4.out⟩
set_option maxHeartbeats 2000000 in
theorem l01Once_any (w0 : World) (c : Nat) (v : Value) (L : List Int) (hL : BRead w0 v L) (hn : L.length ≤ 1048576) (n : Int) (hn64 : In64 n) (st : Nat × Int) (w : World) (h : Cu w0 c v L.length st w) :
    Calls Tryd.prog 62 #[.pointer (some ⟨c, 0, none⟩), .int .i64 n] w fun e w' => ∃ (b : Bool) (m : Nat), e = .returned (.bool b) ∧ m ≤ 4 ∧ Cu w0 c v L.length (adv L.length m st) w' ∧ Touch (fun x => x = c) (fun x => x = c) w w' := by
  have BL := Lib.hid (l01Below_any w0 c v L hL hn n hn64 st w h)
  clear h hL
  go_enter Tryd.func62, Tryd.ntmps62
  go_wp2_with fail
  refine BL.out.mono ?_
  rintro e1 w1 ⟨x, m, rfl, hx0, hx1, hm, -, -, hcu, ht⟩
  have HCU := Lib.hid hcu; have HT := Lib.hid ht
  clear hcu ht
  go_wp2_with fail
  go_ret
  exact ⟨_, m, rfl, hm, HCU.out, HT.out⟩
set_option maxHeartbeats 2000000 in
theorem l01PickInt_any (w0 : World) (c : Nat) (v : Value) (L : List Int) (hL : BRead w0 v L) (hn : L.length ≤ 1048576) (b off k cap : Nat) (hk : 1 ≤ k ∧ k ≤ 1000) (st : Nat × Int) (w : World) (h : Cu w0 c v L.length st w) (hb : b < w.heap.size) (hbc : b ≠ c)
    (hz : ∀ j, j < k → ∃ z, w.cell? ⟨b, off + j, none⟩ = some (.int .i64 z) ∧ In64 z) :
    Calls Tryd.prog 91 #[.pointer (some ⟨c, 0, none⟩), .slice (some ⟨b, off, none⟩) k cap] w fun e w' => ∃ (z : Int) (m : Nat), e = .returned (.int .i64 z) ∧ In64 z ∧ m ≤ 4 ∧ Cu w0 c v L.length (adv L.length m st) w' ∧ Touch (fun x => x = c) (fun x => x = c) w w' := by
  have BL := Lib.hid (l01Below_any w0 c v L hL hn k (by unfold In64; omega) st w h)
  have HZ := Lib.hid hz
  clear h hL hz
  go_enter Tryd.func91, Tryd.ntmps91
  go_wp2_with fail
  refine BL.out.mono ?_
  rintro e1 w1 ⟨x, m, rfl, hx0, hx1, hm, -, -, hcu, ht⟩
  obtain ⟨xn, rfl⟩ : ∃ xn : Nat, x = (xn : Int) := ⟨x.toNat, by omega⟩
  have hxk : xn < k := by omega
  obtain ⟨z, hc, hz64⟩ := HZ.out xn hxk
  have hc1 : w1.cell? ⟨b, off + xn, none⟩ = some (.int .i64 z) := by
    rw [World.cell?_of_block (w := w) (w' := w1) (ht.block b hb hbc)]; exact hc
  have HCU := Lib.hid hcu; have HT := Lib.hid ht; have HZ64 := Lib.hid hz64
  clear hcu ht hz64 hc
  go_wp2_with fail
  go_ret
  exact ⟨_, m, rfl, HZ64.out, hm, HCU.out, HT.out⟩
set_option maxHeartbeats 2000000 in
theorem l01Pick_any (w0 : World) (c : Nat) (v : Value) (L : List Int) (hL : BRead w0 v L) (hn : L.length ≤ 1048576) (b off k cap B : Nat) (hk : 1 ≤ k ∧ k ≤ 1000) (st : Nat × Int) (w : World) (h : Cu w0 c v L.length st w) (hb : b < w.heap.size) (hbc : b ≠ c)
    (hz : ∀ j, j < k → ∃ z : ByteArray, w.cell? ⟨b, off + j, none⟩ = some (.string z) ∧ z.size ≤ B) :
    Calls Tryd.prog 118 #[.pointer (some ⟨c, 0, none⟩), .slice (some ⟨b, off, none⟩) k cap] w fun e w' => ∃ (z : ByteArray) (m : Nat), e = .returned (.string z) ∧ z.size ≤ B ∧ m ≤ 4 ∧ Cu w0 c v L.length (adv L.length m st) w' ∧ Touch (fun x => x = c) (fun x => x = c) w w' := by
  have BL := Lib.hid (l01Below_any w0 c v L hL hn k (by unfold In64; omega) st w h)
  have HZ := Lib.hid hz
  clear h hL hz
  go_enter Tryd.func118, Tryd.ntmps118
  go_wp2_with fail
  refine BL.out.mono ?_
  rintro e1 w1 ⟨x, m, rfl, hx0, hx1, hm, -, -, hcu, ht⟩
  obtain ⟨xn, rfl⟩ : ∃ xn : Nat, x = (xn : Int) := ⟨x.toNat, by omega⟩
  have hxk : xn < k := by omega
  obtain ⟨z, hc, hz64⟩ := HZ.out xn hxk
  have hc1 : w1.cell? ⟨b, off + xn, none⟩ = some (.string z) := by
    rw [World.cell?_of_block (w := w) (w' := w1) (ht.block b hb hbc)]; exact hc
  have HCU := Lib.hid hcu; have HT := Lib.hid ht; have HZ64 := Lib.hid hz64
  clear hcu ht hz64 hc
  go_wp2_with fail
  go_ret
  exact ⟨_, m, rfl, HZ64.out, hm, HCU.out, HT.out⟩
theorem bits30 (n : Int) : bits BinOp.and IntKind.i64 n 1073741823 = n % 1073741824 := by
  have key : (((BitVec.ofInt 64 n &&& BitVec.ofInt 64 ((1073741823 : Nat) : Int)).toNat : Nat) : Int) = n % 1073741824 := by
    rw [BitVec.toNat_and, BitVec.ofInt_natCast, BitVec.toNat_ofNat, BitVec.toNat_ofInt, show (1073741823 : Nat) % 2 ^ 64 = 2 ^ 30 - 1 by decide, Nat.and_two_pow_sub_one_eq_mod]
    omega
  show IntKind.i64.wrap (((BitVec.ofInt 64 n &&& BitVec.ofInt 64 ((1073741823 : Nat) : Int)).toNat : Nat) : Int) = _
  rw [key]
  simp only [IntKind.wrap, IntKind.signed, IntKind.bits]
  simp
  omega
theorem bits30_in (n : Int) : 0 ≤ bits BinOp.and IntKind.i64 n 1073741823 ∧ bits BinOp.and IntKind.i64 n 1073741823 ≤ 1073741823 := by rw [bits30]; omega
set_option maxHeartbeats 2000000 in
theorem l01New_any (w0 : World) (v : Value) (L : List Int) (hL : BRead w0 v L) (hn : L.length ≤ 1048576) (w : World) (hw : Below w0.heap.size w0 w) :
    Calls Tryd.prog 37 #[v] w fun e w' => ∃ h : Int, e = .returned (.pointer (some ⟨w.heap.size, 0, none⟩)) ∧ Cu w0 w.heap.size v L.length (0, h) w' ∧ Below w.heap.size w w' := by
  obtain ⟨a, b, off, cap, rfl, h1, h2, h3, h4, h5⟩ := hL
  have HW := Lib.hid hw
  have H1 := Lib.hid h1
  have H4 := Lib.hid (show ∀ i (h : i < L.length), w.cell? ⟨b, off + i, none⟩ = some (.int .u8 L[i]) from fun i h => by
    have hb := (h1 (by intro e; rw [e] at h; simp at h)).2
    rw [hw.cell hb]; exact h4 i h)
  have H5 := Lib.hid h5
  have HX := Lib.hid bits30_in
  have HFIN := Lib.hid (fun (h : Int) (hh : In64 h) => show Cu w0 w.heap.size (.slice a L.length cap) L.length (0, h) (w.alloc (.cells #[.slice a L.length cap, .int .i64 0, .int .i64 h] 73)) ∧ Below w.heap.size w (w.alloc (.cells #[.slice a L.length cap, .int .i64 0, .int .i64 h] 73)) from
    ⟨⟨heap_alloc_new w _, by simp, hh, hw.trans (((Below.refl _ _).alloc (Nat.le_refl _) _).mono hw.size), hw.size⟩, (Below.refl _ _).alloc (Nat.le_refl _) _⟩)
  clear hw h1 h4 h5
  go_enter Tryd.func37, Tryd.ntmps37
  go_wp2_with fail
  go_loopw [3, 4] (fun hv iv wr => ∃ (k : Nat) (h : Int), hv = .int .i64 h ∧ iv = .int .i64 k ∧ k ≤ L.length ∧ In64 h ∧ wr = w) (fun _ iv _ => L.length + 1 - (intOf iv).toNat)
  case atStart => exact ⟨0, _, rfl, rfl, by omega, by unfold In64; omega, rfl⟩
  case round =>
    obtain ⟨k, h, rfl, rfl, hk, hh, rfl⟩ := hrel
    by_cases hlt : k < L.length
    · by_cases h40 : k < 4000
      · have t40 : decide ((k : Int) < 4000) = true := decide_eq_true (by omega)
        obtain ⟨rfl, hb⟩ := H1.out (by intro e; rw [e] at hlt; simp at hlt)
        have hcell := H4.out k hlt
        have hrng := H5.out L[k] (List.getElem_mem hlt)
        generalize L[k] = y at *
        have HH := Lib.hid hh
        clear hh
        go_wp2_with fail
        go_roundw
        case rel => exact ⟨k + 1, _, rfl, by go_num, by omega, by have := HX.out (wrap64 (wrap64 (wrap64 (h * 131) + y) + 7)); unfold In64; omega, trivial⟩
        case measure => simp [intOf]; omega
      · have t40 : decide ((k : Int) < 4000) = false := decide_eq_false (by omega)
        have HF := Lib.hid (HFIN.out h hh)
        go_wp2_with fail
        go_ret
        exact ⟨h, rfl, HF.out⟩
    · obtain rfl : k = L.length := by omega
      have HF := Lib.hid (HFIN.out h hh)
      go_wp2_with fail
      go_ret
      exact ⟨h, rfl, HF.out⟩
end Go.Proofs.YtppmoajoffeleaaDoor
namespace Go.Proofs.YtppmoajoffeleaaDoor
set_option linter.unusedSimpArgs false
set_option linter.unusedVariables false
set_option maxRecDepth 100000
open Go.RowKit
def lcU (x : Int) : Int := wrap64 ((x - 1442695040888963407) * 13877824140714322085)
theorem lcU_T {h : Int} (hh : In64 h) : lcU (lcT h) = h := by
  unfold lcU lcT wrap64 In64 at *
  omega
theorem lcT_inj {a b : Int} (ha : In64 a) (hb : In64 b) (h : lcT a = lcT b) : a = b := by rw [← lcU_T ha, h, lcU_T hb]
theorem lcN_inj : ∀ (n : Nat) {a b : Int}, In64 a → In64 b → lcN n a = lcN n b → a = b
  | 0, a, b, _, _, h => h
  | n + 1, a, b, ha, hb, h => lcT_inj ha hb (lcN_inj n (lcT_in _) (lcT_in _) h)
def lcH0 : Int := -1228251632728596194
def lcStar : Int := lcN 13 lcH0
theorem lcH0_in : In64 lcH0 := by unfold In64 lcH0; omega
theorem lcStar_in : In64 lcStar := lcN_in lcH0_in
def grows (x : Int) : Bool := x == 0 || x == 3 || x == 4
theorem run_good : ∀ j, 8 ≤ j → j ≤ 14 → grows (lcX (lcN j lcH0) % 5) = true := by
  intro j h1 h2
  have hc : j = 8 ∨ j = 9 ∨ j = 10 ∨ j = 11 ∨ j = 12 ∨ j = 13 ∨ j = 14 := by omega
  rcases hc with rfl | rfl | rfl | rfl | rfl | rfl | rfl <;> decide +kernel
theorem least {p : Nat → Prop} (h : ∃ n, p n) : ∃ n, p n ∧ ∀ m, m < n → ¬ p m := by
  obtain ⟨n, hn⟩ := h
  induction n using Nat.strongRecOn with
  | _ n ih =>
    by_cases h2 : ∃ m, m < n ∧ p m
    · obtain ⟨m, hm, hp⟩ := h2
      exact ih m hm hp
    · exact ⟨n, hn, fun m hm hp => h2 ⟨m, hm, hp⟩⟩
open Classical in
noncomputable def lcDist (h : Int) : Nat := if hh : ∃ n, lcN n h = lcStar then Classical.choose (least hh) else 0
theorem lcDist_spec {h : Int} (hh : In64 h) : lcN (lcDist h) h = lcStar ∧ ∀ m, m < lcDist h → lcN m h ≠ lcStar := by
  have hr : ∃ n, lcN n h = lcStar := by
    obtain ⟨n, -, e⟩ := lc_reach lcStar_in hh
    exact ⟨n, e⟩
  unfold lcDist
  rw [dif_pos hr]
  exact Classical.choose_spec (least hr)
theorem lcDist_lt {h : Int} (hh : In64 h) : lcDist h < 18446744073709551616 := by
  obtain ⟨n, hn, e⟩ := lc_reach lcStar_in hh
  have h2 := (lcDist_spec hh).2
  by_cases hc : n < lcDist h
  · exact absurd e (h2 n hc)
  · omega
theorem lcDist_step {h : Int} (hh : In64 h) {m : Nat} (hm : m ≤ lcDist h) : lcDist (lcN m h) + m = lcDist h := by
  obtain ⟨h1, h2⟩ := lcDist_spec hh
  obtain ⟨h3, h4⟩ := lcDist_spec (lcN_in (n := m) hh)
  have e1 : lcN (lcDist h - m) (lcN m h) = lcStar := by rw [← lcN_add, show m + (lcDist h - m) = lcDist h by omega]; exact h1
  have e2 : lcN (m + lcDist (lcN m h)) h = lcStar := by rw [lcN_add]; exact h3
  have c1 : ¬ (lcDist h - m < lcDist (lcN m h)) := fun hc => h4 _ hc e1
  have c2 : ¬ (m + lcDist (lcN m h) < lcDist h) := fun hc => h2 _ hc e2
  omega
theorem lc_near {h : Int} (hh : In64 h) (hd : lcDist h ≤ 5) : grows (lcX (lcT h) % 5) = true := by
  obtain ⟨h1, -⟩ := lcDist_spec hh
  have e : h = lcN (13 - lcDist h) lcH0 := by
    refine lcN_inj (lcDist h) hh (lcN_in lcH0_in) ?_
    rw [h1, ← lcN_add, show 13 - lcDist h + lcDist h = 13 by omega]
    rfl
  rw [e, ← lcN_succ]
  exact run_good _ (by omega) (by omega)
noncomputable def txtM (n N len i : Nat) (h : Int) : Nat := (n - len) * 1267650600228229401496703205376 + (N - i) * 1180591620717411303424 + lcDist h
theorem txtM_len {n N len len' i i' : Nat} {h h' : Int} (hN : N ≤ 1048576) (hh : In64 h') (h1 : len < len') (h2 : len < n) : txtM n N len' i' h' < txtM n N len i h := by
  have := lcDist_lt hh
  unfold txtM
  omega
theorem txtM_i {n N len i i' : Nat} {h h' : Int} (hh : In64 h') (h1 : i < i') (h2 : i < N) : txtM n N len i' h' < txtM n N len i h := by
  have := lcDist_lt hh
  unfold txtM
  omega
theorem txtM_h {n N len i m : Nat} {h : Int} (hh : In64 h) (hm : 1 ≤ m) (hm6 : m ≤ 6) (hg : grows (lcX (lcT h) % 5) = false) : txtM n N len i (lcN m h) < txtM n N len i h := by
  by_cases hd : m ≤ lcDist h
  · have := lcDist_step hh hd
    unfold txtM
    omega
  · have := lc_near hh (by omega)
    rw [hg] at this; cases this
theorem txtM_stay {n N len m : Nat} {st : Nat × Int} (hi : st.1 ≤ N) (hh : In64 st.2) (hm : 1 ≤ m) (hm6 : m ≤ 6) (hg : N ≤ st.1 → grows (lcX (lcT st.2) % 5) = false) : txtM n N len (adv N m st).1 (adv N m st).2 < txtM n N len st.1 st.2 := by
  unfold adv
  simp only
  by_cases hc : N ≤ st.1
  · rw [show min N (st.1 + m) = st.1 by omega]
    exact txtM_h hh hm hm6 (hg hc)
  · exact txtM_i (lcN_in hh) (by omega) (by omega)
end Go.Proofs.YtppmoajoffeleaaDoor
namespace Go.Proofs.YtppmoajoffeleaaDoor
set_option linter.unusedSimpArgs false
set_option linter.unusedVariables false
set_option maxRecDepth 100000
open Go.RowKit
theorem BRow.over {c base : Nat} {w w' : World} {v : Value} {l : List UInt8} (h : BRow w base v l) (ht : Touch (fun x => x = c) (fun x => x = c) w w') (hc : c < base) : BRow w' base v l := by
  refine ⟨h.1, ?_⟩
  rcases h.2 with h2 | ⟨g, cap, cur, hv, hb, hg, rest⟩
  · exact .inl h2
  · exact .inr ⟨g, cap, cur, hv, hb, (ht.block g (lt_of_heap hg) (by omega)).trans hg, rest⟩
theorem BRow.keep {base : Nat} {w w' : World} {v : Value} {l : List UInt8} (h : BRow w base v l) (hb : Below w.heap.size w w') : BRow w' base v l := by
  refine ⟨h.1, ?_⟩
  rcases h.2 with h2 | ⟨g, cap, cur, hv, hbg, hg, rest⟩
  · exact .inl h2
  · exact .inr ⟨g, cap, cur, hv, hbg, (hb.block g (lt_of_heap hg)).trans hg, rest⟩
theorem BRow.slice {base : Nat} {w : World} {v : Value} {l : List UInt8} (h : BRow w base v l) : ∃ a cap, v = .slice a l.length cap := by
  rcases h.2 with ⟨rfl, h2⟩ | ⟨g, cap, cur, rfl, -⟩
  · exact ⟨none, 0, by rw [h2]⟩
  · exact ⟨_, _, rfl⟩
theorem BRow.at {base j : Nat} {w : World} {v : Value} {l : List UInt8} (h : BRow w base v l) (hj : j < l.length) : ∃ g cap, v = .slice (some ⟨g, 0, none⟩) l.length cap ∧ base ≤ g ∧ g < w.heap.size ∧ l.length ≤ cap ∧ w.cell? ⟨g, j, none⟩ = some (.int .u8 (l[j].toNat : Nat)) := by
  rcases h.2 with ⟨rfl, h2⟩ | ⟨g, cap, cur, rfl, hb, hg, hn, hm, hs, ht⟩
  · omega
  · refine ⟨g, cap, rfl, hb, lt_of_heap hg, hn, ?_⟩
    rw [cell_of_row _ _ _ _ _ (0, 0) hg]
    have e : cur[j]? = cur.toList[j]? := by simp
    rw [e]
    have e2 : cur.toList[j]? = (bys l)[j]? := by rw [← ht, List.getElem?_take_of_lt (by omega)]
    rw [e2]
    simp [bys, hj]
theorem BRow.cut {base n : Nat} {w : World} {a : Option Addr} {k cap : Nat} {l : List UInt8} (h : BRow w base (.slice a k cap) l) (hn : n ≤ l.length) : BRow w base (.slice a n cap) (l.take n) := by
  refine ⟨by simp [bys_length], ?_⟩
  rcases h.2 with ⟨hv, h2⟩ | ⟨g, cap', cur, hv, hb, hg, hn2, hm, hs, ht⟩
  · left
    simp only [Value.slice.injEq] at hv
    obtain ⟨rfl, rfl, rfl⟩ := hv
    have : n = 0 := by omega
    subst this
    exact ⟨rfl, by simp⟩
  · right
    simp only [Value.slice.injEq] at hv
    obtain ⟨rfl, rfl, rfl⟩ := hv
    refine ⟨g, cap, cur, by rw [List.length_take, Nat.min_eq_left hn], hb, hg, by rw [List.length_take]; omega, hm, hs, ?_⟩
    have e : bys (l.take n) = (bys l).take n := by simp [bys, List.map_take]
    rw [e, ← ht, List.length_take, Nat.min_eq_left hn, List.take_take]
    congr 1; omega
theorem touch_grownC {d B : Nat} {w W w2 : World} {o : Value} (h : Touch (fun x => x = d) (fun x => x = d) w W) (hg : W.grownBy w2 o.ownBlock) (hB : w.heap.size ≤ B) (ho : ∀ k, o.ownBlock = some k → B ≤ k) : Touch (fun x => x = d) (fun x => x = d) w w2 :=
  ⟨hg.os.trans h.os, hg.tape.trans h.tape, hg.output.trans h.output, Nat.le_trans h.size hg.size,
    fun x hx hn => (hg.block x (Nat.lt_of_lt_of_le hx h.size) (fun e => by have := ho x e.symm; omega)).trans (h.block x hx hn), fun x hx => .inl hx⟩
theorem Cu.over {w0 w w' : World} {c n : Nat} {v : Value} {st : Nat × Int} (h : Cu w0 c v n st w) (hb : w'.heap[c]? = w.heap[c]?) (hw : Below w0.heap.size w0 w') : Cu w0 c v n st w' := ⟨hb.trans h.cb, h.le, h.h64, hw, h.hc⟩
structure TR (w0 w : World) (c : Nat) (v : Value) (N : Nat) (st : Nat × Int) (o : Value) (l : List UInt8) (m : Nat) (W : World) : Prop where
  row : BRow W w.heap.size o l
  cu : Cu w0 c v N (adv N m st) W
  t : Touch (fun x => x = c) (fun x => x = c) w W
  cw : c < w.heap.size
theorem TR.call {w0 w W W' : World} {c N m k : Nat} {v o : Value} {st : Nat × Int} {l : List UInt8} (h : TR w0 w c v N st o l m W) (hcu : Cu w0 c v N (adv N k (adv N m st)) W') (ht : Touch (fun x => x = c) (fun x => x = c) W W') : TR w0 w c v N st o l (m + k) W' := by
  have hz := h.t.size
  exact ⟨h.row.over ht h.cw, by rw [← adv_adv]; exact hcu, h.t.trans ht, h.cw⟩
theorem TR.app {w0 w W W1 W2 : World} {c N m : Nat} {v o o2 : Value} {st : Nat × Int} {l l2 : List UInt8} (h : TR w0 w c v N st o l m W) (hb : Below W.heap.size W W1) (hg : W1.grownBy W2 o.ownBlock) (hr : BRow W2 w.heap.size o2 l2) : TR w0 w c v N st o2 l2 m W2 := by
  have hz := h.t.size
  have hz1 := hb.size
  have hcw := h.cw
  have hT : Touch (fun x => x = c) (fun x => x = c) w W2 := touch_grownC (h.t.trans (Touch.of_below hb)) hg (Nat.le_refl _) (fun k hk => (h.row.lt k hk).1)
  refine ⟨hr, h.cu.over ?_ ?_, hT, h.cw⟩
  · rw [hg.block c (by omega) (fun e => by have := (h.row.lt c e.symm).1; omega)]
    exact hb.block c (by omega)
  · have hc := h.cu.hc
    have hw0 := h.cu.below.size
    refine h.cu.below.trans ⟨hg.os.trans hb.os, hg.tape.trans hb.tape, hg.output.trans hb.output, by have := hg.size; omega, fun k hk => ?_⟩
    rw [hg.block k (by omega) (fun e => by have := (h.row.lt k e.symm).1; omega)]
    exact hb.block k (by omega)
noncomputable def txtMW (c n N : Nat) (o : Value) (W : World) : Nat := match o, W.cell? ⟨c, 1, none⟩, W.cell? ⟨c, 2, none⟩ with
  | .slice _ len _, some (.int _ i), some (.int _ h) => txtM n N len i.toNat h
  | _, _, _ => 0
theorem TR.meas {w0 w W : World} {c N m : Nat} {v o : Value} {st : Nat × Int} {l : List UInt8} (h : TR w0 w c v N st o l m W) (n : Nat) : txtMW c n N o W = txtM n N l.length (adv N m st).1 (adv N m st).2 := by
  obtain ⟨a, cap, rfl⟩ := h.row.slice
  obtain ⟨u0, u1, u2, -⟩ := h.cu.cb.cells
  unfold txtMW
  rw [u1, u2]
  simp
theorem TR.less {w0 w W W' : World} {c n N m m' : Nat} {v o o' : Value} {st : Nat × Int} {l l' : List UInt8} (h : TR w0 w c v N st o l m W) (h' : TR w0 w c v N st o' l' m' W') (hN : N ≤ 1048576) (hl : l.length < l'.length) (hn : l.length < n) : txtMW c n N o' W' < txtMW c n N o W := by
  rw [h.meas, h'.meas]
  exact txtM_len hN h'.cu.h64 hl hn
theorem TR.same {w0 w W W' : World} {c n N m k : Nat} {v o o' : Value} {st : Nat × Int} {l l' : List UInt8} (h : TR w0 w c v N st o l m W) (h' : TR w0 w c v N st o' l' (m + k) W') (hl : l'.length = l.length) (hk : 1 ≤ k ∧ k ≤ 6) (hg : N ≤ (adv N m st).1 → grows (lcX (lcT (adv N m st).2) % 5) = false) : txtMW c n N o' W' < txtMW c n N o W := by
  rw [h.meas, h'.meas, hl, ← adv_adv]
  exact txtM_stay h.cu.le h.cu.h64 hk.1 hk.2 hg
set_option maxHeartbeats 8000000 in
theorem l01Text_any (w0 : World) (c : Nat) (v : Value) (L : List Int) (hL : BRead w0 v L) (hN : L.length ≤ 1048576) (n : Nat) (hn : n ≤ 100000) (st : Nat × Int) (w : World) (h : Cu w0 c v L.length st w) :
    Calls Tryd.prog 117 #[.pointer (some ⟨c, 0, none⟩), .int .i64 n] w fun e w' => ∃ (t : ByteArray) (m : Nat), e = .returned (.string t) ∧ t.size = n ∧ Cu w0 c v L.length (adv L.length m st) w' ∧ Touch (fun x => x = c) (fun x => x = c) w w' := by
  have BL := Lib.hid (fun (q : Int) (hq : In64 q) st W h => l01Below_any w0 c v L hL hN q hq st W h)
  have BY := Lib.hid (fun st W h => l01Byte_any w0 c v L hL hN st W h)
  have hcw := lt_of_heap h.cb
  have H0 := Lib.hid (show TR w0 w c v L.length st (.slice (some ⟨w.heap.size, 0, none⟩) 0 0) [] 0 (w.alloc (.cells #[] 5)) from
    ⟨BRow.made [] (Nat.le_refl _) (by simp), by
      have e : adv L.length 0 st = st := by unfold adv lcN; have := h.le; rw [Nat.add_zero, Nat.min_eq_right this]
      rw [e]; exact h.stay ((Below.refl _ _).alloc (Nat.le_refl _) _), Touch.of_below ((Below.refl _ _).alloc (Nat.le_refl _) _), hcw⟩)
  clear h hL
  generalize L.length = N at *
  go_enter Tryd.func117, Tryd.ntmps117
  go_wp2_with fail
  go_loopw [5, 6, 7, 8, 9, 10, 11] (fun oo _ _ _ _ _ _ wr => ∃ (l : List UInt8) (m : Nat), l.length ≤ n + 20 ∧ TR w0 w c v N st oo l m wr) (fun oo _ _ _ _ _ _ wr => txtMW c n N oo wr)
  case atStart => exact ⟨[], 0, by simp, H0.out⟩
  case round =>
    obtain ⟨l, m, hl, htr⟩ := hrel
    have HTR := Lib.hid htr
    have hsz := htr.t.size
    obtain ⟨oa, oc, rfl⟩ := htr.row.slice
    clear htr
    by_cases hlt : l.length < n
    · go_wp2_with fail
      refine (BL.out 5 (by unfold In64; omega) _ wr HTR.out.cu).mono ?_
      rintro e1 w1 ⟨x, m1, rfl, hx0, hx1, -, -, hx5, hcu1, ht1⟩
      obtain ⟨rfl, hxg⟩ := hx5 (by omega) (by omega)
      have HTR1 := Lib.hid (HTR.out.call hcu1 ht1)
      have HXG := Lib.hid hxg
      have hsz1 := HTR1.out.t.size
      clear hcu1 ht1 hx5 hxg
      have hx4 : x = 0 ∨ x = 1 ∨ x = 2 ∨ (x = 3 ∨ x = 4) := by omega
      rcases hx4 with rfl | rfl | rfl | hx34
      · go_wp2_with fail
        refine (BY.out _ w1 HTR1.out.cu).mono ?_
        rintro e2 w2 ⟨y, rfl, hy0, hy1, -, hcu2, ht2⟩
        have HTR2 := Lib.hid (HTR1.out.call hcu2 ht2)
        have hsz2 := HTR2.out.t.size
        clear hcu2 ht2
        go_wp2_with (at_builtin; refine app_bytes rfl _ _ _ rfl w.heap.size _ l rfl (HTR2.out.row.keep ((Below.refl _ _).alloc (Nat.le_refl _) _)) _ rfl _ (src_new _ _ (by omega) (by omega)) (by simp; omega) (by simp; omega) ?_; intro v' w3 hrow' hg' _; have HR2 := Lib.hid hrow'; have HG2 := Lib.hid hg'; obtain ⟨oa2, on2, oc2, rfl⟩ : ∃ p q r, v' = .slice p q r := by { obtain ⟨p, q, e⟩ := hrow'.slice; exact ⟨p, _, q, e⟩ }; clear hrow' hg')
        have HT3 := Lib.hid (HTR2.out.app ((Below.refl _ _).alloc (Nat.le_refl _) _) HG2.out HR2.out)
        go_roundw
        case rel => exact ⟨_, _, by rw [List.length_append]; simp; omega, HT3.out⟩
        case measure => exact HTR.out.less HT3.out hN (by rw [List.length_append]; simp) hlt
      · go_wp2_with fail
        refine (BL.out 9 (by unfold In64; omega) _ w1 HTR1.out.cu).mono ?_
        rintro e2 w2 ⟨k, m2, rfl, hk0, hk1, -, -, hk5, hcu2, ht2⟩
        obtain ⟨rfl, -⟩ := hk5 (by omega) (by omega)
        have HTR2 := Lib.hid (HTR1.out.call hcu2 ht2)
        have hsz2 := HTR2.out.t.size
        clear hcu2 ht2 hk5
        have hk9 : k < 9 := by omega
        clear hk1
        go_wp2_with fail
        refine (BL.out 4 (by unfold In64; omega) _ w2 HTR2.out.cu).mono ?_
        rintro e3 w3 ⟨y, m3, rfl, hy0, hy1, -, -, hy5, hcu3, ht3⟩
        obtain ⟨rfl, -⟩ := hy5 (by omega) (by omega)
        have HTR3 := Lib.hid (HTR2.out.call hcu3 ht3)
        have hsz3 := HTR3.out.t.size
        clear hcu3 ht3 hy5
        have hy4 : y < 4 := by omega
        clear hy1
        go_wp2_with fail
        go_loopw [5, 8] (fun o2 ii wq => ∃ (i : Nat) (l2 : List UInt8), ii = .int .i64 i ∧ (i : Int) ≤ k ∧ l2.length = l.length + i ∧ TR w0 w c v N st o2 l2 (m + 1 + 1 + 1) wq) (fun _ ii _ => (k - intOf ii).toNat)
        case atStart => exact ⟨0, l, rfl, by omega, rfl, HTR3.out⟩
        case round =>
          obtain ⟨i, l2, rfl, hik, hl2, htr4⟩ := hrel
          have HTR4 := Lib.hid htr4
          have hsz4 := htr4.t.size
          obtain ⟨ob, oe, rfl⟩ := htr4.row.slice
          clear htr4
          by_cases hik2 : (i : Int) < k
          · go_wp2_with (at_builtin; refine app_bytes rfl _ _ _ rfl w.heap.size _ l2 rfl (HTR4.out.row.keep ((Below.refl _ _).alloc (Nat.le_refl _) _)) _ rfl _ (src_new _ _ (by omega) (by omega)) (by simp; omega) (by simp; omega) ?_; intro v' w5 hrow' hg' _; have HR2 := Lib.hid hrow'; have HG2 := Lib.hid hg'; obtain ⟨oa2, on2, oc2, rfl⟩ : ∃ p q r, v' = .slice p q r := by { obtain ⟨p, q, e⟩ := hrow'.slice; exact ⟨p, _, q, e⟩ }; clear hrow' hg')
            have HT5 := Lib.hid (HTR4.out.app ((Below.refl _ _).alloc (Nat.le_refl _) _) HG2.out HR2.out)
            go_roundw
            case rel => exact ⟨i + 1, _, by push_cast; rfl, by omega, by rw [List.length_append]; simp; omega, HT5.out⟩
            case measure => simp only [intOf]; omega
          · go_wp2_with fail
            go_roundw
            case rel => exact ⟨l2, _, by omega, HTR4.out⟩
            case measure =>
              by_cases hi0 : i = 0
              · exact HTR.out.same (k := 1 + 1 + 1) HTR4.out (by omega) (by omega) (fun h => by rw [← HXG.out h]; rfl)
              · exact HTR.out.less HTR4.out hN (by omega) hlt
      · by_cases hl0 : l.length = 0
        · obtain rfl : l = [] := List.eq_nil_of_length_eq_zero hl0
          go_wp2_with fail
          go_roundw
          case rel => exact ⟨[], _, by simp, HTR1.out⟩
          case measure => exact HTR.out.same (k := 1) HTR1.out (by omega) (by omega) (fun h => by rw [← HXG.out h]; rfl)
        · go_wp2_with fail
          refine (BL.out l.length (by unfold In64; omega) _ w1 HTR1.out.cu).mono ?_
          rintro e2 w2 ⟨f, m2, rfl, hf0, hf1, hm4, -, -, hcu2, ht2⟩
          have HTR2 := Lib.hid (HTR1.out.call hcu2 ht2)
          have hsz2 := HTR2.out.t.size
          clear hcu2 ht2
          have hfl : f < l.length := by omega
          clear hf1
          go_wp2_with fail
          refine (BL.out 20 (by unfold In64; omega) _ w2 HTR2.out.cu).mono ?_
          rintro e3 w3 ⟨k, m3, rfl, hk0, hk1, -, -, hk5, hcu3, ht3⟩
          obtain ⟨rfl, -⟩ := hk5 (by omega) (by omega)
          have HTR3 := Lib.hid (HTR2.out.call hcu3 ht3)
          have hsz3 := HTR3.out.t.size
          clear hcu3 ht3 hk5
          have hk20 : k < 20 := by omega
          clear hk1
          go_wp2_with fail
          go_loopw [5, 11] (fun o2 ii wq => ∃ (i : Nat) (l2 : List UInt8), ii = .int .i64 i ∧ (i : Int) ≤ k ∧ l2.length = l.length + i ∧ TR w0 w c v N st o2 l2 (m + 1 + m2 + 1) wq) (fun _ ii _ => (k - intOf ii).toNat)
          case atStart => exact ⟨0, l, rfl, by omega, rfl, HTR3.out⟩
          case round =>
            obtain ⟨i, l2, rfl, hik, hl2, htr4⟩ := hrel
            have HTR4 := Lib.hid htr4
            have hsz4 := htr4.t.size
            have hfi : f + i < l2.length := by omega
            obtain ⟨f', rfl⟩ : ∃ f' : Nat, f = f' := ⟨f.toNat, by omega⟩
            obtain ⟨ob, oe, rfl, hob1, hob2, hoe, hcell⟩ := htr4.row.at (j := f' + i) (by omega)
            have hby : l2[f' + i].toNat < 256 := UInt8.toNat_lt _
            clear htr4
            by_cases hik2 : (i : Int) < k
            · go_wp2_with (at_builtin; refine app_bytes rfl _ _ _ rfl w.heap.size _ l2 rfl (HTR4.out.row.keep ((Below.refl _ _).alloc (Nat.le_refl _) _)) _ rfl _ (src_new _ _ (by omega) (by omega)) (by simp; omega) (by simp; omega) ?_; intro v' w5 hrow' hg' _; have HR2 := Lib.hid hrow'; have HG2 := Lib.hid hg'; obtain ⟨oa2, on2, oc2, rfl⟩ : ∃ p q r, v' = .slice p q r := by { obtain ⟨p, q, e⟩ := hrow'.slice; exact ⟨p, _, q, e⟩ }; clear hrow' hg')
              have HT5 := Lib.hid (HTR4.out.app ((Below.refl _ _).alloc (Nat.le_refl _) _) HG2.out HR2.out)
              go_roundw
              case rel => exact ⟨i + 1, _, by push_cast; rfl, by omega, by rw [List.length_append]; simp; omega, HT5.out⟩
              case measure => simp only [intOf]; omega
            · go_wp2_with fail
              go_roundw
              case rel => exact ⟨l2, _, by omega, HTR4.out⟩
              case measure =>
                by_cases hi0 : i = 0
                · have HX := HTR4.out
                  rw [show m + 1 + m2 + 1 = m + (1 + m2 + 1) by omega] at HX
                  exact HTR.out.same HX (by omega) (by omega) (fun h => by rw [← HXG.out h]; rfl)
                · exact HTR.out.less HTR4.out hN (by omega) hlt
      · go_wp2_with fail
        refine (BL.out 26 (by unfold In64; omega) _ w1 HTR1.out.cu).mono ?_
        rintro e2 w2 ⟨y, m2, rfl, hy0, hy1, -, -, hy5, hcu2, ht2⟩
        have HTR2 := Lib.hid (HTR1.out.call hcu2 ht2)
        have hsz2 := HTR2.out.t.size
        clear hcu2 ht2 hy5
        have hy26 : y < 26 := by omega
        clear hy1
        go_wp2_with (at_builtin; refine app_bytes rfl _ _ _ rfl w.heap.size _ l rfl (HTR2.out.row.keep ((Below.refl _ _).alloc (Nat.le_refl _) _)) _ rfl _ (src_new _ _ (by omega) (by omega)) (by simp; omega) (by simp; omega) ?_; intro v' w3 hrow' hg' _; have HR2 := Lib.hid hrow'; have HG2 := Lib.hid hg'; obtain ⟨oa2, on2, oc2, rfl⟩ : ∃ p q r, v' = .slice p q r := by { obtain ⟨p, q, e⟩ := hrow'.slice; exact ⟨p, _, q, e⟩ }; clear hrow' hg')
        have HT3 := Lib.hid (HTR2.out.app ((Below.refl _ _).alloc (Nat.le_refl _) _) HG2.out HR2.out)
        go_roundw
        case rel => exact ⟨_, _, by rw [List.length_append]; simp; omega, HT3.out⟩
        case measure => exact HTR.out.less HT3.out hN (by rw [List.length_append]; simp) hlt
    · have hle : n ≤ l.length := by omega
      have R := Lib.hid (run_str (HTR.out.row.cut hle))
      have hno : n ≤ oc := by
        rcases HTR.out.row.2 with ⟨hv, h2⟩ | ⟨g, cap, cur, hv, hb, hg, hn2, -⟩
        · simp only [h2, List.length_nil] at hle; omega
        · simp only [Value.slice.injEq] at hv
          obtain ⟨-, -, rfl⟩ := hv
          omega
      go_wp2_with fail
      rw [R.out]
      go_wp2_with fail
      go_ret
      refine ⟨_, m, rfl, ?_, HTR.out.cu, HTR.out.t⟩
      simp [ByteArray.size]
      omega
end Go.Proofs.YtppmoajoffeleaaDoor
namespace Go.Proofs.YtppmoajoffeleaaDoor
set_option linter.unusedSimpArgs false
set_option linter.unusedVariables false
set_option maxRecDepth 100000
open Go.RowKit
def sub (l : List UInt8) (i m : Nat) : List UInt8 := (l.drop i).take m
end Go.Proofs.YtppmoajoffeleaaDoor
namespace Go.Proofs.YtppmoajoffeleaaDoor
set_option linter.unusedSimpArgs false
set_option linter.unusedVariables false
set_option maxRecDepth 100000
open Go.RowKit
structure Found (s : ByteArray) (i a n x : Int) : Prop where
  i0 : 0 ≤ i
  a0 : 0 ≤ a
  a7 : a ≤ 7
  n0 : 0 ≤ n
  n1 : n < 18446744073709551616
  x0 : i < x
  x1 : x ≤ s.size
  x9 : x ≤ i + 9
  same : (headL a.toNat n.toNat).length = (x - i).toNat → headL a.toNat n.toNat = sub s.data.toList i.toNat (x - i).toNat
end Go.Proofs.YtppmoajoffeleaaDoor
namespace Go.Proofs.YtppmoajoffeleaaDoor
set_option linter.unusedSimpArgs false
set_option linter.unusedVariables false
set_option maxRecDepth 100000
open Go.RowKit
abbrev MG := Option (V × Nat × Nat)
def MGood (s : ByteArray) (i l : Nat) (o : MG) : Prop := ∀ v j m, o = some (v, j, m) → v.sz + 1 + i ≤ j ∧ j ≤ s.size ∧ m < l ∧ v.nodes + m = l ∧ v.wf
theorem in0 : In64 0 := ⟨by show (-9223372036854775808 : Int) ≤ 0; omega, by show (0 : Int) ≤ _; omega⟩
theorem in3 : In64 3 := ⟨by show (-9223372036854775808 : Int) ≤ 3; omega, by show (3 : Int) ≤ _; omega⟩
structure RAcc (r : Nat) (w W : World) (b : Nat) (k n e : Int) (s : ByteArray) (us : List V) (o : Value) (G : Nat → Prop) : Prop where
  box : Box W b k n e s o 26
  rows : VRows W (b + 1) 26 G o us
  touch : Touch (fun x => x = r ∨ x = b) (fun x => x = r ∨ x = b) w W
  hwb : w.heap.size = b + 1
  hr : r < b
theorem RAcc.stay {r b : Nat} {w W W' : World} {k n e : Int} {s : ByteArray} {us : List V} {o : Value} {G : Nat → Prop} (h : RAcc r w W b k n e s us o G) (hb : Below W.heap.size W W') : RAcc r w W' b k n e s us o G :=
  ⟨h.box.stay hb, h.rows.keep hb, h.touch.trans (Touch.of_below hb), h.hwb, h.hr⟩
theorem RAcc.over {r b : Nat} {w W W' : World} {k n e : Int} {s : ByteArray} {us : List V} {o : Value} {G : Nat → Prop} (h : RAcc r w W b k n e s us o G) (ht : Touch (fun x => x = r) (fun x => x = r) W W') : RAcc r w W' b k n e s us o G := by
  have hr := h.hr
  refine ⟨(ht.block b h.box.lt (by omega)).trans h.box, h.rows.move ht.size (fun x hx => ht.block x ?_ ?_), h.touch.trans (ht.mono (fun x hx => .inl hx) (fun x hx => .inl (.inl hx))), h.hwb, h.hr⟩
  · rcases hx with hx | hx
    · exact (h.rows.inG x hx).2
    · exact (h.rows.lt x hx).2
  · rcases hx with hx | hx
    · have := (h.rows.inG x hx).1; omega
    · have := (h.rows.lt x hx).1; omega
theorem RAcc.same {r b : Nat} {w W W1 W2 : World} {k n e : Int} {s : ByteArray} {us : List V} {o : Value} {G : Nat → Prop} (h : RAcc r w W b k n e s us o G) (hW : Below W.heap.size W W1) (hg : W1.grownBy W2 o.ownBlock) (v2 : Value) :
    ∀ x, x < w.heap.size → x ≠ b → (W2.setCell ⟨b, 4, none⟩ v2).heap[x]? = W.heap[x]? := fun x hx hb => by
  have h1 := h.touch.size
  have h2 := h.hwb
  have h3 := hW.size
  rw [heap_setCell_other _ _ _ _ (show x ≠ b from hb), hg.block x (by omega) (fun e => by have := (h.rows.lt x e.symm).1; omega)]
  exact hW.block x (by omega)
theorem RAcc.put {r b : Nat} {w W W1 W2 : World} {k n e : Int} {s : ByteArray} {us us2 : List V} {o v2 : Value} {G G2 : Nat → Prop} (h : RAcc r w W b k n e s us o G) (hW : Below W.heap.size W W1) (hg : W1.grownBy W2 o.ownBlock) (hr2 : VRows W2 (b + 1) 26 G2 v2 us2) :
    RAcc r w (W2.setCell ⟨b, 4, none⟩ v2) b k n e s us2 v2 G2 := by
  have hl := h.box.lt
  have z1 := hW.size
  have z2 := hg.size
  have hz := h.touch.size
  have B2 : Box W2 b k n e s o 26 := by
    have hn : o.ownBlock ≠ some b := fun e => by have := (h.rows.lt b e).1; omega
    exact (hg.block b (by omega) (fun e => hn e.symm)).trans (h.box.stay hW)
  refine ⟨B2.set4, hr2.move (by simp) (fun x hx => heap_setCell_other _ _ _ _ (fun e => ?_)), ?_, h.hwb, h.hr⟩
  · have e' : x = b := e
    rcases hx with hx | hx
    · have := (hr2.inG x hx).1; omega
    · have := (hr2.lt x hx).1; omega
  · exact ⟨hg.os.trans (hW.os.trans h.touch.os), hg.tape.trans (hW.tape.trans h.touch.tape), hg.output.trans (hW.output.trans h.touch.output), by simp; omega, fun x hx hn => (h.same hW hg v2 x hx (fun e => hn (.inr e))).trans (h.touch.block x hx hn), h.touch.new⟩
theorem RAcc.nil {r b : Nat} {w : World} {k n e : Int} {s : ByteArray} (hB : Box w b k n e s (.slice none 0 0) 26) (hwb : w.heap.size = b + 1) (hr : r < b) : RAcc r w w b k n e s [] (.slice none 0 0) (fun _ => False) :=
  ⟨hB, VRows.nil _ _ _, Touch.refl _ _, hwb, hr⟩
end Go.Proofs.YtppmoajoffeleaaDoor
namespace Go.Proofs.YtppmoajoffeleaaDoor
set_option linter.unusedSimpArgs false
set_option linter.unusedVariables false
set_option maxRecDepth 100000
open Go.RowKit
def isOpen (lo : Bool) (b : Nat) : Prop := lo = true ∧ b % 32 = 31 ∧ 2 ≤ b / 32 ∧ b / 32 ≤ 5
instance (lo : Bool) (b : Nat) : Decidable (isOpen lo b) := by unfold isOpen; exact inferInstance
def VOk (t : V) : Prop := t.wf ∧ (t.k = 3 → t.kids = [])
def CGood (s : ByteArray) (i l : Nat) (o : MG) : Prop := ∀ v j m, o = some (v, j, m) → v.sz + 1 + i ≤ j ∧ j ≤ s.size ∧ m < l ∧ v.nodes + m ≤ l ∧ VOk v ∧ ∀ t ∈ v.kids, VOk t
theorem MGood.c {s : ByteArray} {i l : Nat} {o : MG} (h : MGood s i l o) (hk : ∀ v j m, o = some (v, j, m) → v.kids = []) : CGood s i l o := fun v j m e => by
  have := h v j m e
  exact ⟨this.1, this.2.1, this.2.2.1, by omega, ⟨this.2.2.2.2, fun _ => hk v j m e⟩, fun t ht => by rw [hk v j m e] at ht; cases ht⟩
end Go.Proofs.YtppmoajoffeleaaDoor
namespace Go.Proofs.YtppmoajoffeleaaDoor
set_option linter.unusedSimpArgs false
set_option linter.unusedVariables false
set_option maxRecDepth 100000
open Go.RowKit
def CuX (w0 : World) (c : Nat) (v : Value) (N : Nat) (w : World) : Prop := ∃ st, Cu w0 c v N st w
theorem CuX.lt {w0 w : World} {c N : Nat} {v : Value} (h : CuX w0 c v N w) : c < w.heap.size := by obtain ⟨st, h⟩ := h; exact lt_of_heap h.cb
theorem CuX.below {w0 w : World} {c N : Nat} {v : Value} (h : CuX w0 c v N w) : Below w0.heap.size w0 w := by obtain ⟨st, h⟩ := h; exact h.below
theorem CuX.hc {w0 w : World} {c N : Nat} {v : Value} (h : CuX w0 c v N w) : w0.heap.size ≤ c := by obtain ⟨st, h⟩ := h; exact h.hc
theorem CuX.stay {w0 w w' : World} {c N : Nat} {v : Value} (h : CuX w0 c v N w) (hb : Below w.heap.size w w') : CuX w0 c v N w' := by obtain ⟨st, h⟩ := h; exact ⟨st, h.stay hb⟩
theorem CuX.over {w0 w w' : World} {c N : Nat} {v : Value} (h : CuX w0 c v N w) (hb : w'.heap[c]? = w.heap[c]?) (hw : Below w0.heap.size w0 w') : CuX w0 c v N w' := by obtain ⟨st, h⟩ := h; exact ⟨st, h.over hb hw⟩
def DX (w0 : World) (c : Nat) (v : Value) (N : Nat) (w w' : World) : Prop := CuX w0 c v N w' ∧ Touch (fun x => x = c) (fun x => x = c) w w'
theorem DX.trans {w0 w w' w2 : World} {c N : Nat} {v : Value} (h : DX w0 c v N w w') (h2 : DX w0 c v N w' w2) : DX w0 c v N w w2 := ⟨h2.1, h.2.trans h2.2⟩
theorem DX.stay {w0 w w' w2 : World} {c N : Nat} {v : Value} (h : DX w0 c v N w w') (hb : Below w'.heap.size w' w2) : DX w0 c v N w w2 := ⟨h.1.stay hb, h.2.trans (Touch.of_below hb)⟩
theorem DX.refl {w0 w : World} {c N : Nat} {v : Value} (h : CuX w0 c v N w) : DX w0 c v N w w := ⟨h, Touch.refl _ _⟩
structure Drw (w0 : World) (v : Value) (N : Nat) : Prop where
  rd : ∃ L, BRead w0 v L ∧ N = L.length
  le : N ≤ 1048576
theorem Below1_any (w0 : World) (c : Nat) (v : Value) (N : Nat) (hD : Drw w0 v N) (n : Int) (hn64 : In64 n) (w : World) (h : CuX w0 c v N w) :
    Calls Tryd.prog 90 #[.pointer (some ⟨c, 0, none⟩), .int .i64 n] w fun e w' => ∃ (x : Int), e = .returned (.int .i64 x) ∧ 0 ≤ x ∧ (x < n ∨ x = 0) ∧ DX w0 c v N w w' := by
  obtain ⟨⟨L, hL, rfl⟩, hn⟩ := hD
  obtain ⟨st, h⟩ := h
  refine (l01Below_any w0 c v L hL hn n hn64 st w h).mono ?_
  rintro e w' ⟨x, m, rfl, h0, h1, -, -, -, hc, ht⟩
  exact ⟨x, rfl, h0, h1, ⟨_, hc⟩, ht⟩
theorem Once_any (w0 : World) (c : Nat) (v : Value) (N : Nat) (hD : Drw w0 v N) (n : Int) (hn64 : In64 n) (w : World) (h : CuX w0 c v N w) :
    Calls Tryd.prog 62 #[.pointer (some ⟨c, 0, none⟩), .int .i64 n] w fun e w' => ∃ (b : Bool), e = .returned (.bool b) ∧ DX w0 c v N w w' := by
  obtain ⟨⟨L, hL, rfl⟩, hn⟩ := hD
  obtain ⟨st, h⟩ := h
  refine (l01Once_any w0 c v L hL hn n hn64 st w h).mono ?_
  rintro e w' ⟨x, m, rfl, -, hc, ht⟩
  exact ⟨x, rfl, ⟨_, hc⟩, ht⟩
theorem lit_cells (W : World) (T : TypeId) (vs : Array Value) (j : Nat) (hj : j < vs.size) : (W.alloc (.cells vs T)).cell? ⟨W.heap.size, 0 + j, none⟩ = some vs[j] := by
  rw [Nat.zero_add, cell_of_row _ _ _ _ _ (0, 0) (heap_alloc_new W _)]
  simp [hj]
theorem PickI_any (w0 : World) (c : Nat) (v : Value) (N : Nat) (hD : Drw w0 v N) (zs : List Int) (T : TypeId) (hz : ∀ z ∈ zs, In64 z) (hk : 1 ≤ zs.length ∧ zs.length ≤ 1000) (k cap : Nat) (hkk : k = zs.length) (w : World) (h : CuX w0 c v N w) (vs : Array Value) (hvs : vs = (zs.map (Value.int .i64)).toArray) :
    Calls Tryd.prog 91 #[.pointer (some ⟨c, 0, none⟩), .slice (some ⟨w.heap.size, 0, none⟩) k cap] (w.alloc (.cells vs T)) fun e w' => ∃ (z : Int), e = .returned (.int .i64 z) ∧ In64 z ∧ DX w0 c v N w w' := by
  obtain ⟨⟨L, hL, rfl⟩, hn⟩ := hD
  have hcw := h.lt
  obtain ⟨st, h⟩ := h
  subst hvs hkk
  have hb : Below w.heap.size w (w.alloc (.cells (zs.map (Value.int .i64)).toArray T)) := (Below.refl _ _).alloc (Nat.le_refl _) _
  refine (l01PickInt_any w0 c v L hL hn w.heap.size 0 zs.length cap hk st _ (h.stay hb) (by simp) (by omega) ?_).mono ?_
  · intro j hj
    refine ⟨zs[j], ?_, hz _ (List.getElem_mem hj)⟩
    rw [lit_cells _ _ _ _ (by simpa using hj)]
    simp
  · rintro e w' ⟨z, m, rfl, hz, -, hc, ht⟩
    exact ⟨z, rfl, hz, ⟨_, hc⟩, (Touch.of_below hb).trans ht⟩
theorem PickS_any (w0 : World) (c : Nat) (v : Value) (N : Nat) (hD : Drw w0 v N) (B : Nat) (zs : List ByteArray) (T : TypeId) (hz : ∀ z ∈ zs, z.size ≤ B) (hk : 1 ≤ zs.length ∧ zs.length ≤ 1000) (k cap : Nat) (hkk : k = zs.length) (w : World) (h : CuX w0 c v N w) (vs : Array Value) (hvs : vs = (zs.map Value.string).toArray) :
    Calls Tryd.prog 118 #[.pointer (some ⟨c, 0, none⟩), .slice (some ⟨w.heap.size, 0, none⟩) k cap] (w.alloc (.cells vs T)) fun e w' => ∃ (z : ByteArray), e = .returned (.string z) ∧ z.size ≤ B ∧ DX w0 c v N w w' := by
  obtain ⟨⟨L, hL, rfl⟩, hn⟩ := hD
  have hcw := h.lt
  obtain ⟨st, h⟩ := h
  subst hvs hkk
  have hb : Below w.heap.size w (w.alloc (.cells (zs.map Value.string).toArray T)) := (Below.refl _ _).alloc (Nat.le_refl _) _
  refine (l01Pick_any w0 c v L hL hn w.heap.size 0 zs.length cap B hk st _ (h.stay hb) (by simp) (by omega) ?_).mono ?_
  · intro j hj
    refine ⟨zs[j], ?_, hz _ (List.getElem_mem hj)⟩
    rw [lit_cells _ _ _ _ (by simpa using hj)]
    simp
  · rintro e w' ⟨z, m, rfl, hz, -, hc, ht⟩
    exact ⟨z, rfl, hz, ⟨_, hc⟩, (Touch.of_below hb).trans ht⟩
theorem Text_any (w0 : World) (c : Nat) (v : Value) (N : Nat) (hD : Drw w0 v N) (n : Nat) (hn100 : n ≤ 100000) (w : World) (h : CuX w0 c v N w) :
    Calls Tryd.prog 117 #[.pointer (some ⟨c, 0, none⟩), .int .i64 n] w fun e w' => ∃ (t : ByteArray), e = .returned (.string t) ∧ t.size = n ∧ DX w0 c v N w w' := by
  obtain ⟨⟨L, hL, rfl⟩, hn⟩ := hD
  obtain ⟨st, h⟩ := h
  refine (l01Text_any w0 c v L hL hn n hn100 st w h).mono ?_
  rintro e w' ⟨t, m, rfl, h0, hc, ht⟩
  exact ⟨t, rfl, h0, ⟨_, hc⟩, ht⟩
set_option maxHeartbeats 4000000 in
theorem l01Some_any (w0 : World) (c : Nat) (v : Value) (N : Nat) (hD : Drw w0 v N) (w : World) (h : CuX w0 c v N w) :
    Calls Tryd.prog 119 #[.pointer (some ⟨c, 0, none⟩)] w fun e w' => ∃ (t : ByteArray), e = .returned (.string t) ∧ t.size ≤ 16 ∧ DX w0 c v N w w' := by
  have BL := Lib.hid (Below1_any w0 c v N hD 5 (by unfold In64; omega) w h)
  have PK := Lib.hid (fun (W : World) (h : CuX w0 c v N W) => PickS_any w0 c v N hD 4 [⟨#[97]⟩, ⟨#[98]⟩, ⟨#[110, 97, 109, 101]⟩, ⟨#[34]⟩, ⟨#[92]⟩, ⟨#[10]⟩, ⟨#[1]⟩, ⟨#[195, 169]⟩, ⟨#[226, 130, 172]⟩, ⟨#[240, 159, 152, 128]⟩, ⟨#[47]⟩, ⟨#[48]⟩, ⟨#[32]⟩] 9 (by decide) (by decide) 13 13 rfl W h _ rfl)
  clear h hD
  go_enter Tryd.func119, Tryd.ntmps119
  go_wp2_with fail
  refine BL.out.mono ?_
  rintro e1 w1 ⟨k, rfl, hk0, hk1, hd1⟩
  have HD1 := Lib.hid hd1
  clear hd1
  have hk5 : k < 5 := by omega
  clear hk1
  go_wp2_with fail
  go_loopw [3, 5] (fun tt ii wr => ∃ (i : Nat) (t : ByteArray), tt = .string t ∧ ii = .int .i64 i ∧ (i : Int) ≤ k ∧ t.size ≤ 4 * i ∧ DX w0 c v N w wr) (fun _ ii _ => (k - intOf ii).toNat)
  case atStart => exact ⟨0, _, rfl, rfl, by omega, by simp [ByteArray.size], HD1.out⟩
  case round =>
    obtain ⟨i, t, rfl, rfl, hik, ht, hd2⟩ := hrel
    have HD2 := Lib.hid hd2
    clear hd2
    by_cases hik2 : (i : Int) < k
    · go_wp2_with fail
      refine (PK.out wr HD2.out.1).mono ?_
      rintro e3 w3 ⟨z, rfl, hz, hd3⟩
      have HD3 := Lib.hid (HD2.out.trans hd3)
      clear hd3
      go_wp2_with fail
      go_roundw
      case rel => exact ⟨i + 1, _, rfl, by push_cast; rfl, by omega, by rw [ByteArray.size_append]; omega, HD3.out⟩
      case measure => simp only [intOf]; omega
    · go_wp2_with fail
      go_ret
      exact ⟨_, rfl, by omega, HD2.out⟩
def DVal (w0 : World) (c : Nat) (v : Value) (N B : Nat) (w : World) (e : Ending) (w' : World) : Prop :=
  ∃ (t : V) (sl : Value) (G : Nat → Prop), e = .returned (t.agg sl) ∧ t.wf ∧ t.sz ≤ B ∧ PRow w' w.heap.size G sl t.kids ∧ (∀ x, G x → w.heap.size ≤ x) ∧ DX w0 c v N w w'
theorem DVal.leaf {w0 w w' : World} {c N B : Nat} {v : Value} (k n e : Int) (s : ByteArray) (hk : In64 k) (hn : In64 n) (he : In64 e) (hs : s.size ≤ B) (hB : B ≤ 1000000) (h : DX w0 c v N w w') :
    DVal w0 c v N B w (.returned (.agg #[.int .i64 k, .int .i64 n, .int .i64 e, .string s, .slice none 0 0])) w' :=
  ⟨.mk k n e s [], .slice none 0 0, fun _ => False, rfl, ⟨hk, hn, he, by show s.size ≤ _; omega⟩, by rw [V.sz, szs]; omega, PRow.nil _ _, fun _ h => h.elim, h⟩
theorem PRow.low {w : World} {b b' : Nat} {G : Nat → Prop} {v : Value} {ts : List V} (h : PRow w b G v ts) (hb : b' ≤ b) : PRow w b' G v ts := by
  obtain ⟨sls, h⟩ := h
  refine ⟨sls, ⟨⟨h.row.1, ?_⟩, h.len, h.wfs, h.kids, h.own, h.inG⟩⟩
  rcases h.row.2 with h2 | ⟨g, cap, cur, hv, hbg, rest⟩
  · exact .inl h2
  · exact .inr ⟨g, cap, cur, hv, Nat.le_trans hb hbg, rest⟩
theorem PRow.set5 {w : World} {b z : Nat} {G : Nat → Prop} {v : Value} {ts : List V} (h : PRow w b G v ts) (hz : z < b) (hG : ∀ x, G x → z < x) (v0 v1 v2 v3 v4 : Value) : PRow (Go.Proofs.YtppmoajoffeleaaDoor.set5 w z v0 v1 v2 v3 v4) b G v ts := by
  refine h.keep (by rw [size_set5]; exact Nat.le_refl _) (fun x hx _ => heap_set5 _ _ _ _ _ _ _ _ ?_)
  rcases hx with hx | hx
  · have := hG x hx; omega
  · have := (h.lt x hx).1; omega
theorem PRow.over {w w' : World} {b c : Nat} {G : Nat → Prop} {v : Value} {ts : List V} (h : PRow w b G v ts) (hG : ∀ x, G x → b ≤ x) (ht : Touch (fun x => x = c) (fun x => x = c) w w') (hc : c < b) : PRow w' b G v ts := by
  refine h.keep ht.size (fun x hx hxs => ht.block x hxs ?_)
  rcases hx with hx | hx
  · have := hG x hx; omega
  · have := (h.lt x hx).1; omega
theorem DX.cell {w0 w W : World} {c N b i : Nat} {v u : Value} (h : DX w0 c v N w W) (hb : w.heap.size ≤ b) (hc : c < w.heap.size) : DX w0 c v N w (W.setCell ⟨b, i, none⟩ u) := by
  have e : (W.setCell ⟨b, i, none⟩ u).heap[c]? = W.heap[c]? := heap_setCell_other _ _ _ _ (by show ¬ c = b; omega)
  refine ⟨h.1.over e ?_, ?_⟩
  · have hB := h.1.below
    have := h.1.hc
    exact ⟨hB.os, hB.tape, hB.output, by simpa using hB.size, fun k hk => (heap_setCell_other _ _ _ _ (by show ¬ k = b; omega)).trans (hB.block k hk)⟩
  · exact ⟨h.2.os, h.2.tape, h.2.output, by simpa using h.2.size, fun x hx hn => (heap_setCell_other _ _ _ _ (by show ¬ x = b; omega)).trans (h.2.block x hx hn), h.2.new⟩
theorem Box.overC {W W' : World} {b c : Nat} {k n e : Int} {s : ByteArray} {sl : Value} {T : TypeId} (h : Box W b k n e s sl T) (ht : Touch (fun x => x = c) (fun x => x = c) W W') (hbc : ¬ b = c) : Box W' b k n e s sl T := (ht.block b (lt_of_heap h) hbc).trans h
set_option maxHeartbeats 8000000 in
theorem l02Leaf_any (w0 : World) (c : Nat) (v : Value) (N : Nat) (hD : Drw w0 v N) (pl : Bool) (w : World) (h : CuX w0 c v N w) :
    Calls Tryd.prog 92 #[.pointer (some ⟨c, 0, none⟩), .bool pl] w (DVal w0 c v N 20 w) := by
  have BL := Lib.hid (fun (q : Int) (hq : In64 q) (W : World) (h : CuX w0 c v N W) => Below1_any w0 c v N hD q hq W h)
  have PK := Lib.hid (fun (W : World) (h : CuX w0 c v N W) => PickS_any w0 c v N hD 20 [⟨#[99, 111, 109, 109, 111, 110, 32, 118, 97, 108, 117, 101]⟩, ⟨#[99, 111, 109, 109, 111, 110, 32, 118, 97, 108]⟩, ⟨#[97, 110, 111, 116, 104, 101, 114, 32, 99, 111, 109, 109, 111, 110, 32, 118, 97, 108, 117, 101]⟩, ⟨#[120]⟩, ⟨#[]⟩] 9 (by decide) (by decide) 5 5 rfl W h _ rfl)
  have PA := Lib.hid (fun (W : World) (h : CuX w0 c v N W) => PickI_any w0 c v N hD [15, -3, 1, 9007199254740993, -999999999999999999] 3 (by unfold In64; decide) (by decide) 5 5 rfl W h _ rfl)
  have PE := Lib.hid (fun (W : World) (h : CuX w0 c v N W) => PickI_any w0 c v N hD [-1, -2, 19, 20, -20] 3 (by unfold In64; decide) (by decide) 5 5 rfl W h _ rfl)
  have PI := Lib.hid (fun (z : Int) (hz : 0 ≤ z ∧ z ≤ 1000) (W : World) (h : CuX w0 c v N W) => PickI_any w0 c v N hD [0, 1, 23, 24, 255, 256, 65535, 65536, 4294967295, 4294967296, -1, -24, -25, -256, -257, 9223372036854775807, -9223372036854775808, z] 3 (by unfold In64; intro y hy; simp at hy; omega) (by simp) 18 18 rfl W h _ rfl)
  have TX := Lib.hid (fun (n : Nat) (hn : n ≤ 100000) (W : World) (h : CuX w0 c v N W) => Text_any w0 c v N hD n hn W h)
  have SO := Lib.hid (fun (W : World) (h : CuX w0 c v N W) => l01Some_any w0 c v N hD W h)
  have BZ := Lib.hid (Box.new w 0 0 0 ⟨#[]⟩ (.slice none 0 0) 26)
  have hcw := h.lt
  have HD0 := Lib.hid (show DX w0 c v N w (w.alloc (.cells #[.int .i64 0, .int .i64 0, .int .i64 0, .string ⟨#[]⟩, .slice none 0 0] 26)) from (DX.refl h).stay ((Below.refl _ _).alloc (Nat.le_refl _) _))
  have hnc : ¬ w.heap.size = c := by omega
  clear h hD
  go_enter Tryd.func92, Tryd.ntmps92
  go_wp2_with fail
  generalize (w.alloc (.cells #[.int .i64 0, .int .i64 0, .int .i64 0, .string ⟨#[]⟩, .slice none 0 0] 26)) = W0 at *
  refine (BL.out 9 (by unfold In64; omega) W0 HD0.out.1).mono ?_
  rintro e1 w1 ⟨x, rfl, hx0, hx1, hd1⟩
  have HD1 := Lib.hid (HD0.out.trans hd1)
  have BZ1 := Lib.hid (BZ.out.overC hd1.2 hnc)
  clear hd1
  have hx9 : x = 0 ∨ x = 1 ∨ (x = 2 ∧ pl = true) ∨ (x = 2 ∧ pl = false) ∨ x = 3 ∨ x = 4 ∨ x = 5 ∨ (¬ x = 0 ∧ ¬ x = 1 ∧ ¬ x = 2 ∧ ¬ x = 3 ∧ ¬ x = 4 ∧ ¬ x = 5) := by cases pl <;> simp <;> omega
  clear hx0 hx1
  rcases hx9 with rfl | rfl | ⟨rfl, rfl⟩ | ⟨rfl, rfl⟩ | rfl | rfl | rfl | ⟨h0, h1, h2, h3, h4, h5⟩
  · go_wp2_with fail
    refine (BL.out 3 (by unfold In64; omega) w1 HD1.out.1).mono ?_
    rintro e2 w2 ⟨y, rfl, hy0, hy1, hd2⟩
    have HD2 := Lib.hid (HD1.out.trans hd2)
    have BZ2 := Lib.hid (BZ1.out.overC hd2.2 hnc)
    clear hd2
    have HY := Lib.hid (show In64 y by unfold In64; omega)
    clear hy0 hy1
    obtain ⟨z0, z1, z2, z3, z4⟩ := BZ2.out.cells
    have zf0 := BZ2.out.free (i := 0); have zf1 := BZ2.out.free (i := 1); have zf2 := BZ2.out.free (i := 2); have zf3 := BZ2.out.free (i := 3); have zf4 := BZ2.out.free (i := 4)
    go_wp2_with fail
    exact bodyPost_ret (v := .agg #[.int .i64 y, .int .i64 0, .int .i64 0, .string ⟨#[]⟩, .slice none 0 0]) (by simp [results, Tryd.results92, go_sem, z0, z1, z2, z3, z4]) rfl (DVal.leaf _ _ _ _ HY.out in0 in0 (by simp [ByteArray.size]) (by omega) (((((HD2.out.cell (Nat.le_refl _) hcw).cell (Nat.le_refl _) hcw).cell (Nat.le_refl _) hcw).cell (Nat.le_refl _) hcw).cell (Nat.le_refl _) hcw))
  · go_wp2_with fail
    refine (PA.out w1 HD1.out.1).mono ?_
    rintro e2 w2 ⟨y, rfl, hy, hd2⟩
    have HD2 := Lib.hid (HD1.out.trans hd2)
    have BZ2 := Lib.hid (BZ1.out.overC hd2.2 hnc)
    clear hd2
    have HY := Lib.hid hy
    clear hy
    go_wp2_with fail
    refine (PE.out w2 HD2.out.1).mono ?_
    rintro e3 w3 ⟨x, rfl, hx, hd3⟩
    have HD3 := Lib.hid (HD2.out.trans hd3)
    have BZ3 := Lib.hid (BZ2.out.overC hd3.2 hnc)
    clear hd3
    have HX := Lib.hid hx
    clear hx
    obtain ⟨z0, z1, z2, z3, z4⟩ := BZ3.out.cells
    have zf0 := BZ3.out.free (i := 0); have zf1 := BZ3.out.free (i := 1); have zf2 := BZ3.out.free (i := 2); have zf3 := BZ3.out.free (i := 3); have zf4 := BZ3.out.free (i := 4)
    go_wp2_with fail
    exact bodyPost_ret (v := .agg #[.int .i64 4, .int .i64 y, .int .i64 x, .string ⟨#[]⟩, .slice none 0 0]) (by simp [results, Tryd.results92, go_sem, z0, z1, z2, z3, z4]) rfl (DVal.leaf _ _ _ _ (by unfold In64; omega) HY.out HX.out (by simp [ByteArray.size]) (by omega) (((((HD3.out.cell (Nat.le_refl _) hcw).cell (Nat.le_refl _) hcw).cell (Nat.le_refl _) hcw).cell (Nat.le_refl _) hcw).cell (Nat.le_refl _) hcw))
  · go_wp2_with fail
    refine (BL.out 1000 (by unfold In64; omega) w1 HD1.out.1).mono ?_
    rintro e2 w2 ⟨y, rfl, hy0, hy1, hd2⟩
    have HD2 := Lib.hid (HD1.out.trans hd2)
    have BZ2 := Lib.hid (BZ1.out.overC hd2.2 hnc)
    clear hd2
    have hy : 0 ≤ y ∧ y ≤ 1000 := by omega
    clear hy0 hy1
    go_wp2_with fail
    refine (PI.out y hy w2 HD2.out.1).mono ?_
    rintro e3 w3 ⟨x, rfl, hx, hd3⟩
    have HD3 := Lib.hid (HD2.out.trans hd3)
    have BZ3 := Lib.hid (BZ2.out.overC hd3.2 hnc)
    clear hd3
    have HX := Lib.hid hx
    clear hx
    go_wp2_with fail
    refine (l02Int_any x w3).mono ?_
    rintro e4 w4 ⟨rfl, hd4⟩
    have HD4 := Lib.hid (HD3.out.stay hd4)
    have BZ4 := Lib.hid (BZ3.out.stay hd4)
    clear hd4
    obtain ⟨z0, z1, z2, z3, z4⟩ := BZ4.out.cells
    have zf0 := BZ4.out.free (i := 0); have zf1 := BZ4.out.free (i := 1); have zf2 := BZ4.out.free (i := 2); have zf3 := BZ4.out.free (i := 3); have zf4 := BZ4.out.free (i := 4)
    go_wp2_with fail
    exact bodyPost_ret (v := .agg #[.int .i64 3, .int .i64 x, .int .i64 0, .string ⟨#[]⟩, .slice none 0 0]) (by simp [results, Tryd.results92, go_sem, z0, z1, z2, z3, z4]) rfl (DVal.leaf _ _ _ _ in3 HX.out in0 (by simp [ByteArray.size]) (by omega) (((((HD4.out.cell (Nat.le_refl _) hcw).cell (Nat.le_refl _) hcw).cell (Nat.le_refl _) hcw).cell (Nat.le_refl _) hcw).cell (Nat.le_refl _) hcw))
  · go_wp2_with fail
    refine (BL.out 8 (by unfold In64; omega) w1 HD1.out.1).mono ?_
    rintro e2 w2 ⟨y, rfl, hy0, hy1, hd2⟩
    have HD2 := Lib.hid (HD1.out.trans hd2)
    have BZ2 := Lib.hid (BZ1.out.overC hd2.2 hnc)
    clear hd2
    obtain ⟨y, rfl⟩ : ∃ y2 : Nat, y = y2 := ⟨y.toNat, by omega⟩
    have hy : y ≤ 8 := by omega
    clear hy0 hy1
    go_wp2_with fail
    refine (TX.out y (by omega) w2 HD2.out.1).mono ?_
    rintro e3 w3 ⟨t, rfl, ht, hd3⟩
    have HD3 := Lib.hid (HD2.out.trans hd3)
    have BZ3 := Lib.hid (BZ2.out.overC hd3.2 hnc)
    clear hd3
    obtain ⟨z0, z1, z2, z3, z4⟩ := BZ3.out.cells
    have zf0 := BZ3.out.free (i := 0); have zf1 := BZ3.out.free (i := 1); have zf2 := BZ3.out.free (i := 2); have zf3 := BZ3.out.free (i := 3); have zf4 := BZ3.out.free (i := 4)
    go_wp2_with fail
    exact bodyPost_ret (v := .agg #[.int .i64 6, .int .i64 0, .int .i64 0, .string t, .slice none 0 0]) (by simp [results, Tryd.results92, go_sem, z0, z1, z2, z3, z4]) rfl (DVal.leaf _ _ _ _ (by unfold In64; omega) in0 in0 (by omega) (by omega) (((((HD3.out.cell (Nat.le_refl _) hcw).cell (Nat.le_refl _) hcw).cell (Nat.le_refl _) hcw).cell (Nat.le_refl _) hcw).cell (Nat.le_refl _) hcw))
  · go_wp2_with fail
    refine (PK.out w1 HD1.out.1).mono ?_
    rintro e2 w2 ⟨t, rfl, ht, hd2⟩
    have HD2 := Lib.hid (HD1.out.trans hd2)
    have BZ2 := Lib.hid (BZ1.out.overC hd2.2 hnc)
    clear hd2
    go_wp2_with fail
    refine (l02Str_any t w2).mono ?_
    rintro e3 w3 ⟨rfl, hd3⟩
    have HD3 := Lib.hid (HD2.out.stay hd3)
    have BZ3 := Lib.hid (BZ2.out.stay hd3)
    clear hd3
    obtain ⟨z0, z1, z2, z3, z4⟩ := BZ3.out.cells
    have zf0 := BZ3.out.free (i := 0); have zf1 := BZ3.out.free (i := 1); have zf2 := BZ3.out.free (i := 2); have zf3 := BZ3.out.free (i := 3); have zf4 := BZ3.out.free (i := 4)
    go_wp2_with fail
    exact bodyPost_ret (v := .agg #[.int .i64 5, .int .i64 0, .int .i64 0, .string t, .slice none 0 0]) (by simp [results, Tryd.results92, go_sem, z0, z1, z2, z3, z4]) rfl (DVal.leaf _ _ _ _ (by unfold In64; omega) in0 in0 ht (by omega) (((((HD3.out.cell (Nat.le_refl _) hcw).cell (Nat.le_refl _) hcw).cell (Nat.le_refl _) hcw).cell (Nat.le_refl _) hcw).cell (Nat.le_refl _) hcw))
  · go_wp2_with fail
    refine (PK.out w1 HD1.out.1).mono ?_
    rintro e2 w2 ⟨t, rfl, ht, hd2⟩
    have HD2 := Lib.hid (HD1.out.trans hd2)
    have BZ2 := Lib.hid (BZ1.out.overC hd2.2 hnc)
    clear hd2
    go_wp2_with fail
    refine (l02Str_any t w2).mono ?_
    rintro e3 w3 ⟨rfl, hd3⟩
    have HD3 := Lib.hid (HD2.out.stay hd3)
    have BZ3 := Lib.hid (BZ2.out.stay hd3)
    clear hd3
    obtain ⟨z0, z1, z2, z3, z4⟩ := BZ3.out.cells
    have zf0 := BZ3.out.free (i := 0); have zf1 := BZ3.out.free (i := 1); have zf2 := BZ3.out.free (i := 2); have zf3 := BZ3.out.free (i := 3); have zf4 := BZ3.out.free (i := 4)
    go_wp2_with fail
    exact bodyPost_ret (v := .agg #[.int .i64 5, .int .i64 0, .int .i64 0, .string t, .slice none 0 0]) (by simp [results, Tryd.results92, go_sem, z0, z1, z2, z3, z4]) rfl (DVal.leaf _ _ _ _ (by unfold In64; omega) in0 in0 ht (by omega) (((((HD3.out.cell (Nat.le_refl _) hcw).cell (Nat.le_refl _) hcw).cell (Nat.le_refl _) hcw).cell (Nat.le_refl _) hcw).cell (Nat.le_refl _) hcw))
  · go_wp2_with fail
    refine (SO.out w1 HD1.out.1).mono ?_
    rintro e2 w2 ⟨t, rfl, ht, hd2⟩
    have HD2 := Lib.hid (HD1.out.trans hd2)
    have BZ2 := Lib.hid (BZ1.out.overC hd2.2 hnc)
    clear hd2
    go_wp2_with fail
    refine (l02Str_any t w2).mono ?_
    rintro e3 w3 ⟨rfl, hd3⟩
    have HD3 := Lib.hid (HD2.out.stay hd3)
    have BZ3 := Lib.hid (BZ2.out.stay hd3)
    clear hd3
    obtain ⟨z0, z1, z2, z3, z4⟩ := BZ3.out.cells
    have zf0 := BZ3.out.free (i := 0); have zf1 := BZ3.out.free (i := 1); have zf2 := BZ3.out.free (i := 2); have zf3 := BZ3.out.free (i := 3); have zf4 := BZ3.out.free (i := 4)
    go_wp2_with fail
    exact bodyPost_ret (v := .agg #[.int .i64 5, .int .i64 0, .int .i64 0, .string t, .slice none 0 0]) (by simp [results, Tryd.results92, go_sem, z0, z1, z2, z3, z4]) rfl (DVal.leaf _ _ _ _ (by unfold In64; omega) in0 in0 (by omega) (by omega) (((((HD3.out.cell (Nat.le_refl _) hcw).cell (Nat.le_refl _) hcw).cell (Nat.le_refl _) hcw).cell (Nat.le_refl _) hcw).cell (Nat.le_refl _) hcw))
  · go_wp2_with fail
    refine (BL.out 1000 (by unfold In64; omega) w1 HD1.out.1).mono ?_
    rintro e2 w2 ⟨y, rfl, hy0, hy1, hd2⟩
    have HD2 := Lib.hid (HD1.out.trans hd2)
    have BZ2 := Lib.hid (BZ1.out.overC hd2.2 hnc)
    clear hd2
    have hy : 0 ≤ y ∧ y ≤ 1000 := by omega
    clear hy0 hy1
    go_wp2_with fail
    refine (PI.out y hy w2 HD2.out.1).mono ?_
    rintro e3 w3 ⟨x, rfl, hx, hd3⟩
    have HD3 := Lib.hid (HD2.out.trans hd3)
    have BZ3 := Lib.hid (BZ2.out.overC hd3.2 hnc)
    clear hd3
    have HX := Lib.hid hx
    clear hx
    go_wp2_with fail
    refine (l02Int_any x w3).mono ?_
    rintro e4 w4 ⟨rfl, hd4⟩
    have HD4 := Lib.hid (HD3.out.stay hd4)
    have BZ4 := Lib.hid (BZ3.out.stay hd4)
    clear hd4
    obtain ⟨z0, z1, z2, z3, z4⟩ := BZ4.out.cells
    have zf0 := BZ4.out.free (i := 0); have zf1 := BZ4.out.free (i := 1); have zf2 := BZ4.out.free (i := 2); have zf3 := BZ4.out.free (i := 3); have zf4 := BZ4.out.free (i := 4)
    go_wp2_with fail
    exact bodyPost_ret (v := .agg #[.int .i64 3, .int .i64 x, .int .i64 0, .string ⟨#[]⟩, .slice none 0 0]) (by simp [results, Tryd.results92, go_sem, z0, z1, z2, z3, z4]) rfl (DVal.leaf _ _ _ _ in3 HX.out in0 (by simp [ByteArray.size]) (by omega) (((((HD4.out.cell (Nat.le_refl _) hcw).cell (Nat.le_refl _) hcw).cell (Nat.le_refl _) hcw).cell (Nat.le_refl _) hcw).cell (Nat.le_refl _) hcw))
end Go.Proofs.YtppmoajoffeleaaDoor
