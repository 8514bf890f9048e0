/- Lemmas for the statement of the last text of this claim: texts joined. -/
import Derived.Test.YtaphlemmlmdkiaaDoorRm02
import Derived.Test.YtaphlemmlmdkiaaDoorRm05
import Derived.Test.YtaphlemmlmdkiaaDoorRm06
import Derived.Deep.RegionLaw
import Derived.WalkSpells
import Derived.Lib.Hide
namespace Go.Proofs.YtaphlemmlmdkiaaDoor
set_option linter.unusedSimpArgs false
set_option linter.unusedVariables false
set_option maxRecDepth 100000
open Go.RowKit Go.Shelf
def VBR (w : World) (y : V) (b : Bool) (e : Ending) (w' : World) : Prop := ∃ sl, e = .returned (.tuple #[y.agg sl, .bool b]) ∧ y.wf ∧ OwnS w' (fun x => w.heap.size ≤ x) sl y.kids ∧ Below w.heap.size w w'
theorem vb_fin {w w1 w2 : World} {z : Nat} {y : V} {sl : Value} {b : Bool} (ywf : y.wf) (ho : OwnS w2 (fun x => w1.heap.size ≤ x) sl y.kids) (h0 : w.heap.size ≤ z) (h1 : z < w1.heap.size) (hb : Below w.heap.size w w2) (v0 v1 v2 v3 v4 : Value) :
    VBR w y b (.returned (.tuple #[y.agg sl, .bool b])) (set5 w2 z v0 v1 v2 v3 v4) :=
  ⟨sl, rfl, ywf, (ho.set5 z (by omega) v0 v1 v2 v3 v4).mono (fun x hx => by omega), hb.trans ((below_set5 w2 z _ _ _ _ _).mono h0)⟩
theorem rem_by (w0 : World) (hE : EnvD w0) : CBy w0 38 #[] (fun t s => rmv t [s]) :=
  ⟨enters_of Tryd.func38 (by kernel_rfl) rfl, fun s t sl W hs hwf hsz hr hW => without_any w0 sl t hwf hr (by have := szs_length t.kids; have := V.sz_eq t; omega) s hs W hW (hE.keep hW)⟩
set_option maxHeartbeats 4000000 in
theorem Remove_impl (w0 : World) (v : Value) (t : V) (h : Rep w0 v t) (hsz : t.sz ≤ 1048576) (v1 : Value) (l : List ByteArray) (h1 : RepSs w0 v1 l) (hl : szl l ≤ 1048576) (w : World) (hw : Below w0.heap.size w0 w) (hE : EnvD w0) :
    Calls Tryd.prog 17 #[v, v1] w (VBR w ((remP t l).getD t) (remP t l).isSome) := by
  have VO := Lib.hid (fun (W : World) (hW : Below w.heap.size w W) => ValueOk_impl w0 hE.env v t h hsz W (hw.trans (hW.mono hw.size)))
  have CO := Lib.hid (fun (W : World) (hW : Below w.heap.size w W) => own_any w0 v t h hsz W (hw.trans (hW.mono hw.size)))
  have AS := Lib.hid (fun (W : World) (hW : Below w.heap.size w W) => areSteps_any w0 hE.env v1 l h1 W (hw.trans (hW.mono hw.size)))
  have HREM := Lib.hid (show remP t l = if stepsOk l = true ∧ l ≠ [] ∧ okT t = true then rmv t l else none from rfl)
  have TU := Lib.hid (show l ≠ [] → ∀ (sl : Value) (W : World), t.wf → RepS w0 sl t.kids → Below w.heap.size w W → Calls Tryd.prog 37 #[t.agg sl, v1, .func (.func 38) #[] #[]] W (OptRet w0.heap.size (rmv t l) W) from fun hne sl W g1 g2 g3 => by
    cases l with
    | nil => exact absurd rfl hne
    | cons s r => rw [rmv_turn]; exact turn_any w0 hE _ _ _ (rem_by w0 hE) r s t sl v1 W (fun x hx => Nat.le_trans (szl_mem hx) hl) (by have := szl_length (s :: r); simp at this; omega) g1 hsz g2 h1 (hw.trans (g3.mono hw.size)))
  have HSZ := Lib.hid (fun (y : V) (ho : okT t = true) (hr : rmv t l = some y) => ok_sz (rmv_ok ho hr).1)
  have hll := szl_length l
  obtain ⟨sl, rfl, hwf, hr⟩ := h
  obtain ⟨sa, sc, rfl⟩ := hr.slice
  have TU2 := Lib.hid (fun (hne : l ≠ []) (W : World) (hW : Below w.heap.size w W) => TU.out hne (.slice sa t.kids.length sc) W hwf hr hW)
  have hws := hw.size
  clear TU hr hwf hsz hE hw hl
  have BX := Lib.hid ((Box.new w t.k t.n t.e t.s (.slice sa t.kids.length sc) 30).alloc (.cells #[.int .i64 0, .int .i64 0, .int .i64 0, .string ⟨#[]⟩, .slice none 0 0] 30))
  have BZ := Lib.hid (Box.new (w.alloc (.cells #[.int .i64 t.k, .int .i64 t.n, .int .i64 t.e, .string t.s, .slice sa t.kids.length sc] 30)) 0 0 0 ⟨#[]⟩ (.slice none 0 0) 30)
  obtain ⟨W0, hW0⟩ : ∃ W0, W0 = (w.alloc (.cells #[.int .i64 t.k, .int .i64 t.n, .int .i64 t.e, .string t.s, .slice sa t.kids.length sc] 30)).alloc (.cells #[.int .i64 0, .int .i64 0, .int .i64 0, .string ⟨#[]⟩, .slice none 0 0] 30) := ⟨_, rfl⟩
  have hz0 : W0.heap.size = w.heap.size + 2 := by rw [hW0]; simp
  have HB0 := Lib.hid (show Below w.heap.size w W0 from by rw [hW0]; exact (by (with_reducible (repeat' (first | exact Below.refl _ _ | refine below_alloc ?_ _ ?_ | refine Below.setCell ?_ ?_ _ | refine Below.drew ?_ | refine Go.below_drewN ?_ _ | refine below_step ?_ (by assumption) ?_ | refine below_mark ?_ (by assumption) ?_))); all_goals (first | omega | (simp; done) | (simp; omega))))
  rw [← hW0] at BX BZ
  rw [show (w.alloc (.cells #[.int .i64 t.k, .int .i64 t.n, .int .i64 t.e, .string t.s, .slice sa t.kids.length sc] 30)).heap.size = w.heap.size + 1 by simp] at BZ
  generalize remP t l = R at *
  generalize rmv t l = R2 at *
  unfold V.agg at VO CO TU2
  generalize stepsOk l = a at *
  generalize okT t = b at *
  obtain ⟨s0, s1, s2, s3, rfl, -, -, -, -⟩ := h1
  have HNE := Lib.hid (show ¬ (l.length = 0) → l ≠ [] from fun h e => h (by rw [e]; rfl))
  have HNI := Lib.hid (show l.length = 0 → l = [] from List.length_eq_zero_iff.1)
  generalize l.length = n at *
  unfold V.agg
  go_enter Tryd.func17, Tryd.ntmps17
  go_upto_region 1 with fail
  rw [← hW0]
  clear hW0
  go_wp2_with fail
  refine (AS.out _ HB0.out).mono ?_
  rintro e1 w1 ⟨rfl, hb1⟩
  have HB1 := Lib.hid (HB0.out.trans (hb1.mono (by omega)))
  have BX1 := Lib.hid (BX.out.stay hb1)
  have BZ1 := Lib.hid (BZ.out.stay hb1)
  have hz1 := hb1.size
  clear hb1 AS BX BZ
  cases a with
  | false =>
    have HRN := Lib.hid (show R = none from by rw [HREM.out]; exact if_neg (fun h => by cases h.1))
    obtain ⟨p0, p1, p2, p3, p4⟩ := BX1.out.cells
    clear TU2 VO HREM
    go_wp2_with fail
    refine (CO.out _ HB1.out).mono ?_
    rintro e9 w9 ⟨sl9, rfl, ywf, yo, hb9⟩
    obtain ⟨ua, un, uc, rfl⟩ : ∃ ua un uc, sl9 = .slice ua un uc := (by obtain ⟨p, q, e⟩ := yo.slice; exact ⟨p, _, q, e⟩)
    have HB9 := Lib.hid (show Below w.heap.size w w9 from HB1.out.trans (hb9.mono (by omega)))
    obtain ⟨z0, z1, z2, z3, z4⟩ := Box.cells (BZ1.out.stay hb9)
    have zf0 := Box.free (i := 0) (BZ1.out.stay hb9); have zf1 := Box.free (i := 1) (BZ1.out.stay hb9); have zf2 := Box.free (i := 2) (BZ1.out.stay hb9); have zf3 := Box.free (i := 3) (BZ1.out.stay hb9); have zf4 := Box.free (i := 4) (BZ1.out.stay hb9)
    have HF := Lib.hid (fun (v0 v1 v2 v3 v4 : Value) => show VBR w (R.getD t) R.isSome (.returned (.tuple #[t.agg (.slice ua un uc), .bool false])) (set5 w9 (w.heap.size + 1) v0 v1 v2 v3 v4) from by
      rw [HRN.out]
      exact vb_fin ywf yo (by omega) (by omega) HB9.out v0 v1 v2 v3 v4)
    unfold V.agg at HF ⊢
    clear yo ywf hb9
    go_wp2_with fail
    exact bodyPost_ret (v := .tuple #[.agg #[.int .i64 t.k, .int .i64 t.n, .int .i64 t.e, .string t.s, .slice ua un uc], .bool false]) (by simp [results, Tryd.results17, go_sem, z0, z1, z2, z3, z4]) rfl (HF.out _ _ _ _ _)
  | true =>
    by_cases hn : n = 0
    · have hn2 : (n : Int) = 0 := by omega
      have HPF := Lib.hid (HNI.out hn)
      clear hn
      have HRN := Lib.hid (show R = none from by rw [HREM.out]; exact if_neg (fun h => h.2.1 HPF.out))
      obtain ⟨p0, p1, p2, p3, p4⟩ := BX1.out.cells
      clear TU2 VO HREM
      go_wp2_with fail
      refine (CO.out _ HB1.out).mono ?_
      rintro e9 w9 ⟨sl9, rfl, ywf, yo, hb9⟩
      obtain ⟨ua, un, uc, rfl⟩ : ∃ ua un uc, sl9 = .slice ua un uc := (by obtain ⟨p, q, e⟩ := yo.slice; exact ⟨p, _, q, e⟩)
      have HB9 := Lib.hid (show Below w.heap.size w w9 from HB1.out.trans (hb9.mono (by omega)))
      obtain ⟨z0, z1, z2, z3, z4⟩ := Box.cells (BZ1.out.stay hb9)
      have zf0 := Box.free (i := 0) (BZ1.out.stay hb9); have zf1 := Box.free (i := 1) (BZ1.out.stay hb9); have zf2 := Box.free (i := 2) (BZ1.out.stay hb9); have zf3 := Box.free (i := 3) (BZ1.out.stay hb9); have zf4 := Box.free (i := 4) (BZ1.out.stay hb9)
      have HF := Lib.hid (fun (v0 v1 v2 v3 v4 : Value) => show VBR w (R.getD t) R.isSome (.returned (.tuple #[t.agg (.slice ua un uc), .bool false])) (set5 w9 (w.heap.size + 1) v0 v1 v2 v3 v4) from by
        rw [HRN.out]
        exact vb_fin ywf yo (by omega) (by omega) HB9.out v0 v1 v2 v3 v4)
      unfold V.agg at HF ⊢
      clear yo ywf hb9
      go_wp2_with fail
      exact bodyPost_ret (v := .tuple #[.agg #[.int .i64 t.k, .int .i64 t.n, .int .i64 t.e, .string t.s, .slice ua un uc], .bool false]) (by simp [results, Tryd.results17, go_sem, z0, z1, z2, z3, z4]) rfl (HF.out _ _ _ _ _)
    have hP := HNE.out hn
    have tn : ((n : Int) == 0) = false := by rw [beq_eq_false_iff_ne]; omega
    obtain ⟨p0, p1, p2, p3, p4⟩ := BX1.out.cells
    go_wp2_with fail
    refine (VO.out _ HB1.out).mono ?_
    rintro e2 w2 ⟨rfl, hb2⟩
    have HB2 := Lib.hid (HB1.out.trans (hb2.mono (by omega)))
    have BX2 := Lib.hid (BX1.out.stay hb2)
    have BZ2 := Lib.hid (BZ1.out.stay hb2)
    have hz2 := hb2.size
    clear hb2 BX1 BZ1 p0 p1 p2 p3 p4
    cases b with
    | false =>
      have HRN := Lib.hid (show R = none from by rw [HREM.out]; exact if_neg (fun h => by cases h.2.2))
      obtain ⟨p0, p1, p2, p3, p4⟩ := BX2.out.cells
      clear TU2 VO HREM
      go_wp2_with fail
      refine (CO.out _ HB2.out).mono ?_
      rintro e9 w9 ⟨sl9, rfl, ywf, yo, hb9⟩
      obtain ⟨ua, un, uc, rfl⟩ : ∃ ua un uc, sl9 = .slice ua un uc := (by obtain ⟨p, q, e⟩ := yo.slice; exact ⟨p, _, q, e⟩)
      have HB9 := Lib.hid (show Below w.heap.size w w9 from HB2.out.trans (hb9.mono (by omega)))
      obtain ⟨z0, z1, z2, z3, z4⟩ := Box.cells (BZ2.out.stay hb9)
      have zf0 := Box.free (i := 0) (BZ2.out.stay hb9); have zf1 := Box.free (i := 1) (BZ2.out.stay hb9); have zf2 := Box.free (i := 2) (BZ2.out.stay hb9); have zf3 := Box.free (i := 3) (BZ2.out.stay hb9); have zf4 := Box.free (i := 4) (BZ2.out.stay hb9)
      have HF := Lib.hid (fun (v0 v1 v2 v3 v4 : Value) => show VBR w (R.getD t) R.isSome (.returned (.tuple #[t.agg (.slice ua un uc), .bool false])) (set5 w9 (w.heap.size + 1) v0 v1 v2 v3 v4) from by
        rw [HRN.out]
        exact vb_fin ywf yo (by omega) (by omega) HB9.out v0 v1 v2 v3 v4)
      unfold V.agg at HF ⊢
      clear yo ywf hb9
      go_wp2_with fail
      exact bodyPost_ret (v := .tuple #[.agg #[.int .i64 t.k, .int .i64 t.n, .int .i64 t.e, .string t.s, .slice ua un uc], .bool false]) (by simp [results, Tryd.results17, go_sem, z0, z1, z2, z3, z4]) rfl (HF.out _ _ _ _ _)
    | true =>
      have HR2 := Lib.hid (show R = R2 from by rw [HREM.out]; exact if_pos ⟨trivial, hP, rfl⟩)
      obtain ⟨p0, p1, p2, p3, p4⟩ := BX2.out.cells
      have TC := Lib.hid (TU2.out hP w2 HB2.out)
      clear TU2 VO HREM
      cases R2 with
      | none =>
        unfold OptRet at TC
        dsimp only at TC
        skip
        go_wp2_with fail
        refine TC.out.mono ?_
        rintro e3 w3 ⟨rfl, hb3⟩
        skip
        have HB3 := Lib.hid (HB2.out.trans (hb3.mono (by omega)))
        have BX3 := Lib.hid (BX2.out.stay hb3)
        have BZ3 := Lib.hid (BZ2.out.stay hb3)
        have hz3 := hb3.size
        clear hb3 BX2 BZ2 p0 p1 p2 p3 p4 TC
        obtain ⟨p0, p1, p2, p3, p4⟩ := BX3.out.cells
        go_upto_region 4 with fail
        obtain ⟨W4, hW4⟩ : ∃ W4, W4 = w3.alloc (.cells #[.int .i64 0, .int .i64 0, .int .i64 0, .string ⟨#[]⟩, .slice none 0 0] 30) := ⟨_, rfl⟩
        have hz4 : W4.heap.size = w3.heap.size + 1 := by rw [hW4]; simp
        have HB4 := Lib.hid (show Below w.heap.size w W4 from by rw [hW4]; exact HB3.out.alloc (by omega) _)
        have BX4 := Lib.hid (show Box W4 w.heap.size _ _ _ _ _ _ from by rw [hW4]; exact BX3.out.alloc _)
        have BZ4 := Lib.hid (show Box W4 (w.heap.size + 1) _ _ _ _ _ _ from by rw [hW4]; exact BZ3.out.alloc _)
        rw [← hW4]
        clear hW4 p0 p1 p2 p3 p4 BX3 BZ3
        have HRN := HR2
        obtain ⟨p0, p1, p2, p3, p4⟩ := BX4.out.cells
        go_wp2_with fail
        refine (CO.out _ HB4.out).mono ?_
        rintro e9 w9 ⟨sl9, rfl, ywf, yo, hb9⟩
        obtain ⟨ua, un, uc, rfl⟩ : ∃ ua un uc, sl9 = .slice ua un uc := (by obtain ⟨p, q, e⟩ := yo.slice; exact ⟨p, _, q, e⟩)
        have HB9 := Lib.hid (show Below w.heap.size w w9 from HB4.out.trans (hb9.mono (by omega)))
        obtain ⟨z0, z1, z2, z3, z4⟩ := Box.cells (BZ4.out.stay hb9)
        have zf0 := Box.free (i := 0) (BZ4.out.stay hb9); have zf1 := Box.free (i := 1) (BZ4.out.stay hb9); have zf2 := Box.free (i := 2) (BZ4.out.stay hb9); have zf3 := Box.free (i := 3) (BZ4.out.stay hb9); have zf4 := Box.free (i := 4) (BZ4.out.stay hb9)
        have HF := Lib.hid (fun (v0 v1 v2 v3 v4 : Value) => show VBR w (R.getD t) R.isSome (.returned (.tuple #[t.agg (.slice ua un uc), .bool false])) (set5 w9 (w.heap.size + 1) v0 v1 v2 v3 v4) from by
          rw [HRN.out]
          exact vb_fin ywf yo (by omega) (by omega) HB9.out v0 v1 v2 v3 v4)
        unfold V.agg at HF ⊢
        clear yo ywf hb9
        go_wp2_with fail
        exact bodyPost_ret (v := .tuple #[.agg #[.int .i64 t.k, .int .i64 t.n, .int .i64 t.e, .string t.s, .slice ua un uc], .bool false]) (by simp [results, Tryd.results17, go_sem, z0, z1, z2, z3, z4]) rfl (HF.out _ _ _ _ _)
      | some y =>
        unfold OptRet at TC
        dsimp only at TC
        try unfold V.agg at TC
        go_wp2_with fail
        refine TC.out.mono ?_
        rintro e3 w3 ⟨sl5, rfl, ywf, hrep, hb3⟩
        obtain ⟨oa5, oc5, rfl⟩ := hrep.slice
        have HB3 := Lib.hid (HB2.out.trans (hb3.mono (by omega)))
        have BX3 := Lib.hid (BX2.out.stay hb3)
        have BZ3 := Lib.hid (BZ2.out.stay hb3)
        have hz3 := hb3.size
        clear hb3 BX2 BZ2 p0 p1 p2 p3 p4 TC
        have hy9 := HSZ.out y trivial rfl
        go_upto_region 4 with fail
        obtain ⟨W4, hW4⟩ : ∃ W4, W4 = w3.alloc (.cells #[.int .i64 y.k, .int .i64 y.n, .int .i64 y.e, .string y.s, .slice oa5 y.kids.length oc5] 30) := ⟨_, rfl⟩
        have hz4 : W4.heap.size = w3.heap.size + 1 := by rw [hW4]; simp
        have HB4 := Lib.hid (show Below w.heap.size w W4 from by rw [hW4]; exact HB3.out.alloc (by omega) _)
        have BZ4 := Lib.hid (show Box W4 (w.heap.size + 1) _ _ _ _ _ _ from by rw [hW4]; exact BZ3.out.alloc _)
        have BY4 := Lib.hid (show Box W4 w3.heap.size y.k y.n y.e y.s (.slice oa5 y.kids.length oc5) 30 from by rw [hW4]; exact Box.new w3 _ _ _ _ _ _)
        have HY4 := Lib.hid (show Rep W4 (y.agg (.slice oa5 y.kids.length oc5)) y from ⟨_, rfl, ywf, by rw [hW4]; exact hrep.rep.keep ((Below.refl _ _).alloc (Nat.le_refl _) _)⟩)
        rw [← hW4]
        clear hW4 BX3 BZ3 hrep
        obtain ⟨p0, p1, p2, p3, p4⟩ := BY4.out.cells
        have OY := Lib.hid (own_any W4 _ y HY4.out (by omega) W4 (Below.refl _ _))
        unfold V.agg at OY
        clear HY4 ywf
        go_wp2_with fail
        refine (OY.out).mono ?_
        rintro e9 w9 ⟨sl9, rfl, ywf, yo, hb9⟩
        obtain ⟨ua, un, uc, rfl⟩ : ∃ ua un uc, sl9 = .slice ua un uc := (by obtain ⟨p, q, e⟩ := yo.slice; exact ⟨p, _, q, e⟩)
        have HB9 := Lib.hid (show Below w.heap.size w w9 from HB4.out.trans (hb9.mono (by omega)))
        obtain ⟨z0, z1, z2, z3, z4⟩ := Box.cells (BZ4.out.stay hb9)
        have zf0 := Box.free (i := 0) (BZ4.out.stay hb9); have zf1 := Box.free (i := 1) (BZ4.out.stay hb9); have zf2 := Box.free (i := 2) (BZ4.out.stay hb9); have zf3 := Box.free (i := 3) (BZ4.out.stay hb9); have zf4 := Box.free (i := 4) (BZ4.out.stay hb9)
        have HF := Lib.hid (fun (v0 v1 v2 v3 v4 : Value) => show VBR w (R.getD t) R.isSome (.returned (.tuple #[y.agg (.slice ua un uc), .bool true])) (set5 w9 (w.heap.size + 1) v0 v1 v2 v3 v4) from by
          rw [HR2.out]
          exact vb_fin ywf yo (by omega) (by omega) HB9.out v0 v1 v2 v3 v4)
        unfold V.agg at HF ⊢
        clear yo ywf hb9
        go_wp2_with fail
        exact bodyPost_ret (v := .tuple #[.agg #[.int .i64 y.k, .int .i64 y.n, .int .i64 y.e, .string y.s, .slice ua un uc], .bool true]) (by simp [results, Tryd.results17, go_sem, z0, z1, z2, z3, z4]) rfl (HF.out _ _ _ _ _)
end Go.Proofs.YtaphlemmlmdkiaaDoor
namespace Go.Proofs.YtaphlemmlmdkiaaDoor
set_option linter.unusedSimpArgs false
set_option linter.unusedVariables false
set_option maxRecDepth 100000
open Go.RowKit
theorem VRows.setc {w : World} {base : Nat} {E : TypeId} {G : Nat → Prop} {v : Value} {ts : List V} (h : VRows w base E G v ts) (p : Addr) (u : Value) (hp : p.block < base) : VRows (w.setCell p u) base E G v ts :=
  h.move (by simp) (fun x hx => by
    have hb : base ≤ x := hx.elim (fun h1 => (h.inG x h1).1) (fun h1 => (h.lt x h1).1)
    exact heap_setCell_other w p x u (show ¬ x = p.block by omega))
theorem VRows.low {w : World} {B B' : Nat} {E : TypeId} {G : Nat → Prop} {v : Value} {ts : List V} (h : VRows w B E G v ts) (hB : B' ≤ B) : VRows w B' E G v ts := by
  obtain ⟨sls, Fs, h⟩ := h
  refine ⟨sls, Fs, ⟨⟨h.row.1, ?_⟩, h.len, h.wfs, h.kids, h.sub, h.dis, h.own, fun x hx => ⟨Nat.le_trans hB (h.inG x hx).1, (h.inG x hx).2⟩⟩⟩
  rcases h.row.2 with h2 | ⟨g, cap, cur, rfl, hbg, r⟩
  · exact .inl h2
  · exact .inr ⟨g, cap, cur, rfl, by omega, r⟩
theorem VRows.toP {w : World} {B : Nat} {G : Nat → Prop} {v : Value} {ts : List V} (h : VRows w B 30 G v ts) : PRow w B G v ts := by
  obtain ⟨sls, Fs, h⟩ := h
  exact ⟨sls, ⟨h.row, h.len, h.wfs, fun i hi => (h.kids i hi).toF.mono (fun x hx _ => h.sub i hi x hx), h.own, fun x hx => (h.inG x hx).2⟩⟩
def RowRet (w : World) (ts : List V) (e : Ending) (w' : World) : Prop := ∃ v G, e = .returned v ∧ VRows w' w.heap.size 30 G v ts ∧ Below w.heap.size w w'
def ValRetR (w : World) (t : V) (e : Ending) (w' : World) : Prop := ∃ sl G, e = .returned (t.agg sl) ∧ t.wf ∧ VRows w' w.heap.size 30 G sl t.kids ∧ Below w.heap.size w w'
set_option maxHeartbeats 1000000 in
theorem copy_allR (w0 : World) (v : Value) (ts : List V) (h : RepS w0 v ts) (hsz : szs ts ≤ 1048576) (w : World) (hw : Below w0.heap.size w0 w) :
    Calls Tryd.prog 67 #[v] w (RowRet w ts) := by
  obtain ⟨a, b, off, cap, rfl, ha, hc, hm, sls, hel⟩ := h.opened
  have hlen := szs_length ts
  have HA := Lib.hid ha; have HE := Lib.hid hel; have HW := Lib.hid hw
  have V1 := Lib.hid (fun (j : Nat) (hj : j < ts.length) (W : World) (hW : Below w0.heap.size w0 W) => copy_value ts[j] (sls j) W (HE.out j hj).2.1 (by obtain ⟨a, c, e⟩ := (HE.out j hj).2.2.slice; exact ⟨a, _, c, e⟩)
    (fun W' hW' => copy_all w0 _ (sls j) ts[j].kids (Nat.le_refl _) (HE.out j hj).2.2 (by have h1 := szs_mem (List.getElem_mem hj); have h2 := V.sz_eq ts[j]; omega) W' (below_step hW hW' (Nat.le_refl _))))
  clear h hel ha hc hm
  have R0 := Lib.hid (VRows.made0 (w := w.alloc (.cells #[] 30)) (base := w.heap.size) (Nat.le_refl _) (heap_alloc_new w (.cells #[] 30)))
  go_enter Tryd.func67, Tryd.ntmps67
  go_wp2_with fail
  go_loopw [3, 4] (fun o i wr => ∃ (k : Nat) (G : Nat → Prop), k ≤ ts.length ∧ i = .int .i64 k ∧ VRows wr w.heap.size 30 G o (ts.take k) ∧ Below w.heap.size w wr) (fun _ i _ => ts.length + 1 - (intOf i).toNat)
  case atStart => exact ⟨0, _, by omega, rfl, R0.out, (by (repeat' (first | with_reducible exact Below.refl _ _ | with_reducible refine below_alloc ?_ _ ?_ | with_reducible refine Below.setCell ?_ ?_ _ | with_reducible refine Below.drew ?_ | with_reducible refine Go.below_drewN ?_ _ | with_reducible refine below_step ?_ (by assumption) ?_ | with_reducible refine below_mark ?_ (by assumption) ?_)); all_goals (first | omega | (simp; done) | (simp; omega)))⟩
  case round =>
    obtain ⟨k, G, hk, rfl, hrow, hbl⟩ := hrel
    have HROW := Lib.hid hrow; clear hrow
    by_cases hlt : k < ts.length
    · have hne : ts ≠ [] := by intro e; rw [e] at hlt; simp at hlt
      obtain ⟨rfl, hbw⟩ := HA.out hne
      have HWR := Lib.hid (HW.out.trans (hbl.mono HW.out.size))
      obtain ⟨c0, c1, c2, c3, c4⟩ := (HE.out k hlt).1.keep (HWR.out.block b hbw)
      have VJ := Lib.hid (fun (W : World) (hW : Below wr.heap.size wr W) => V1.out k hlt W (below_step HWR.out hW (by have := HWR.out.size; omega)))
      have HT := Lib.hid (show ts.take (k + 1) = ts.take k ++ [ts[k]] from List.take_succ_eq_append_getElem hlt)
      have HLEN := Lib.hid (show (ts.take k).length ≤ 1048576 by rw [List.length_take]; omega)
      obtain ⟨a3, cap3, hs3⟩ := (HE.out k hlt).2.2.slice
      rw [hs3] at c4 VJ
      clear hs3
      have HG := Lib.hid hbl.size
      have hz9 := hbl.size
      unfold V.agg at VJ
      generalize hgn : ts[k] = tk at *
      generalize ts.take k = L at *
      go_wp2_with fail
      refine (VJ.out _ (Below.refl _ _)).mono ?_
      rintro x w1 ⟨s2, rfl, twf, ho, hb1⟩
      obtain ⟨sa, sn, sc, rfl⟩ : ∃ sa sn sc, s2 = .slice sa sn sc := by obtain ⟨p, q, e⟩ := ho.slice; exact ⟨p, _, q, e⟩
      unfold V.agg
      have hz1 := hb1.size
      have HO := Lib.hid ho.bound; clear ho
      have HWF := Lib.hid twf; clear twf
      have B1 := Lib.hid (heap_alloc_new w1 (.cells #[.int .i64 tk.k, .int .i64 tk.n, .int .i64 tk.e, .string tk.s, .slice sa sn sc] 30))
      have R1 := Lib.hid ((HROW.out.keep hb1).keep ((Below.refl _ _).alloc (Nat.le_refl w1.heap.size) (.cells #[.int .i64 tk.k, .int .i64 tk.n, .int .i64 tk.e, .string tk.s, .slice sa sn sc] 30)))
      have O1 := Lib.hid (HO.out.alloc (.cells #[.int .i64 tk.k, .int .i64 tk.n, .int .i64 tk.e, .string tk.s, .slice sa sn sc] 30))
      have HF1 := Lib.hid (show ∀ x, (wr.heap.size ≤ x ∧ x < w1.heap.size) → w.heap.size ≤ x ∧ x < (w1.alloc (.cells #[.int .i64 tk.k, .int .i64 tk.n, .int .i64 tk.e, .string tk.s, .slice sa sn sc] 30)).heap.size ∧ ¬ G x ∧ u3.ownBlock ≠ some x from
        fun x ⟨h1, h2⟩ => ⟨by omega, by simp; omega, fun hG => by have := (HROW.out.inG x hG).2; omega, fun e => by have := (HROW.out.lt x e).2; omega⟩)
      go_wp2_with (at_builtin; refine app_own rfl _ _ rfl w.heap.size G (fun x => wr.heap.size ≤ x ∧ x < w1.heap.size) _ L rfl R1.out tk (.slice sa sn sc) w1.heap.size rfl B1.out HWF.out O1.out HF1.out (by have := HLEN.out; omega) (by simp; omega) ?_; intro v2 w2 hrow2 hg2 hfr2; have HR2 := Lib.hid hrow2; have HG2 := Lib.hid hg2; clear hrow2 hg2 hfr2)
      go_roundw
      case rel => exact ⟨k + 1, _, by omega, by go_num, by rw [HT.out]; exact HR2.out, Below.grown ((by (repeat' (first | with_reducible exact Below.refl _ _ | with_reducible refine below_alloc ?_ _ ?_ | with_reducible refine Below.setCell ?_ ?_ _ | with_reducible refine Below.drew ?_ | with_reducible refine Go.below_drewN ?_ _ | with_reducible refine below_step ?_ (by assumption) ?_ | with_reducible refine below_mark ?_ (by assumption) ?_)); all_goals (first | omega | (simp; done) | (simp; omega)))) HG2.out (by simp; omega) (fun x hx => (HROW.out.lt x hx).1)⟩
      case measure => simp [intOf]; omega
    · have H := Lib.hid (show ts.take k = ts from List.take_of_length_le (by omega))
      go_wp2_with fail
      go_ret
      exact ⟨_, _, rfl, by have := HROW.out; rwa [H.out] at this, hbl⟩
set_option maxHeartbeats 400000 in
theorem copy_valueR (t : V) (sl : Value) (w : World) (hwf : t.wf) (hsl : ∃ a n c, sl = .slice a n c)
    (hall : ∀ W : World, Below w.heap.size w W → Calls Tryd.prog 67 #[sl] W (RowRet W t.kids)) :
    Calls Tryd.prog 46 #[t.agg sl] w (ValRetR w t) := by
  obtain ⟨a0, n0, c0, rfl⟩ := hsl
  have IH := Lib.hid hall; clear hall
  have HP := Lib.hid (show ∀ e w', (∃ sl G, e = .returned (t.agg sl) ∧ VRows w' w.heap.size 30 G sl t.kids ∧ Below w.heap.size w w') → ValRetR w t e w' from fun e w' ⟨sl, G, h1, h2, h3⟩ => ⟨sl, G, h1, hwf, h2, h3⟩)
  clear hwf
  unfold V.agg at HP ⊢
  generalize t.k = k at *
  generalize t.n = n at *
  generalize t.e = e at *
  generalize t.s = s at *
  go_enter Tryd.func46, Tryd.ntmps46
  go_wp2_with fail
  refine (IH.out _ (by (repeat' (first | with_reducible exact Below.refl _ _ | with_reducible refine below_alloc ?_ _ ?_ | with_reducible refine Below.setCell ?_ ?_ _ | with_reducible refine Below.drew ?_ | with_reducible refine Go.below_drewN ?_ _ | with_reducible refine below_step ?_ (by assumption) ?_ | with_reducible refine below_mark ?_ (by assumption) ?_)); all_goals (first | omega | (simp; done) | (simp; omega)))).mono ?_
  rintro e1 w1 ⟨v, G, rfl, ho, hb⟩
  obtain ⟨a, cap, rfl⟩ := ho.own.slice
  have hz := hb.size
  simp at hz
  obtain ⟨hc, hf⟩ := bcell hb
  have HO := Lib.hid ho; clear ho
  go_wp2_with fail
  refine bodyPost_ret (v := .agg #[.int .i64 k, .int .i64 n, .int .i64 e, .string s, .slice a t.kids.length cap]) (by simp [results, Tryd.results46, go_sem, hc]) rfl (HP.out _ _ ⟨_, G, rfl, ?_, (by (repeat' (first | with_reducible exact Below.refl _ _ | with_reducible refine below_alloc ?_ _ ?_ | with_reducible refine Below.setCell ?_ ?_ _ | with_reducible refine Below.drew ?_ | with_reducible refine Go.below_drewN ?_ _ | with_reducible refine below_step ?_ (by assumption) ?_ | with_reducible refine below_mark ?_ (by assumption) ?_)); all_goals (first | omega | (simp; done) | (simp; omega)))⟩)
  refine VRows.low (B := w.heap.size + 1 + 1 + 1) ?_ (by omega)
  repeat refine VRows.setc ?_ _ _ (by first | omega | (simp; done) | (simp; omega))
  simpa using HO.out
theorem copy_anyR (w0 : World) (v : Value) (t : V) (h : Rep w0 v t) (hsz : t.sz ≤ 1048576) (w : World) (hw : Below w0.heap.size w0 w) : Calls Tryd.prog 46 #[v] w (ValRetR w t) := by
  obtain ⟨sl, rfl, hwf, hr⟩ := h
  exact copy_valueR t sl w hwf (by obtain ⟨a, c, e⟩ := hr.slice; exact ⟨a, _, c, e⟩) (fun W hW => copy_allR w0 sl t.kids hr (by have := V.sz_eq t; omega) W (hw.trans (hW.mono hw.size)))
end Go.Proofs.YtaphlemmlmdkiaaDoor
namespace Go.Proofs.YtaphlemmlmdkiaaDoor
set_option linter.unusedSimpArgs false
set_option linter.unusedVariables false
set_option maxRecDepth 100000
open Go.RowKit Go.Shelf
def ValRep (F : Nat → Prop) (w : World) (y : V) (e : Ending) (w' : World) : Prop := ∃ sl, e = .returned (y.agg sl) ∧ y.wf ∧ RepF w' (fun x => F x ∨ w.heap.size ≤ x) sl y.kids ∧ Below w.heap.size w w'
def VRep (B0 : Nat) (w : World) (y : V) (b : Bool) (e : Ending) (w' : World) : Prop := ∃ sl, e = .returned (.tuple #[y.agg sl, .bool b]) ∧ y.wf ∧ RepF w' (fun x => x < B0 ∨ w.heap.size ≤ x) sl y.kids ∧ Below w.heap.size w w'
set_option maxHeartbeats 4000000 in
theorem l08With_any (w : World) (t y : V) (sl sy : Value) (hwf : t.wf) (hr : RepS w sl t.kids) (hsz : t.sz ≤ 1048576) (hy : y.wf) (F : Nat → Prop) (hry : RepF w F sy y.kids) (j : Nat) (hj : j < t.kids.length) :
    Calls Tryd.prog 54 #[t.agg sl, .int .i64 (j : Int), y.agg sy] w (ValRep F w (setV t j y)) := by
  have CP := Lib.hid (fun (W : World) (hW : Below w.heap.size w W) => copy_anyR w _ t ⟨sl, rfl, hwf, hr⟩ hsz W hW)
  have HS := Lib.hid (show setV t j y = .mk t.k t.n t.e t.s (t.kids.set j y) from rfl)
  have HWF := Lib.hid (show ∀ ks, (V.mk t.k t.n t.e t.s ks).wf from fun ks => hwf)
  have HY := Lib.hid hy
  have HRY := Lib.hid hry.bound
  obtain ⟨a, cap, rfl⟩ := hr.slice
  obtain ⟨ya, yc, rfl⟩ := hry.slice
  have hl : t.kids.length ≤ 1048576 := by have := szs_length t.kids; have := V.sz_eq t; omega
  clear hr hry hy hwf hsz
  have BX := Lib.hid ((Box.new (w.alloc (.cells #[.int .i64 t.k, .int .i64 t.n, .int .i64 t.e, .string t.s, .slice a t.kids.length cap] 30)) y.k y.n y.e y.s (.slice ya y.kids.length yc) 30).alloc (.cells #[.int .i64 0, .int .i64 0, .int .i64 0, .string ⟨#[]⟩, .slice none 0 0] 30))
  have BZ := Lib.hid (Box.new ((w.alloc (.cells #[.int .i64 t.k, .int .i64 t.n, .int .i64 t.e, .string t.s, .slice a t.kids.length cap] 30)).alloc (.cells #[.int .i64 y.k, .int .i64 y.n, .int .i64 y.e, .string y.s, .slice ya y.kids.length yc] 30)) 0 0 0 ⟨#[]⟩ (.slice none 0 0) 30)
  have BV := Lib.hid (((Box.new w t.k t.n t.e t.s (.slice a t.kids.length cap) 30).alloc (.cells #[.int .i64 y.k, .int .i64 y.n, .int .i64 y.e, .string y.s, .slice ya y.kids.length yc] 30)).alloc (.cells #[.int .i64 0, .int .i64 0, .int .i64 0, .string ⟨#[]⟩, .slice none 0 0] 30))
  obtain ⟨W0, hW0⟩ : ∃ W0, W0 = ((w.alloc (.cells #[.int .i64 t.k, .int .i64 t.n, .int .i64 t.e, .string t.s, .slice a t.kids.length cap] 30)).alloc (.cells #[.int .i64 y.k, .int .i64 y.n, .int .i64 y.e, .string y.s, .slice ya y.kids.length yc] 30)).alloc (.cells #[.int .i64 0, .int .i64 0, .int .i64 0, .string ⟨#[]⟩, .slice none 0 0] 30) := ⟨_, rfl⟩
  have hz0 : W0.heap.size = w.heap.size + 3 := by rw [hW0]; simp
  have HB0 := Lib.hid (show Below w.heap.size w W0 from by rw [hW0]; exact (by (with_reducible (repeat' (first | exact Below.refl _ _ | refine below_alloc ?_ _ ?_ | refine Below.setCell ?_ ?_ _ | refine Below.drew ?_ | refine Go.below_drewN ?_ _ | refine below_step ?_ (by assumption) ?_ | refine below_mark ?_ (by assumption) ?_))); all_goals (first | omega | (simp; done) | (simp; omega))))
  rw [← hW0] at BV BX BZ
  rw [show ((w.alloc (.cells #[.int .i64 t.k, .int .i64 t.n, .int .i64 t.e, .string t.s, .slice a t.kids.length cap] 30)).alloc (.cells #[.int .i64 y.k, .int .i64 y.n, .int .i64 y.e, .string y.s, .slice ya y.kids.length yc] 30)).heap.size = w.heap.size + 2 by simp] at BZ
  rw [show (w.alloc (.cells #[.int .i64 t.k, .int .i64 t.n, .int .i64 t.e, .string t.s, .slice a t.kids.length cap] 30)).heap.size = w.heap.size + 1 by simp] at BX
  rw [HS.out]
  clear HS
  unfold ValRetR at CP
  unfold V.agg at CP ⊢
  generalize t.kids = ts at *
  generalize t.k = k at *
  generalize t.n = n at *
  generalize t.e = ee at *
  generalize t.s = st at *
  go_enter Tryd.func54, Tryd.ntmps54
  go_upto_region 1 with fail
  rw [← hW0]
  clear hW0
  obtain ⟨p0, p1, p2, p3, p4⟩ := Box.cells BV.out
  go_wp2_with fail
  refine (CP.out _ HB0.out).mono ?_
  rintro e1 w1 ⟨sl1, G, rfl, -, hrow, hb1⟩
  have hrp := hrow.toP
  obtain ⟨g, c, rfl⟩ := hrp.some0 (by intro e; rw [e] at hj; simp at hj)
  have HB1 := Lib.hid (show Below w.heap.size w w1 from HB0.out.trans (hb1.mono (by omega)))
  have BX1 := Lib.hid (BX.out.stay hb1)
  have BZ1 := Lib.hid (BZ.out.stay hb1)
  have hz1 := hb1.size
  have HGL := Lib.hid (show ∀ x, G x → W0.heap.size ≤ x from fun x hx => (hrow.inG x hx).1)
  clear hb1 CP p0 p1 p2 p3 p4 BV BX BZ hrow
  go_upto_region 2 with fail
  obtain ⟨W2, hW2⟩ : ∃ W2, W2 = w1.alloc (.cells #[.int .i64 k, .int .i64 n, .int .i64 ee, .string st, .slice (some ⟨g, 0, none⟩) ts.length c] 30) := ⟨_, rfl⟩
  have hal : Below w1.heap.size w1 W2 := by rw [hW2]; exact (Below.refl _ _).alloc (Nat.le_refl _) _
  have hz2 : W2.heap.size = w1.heap.size + 1 := by rw [hW2]; simp
  have HB2 := Lib.hid (show Below w.heap.size w W2 from HB1.out.trans (hal.mono (by omega)))
  have BX2 := Lib.hid (BX1.out.stay hal)
  have BZ2 := Lib.hid (BZ1.out.stay hal)
  have BO2 := Lib.hid (show Box W2 w1.heap.size k n ee st (.slice (some ⟨g, 0, none⟩) ts.length c) 30 from by rw [hW2]; exact Box.new w1 _ _ _ _ _ _)
  have HROW := Lib.hid (hrp.stay hal)
  have hg := hrp.lt g rfl
  rw [← hW2]
  clear hW2 hal hrp BX1 BZ1
  have HR8 := Lib.hid (HRY.out.stay HB2.out)
  have HWD := Lib.hid (HROW.out.widen (F := fun x => F x ∧ x < w.heap.size) (fun x hx => ⟨by have := HB2.out.size; have := hx.2; omega, fun e => by have h3 : g = x := Option.some.inj e; have := hx.2; omega⟩))
  have HPT := Lib.hid (HWD.out.set1 hj HY.out (HR8.out.mono (fun x hx _ => .inr hx)))
  have HGR := Lib.hid (grownBy_put5 W2 g (j * 5) y (.slice ya y.kids.length yc))
  obtain ⟨-, hle, hcm, cur, hcur, hcs, hone⟩ := HROW.out.open
  obtain ⟨ae, ce, hel8, -, -⟩ := HROW.out.elem j hj
  obtain ⟨e0, e1, e2, e3, e4⟩ := hel8
  have ef := fun i => frozen_of_row W2 g i _ _ hcur
  have ef0 := ef (j * 5); have ef1 := ef (j * 5 + 1); have ef2 := ef (j * 5 + 2); have ef3 := ef (j * 5 + 3); have ef4 := ef (j * 5 + 4)
  clear ef hcur hcs hone HWD HR8 HRY
  obtain ⟨p0, p1, p2, p3, p4⟩ := Box.cells BO2.out
  obtain ⟨q0, q1, q2, q3, q4⟩ := Box.cells BX2.out
  go_upto_region 3 with fail
  obtain ⟨W9, hW9⟩ : ∃ W9, W9 = put5 W2 g (j * 5) y (.slice ya y.kids.length yc) := ⟨_, rfl⟩
  rw [← hW9] at HPT HGR
  unfold put5 at hW9
  rw [← hW9]
  clear hW9 p0 p1 p2 p3 p4 q0 q1 q2 q3 q4 e0 e1 e2 e3 e4 ef0 ef1 ef2 ef3 ef4
  have BO9 := Lib.hid ((HGR.out.block w1.heap.size (Box.lt BO2.out) (fun e => by have h3 : w1.heap.size = g := Option.some.inj e; omega)).trans BO2.out)
  have BZ9 := Lib.hid ((HGR.out.block (w.heap.size + 2) (Box.lt BZ2.out) (fun e => by have h3 : w.heap.size + 2 = g := Option.some.inj e; omega)).trans BZ2.out)
  have HB9 := Lib.hid (show Below w.heap.size w W9 from HB2.out.grown HGR.out HB2.out.size (fun x hx => by have h3 : g = x := Option.some.inj hx; omega))
  have HF := Lib.hid (show ∀ v0 v1 v2 v3 v4, ValRep F w (V.mk k n ee st (ts.set j y)) (.returned ((V.mk k n ee st (ts.set j y)).agg (.slice (some ⟨g, 0, none⟩) ts.length c))) (set5 W9 (w.heap.size + 2) v0 v1 v2 v3 v4) from fun v0 v1 v2 v3 v4 =>
    ⟨_, rfl, HWF.out _, (repF_set5T HPT.out.repF (w.heap.size + 2) (fun x hx => by
      rcases hx with ((h | h) | h)
      · have := HGL.out x h; omega
      · have := h.2; omega
      · have h3 : g = x := Option.some.inj h
        omega) v0 v1 v2 v3 v4).mono (fun x hx _ => by
      rcases hx with ((h | h) | h)
      · have := HGL.out x h; exact .inr (by omega)
      · exact .inl h.1
      · have h3 : g = x := Option.some.inj h
        exact .inr (by omega)), HB9.out.trans ((below_set5 W9 (w.heap.size + 2) _ _ _ _ _).mono (by omega))⟩)
  unfold V.agg at HF
  obtain ⟨p0, p1, p2, p3, p4⟩ := Box.cells BO9.out
  have pf0 := Box.free (i := 0) BO9.out; have pf1 := Box.free (i := 1) BO9.out; have pf2 := Box.free (i := 2) BO9.out; have pf3 := Box.free (i := 3) BO9.out; have pf4 := Box.free (i := 4) BO9.out
  obtain ⟨z0, z1, z2, z3, z4⟩ := Box.cells BZ9.out
  have zf0 := Box.free (i := 0) BZ9.out; have zf1 := Box.free (i := 1) BZ9.out; have zf2 := Box.free (i := 2) BZ9.out; have zf3 := Box.free (i := 3) BZ9.out; have zf4 := Box.free (i := 4) BZ9.out
  clear HPT HGR
  go_wp2_with fail
  exact bodyPost_ret (v := .agg #[.int .i64 k, .int .i64 n, .int .i64 ee, .string st, .slice (some ⟨g, 0, none⟩) ts.length c]) (by simp [results, Tryd.results54, go_sem, z0, z1, z2, z3, z4]) rfl (HF.out _ _ _ _ _)
end Go.Proofs.YtaphlemmlmdkiaaDoor
namespace Go.Proofs.YtaphlemmlmdkiaaDoor
set_option linter.unusedSimpArgs false
set_option linter.unusedVariables false
set_option maxRecDepth 100000
open Go.RowKit
theorem RepF.opened {w : World} {G : Nat → Prop} {v : Value} {ts : List V} (h : RepF w G v ts) : ∃ a b off cap, v = .slice a ts.length cap ∧ (ts ≠ [] → a = some ⟨b, off, none⟩ ∧ b < w.heap.size ∧ G b) ∧ ts.length ≤ cap ∧ cap ≤ 9223372036854775807 ∧
    ∃ sls : Nat → Value, ∀ i (h : i < ts.length), Cells5 w b (off + i * 5) ts[i] (sls i) ∧ ts[i].wf ∧ RepF w G (sls i) ts[i].kids := by
  cases h with
  | mk a b off cap ts0 sls ha hc hm hb cells wfs kids => exact ⟨a, b, off, cap, rfl, fun hne => ⟨ha hne, hb hne⟩, hc, hm, sls, fun i hi => ⟨cells i hi, wfs i hi, kids i hi⟩⟩
end Go.Proofs.YtaphlemmlmdkiaaDoor
namespace Go.Proofs.YtaphlemmlmdkiaaDoor
set_option linter.unusedSimpArgs false
set_option linter.unusedVariables false
set_option maxRecDepth 100000
open Go.RowKit
theorem RepF.takeS {w : World} {F : Nat → Prop} {a : Option Addr} {n cap j : Nat} {ts : List V} (h : RepF w F (.slice a n cap) ts) (hj : j ≤ ts.length) : RepF w F (.slice a j cap) (ts.take j) := by
  obtain ⟨a2, b, off, cap2, e, ha, hc, hm, sls, hel⟩ := h.opened
  injection e with e1 e2 e3
  subst e1 e2 e3
  have hl : (ts.take j).length = j := by rw [List.length_take]; omega
  have := RepF.mk (w := w) (G := F) a b off cap (ts.take j) sls (fun hne => (ha (fun e => hne (by rw [e, List.take_nil]))).1) (by omega) hm (fun hne => (ha (fun e => hne (by rw [e, List.take_nil]))).2)
    (fun i hi => by rw [hl] at hi; rw [List.getElem_take]; exact (hel i (by omega)).1) (fun i hi => by rw [hl] at hi; rw [List.getElem_take]; exact (hel i (by omega)).2.1) (fun i hi => by rw [hl] at hi; rw [List.getElem_take]; exact (hel i (by omega)).2.2)
  rw [hl] at this
  exact this
theorem RepF.dropS {w : World} {F : Nat → Prop} {g off n cap j : Nat} {ts : List V} {A : Option Addr} (h : RepF w F (.slice (some ⟨g, off, none⟩) n cap) ts) (hj : j ≤ ts.length) (hA : j < ts.length → A = some ⟨g, off + j * 5, none⟩) : RepF w F (.slice A (n - j) (cap - j)) (ts.drop j) := by
  obtain ⟨a2, b, off2, cap2, e, ha, hc, hm, sls, hel⟩ := h.opened
  injection e with e1 e2 e3
  subst e2 e3
  have hl : (ts.drop j).length = ts.length - j := List.length_drop
  have hne : ts.drop j ≠ [] → j < ts.length := fun hne => by
    rcases Nat.lt_or_ge j ts.length with h | h
    · exact h
    · exact absurd (List.drop_eq_nil_of_le h) hne
  have hb : j < ts.length → g = b ∧ off = off2 ∧ b < w.heap.size ∧ F b := fun hlt => by
    have := ha (fun e => by rw [e] at hlt; simp at hlt)
    rw [this.1] at e1
    injection e1 with e1
    injection e1 with e1 e4
    exact ⟨e1, e4, this.2⟩
  have := RepF.mk (w := w) (G := F) A g (off + j * 5) (cap - j) (ts.drop j) (fun i => sls (j + i)) (fun h => hA (hne h)) (by omega) (by omega) (fun h => by obtain ⟨e1, -, h2⟩ := hb (hne h); rw [e1]; exact h2)
    (fun i hi => by
      rw [hl] at hi
      have hji : j + i < ts.length := by omega
      obtain ⟨rfl, rfl, -⟩ := hb (by omega)
      have h1 := (hel (j + i) hji).1
      rw [List.getElem_drop, show off + j * 5 + i * 5 = off + (j + i) * 5 by omega]
      exact h1)
    (fun i hi => by rw [hl] at hi; rw [List.getElem_drop]; exact (hel (j + i) (by omega)).2.1) (fun i hi => by rw [hl] at hi; rw [List.getElem_drop]; exact (hel (j + i) (by omega)).2.2)
  rw [hl] at this
  exact this
end Go.Proofs.YtaphlemmlmdkiaaDoor
