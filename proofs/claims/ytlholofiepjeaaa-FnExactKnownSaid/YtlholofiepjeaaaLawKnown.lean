/- For every value and every list of names the program's Known and the reference's return the same number and leave their arguments as they were: the law returns true. -/
import Derived.Test.YtlholofiepjeaaaKnown
import Derived.Test.YtlholofiepjeaaaToVal
import Derived.Test.YtlholofiepjeaaaEqVal
import Derived.Test.YtlholofiepjeaaaLawAid
import Derived.Deep.RegionWith
namespace Go.Proofs.Ytlholofiepjeaaa
open Go.ChangeShapes Go.WideShapes Go.ChangeAt Go.RowKit
set_option maxRecDepth 100000 in
set_option maxHeartbeats 2000000 in
theorem walk_FnExactKnown (v : Value) (t : V) {w0 : World} (hv : Rep w0 v t) (tv : Value) (l : List ByteArray) (hl : RepSs w0 tv l) (w : World) (hww : w = w0) : Calls Try.prog 7 #[v, tv] w (LawRet w) := by
  subst hww
  have SZ := Lib.hid (fun w' (hh : Below w.heap.size w w') (m : Int) (h0 : 0 ≤ m) (h1 : m ≤ 1048576) => sz_any w v t hv w' hh m h0 h1)
  have SN := Lib.hid (fun w' (hh : Below w.heap.size w w') (m : Int) (h0 : 0 ≤ m) (h1 : m ≤ 1048576) => sz_names w tv l hl w' hh m h0 h1)
  have TV := Lib.hid (fun w' (hh : Below w.heap.size w w') (hz : t.sz ≤ 1048576) => to_any w v t hv hz w' hh)
  have TN := Lib.hid (fun w' (hh : Below w.heap.size w w') (hz : l.length ≤ 1048576) => to_names w tv l hl hz w' hh)
  have KS := Lib.hid (fun w1 x y (h1 : Rep w1 x t) (hz : t.sz ≤ 1048576) (h2 : RepSs w1 y l) => Known_spec w1 x y t l h1 hz h2 w1 (Below.refl _ _))
  have KI := Lib.hid (fun w1 x y (h1 : Rep w1 x t) (hz : t.sz ≤ 1048576) (h2 : RepSs w1 y l) => Known_impl w1 x y t l h1 hz h2 w1 (Below.refl _ _))
  have EV := Lib.hid (fun w1 x y (h1 : Rep w1 x t) (h2 : Rep w1 y t) => eq_any w1 x y t h1 h2 w1 (Below.refl _ _))
  have EN := Lib.hid (fun w1 x y (h1 : RepSs w1 x l) (h2 : RepSs w1 y l) => eq_names w1 x y l h1 h2 w1 (Below.refl _ _))
  have hlo := szr_lo 1048576 t.sz
  have hhi := szr_hi 1048576 t.sz (by omega)
  have HSZ := Lib.hid (show 0 ≤ szr 1048576 t.sz → t.sz ≤ 1048576 by unfold szr; split <;> omega)
  have HSL := Lib.hid (show 0 ≤ szr 1048576 t.sz → 0 ≤ szr (szr 1048576 t.sz) (szl l) → l.length ≤ 1048576 by have := szl_length l; unfold szr; (repeat' split) <;> omega)
  have HLO := Lib.hid (fun m => szr_lo m (szl l))
  obtain ⟨sl, rfl, _, _⟩ := hv
  obtain ⟨la, lb, loff, lcap, rfl, _⟩ := hl
  unfold V.agg at SZ TV ⊢
  go_enter Try.func7, Try.ntmps7
  go_wp2_with fail
  have B0 := Lib.hid (Box.new w t.k t.n t.e t.s sl 30)
  refine (SZ.out _ (by (repeat' (first | with_reducible exact Below.refl _ _ | with_reducible refine below_alloc ?_ _ ?_ | with_reducible refine Below.setCell ?_ ?_ _ | with_reducible refine Below.drew ?_ | with_reducible refine below_drewN ?_ _ | with_reducible refine below_step ?_ (by assumption) ?_)); all_goals (first | omega | (simp; done) | (simp; omega))) _ (by omega) (by omega)).mono ?_
  rintro e1 w1 ⟨rfl, hb1⟩
  have B1 := Lib.hid (B0.out.stay hb1)
  obtain ⟨p0, p1, p2, p3, p4⟩ := B1.out.cells
  generalize szr 1048576 t.sz = m1 at *
  by_cases hm1 : m1 < 0
  · go_wp2_with fail
    go_ret
    exact ⟨rfl, (by (repeat' (first | with_reducible exact Below.refl _ _ | with_reducible refine below_alloc ?_ _ ?_ | with_reducible refine Below.setCell ?_ ?_ _ | with_reducible refine Below.drew ?_ | with_reducible refine below_drewN ?_ _ | with_reducible refine below_step ?_ (by assumption) ?_)); all_goals (first | omega | (simp; done) | (simp; omega)))⟩
  · have hz := HSZ.out (by omega)
    have hm1' : ¬ m1 < 0 := hm1
    go_wp2_with fail
    refine (SN.out _ (by (repeat' (first | with_reducible exact Below.refl _ _ | with_reducible refine below_alloc ?_ _ ?_ | with_reducible refine Below.setCell ?_ ?_ _ | with_reducible refine Below.drew ?_ | with_reducible refine below_drewN ?_ _ | with_reducible refine below_step ?_ (by assumption) ?_)); all_goals (first | omega | (simp; done) | (simp; omega))) _ (by omega) (by omega)).mono ?_
    rintro e2 w2 ⟨rfl, rfl⟩
    have hlo2 := HLO.out m1
    have HSL2 := Lib.hid (HSL.out (by omega))
    generalize szr m1 (szl l) = m2 at *
    by_cases hm2 : m2 < 0
    · go_wp2_with fail
      go_ret
      exact ⟨rfl, (by (repeat' (first | with_reducible exact Below.refl _ _ | with_reducible refine below_alloc ?_ _ ?_ | with_reducible refine Below.setCell ?_ ?_ _ | with_reducible refine Below.drew ?_ | with_reducible refine below_drewN ?_ _ | with_reducible refine below_step ?_ (by assumption) ?_)); all_goals (first | omega | (simp; done) | (simp; omega)))⟩
    · have hll := HSL2.out (by omega)
      go_wp2_with fail
      refine (TV.out _ (by (repeat' (first | with_reducible exact Below.refl _ _ | with_reducible refine below_alloc ?_ _ ?_ | with_reducible refine Below.setCell ?_ ?_ _ | with_reducible refine Below.drew ?_ | with_reducible refine below_drewN ?_ _ | with_reducible refine below_step ?_ (by assumption) ?_)); all_goals (first | omega | (simp; done) | (simp; omega))) hz).mono ?_
      rintro e3 w3 ⟨s3, rfl, hf3, ho3, hb3⟩
      have R3 := Lib.hid (ho3.repV hf3)
      have B3 := Lib.hid (B1.out.stay hb3)
      clear ho3 p0 p1 p2 p3 p4
      go_wp2_with fail
      refine (TN.out _ (by (repeat' (first | with_reducible exact Below.refl _ _ | with_reducible refine below_alloc ?_ _ ?_ | with_reducible refine Below.setCell ?_ ?_ _ | with_reducible refine Below.drew ?_ | with_reducible refine below_drewN ?_ _ | with_reducible refine below_step ?_ (by assumption) ?_)); all_goals (first | omega | (simp; done) | (simp; omega))) hll).mono ?_
      rintro e4 w4 ⟨v4, rfl, hs4, hb4⟩
      have R4 := Lib.hid hs4.rep
      have B4 := Lib.hid (B3.out.stay hb4)
      clear hs4
      go_wp2_with fail
      refine (KS.out _ _ _ (R3.out.keep hb4) hz R4.out).mono ?_
      rintro e5 w5 ⟨rfl, hb5⟩
      have B5 := Lib.hid (B4.out.stay hb5)
      obtain ⟨p0, p1, p2, p3, p4⟩ := B5.out.cells
      generalize knownC l t.keysR = kc at *
      go_wp2_with fail
      refine (TV.out _ (by (repeat' (first | with_reducible exact Below.refl _ _ | with_reducible refine below_alloc ?_ _ ?_ | with_reducible refine Below.setCell ?_ ?_ _ | with_reducible refine Below.drew ?_ | with_reducible refine below_drewN ?_ _ | with_reducible refine below_step ?_ (by assumption) ?_)); all_goals (first | omega | (simp; done) | (simp; omega))) hz).mono ?_
      rintro e6 w6 ⟨s6, rfl, hf6, ho6, hb6⟩
      obtain ⟨a6, c6, rfl⟩ := ho6.slice
      have R6 := Lib.hid (ho6.repV hf6)
      have B6 := Lib.hid (B5.out.stay hb6)
      have X6 := Lib.hid (Box.new w6 t.k t.n t.e t.s (.slice a6 t.kids.length c6) 35)
      clear ho6 p0 p1 p2 p3 p4
      unfold V.agg at R6 ⊢
      go_wp2_with fail
      refine (TN.out _ (by (repeat' (first | with_reducible exact Below.refl _ _ | with_reducible refine below_alloc ?_ _ ?_ | with_reducible refine Below.setCell ?_ ?_ _ | with_reducible refine Below.drew ?_ | with_reducible refine below_drewN ?_ _ | with_reducible refine below_step ?_ (by assumption) ?_)); all_goals (first | omega | (simp; done) | (simp; omega))) hll).mono ?_
      rintro e7 w7 ⟨v7, rfl, hs7, hb7⟩
      have R7 := Lib.hid hs7.rep
      have R67 := Lib.hid (Rep.keep R6.out (w' := w7) (by (repeat' (first | with_reducible exact Below.refl _ _ | with_reducible refine below_alloc ?_ _ ?_ | with_reducible refine Below.setCell ?_ ?_ _ | with_reducible refine Below.drew ?_ | with_reducible refine below_drewN ?_ _ | with_reducible refine below_step ?_ (by assumption) ?_)); all_goals (first | omega | (simp; done) | (simp; omega))))
      have B7 := Lib.hid ((B6.out.alloc _).stay hb7)
      have X7 := Lib.hid (X6.out.stay hb7)
      obtain ⟨x0, x1, x2, x3, x4⟩ := X7.out.cells
      clear hs7
      go_wp2_with fail
      refine (KI.out _ _ _ R67.out hz R7.out).mono ?_
      rintro e8 w8 ⟨rfl, hb8⟩
      have B8 := Lib.hid (B7.out.stay hb8)
      have X8 := Lib.hid (X7.out.stay hb8)
      clear x0 x1 x2 x3 x4
      obtain ⟨x0, x1, x2, x3, x4⟩ := X8.out.cells
      obtain ⟨p0, p1, p2, p3, p4⟩ := B8.out.cells
      go_wp2_with fail
      go_region_with (first | (go_at_call 16; refine (TV.out _ (by (repeat' (first | with_reducible exact Below.refl _ _ | with_reducible refine below_alloc ?_ _ ?_ | with_reducible refine Below.setCell ?_ ?_ _ | with_reducible refine Below.drew ?_ | with_reducible refine below_drewN ?_ _ | with_reducible refine below_step ?_ (by assumption) ?_)); all_goals (first | omega | (simp; done) | (simp; omega))) hz).mono ?_; rintro e9 w9 ⟨s9, rfl, hf9, ho9, hb9⟩; have R9 := Lib.hid (ho9.repV hf9); obtain ⟨y0, y1, y2, y3, y4⟩ := (X8.out.keep (Below.trans (Below.drew (Below.refl _ _)) hb9) (Nat.le_refl _)).cells; clear ho9) | (go_at_call 18; refine (EV.out _ _ _ (R67.out.keep (by (repeat' (first | with_reducible exact Below.refl _ _ | with_reducible refine below_alloc ?_ _ ?_ | with_reducible refine Below.setCell ?_ ?_ _ | with_reducible refine Below.drew ?_ | with_reducible refine below_drewN ?_ _ | with_reducible refine below_step ?_ (by assumption) ?_)); all_goals (first | omega | (simp; done) | (simp; omega)))) R9.out).mono ?_; rintro e10 w10 ⟨rfl, hb10⟩))
      all_goals clear x0 x1 x2 x3 x4 y0 y1 y2 y3 y4 p0 p1 p2 p3 p4
      all_goals go_wp2_with fail
      all_goals refine (TN.out _ (by (repeat' (first | with_reducible exact Below.refl _ _ | with_reducible refine below_alloc ?_ _ ?_ | with_reducible refine Below.setCell ?_ ?_ _ | with_reducible refine Below.drew ?_ | with_reducible refine below_drewN ?_ _ | with_reducible refine below_step ?_ (by assumption) ?_)); all_goals (first | omega | (simp; done) | (simp; omega))) hll).mono ?_
      all_goals rintro e11 w11 ⟨v11, rfl, hs11, hb11⟩
      all_goals have R11 := Lib.hid hs11.rep
      all_goals clear hs11
      all_goals go_wp2_with fail
      all_goals refine (EN.out _ _ _ (R7.out.keep (by (repeat' (first | with_reducible exact Below.refl _ _ | with_reducible refine below_alloc ?_ _ ?_ | with_reducible refine Below.setCell ?_ ?_ _ | with_reducible refine Below.drew ?_ | with_reducible refine below_drewN ?_ _ | with_reducible refine below_step ?_ (by assumption) ?_)); all_goals (first | omega | (simp; done) | (simp; omega)))) R11.out).mono ?_
      all_goals rintro e12 w12 ⟨rfl, hb12⟩
      all_goals go_wp2_with fail
      all_goals go_ret
      all_goals exact ⟨rfl, (by (repeat' (first | with_reducible exact Below.refl _ _ | with_reducible refine below_alloc ?_ _ ?_ | with_reducible refine Below.setCell ?_ ?_ _ | with_reducible refine Below.drew ?_ | with_reducible refine below_drewN ?_ _ | with_reducible refine below_step ?_ (by assumption) ?_)); all_goals (first | omega | (simp; done) | (simp; omega)))⟩
set_option maxRecDepth 100000 in
theorem lifted_FnExactKnown (os : Os) (started : os.Started) (H : Type) (enc : TypeId × Value → H) :
    ReturnsInHanded {} Try.checked os 7 .any (Rows.fnExactKnownSpec.pre6 enc Try.prog Try.f7 Rows.fnExactKnownRow.domain false) (Rows.fnExactKnownSpec.post enc Try.prog Try.f7 false true false false) := by
  refine returnsInHanded_of_change (C := Try.checked) lawOwn started (by kernel_rfl) Try.func7
    (ChangeSpec.witness6 (enc := enc) (C := Try.checked) false ⟨#[], #[.agg #[.int .i64 0, .int .i64 0, .int .i64 0, .string ByteArray.empty, .slice none 0 0], .slice none 0 0], []⟩ 8 (by kernel_rfl) (by kernel_rfl) (by kernel_rfl) (by kernel_rfl)) ?_
  intro W base args ds gs before hval0 hW hcnd _
  have hval : ∀ (j : Nat) t v, Try.f7.params[j]? = some t → args[j]? = some v → Value.okWide Try.prog W .any base t v := hval0
  have hW' := hW
  obtain ⟨p, q, hA0, hV, hpq, hfz, hnd⟩ := hW
  have hA : DataW.TrodAll enc Try.prog W 0 (fun _ => true) true Try.f7.params.toList args.toList ds p := hA0
  rw [Try.params7] at hA hval
  obtain ⟨v0, vs0, d0, ds0, p0, q0, hargs, rfl, hp, h0, r0⟩ := trodAll_cons hA
  obtain ⟨v1, vs1, d1, ds1, p1, q1, rfl, rfl, rfl, h1, r1⟩ := trodAll_cons r0
  obtain ⟨rfl, rfl, rfl⟩ := trodAll_nil r1
  obtain rfl : args = #[v0, v1] := by cases args; simp_all
  obtain ⟨a0, w0⟩ := open_V (okV (hval 0 30 v0 rfl rfl)) h0
  obtain ⟨a1, w1⟩ := open_Ss (okWide_slice Try.underlying39 (hval 1 39 v1 rfl rfl)) h1
  refine (walk_FnExactKnown v0 a0 w0 v1 a1 w1 W rfl).mono fun e W' ⟨he, hb⟩ => ?_
  subst he
  refine ⟨_, rfl, law_post rfl rfl rfl ?_ hW' hb⟩
  rw [Try.params7]
  intro t ht
  simp only [List.mem_cons, List.not_mem_nil, or_false] at ht
  rcases ht with rfl | rfl
  all_goals exact ⟨by kernel_rfl, of_decide_eq_true (by kernel_rfl)⟩
/-- THE STATEMENT -/
theorem holds_FnExactKnown : Rows.FnExactKnownSaid :=
  OpenClaim.holds_of_wide 7 Try.f7 rfl rfl rfl rfl rfl rfl rfl ⟨rfl, rfl, rfl, rfl, rfl⟩ rfl rfl rfl rfl rfl (by kernel_rfl) Try.func7 (by kernel_rfl)
    (of_decide_eq_true (by kernel_rfl)) (by unfold Func.isWrapper; first | (rw [if_pos (by decide +kernel)]; kernel_rfl) | (rw [if_neg (by decide +kernel)]; exact ⟨rfl, rfl⟩))
    (fun os started H enc _ => lifted_FnExactKnown os started H enc)
#print axioms holds_FnExactKnown
end Go.Proofs.Ytlholofiepjeaaa
