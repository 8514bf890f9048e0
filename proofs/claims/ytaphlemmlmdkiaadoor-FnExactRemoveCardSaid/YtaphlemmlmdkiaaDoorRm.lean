/- For every value and all steps the program's Remove and the reference's return the same value and truth, the program's in memory of its own, and leave the arguments as they were: the law returns true. -/
import Derived.Test.YtaphlemmlmdkiaaDoorRm01
import Derived.Test.YtaphlemmlmdkiaaDoorRm02
import Derived.Test.YtaphlemmlmdkiaaDoorRm04
import Derived.Test.YtaphlemmlmdkiaaDoorRm06
import Derived.Test.YtaphlemmlmdkiaaDoorRm07
import Derived.Test.YtaphlemmlmdkiaaDoorRm08
import Derived.Test.YtaphlemmlmdkiaaDoorTie
import Derived.Test.YtaphlemmlmdkiaaDoorCards
import Derived.PinnedBridge
import Derived.Lay
import Derived.LaidOnce
import Derived.SevenTiedAt
import Derived.Lib.LaidU8T
import Derived.Lib.LaidIn
import Derived.Handed
import Derived.Lib.LaidTab
import Derived.Shelf.Vars
import Derived.LaidLaws
import Derived.Deep.RegionWith
import Derived.Deep.QuietTactic
import Derived.BigQuiet
import Derived.WalkSpells
import Derived.Lib.Hide
import Derived.Deep.DeepCutAuto
namespace Go.Proofs.YtaphlemmlmdkiaaDoor
set_option linter.unusedSimpArgs false
set_option linter.unusedVariables false
set_option maxRecDepth 100000
open Go.RowKit Go.Shelf
def madeV (t y : V) (b : Bool) : Option V := if b = true ∧ okT t = true ∧ okT y = true then some y else none
def VF (F : Nat → Prop) (w : World) (y : V) (b : Bool) (e : Ending) (w' : World) : Prop := ∃ sl, e = .returned (.tuple #[y.agg sl, .bool b]) ∧ y.wf ∧ RepF w' (fun x => F x ∨ w.heap.size ≤ x) sl y.kids ∧ Below w.heap.size w w'
theorem vf_fin {F F' : Nat → Prop} {w w1 : World} {z : Nat} {y : V} {sl : Value} {b : Bool} (ywf : y.wf) (hrep : RepF w1 F' sl y.kids) (hb : Below w.heap.size w w1) (hz : w.heap.size ≤ z) (hF : ∀ x, F' x → x ≠ z ∧ (F x ∨ w.heap.size ≤ x)) (v0 v1 v2 v3 v4 : Value) :
    VF F w y b (.returned (.tuple #[y.agg sl, .bool b])) (set5 w1 z v0 v1 v2 v3 v4) :=
  ⟨sl, rfl, ywf, (repF_set5T hrep z (fun x hx => (hF x hx).1) v0 v1 v2 v3 v4).mono (fun x hx _ => (hF x hx).2), hb.trans ((below_set5 w1 z _ _ _ _ _).mono hz)⟩
set_option maxHeartbeats 4000000 in
theorem l08Made_any (w : World) (t y : V) (sl sy : Value) (b : Bool) (hwf : t.wf) (hr : RepS w sl t.kids) (hz : t.sz ≤ 1048576) (hy : y.wf) (F : Nat → Prop) (hry : RepF w F sy y.kids) (HOY : ∀ W : World, Below w.heap.size w W → Calls Tryd.prog 22 #[y.agg sy] W fun e w' => e = .returned (.bool (okT y)) ∧ Below W.heap.size W w') :
    Calls Tryd.prog 34 #[t.agg sl, y.agg sy, .bool b] w (VF F w ((madeV t y b).getD t) (madeV t y b).isSome) := by
  have OT := Lib.hid (fun (W : World) (hW : Below w.heap.size w W) => ValueOk_spec w _ t ⟨sl, rfl, hwf, hr⟩ hz W hW)
  have OY := Lib.hid HOY
  have CP := Lib.hid (fun (W : World) (hW : Below w.heap.size w W) => copy_anyR w _ t ⟨sl, rfl, hwf, hr⟩ hz W hW)
  have HM := Lib.hid (show madeV t y b = if b = true ∧ okT t = true ∧ okT y = true then some y else none from rfl)
  have HY := Lib.hid hy
  have HRY := Lib.hid hry.bound
  obtain ⟨a, cap, rfl⟩ := hr.slice
  obtain ⟨ya, yc, rfl⟩ := hry.slice
  clear hr hry hy hwf hz HOY
  have BV := Lib.hid (((Box.new w t.k t.n t.e t.s (.slice a t.kids.length cap) 30).alloc (.cells #[.int .i64 y.k, .int .i64 y.n, .int .i64 y.e, .string y.s, .slice ya y.kids.length yc] 30)).alloc (.cells #[.int .i64 0, .int .i64 0, .int .i64 0, .string ⟨#[]⟩, .slice none 0 0] 30))
  have BY := Lib.hid ((Box.new (w.alloc (.cells #[.int .i64 t.k, .int .i64 t.n, .int .i64 t.e, .string t.s, .slice a t.kids.length cap] 30)) y.k y.n y.e y.s (.slice ya y.kids.length yc) 30).alloc (.cells #[.int .i64 0, .int .i64 0, .int .i64 0, .string ⟨#[]⟩, .slice none 0 0] 30))
  have BZ := Lib.hid (Box.new ((w.alloc (.cells #[.int .i64 t.k, .int .i64 t.n, .int .i64 t.e, .string t.s, .slice a t.kids.length cap] 30)).alloc (.cells #[.int .i64 y.k, .int .i64 y.n, .int .i64 y.e, .string y.s, .slice ya y.kids.length yc] 30)) 0 0 0 ⟨#[]⟩ (.slice none 0 0) 30)
  obtain ⟨W0, hW0⟩ : ∃ W0, W0 = ((w.alloc (.cells #[.int .i64 t.k, .int .i64 t.n, .int .i64 t.e, .string t.s, .slice a t.kids.length cap] 30)).alloc (.cells #[.int .i64 y.k, .int .i64 y.n, .int .i64 y.e, .string y.s, .slice ya y.kids.length yc] 30)).alloc (.cells #[.int .i64 0, .int .i64 0, .int .i64 0, .string ⟨#[]⟩, .slice none 0 0] 30) := ⟨_, rfl⟩
  have hz0 : W0.heap.size = w.heap.size + 3 := by rw [hW0]; simp
  have HB0 := Lib.hid (show Below w.heap.size w W0 from by rw [hW0]; exact (by (with_reducible (repeat' (first | exact Below.refl _ _ | refine below_alloc ?_ _ ?_ | refine Below.setCell ?_ ?_ _ | refine Below.drew ?_ | refine Go.below_drewN ?_ _ | refine below_step ?_ (by assumption) ?_ | refine below_mark ?_ (by assumption) ?_))); all_goals (first | omega | (simp; done) | (simp; omega))))
  rw [← hW0] at BV BY BZ
  rw [show ((w.alloc (.cells #[.int .i64 t.k, .int .i64 t.n, .int .i64 t.e, .string t.s, .slice a t.kids.length cap] 30)).alloc (.cells #[.int .i64 y.k, .int .i64 y.n, .int .i64 y.e, .string y.s, .slice ya y.kids.length yc] 30)).heap.size = w.heap.size + 2 by simp] at BZ
  rw [show (w.alloc (.cells #[.int .i64 t.k, .int .i64 t.n, .int .i64 t.e, .string t.s, .slice a t.kids.length cap] 30)).heap.size = w.heap.size + 1 by simp] at BY
  generalize madeV t y b = R at *
  unfold ValRetR at CP
  unfold V.agg at OT OY CP ⊢
  generalize okT t = ot at *
  generalize okT y = oy at *
  go_enter Tryd.func34, Tryd.ntmps34
  go_upto_region 1 with fail
  rw [← hW0]
  clear hW0
  cases b with
  | false =>
    have HRN := Lib.hid (show R = none from by rw [HM.out]; exact if_neg (fun h => by simp at h))
    clear OT OY HM HY HRY
    obtain ⟨p0, p1, p2, p3, p4⟩ := Box.cells BV.out
    go_wp2_with fail
    refine (CP.out _ HB0.out).mono ?_
    rintro e8 w8 ⟨sl8, G, rfl, twf, hrow, hb8⟩
    have hrp := hrow.toP.repF
    obtain ⟨oa, oc, rfl⟩ := hrp.slice
    have HB8 := Lib.hid (show Below w.heap.size w w8 from HB0.out.trans (hb8.mono (by omega)))
    have BZ8 := Lib.hid (Box.stay BZ.out hb8)
    have HF := Lib.hid (fun (v0 v1 v2 v3 v4 : Value) => show VF F w (R.getD t) R.isSome (.returned (.tuple #[t.agg (.slice oa t.kids.length oc), .bool false])) (set5 w8 (w.heap.size + 2) v0 v1 v2 v3 v4) from by
      rw [HRN.out]
      exact vf_fin twf hrp HB8.out (by omega) (fun x hx => by
        rcases hx with h | h
        · have := (hrow.inG x h).1; exact ⟨by omega, .inr (by omega)⟩
        · have := (hrow.lt x h).1; exact ⟨by omega, .inr (by omega)⟩) v0 v1 v2 v3 v4)
    unfold V.agg at HF
    clear hrp hrow hb8 twf p0 p1 p2 p3 p4
    obtain ⟨z0, z1, z2, z3, z4⟩ := Box.cells BZ8.out
    have zf0 := Box.free (i := 0) BZ8.out; have zf1 := Box.free (i := 1) BZ8.out; have zf2 := Box.free (i := 2) BZ8.out; have zf3 := Box.free (i := 3) BZ8.out; have zf4 := Box.free (i := 4) BZ8.out
    go_wp2_with fail
    exact bodyPost_ret (v := .tuple #[.agg #[.int .i64 t.k, .int .i64 t.n, .int .i64 t.e, .string t.s, .slice oa t.kids.length oc], .bool false]) (by simp [results, Tryd.results34, go_sem, z0, z1, z2, z3, z4]) rfl (HF.out _ _ _ _ _)
  | true =>
    obtain ⟨p0, p1, p2, p3, p4⟩ := Box.cells BV.out
    go_wp2_with fail
    refine (OT.out _ HB0.out).mono ?_
    rintro e1 w1 ⟨rfl, hb1⟩
    have HB1 := Lib.hid (show Below w.heap.size w w1 from HB0.out.trans (hb1.mono (by omega)))
    have BV1 := Lib.hid (Box.stay BV.out hb1)
    have BY1 := Lib.hid (Box.stay BY.out hb1)
    have BZ1 := Lib.hid (Box.stay BZ.out hb1)
    have hz1 := hb1.size
    clear hb1 BV BY BZ p0 p1 p2 p3 p4
    cases ot with
    | false =>
      have HRN := Lib.hid (show R = none from by rw [HM.out]; exact if_neg (fun h => by simp at h))
      clear OT OY HM HY HRY
      obtain ⟨p0, p1, p2, p3, p4⟩ := Box.cells BV1.out
      go_wp2_with fail
      refine (CP.out _ HB1.out).mono ?_
      rintro e8 w8 ⟨sl8, G, rfl, twf, hrow, hb8⟩
      have hrp := hrow.toP.repF
      obtain ⟨oa, oc, rfl⟩ := hrp.slice
      have HB8 := Lib.hid (show Below w.heap.size w w8 from HB1.out.trans (hb8.mono (by omega)))
      have BZ8 := Lib.hid (Box.stay BZ1.out hb8)
      have HF := Lib.hid (fun (v0 v1 v2 v3 v4 : Value) => show VF F w (R.getD t) R.isSome (.returned (.tuple #[t.agg (.slice oa t.kids.length oc), .bool false])) (set5 w8 (w.heap.size + 2) v0 v1 v2 v3 v4) from by
        rw [HRN.out]
        exact vf_fin twf hrp HB8.out (by omega) (fun x hx => by
          rcases hx with h | h
          · have := (hrow.inG x h).1; exact ⟨by omega, .inr (by omega)⟩
          · have := (hrow.lt x h).1; exact ⟨by omega, .inr (by omega)⟩) v0 v1 v2 v3 v4)
      unfold V.agg at HF
      clear hrp hrow hb8 twf p0 p1 p2 p3 p4
      obtain ⟨z0, z1, z2, z3, z4⟩ := Box.cells BZ8.out
      have zf0 := Box.free (i := 0) BZ8.out; have zf1 := Box.free (i := 1) BZ8.out; have zf2 := Box.free (i := 2) BZ8.out; have zf3 := Box.free (i := 3) BZ8.out; have zf4 := Box.free (i := 4) BZ8.out
      go_wp2_with fail
      exact bodyPost_ret (v := .tuple #[.agg #[.int .i64 t.k, .int .i64 t.n, .int .i64 t.e, .string t.s, .slice oa t.kids.length oc], .bool false]) (by simp [results, Tryd.results34, go_sem, z0, z1, z2, z3, z4]) rfl (HF.out _ _ _ _ _)
    | true =>
      obtain ⟨p0, p1, p2, p3, p4⟩ := Box.cells BY1.out
      go_wp2_with fail
      refine (OY.out _ HB1.out).mono ?_
      rintro e2 w2 ⟨rfl, hb2⟩
      have HB2 := Lib.hid (show Below w.heap.size w w2 from HB1.out.trans (hb2.mono (by omega)))
      have BV2 := Lib.hid (Box.stay BV1.out hb2)
      have BY2 := Lib.hid (Box.stay BY1.out hb2)
      have BZ2 := Lib.hid (Box.stay BZ1.out hb2)
      have hz2 := hb2.size
      clear hb2 BV1 BY1 BZ1 p0 p1 p2 p3 p4
      cases oy with
      | false =>
        have HRN := Lib.hid (show R = none from by rw [HM.out]; exact if_neg (fun h => by simp at h))
        clear OT OY HM HY HRY
        obtain ⟨p0, p1, p2, p3, p4⟩ := Box.cells BV2.out
        go_wp2_with fail
        refine (CP.out _ HB2.out).mono ?_
        rintro e8 w8 ⟨sl8, G, rfl, twf, hrow, hb8⟩
        have hrp := hrow.toP.repF
        obtain ⟨oa, oc, rfl⟩ := hrp.slice
        have HB8 := Lib.hid (show Below w.heap.size w w8 from HB2.out.trans (hb8.mono (by omega)))
        have BZ8 := Lib.hid (Box.stay BZ2.out hb8)
        have HF := Lib.hid (fun (v0 v1 v2 v3 v4 : Value) => show VF F w (R.getD t) R.isSome (.returned (.tuple #[t.agg (.slice oa t.kids.length oc), .bool false])) (set5 w8 (w.heap.size + 2) v0 v1 v2 v3 v4) from by
          rw [HRN.out]
          exact vf_fin twf hrp HB8.out (by omega) (fun x hx => by
            rcases hx with h | h
            · have := (hrow.inG x h).1; exact ⟨by omega, .inr (by omega)⟩
            · have := (hrow.lt x h).1; exact ⟨by omega, .inr (by omega)⟩) v0 v1 v2 v3 v4)
        unfold V.agg at HF
        clear hrp hrow hb8 twf p0 p1 p2 p3 p4
        obtain ⟨z0, z1, z2, z3, z4⟩ := Box.cells BZ8.out
        have zf0 := Box.free (i := 0) BZ8.out; have zf1 := Box.free (i := 1) BZ8.out; have zf2 := Box.free (i := 2) BZ8.out; have zf3 := Box.free (i := 3) BZ8.out; have zf4 := Box.free (i := 4) BZ8.out
        go_wp2_with fail
        exact bodyPost_ret (v := .tuple #[.agg #[.int .i64 t.k, .int .i64 t.n, .int .i64 t.e, .string t.s, .slice oa t.kids.length oc], .bool false]) (by simp [results, Tryd.results34, go_sem, z0, z1, z2, z3, z4]) rfl (HF.out _ _ _ _ _)
      | true =>
        have HRS := Lib.hid (show R = some y from by rw [HM.out]; exact if_pos (by simp))
        have HF := Lib.hid (fun (v0 v1 v2 v3 v4 : Value) => show VF F w (R.getD t) R.isSome (.returned (.tuple #[y.agg (.slice ya y.kids.length yc), .bool true])) (set5 w2 (w.heap.size + 2) v0 v1 v2 v3 v4) from by
          rw [HRS.out]
          exact vf_fin HY.out (HRY.out.stay HB2.out) HB2.out (by omega) (fun x hx => ⟨by have := hx.2; omega, .inl hx.1⟩) v0 v1 v2 v3 v4)
        unfold V.agg at HF
        clear OT OY HM HY HRY CP
        obtain ⟨p0, p1, p2, p3, p4⟩ := Box.cells BY2.out
        obtain ⟨z0, z1, z2, z3, z4⟩ := Box.cells BZ2.out
        have zf0 := Box.free (i := 0) BZ2.out; have zf1 := Box.free (i := 1) BZ2.out; have zf2 := Box.free (i := 2) BZ2.out; have zf3 := Box.free (i := 3) BZ2.out; have zf4 := Box.free (i := 4) BZ2.out
        go_wp2_with fail
        exact bodyPost_ret (v := .tuple #[.agg #[.int .i64 y.k, .int .i64 y.n, .int .i64 y.e, .string y.s, .slice ya y.kids.length yc], .bool true]) (by simp [results, Tryd.results34, go_sem, z0, z1, z2, z3, z4]) rfl (HF.out _ _ _ _ _)
set_option maxHeartbeats 4000000 in
theorem Remove_spec (w0 : World) (v : Value) (t : V) (h : Rep w0 v t) (hz : t.sz ≤ 1048576) (v1 : Value) (l : List ByteArray) (h1 : RepSs w0 v1 l) (hl : szl l ≤ 1048576) (w : World) (hw : Below w0.heap.size w0 w) :
    Calls Tryd.prog 15 #[v, v1] w (VRep w0.heap.size w ((remP t l).getD t) (remP t l).isSome) := by
  obtain ⟨sl, rfl, hwf, hr⟩ := h
  have LS := Lib.hid (fun (W : World) (hW : Below w0.heap.size w0 W) => l08Less_any w0 l t sl v1 W (fun x hx => Nat.le_trans (szl_mem hx) hl) (Nat.le_trans (szl_length l) hl) hwf hz hr h1 hW)
  have HZ := Lib.hid (Nat.le_trans (lessV_sz l t) hz)
  have HRM := Lib.hid (show remP t l = madeV t (lessV t l).1 (lessV t l).2 from by rw [← remR_remP]; rfl)
  have MD := Lib.hid (fun (W : World) (hW : Below w0.heap.size w0 W) (y : V) (b : Bool) (sy : Value) (hy : y.wf) (F : Nat → Prop) (hry : RepF W F sy y.kids) (hyz : y.sz ≤ 1048576) =>
    l08Made_any W t y sl sy b hwf (hr.keep hW) hz hy F hry (fun W2 hW2 => ValueOk_spec W _ y ⟨sy, rfl, hy, hry.rep⟩ hyz W2 hW2))
  have hww := hw.size
  have HW := Lib.hid hw
  obtain ⟨a, cap, rfl⟩ := hr.slice
  obtain ⟨s0, s1, s2, s3, rfl, -, -, -, -⟩ := h1
  clear hr hwf hz hl hw
  generalize remP t l = R at *
  generalize lessV t l = Q at *
  obtain ⟨y, yb⟩ := Q
  dsimp only at LS HZ HRM
  have BV := Lib.hid ((Box.new w t.k t.n t.e t.s (.slice a t.kids.length cap) 30).alloc (.cells #[.int .i64 0, .int .i64 0, .int .i64 0, .string ⟨#[]⟩, .slice none 0 0] 30))
  have BZ := Lib.hid (Box.new (w.alloc (.cells #[.int .i64 t.k, .int .i64 t.n, .int .i64 t.e, .string t.s, .slice a t.kids.length cap] 30)) 0 0 0 ⟨#[]⟩ (.slice none 0 0) 30)
  obtain ⟨W0, hW0⟩ : ∃ W0, W0 = (w.alloc (.cells #[.int .i64 t.k, .int .i64 t.n, .int .i64 t.e, .string t.s, .slice a t.kids.length cap] 30)).alloc (.cells #[.int .i64 0, .int .i64 0, .int .i64 0, .string ⟨#[]⟩, .slice none 0 0] 30) := ⟨_, rfl⟩
  have hz0 : W0.heap.size = w.heap.size + 2 := by rw [hW0]; simp
  have HB0 := Lib.hid (show Below w.heap.size w W0 from by rw [hW0]; exact (by (with_reducible (repeat' (first | exact Below.refl _ _ | refine below_alloc ?_ _ ?_ | refine Below.setCell ?_ ?_ _ | refine Below.drew ?_ | refine Go.below_drewN ?_ _ | refine below_step ?_ (by assumption) ?_ | refine below_mark ?_ (by assumption) ?_))); all_goals (first | omega | (simp; done) | (simp; omega))))
  rw [← hW0] at BV BZ
  rw [show (w.alloc (.cells #[.int .i64 t.k, .int .i64 t.n, .int .i64 t.e, .string t.s, .slice a t.kids.length cap] 30)).heap.size = w.heap.size + 1 by simp] at BZ
  unfold VRep at LS
  unfold VF at MD
  unfold V.agg at LS MD ⊢
  go_enter Tryd.func15, Tryd.ntmps15
  go_upto_region 1 with fail
  rw [← hW0]
  clear hW0
  obtain ⟨p0, p1, p2, p3, p4⟩ := Box.cells BV.out
  go_wp2_with fail
  refine (LS.out _ (HW.out.trans (HB0.out.mono hww))).mono ?_
  rintro e1 w1 ⟨sl1, rfl, ywf, hrep, hb1⟩
  obtain ⟨ya, yc, rfl⟩ := hrep.slice
  have HB1 := Lib.hid (show Below w.heap.size w w1 from HB0.out.trans (hb1.mono (by omega)))
  have BV1 := Lib.hid (Box.stay BV.out hb1)
  have BZ1 := Lib.hid (Box.stay BZ.out hb1)
  have hz1 := hb1.size
  clear hb1 BV BZ p0 p1 p2 p3 p4
  go_upto_region 2 with fail
  obtain ⟨W2, hW2⟩ : ∃ W2, W2 = w1.alloc (.cells #[.int .i64 y.k, .int .i64 y.n, .int .i64 y.e, .string y.s, .slice ya y.kids.length yc] 30) := ⟨_, rfl⟩
  have hal : Below w1.heap.size w1 W2 := by rw [hW2]; exact (Below.refl _ _).alloc (Nat.le_refl _) _
  have hz2 := hal.size
  have HB2 := Lib.hid (show Below w.heap.size w W2 from HB1.out.trans (hal.mono (by omega)))
  have BV2 := Lib.hid (Box.stay BV1.out hal)
  have BZ2 := Lib.hid (Box.stay BZ1.out hal)
  have BY2 := Lib.hid (show Box W2 w1.heap.size y.k y.n y.e y.s (.slice ya y.kids.length yc) 30 from by rw [hW2]; exact Box.new w1 _ _ _ _ _ _)
  have MD2 := Lib.hid (MD.out W2 (HW.out.trans (HB2.out.mono hww)) y yb (.slice ya y.kids.length yc) ywf _ (hrep.stay hal) HZ.out)
  rw [← hW2]
  clear hW2 hal BV1 BZ1 hrep MD LS
  obtain ⟨p0, p1, p2, p3, p4⟩ := Box.cells BV2.out
  obtain ⟨q0, q1, q2, q3, q4⟩ := Box.cells BY2.out
  rw [← HRM.out] at MD2
  generalize hRG : R.getD t = u at *
  generalize R.isSome = ub at *
  go_wp2_with fail
  refine MD2.out.mono ?_
  rintro e3 w3 ⟨sl3, rfl, uwf, hru, hb3⟩
  obtain ⟨ua, uc, rfl⟩ := hru.slice
  have HB3 := Lib.hid (show Below w.heap.size w w3 from HB2.out.trans (hb3.mono (by omega)))
  have BZ3 := Lib.hid (Box.stay BZ2.out hb3)
  have HF := Lib.hid (fun (v0 v1 v2 v3 v4 : Value) => show VRep w0.heap.size w u ub (.returned (.tuple #[u.agg (.slice ua u.kids.length uc), .bool ub])) (set5 w3 (w.heap.size + 1) v0 v1 v2 v3 v4) from
    vrep_fin uwf hru HB3.out hww (fun x hx => by rcases hx with (h | h) | h <;> omega) v0 v1 v2 v3 v4)
  unfold V.agg at HF
  clear MD2 hru uwf p0 p1 p2 p3 p4 q0 q1 q2 q3 q4
  obtain ⟨z0, z1, z2, z3, z4⟩ := Box.cells BZ3.out
  have zf0 := Box.free (i := 0) BZ3.out; have zf1 := Box.free (i := 1) BZ3.out; have zf2 := Box.free (i := 2) BZ3.out; have zf3 := Box.free (i := 3) BZ3.out; have zf4 := Box.free (i := 4) BZ3.out
  go_wp2_with fail
  exact bodyPost_ret (v := .tuple #[.agg #[.int .i64 u.k, .int .i64 u.n, .int .i64 u.e, .string u.s, .slice ua u.kids.length uc], .bool ub]) (by simp [results, Tryd.results15, go_sem, z0, z1, z2, z3, z4]) rfl (HF.out _ _ _ _ _)
end Go.Proofs.YtaphlemmlmdkiaaDoor
namespace Go.Proofs.YtaphlemmlmdkiaaDoor
set_option linter.unusedSimpArgs false
set_option linter.unusedVariables false
set_option maxRecDepth 100000
open Go.RowKit Go.Lib Go.Shelf
theorem accept_eq : Rows.laid_unicode_utf8_acceptRanges = Lib.acceptData := by kernel_rfl
theorem first_eq : Rows.laid_unicode_utf8_first = Lib.firstData := Pinned.utf8First_eq
theorem env_of {w : World} (h3 : VarReads Tryd.prog w "unicode/utf8.first" Rows.laid_unicode_utf8_first) (h4 : VarReads Tryd.prog w "unicode/utf8.acceptRanges" Rows.laid_unicode_utf8_acceptRanges) : Env w := by
  rw [accept_eq] at h4
  rw [first_eq] at h3
  exact utf8Tabs_of_readsT (U8Types.of196 Tryd.laysValid) ⟨by kernel_rfl, by kernel_rfl, by kernel_rfl, by kernel_rfl, by kernel_rfl, by kernel_rfl, by kernel_rfl⟩ h3 h4
end Go.Proofs.YtaphlemmlmdkiaaDoor
namespace Go.Proofs.YtaphlemmlmdkiaaDoor
set_option linter.unusedSimpArgs false
set_option linter.unusedVariables false
set_option maxRecDepth 100000
open Go.RowKit Go.Lib Go.Shelf
theorem pow_eq : (Rows.laid_internal_strconv_uint64pow10 : DataW Unit) = Lib.tabData .u64 Lib.pow10Tab := by kernel_rfl
end Go.Proofs.YtaphlemmlmdkiaaDoor
namespace Go.Proofs.YtaphlemmlmdkiaaDoor
set_option linter.unusedSimpArgs false
set_option linter.unusedVariables false
set_option maxRecDepth 100000
open Go.RowKit Go.Lib Go.Shelf
theorem err_of {w : World} {n nm : String} {d : DataW Unit} {g : Nat} {t : TypeId} {ms : Array (String × TypeId)} (h : VarReads Tryd.prog w n (.iface nm d)) (hg : Tryd.prog.globalNamed n = some g)
    (ht : (Tryd.prog.globals[g]?).map (·.type) = some t) (hi : Tryd.prog.underlying t = some (.interface ms)) :
    ∃ ev, w.cell? ⟨g, 0, none⟩ = some ev ∧ (ev = .nilIface ∨ ∃ te pe, ev = .iface te pe) := by
  obtain ⟨g', t', cs, fuel, p, hg', ht', hvar, hd⟩ := h
  obtain rfl := Option.some.inj (hg.symm.trans hg')
  obtain rfl := Option.some.inj (ht.symm.trans ht')
  obtain ⟨l⟩ := cs
  obtain ⟨f1, u, v, rfl, -, -⟩ := iface_of_trod hi hd
  exact ⟨.iface u v, by simpa using World.var?_cell hg hvar 0, .inr ⟨_, _, rfl⟩⟩
theorem envD_of {w : World} (h3 : VarReads Tryd.prog w "unicode/utf8.first" Rows.laid_unicode_utf8_first) (h4 : VarReads Tryd.prog w "unicode/utf8.acceptRanges" Rows.laid_unicode_utf8_acceptRanges)
    (h5 : VarReads Tryd.prog w "internal/strconv.uint64pow10" Rows.laid_internal_strconv_uint64pow10) (h6 : VarReads Tryd.prog w "strconv.ErrSyntax" Rows.laid_strconv_ErrSyntax) (h7 : VarReads Tryd.prog w "strconv.ErrRange" Rows.laid_strconv_ErrRange) : EnvD w := by
  refine ⟨env_of h3 h4, ?_, err_of h6 (by kernel_rfl) (by kernel_rfl) Tryd.underlying111, err_of h7 (by kernel_rfl) (by kernel_rfl) Tryd.underlying111⟩
  rw [pow_eq] at h5
  obtain ⟨g', t', cs, fuel, p, hg', ht', hvar, hd⟩ := h5
  obtain rfl := Option.some.inj ((show Tryd.prog.globalNamed "internal/strconv.uint64pow10" = some (Tryd.laysItoa_ren.g 17) by kernel_rfl).symm.trans hg')
  obtain rfl := Option.some.inj ((show (Tryd.prog.globals[Tryd.laysItoa_ren.g 17]?).map (·.type) = some 132 by kernel_rfl).symm.trans ht')
  unfold TabIs
  rw [hvar, ← cells_of_tab Tryd.underlying132 Tryd.underlying109 (by kernel_rfl) (by kernel_rfl) hd]
end Go.Proofs.YtaphlemmlmdkiaaDoor
namespace Go.Proofs.YtaphlemmlmdkiaaDoor
set_option linter.unusedSimpArgs false
set_option linter.unusedVariables false
set_option maxRecDepth 100000
open Go.RowKit
set_option maxHeartbeats 400000 in
theorem sz_strs (w0 : World) (v : Value) (l : List ByteArray) (h : RepSs w0 v l) (w : World) (hw : Below w0.heap.size w0 w) (m : Int) (h0 : 0 ≤ m) (h1 : m ≤ 1048576) :
    Calls Tryd.prog 14 #[v, .int .i64 m] w fun e w' => e = .returned (.int .i64 (szr m (szl l))) ∧ w' = w := by
  obtain ⟨a, b, off, cap, rfl, ha, hc, hm, hcell⟩ := h
  have HA := Lib.hid ha; have HC := Lib.hid hcell
  have hlen := szl_length l
  clear ha hcell
  by_cases hl : m < l.length
  · have H := Lib.hid (show szr m (szl l) = -1 by unfold szr; rw [if_pos (by omega)])
    go_enter Tryd.func14, Tryd.ntmps14
    go_wp2_with fail
    go_ret
    exact ⟨by rw [H.out]; rfl, rfl⟩
  · go_enter Tryd.func14, Tryd.ntmps14
    go_wp2_with fail
    go_loop [1, 5] (fun l' i => ∃ k : Nat, ∃ q : Int, k ≤ l.length ∧ i = .int .i64 k ∧ l' = .int .i64 q ∧ 0 ≤ q ∧ q ≤ m ∧ Hid (q = m - l.length - (szl (l.take k) - k))) (fun _ i => l.length - (intOf i).toNat)
    case atStart => exact ⟨0, m - l.length, by omega, rfl, rfl, by omega, by omega, Lib.hid (by simp [szl])⟩
    case round =>
      obtain ⟨k, q, hk, rfl, rfl, hpos, hqm, HQ⟩ := hrel
      by_cases hlt : k < l.length
      · have hne : l ≠ [] := by intro e; rw [e] at hlt; simp at hlt
        obtain ⟨rfl, hbw⟩ := HA.out hne
        have hcell : w.cell? ⟨b, off + k, none⟩ = some (.string l[k]) := by rw [World.cell?_of_block (a := ⟨b, off + k, none⟩) (hw.block b hbw)]; exact (HC.out k hlt).1
        have hss := (HC.out k hlt).2
        have HT := Lib.hid (szl_take l k hlt)
        have HS := Lib.hid (show q < (l[k]).size → szr m (szl l) = -1 from fun hh => by
          have h3 := szl_split l (k + 1); have h4 := szl_length (l.drop (k + 1)); rw [List.length_drop] at h4
          have h5 := HT.out; have h6 := HQ.out; unfold szr; rw [if_pos (by omega)])
        generalize l[k] = s at *
        by_cases hq : q < s.size
        · have HS2 := Lib.hid (HS.out hq)
          go_wp2_with fail
          go_ret
          exact ⟨by rw [HS2.out]; rfl, rfl⟩
        · go_wp2_with fail
          go_round
          case rel => exact ⟨k + 1, q - s.size, by omega, by go_num, rfl, by omega, by omega, Lib.hid (by rw [HT.out, HQ.out]; omega)⟩
          case measure => simp [intOf]; omega
      · have H := Lib.hid (show q = szr m (szl l) by
          have h6 := HQ.out; rw [List.take_of_length_le (by omega)] at h6; unfold szr; rw [if_neg (by omega)]; omega)
        go_wp2_with fail
        go_ret
        exact ⟨by rw [← H.out]; rfl, rfl⟩
theorem sz_strsB (w0 : World) (v : Value) (l : List ByteArray) (h : RepSs w0 v l) (w : World) (hw : Below w0.heap.size w0 w) (m : Int) (h0 : 0 ≤ m) (h1 : m ≤ 1048576) :
    Calls Tryd.prog 14 #[v, .int .i64 m] w fun e w' => e = .returned (.int .i64 (szr m (szl l))) ∧ Below w.heap.size w w' :=
  (sz_strs w0 v l h w hw m h0 h1).mono fun e w' ⟨h1, h2⟩ => ⟨h1, by subst h2; exact Below.refl _ _⟩
set_option maxHeartbeats 400000 in
theorem to_strs (w0 : World) (v : Value) (l : List ByteArray) (h : RepSs w0 v l) (hl : l.length ≤ 1048576) (w : World) (hw : Below w0.heap.size w0 w) :
    Calls Tryd.prog 16 #[v] w (StrsRet w l) := by
  obtain ⟨a, b, off, cap, rfl, ha, hc, hm, hcell⟩ := h
  have HA := Lib.hid ha; have HC := Lib.hid hcell
  clear ha hcell
  obtain ⟨i0, hi, hz0, hz1, hz2⟩ := info_parts info_str
  obtain ⟨wm, hrun, hrow, hg⟩ := run_make_full (P := Tryd.prog) w w.heap.size 37 9 i0 _ 1 Tryd.underlying37 hi hz0 hz1 .i64 .i64 l.length (by rw [hz2]; omega) (by simp only [maxLen]; omega) (Nat.le_refl _)
  have HR := Lib.hid (SRow.made hrow)
  have hbm : Below w.heap.size w wm := (Below.refl _ _).grown hg (Nat.le_refl _) (by simp)
  clear hi hz0 hz1 hz2 hrow
  generalize hgg : w.heap.size = g at *
  have HG := Lib.hid hgg; clear hgg
  go_enter Tryd.func16, Tryd.ntmps16
  go_wp2_with fail
  clear hrun
  go_loopw [4] (fun i wr => ∃ k : Nat, k ≤ l.length ∧ i = .int .i64 k ∧ SRow wr g (.slice (some ⟨g, 0, none⟩) l.length l.length) (l.take k ++ List.replicate (l.length - k) ⟨#[]⟩) ∧ Below g w wr) (fun i _ => l.length - (intOf i).toNat)
  case atStart => exact ⟨0, by omega, rfl, by simpa using HR.out, hbm⟩
  case round =>
    obtain ⟨k, hk, rfl, hrow, hbl⟩ := hrel
    have HROW := Lib.hid hrow; clear hrow
    by_cases hlt : k < l.length
    · have hne : l ≠ [] := by intro e; rw [e] at hlt; simp at hlt
      obtain ⟨rfl, hbw⟩ := HA.out hne
      have hcell : wr.cell? ⟨b, off + k, none⟩ = some (.string l[k]) := by rw [World.cell?_of_block (a := ⟨b, off + k, none⟩) ((hbl.block b (by rw [← HG.out]; exact Nat.lt_of_lt_of_le hbw hw.size)).trans (hw.block b hbw))]; exact (HC.out k hlt).1
      have HS := Lib.hid (SRow.set (i := k) HROW.out (HC.out k hlt).2)
      have HE := Lib.hid (fill_set (⟨#[]⟩ : ByteArray) l k hlt)
      obtain ⟨c1, c2⟩ := HROW.out.cells (i := k) (by simp; omega)
      generalize l[k] = s at *
      go_wp2_with fail
      go_roundw
      case rel => exact ⟨k + 1, by omega, by go_num, by rw [← HE.out]; exact HS.out, (by (repeat' (first | with_reducible exact Below.refl _ _ | with_reducible refine below_alloc ?_ _ ?_ | with_reducible refine Below.setCell ?_ ?_ _ | with_reducible refine Below.drew ?_ | with_reducible refine Go.below_drewN ?_ _ | with_reducible refine below_step ?_ (by assumption) ?_ | with_reducible refine below_mark ?_ (by assumption) ?_)); all_goals (first | omega | (simp; done) | (simp; omega)))⟩
      case measure => simp [intOf]; omega
    · have hkl : k = l.length := by omega
      subst hkl
      go_wp2_with fail
      go_ret
      exact ⟨_, rfl, by rw [HG.out]; simpa using HROW.out, by rw [HG.out]; exact hbl⟩
end Go.Proofs.YtaphlemmlmdkiaaDoor
namespace Go.Proofs.YtaphlemmlmdkiaaDoor
set_option linter.unusedSimpArgs false
set_option linter.unusedVariables false
set_option maxRecDepth 100000
open Go.RowKit
theorem remP_sz {t : V} (l : List ByteArray) (h : t.sz ≤ 1048576) : ((remP t l).getD t).sz ≤ 1048576 := by
  cases hr : remP t l with
  | none => exact h
  | some y =>
    unfold remP at hr
    split at hr
    · rename_i hc
      have := ok_sz (rmv_ok hc.2.2 hr).1
      show y.sz ≤ _
      omega
    · cases hr
end Go.Proofs.YtaphlemmlmdkiaaDoor
namespace Go.Proofs.YtaphlemmlmdkiaaDoor
set_option linter.unusedSimpArgs false
set_option linter.unusedVariables false
set_option maxRecDepth 100000
open Go.ChangeShapes Go.WideShapes Go.ChangeAt Go.RowKit Go.Lib
open Go.ChangeMaps (open_string shut_string)
set_option maxHeartbeats 8000000 in
theorem walk_FnExactRemove {w00 : World} (v0 : Value) (t0 : V) (hv0 : Rep w00 v0 t0) (v1 : Value) (t1 : List ByteArray) (hv1 : RepSs w00 v1 t1) (w : World) (hww : w = w00) (hE : EnvD w) : Calls Tryd.prog 4 #[v0, v1] w (LawRet w) := by
  subst hww
  have SZ0 := Lib.hid (fun w' (hh : Below w.heap.size w w') (m : Int) (h0 : 0 ≤ m) (h1 : m ≤ 1048576) => sz_any w v0 t0 hv0 w' hh m h0 h1)
  have TO0 := Lib.hid (fun w' (hh : Below w.heap.size w w') (hz : t0.sz ≤ 1048576) => to_any w v0 t0 hv0 hz w' hh)
  have EQ0 := Lib.hid (fun w1 x y (h1 : Rep w1 x t0) (h2 : Rep w1 y t0) => eq_any w1 x y t0 h1 h2 w1 (Below.refl _ _))
  have SZ1 := Lib.hid (fun w' (hh : Below w.heap.size w w') (m : Int) (h0 : 0 ≤ m) (h1 : m ≤ 1048576) => sz_strsB w v1 t1 hv1 w' hh m h0 h1)
  have TO1 := Lib.hid (fun w' (hh : Below w.heap.size w w') (hz : szl t1 ≤ 1048576) => to_strs w v1 t1 hv1 (Nat.le_trans (szl_length _) hz) w' hh)
  have EQ1 := Lib.hid (fun w1 x y (h1 : RepSs w1 x t1) (h2 : RepSs w1 y t1) => eqStringS_any w1 x y t1 h1 h2 w1 (Below.refl _ _))
  have KS := Lib.hid (fun w1 x0 (h0 : Rep w1 x0 t0) (z0 : t0.sz ≤ 1048576) x1 (h1 : RepSs w1 x1 t1) (z1 : szl t1 ≤ 1048576) => Remove_spec w1 x0 t0 h0 z0 x1 t1 h1 z1 w1 (Below.refl _ _))
  have KI := Lib.hid (fun w1 x0 (h0 : Rep w1 x0 t0) (z0 : t0.sz ≤ 1048576) x1 (h1 : RepSs w1 x1 t1) (z1 : szl t1 ≤ 1048576) (hh : Below w.heap.size w w1) => Remove_impl w1 x0 t0 h0 z0 x1 t1 h1 z1 w1 (Below.refl _ _) (EnvD.keep hE hh))
  clear hE
  have HCN0 := Lib.hid (fun (h : t0.sz ≤ 1048576) => cnts_kids_le h)
  have HCN1 := Lib.hid (fun (h : szl t1 ≤ 1048576) => Nat.le_trans (szl_length t1) h)
  have HR0 := Lib.hid (fun (h : t0.sz ≤ 1048576) (h2 : szl t1 ≤ 1048576) => cnts_kids_le (remP_sz t1 h))
  obtain ⟨sl0, rfl, _, _⟩ := hv0
  obtain ⟨va1, vb1, vo1, vc1, rfl, _⟩ := hv1
  unfold V.agg at SZ0 TO0 ⊢
  generalize (remP t0 t1).getD t0 = r0 at *
  generalize (remP t0 t1).isSome = r1 at *
  go_enter Tryd.func4, Tryd.ntmps4
  go_wp2_with fail
  have BA0_0 := Lib.hid (Box.new (w) t0.k t0.n t0.e t0.s sl0 24)
  have HOK0 := Lib.hid (fun (h : ¬ szr (1048576) (t0.sz) < 0) => szr_ok h)
  have hlo0 := szr_lo (1048576) (t0.sz)
  refine (SZ0.out _ (by (repeat' (first | with_reducible exact Below.refl _ _ | with_reducible refine below_alloc ?_ _ ?_ | with_reducible refine Below.setCell ?_ ?_ _ | with_reducible refine Below.drew ?_ | with_reducible refine Go.below_drewN ?_ _ | with_reducible refine below_step ?_ (by assumption) ?_ | with_reducible refine below_mark ?_ (by assumption) ?_)); all_goals (first | omega | (simp; done) | (simp; omega))) _ (by omega) (by omega)).mono ?_
  rintro e1 w1 ⟨rfl, hb1⟩
  have hz1 := hb1.size; try simp at hz1
  generalize szr (1048576) (t0.sz) = m0 at *
  by_cases hm0 : m0 < 0
  · go_wp2_with fail
    go_ret
    exact ⟨rfl, (by (repeat' (first | with_reducible exact Below.refl _ _ | with_reducible refine below_alloc ?_ _ ?_ | with_reducible refine Below.setCell ?_ ?_ _ | with_reducible refine Below.drew ?_ | with_reducible refine Go.below_drewN ?_ _ | with_reducible refine below_step ?_ (by assumption) ?_ | with_reducible refine below_mark ?_ (by assumption) ?_)); all_goals (first | omega | (simp; done) | (simp; omega)))⟩
  obtain ⟨hq0, hr0⟩ := HOK0.out hm0
  have hm0' : ¬ m0 < 0 := hm0
  have hs0 := HCN0.out (by omega)
  go_wp2_with fail
  have HOK1 := Lib.hid (fun (h : ¬ szr (m0) (szl t1) < 0) => szr_ok h)
  have hlo1 := szr_lo (m0) (szl t1)
  refine (SZ1.out _ (by (repeat' (first | with_reducible exact Below.refl _ _ | with_reducible refine below_alloc ?_ _ ?_ | with_reducible refine Below.setCell ?_ ?_ _ | with_reducible refine Below.drew ?_ | with_reducible refine Go.below_drewN ?_ _ | with_reducible refine below_step ?_ (by assumption) ?_ | with_reducible refine below_mark ?_ (by assumption) ?_)); all_goals (first | omega | (simp; done) | (simp; omega))) _ (by omega) (by omega)).mono ?_
  rintro e2 w2 ⟨rfl, hb2⟩
  have hz2 := hb2.size; try simp at hz2
  generalize szr (m0) (szl t1) = m1 at *
  have BA0_2 := Lib.hid (Box.stay BA0_0.out (w' := w2) (by (repeat' (first | with_reducible exact Below.refl _ _ | with_reducible refine below_alloc ?_ _ ?_ | with_reducible refine Below.setCell ?_ ?_ _ | with_reducible refine Below.drew ?_ | with_reducible refine Go.below_drewN ?_ _ | with_reducible refine below_step ?_ (by assumption) ?_ | with_reducible refine below_mark ?_ (by assumption) ?_)); all_goals (first | omega | (simp; done) | (simp; omega))))
  obtain ⟨cBA02_0, cBA02_1, cBA02_2, cBA02_3, cBA02_4⟩ := BA0_2.out.cells
  by_cases hm1 : m1 < 0
  · go_wp2_with fail
    go_ret
    exact ⟨rfl, (by (repeat' (first | with_reducible exact Below.refl _ _ | with_reducible refine below_alloc ?_ _ ?_ | with_reducible refine Below.setCell ?_ ?_ _ | with_reducible refine Below.drew ?_ | with_reducible refine Go.below_drewN ?_ _ | with_reducible refine below_step ?_ (by assumption) ?_ | with_reducible refine below_mark ?_ (by assumption) ?_)); all_goals (first | omega | (simp; done) | (simp; omega)))⟩
  obtain ⟨hq1, hr1⟩ := HOK1.out hm1
  have hm1' : ¬ m1 < 0 := hm1
  have hs1 := HCN1.out (by omega)
  go_wp2_with fail
  have hHR0 := HR0.out (by omega) (by omega)
  clear cBA02_0 cBA02_1 cBA02_2 cBA02_3 cBA02_4
  refine (TO0.out _ (by (repeat' (first | with_reducible exact Below.refl _ _ | with_reducible refine below_alloc ?_ _ ?_ | with_reducible refine Below.setCell ?_ ?_ _ | with_reducible refine Below.drew ?_ | with_reducible refine Go.below_drewN ?_ _ | with_reducible refine below_step ?_ (by assumption) ?_ | with_reducible refine below_mark ?_ (by assumption) ?_)); all_goals (first | omega | (simp; done) | (simp; omega))) (by omega)).mono ?_
  rintro e3 w3 ⟨ps0, rfl, pf0, po0, hb3⟩
  have hz3 := hb3.size; try simp at hz3
  obtain ⟨pa0, pc0, rfl⟩ := po0.slice
  have pO0 := Lib.hid po0
  have pR0 := Lib.hid (po0.repV pf0)
  clear po0
  unfold V.agg at pR0 ⊢
  go_wp2_with fail
  refine (TO1.out _ (by (repeat' (first | with_reducible exact Below.refl _ _ | with_reducible refine below_alloc ?_ _ ?_ | with_reducible refine Below.setCell ?_ ?_ _ | with_reducible refine Below.drew ?_ | with_reducible refine Go.below_drewN ?_ _ | with_reducible refine below_step ?_ (by assumption) ?_ | with_reducible refine below_mark ?_ (by assumption) ?_)); all_goals (first | omega | (simp; done) | (simp; omega))) (by omega)).mono ?_
  rintro e4 w4 ⟨_, rfl, po1, hb4⟩
  have hz4 := hb4.size; try simp at hz4
  obtain ⟨pa1, pc1, rfl⟩ := po1.slice
  have pO1 := Lib.hid po1
  have pR1 := Lib.hid po1.rep
  clear po1
  go_wp2_with fail
  refine (KS.out _ _ (pR0.out.keep (by (repeat' (first | with_reducible exact Below.refl _ _ | with_reducible refine below_alloc ?_ _ ?_ | with_reducible refine Below.setCell ?_ ?_ _ | with_reducible refine Below.drew ?_ | with_reducible refine Go.below_drewN ?_ _ | with_reducible refine below_step ?_ (by assumption) ?_ | with_reducible refine below_mark ?_ (by assumption) ?_)); all_goals (first | omega | (simp; done) | (simp; omega)))) (by omega) _ (pR1.out.keep (by (repeat' (first | with_reducible exact Below.refl _ _ | with_reducible refine below_alloc ?_ _ ?_ | with_reducible refine Below.setCell ?_ ?_ _ | with_reducible refine Below.drew ?_ | with_reducible refine Go.below_drewN ?_ _ | with_reducible refine below_step ?_ (by assumption) ?_ | with_reducible refine below_mark ?_ (by assumption) ?_)); all_goals (first | omega | (simp; done) | (simp; omega)))) (by omega)).mono ?_
  rintro e5 w5 ⟨qs0, rfl, qf0, qo0, hb5⟩
  have hz5 := hb5.size; try simp at hz5
  obtain ⟨qa0, qc0, rfl⟩ := qo0.slice
  have qR0 := Lib.hid (show Rep w5 (r0.agg (.slice qa0 r0.kids.length qc0)) r0 from ⟨_, rfl, qf0, qo0.rep⟩)
  clear qo0
  unfold V.agg at qR0 ⊢
  have BQ0_n := Lib.hid (Box.new w5 r0.k r0.n r0.e r0.s (.slice qa0 r0.kids.length qc0) 30)
  have BA0_5 := Lib.hid (Box.stay BA0_2.out (w' := w5) (by (repeat' (first | with_reducible exact Below.refl _ _ | with_reducible refine below_alloc ?_ _ ?_ | with_reducible refine Below.setCell ?_ ?_ _ | with_reducible refine Below.drew ?_ | with_reducible refine Go.below_drewN ?_ _ | with_reducible refine below_step ?_ (by assumption) ?_ | with_reducible refine below_mark ?_ (by assumption) ?_)); all_goals (first | omega | (simp; done) | (simp; omega))))
  obtain ⟨cBA05_0, cBA05_1, cBA05_2, cBA05_3, cBA05_4⟩ := BA0_5.out.cells
  have hn5 : w.heap.size < w5.heap.size := by omega
  have hnn5 : w.heap.size ≠ w5.heap.size := by omega
  go_wp2_with fail
  clear cBA05_0 cBA05_1 cBA05_2 cBA05_3 cBA05_4
  refine (TO0.out _ (by (repeat' (first | with_reducible exact Below.refl _ _ | with_reducible refine below_alloc ?_ _ ?_ | with_reducible refine Below.setCell ?_ ?_ _ | with_reducible refine Below.drew ?_ | with_reducible refine Go.below_drewN ?_ _ | with_reducible refine below_step ?_ (by assumption) ?_ | with_reducible refine below_mark ?_ (by assumption) ?_)); all_goals (first | omega | (simp; done) | (simp; omega))) (by omega)).mono ?_
  rintro e6 w6 ⟨xs0, rfl, xf0, xo0, hb6⟩
  have hz6 := hb6.size; try simp at hz6
  obtain ⟨xa0, xc0, rfl⟩ := xo0.slice
  have xO0 := Lib.hid xo0.bound
  have xR0 := Lib.hid (xo0.repV xf0)
  clear xo0
  unfold V.agg at xR0 ⊢
  have BX0_n := Lib.hid (Box.new w6 t0.k t0.n t0.e t0.s (.slice xa0 t0.kids.length xc0) 30)
  go_wp2_with fail
  refine (TO1.out _ (by (repeat' (first | with_reducible exact Below.refl _ _ | with_reducible refine below_alloc ?_ _ ?_ | with_reducible refine Below.setCell ?_ ?_ _ | with_reducible refine Below.drew ?_ | with_reducible refine Go.below_drewN ?_ _ | with_reducible refine below_step ?_ (by assumption) ?_ | with_reducible refine below_mark ?_ (by assumption) ?_)); all_goals (first | omega | (simp; done) | (simp; omega))) (by omega)).mono ?_
  rintro e7 w7 ⟨_, rfl, xo1, hb7⟩
  have hz7 := hb7.size; try simp at hz7
  obtain ⟨xa1, xc1, rfl⟩ := xo1.slice
  have xO1 := Lib.hid xo1
  have xR1 := Lib.hid xo1.rep
  have XL1 := Lib.hid (fun x hx => xO1.out.lt x hx)
  clear xo1
  have BX0_7 := Lib.hid (Box.stay BX0_n.out (w' := w7) (by (repeat' (first | with_reducible exact Below.refl _ _ | with_reducible refine below_alloc ?_ _ ?_ | with_reducible refine Below.setCell ?_ ?_ _ | with_reducible refine Below.drew ?_ | with_reducible refine Go.below_drewN ?_ _ | with_reducible refine below_step ?_ (by assumption) ?_ | with_reducible refine below_mark ?_ (by assumption) ?_)); all_goals (first | omega | (simp; done) | (simp; omega))))
  obtain ⟨cBX07_0, cBX07_1, cBX07_2, cBX07_3, cBX07_4⟩ := BX0_7.out.cells
  have hxl0 : w6.heap.size < w7.heap.size := by omega
  have hxn0 : w6.heap.size ≠ w7.heap.size := by omega
  have hxm0 : w7.heap.size ≠ w6.heap.size := by omega
  go_wp2_with fail
  clear cBX07_0 cBX07_1 cBX07_2 cBX07_3 cBX07_4
  refine (KI.out _ _ (xR0.out.keep (by (repeat' (first | with_reducible exact Below.refl _ _ | with_reducible refine below_alloc ?_ _ ?_ | with_reducible refine Below.setCell ?_ ?_ _ | with_reducible refine Below.drew ?_ | with_reducible refine Go.below_drewN ?_ _ | with_reducible refine below_step ?_ (by assumption) ?_ | with_reducible refine below_mark ?_ (by assumption) ?_)); all_goals (first | omega | (simp; done) | (simp; omega)))) (by omega) _ (xR1.out.keep (by (repeat' (first | with_reducible exact Below.refl _ _ | with_reducible refine below_alloc ?_ _ ?_ | with_reducible refine Below.setCell ?_ ?_ _ | with_reducible refine Below.drew ?_ | with_reducible refine Go.below_drewN ?_ _ | with_reducible refine below_step ?_ (by assumption) ?_ | with_reducible refine below_mark ?_ (by assumption) ?_)); all_goals (first | omega | (simp; done) | (simp; omega)))) (by omega) (by (repeat' (first | with_reducible exact Below.refl _ _ | with_reducible refine below_alloc ?_ _ ?_ | with_reducible refine Below.setCell ?_ ?_ _ | with_reducible refine Below.drew ?_ | with_reducible refine Go.below_drewN ?_ _ | with_reducible refine below_step ?_ (by assumption) ?_ | with_reducible refine below_mark ?_ (by assumption) ?_)); all_goals (first | omega | (simp; done) | (simp; omega)))).mono ?_
  rintro e8 w8 ⟨gs0, rfl, gf0, go0, hb8⟩
  have hz8 := hb8.size; try simp at hz8
  obtain ⟨ga0, gc0, rfl⟩ := go0.slice
  have gR0 := Lib.hid (show Rep w8 (r0.agg (.slice ga0 r0.kids.length gc0)) r0 from ⟨_, rfl, gf0, go0.rep⟩)
  have gO0 := Lib.hid go0.bound
  clear go0
  unfold V.agg at gR0 ⊢
  have BG0_n := Lib.hid (Box.new w8 r0.k r0.n r0.e r0.s (.slice ga0 r0.kids.length gc0) 30)
  have tn1 : (r1 != r1) = false := by simp
  have BQ0_8 := Lib.hid (Box.stay BQ0_n.out (w' := w8) (by (repeat' (first | with_reducible exact Below.refl _ _ | with_reducible refine below_alloc ?_ _ ?_ | with_reducible refine Below.setCell ?_ ?_ _ | with_reducible refine Below.drew ?_ | with_reducible refine Go.below_drewN ?_ _ | with_reducible refine below_step ?_ (by assumption) ?_ | with_reducible refine below_mark ?_ (by assumption) ?_)); all_goals (first | omega | (simp; done) | (simp; omega))))
  obtain ⟨cBQ08_0, cBQ08_1, cBQ08_2, cBQ08_3, cBQ08_4⟩ := BQ0_8.out.cells
  have hnq8 : w5.heap.size < w8.heap.size := by omega
  have hnr8 : w5.heap.size ≠ w8.heap.size := by omega
  go_wp2_with fail
  clear cBQ08_0 cBQ08_1 cBQ08_2 cBQ08_3 cBQ08_4
  refine (eq_any _ _ _ r0 (gR0.out.keep (by (repeat' (first | with_reducible exact Below.refl _ _ | with_reducible refine below_alloc ?_ _ ?_ | with_reducible refine Below.setCell ?_ ?_ _ | with_reducible refine Below.drew ?_ | with_reducible refine Go.below_drewN ?_ _ | with_reducible refine below_step ?_ (by assumption) ?_ | with_reducible refine below_mark ?_ (by assumption) ?_)); all_goals (first | omega | (simp; done) | (simp; omega)))) (qR0.out.keep (by (repeat' (first | with_reducible exact Below.refl _ _ | with_reducible refine below_alloc ?_ _ ?_ | with_reducible refine Below.setCell ?_ ?_ _ | with_reducible refine Below.drew ?_ | with_reducible refine Go.below_drewN ?_ _ | with_reducible refine below_step ?_ (by assumption) ?_ | with_reducible refine below_mark ?_ (by assumption) ?_)); all_goals (first | omega | (simp; done) | (simp; omega)))) _ (Below.refl _ _)).mono ?_
  rintro e9 w9 ⟨rfl, hb9⟩
  have hz9 := hb9.size; try simp at hz9
  have BX0_9 := Lib.hid (Box.stay BX0_7.out (w' := w9) (by (repeat' (first | with_reducible exact Below.refl _ _ | with_reducible refine below_alloc ?_ _ ?_ | with_reducible refine Below.setCell ?_ ?_ _ | with_reducible refine Below.drew ?_ | with_reducible refine Go.below_drewN ?_ _ | with_reducible refine below_step ?_ (by assumption) ?_ | with_reducible refine below_mark ?_ (by assumption) ?_)); all_goals (first | omega | (simp; done) | (simp; omega))))
  obtain ⟨cBX09_0, cBX09_1, cBX09_2, cBX09_3, cBX09_4⟩ := BX0_9.out.cells
  have BA0_9 := Lib.hid (Box.stay BA0_5.out (w' := w9) (by (repeat' (first | with_reducible exact Below.refl _ _ | with_reducible refine below_alloc ?_ _ ?_ | with_reducible refine Below.setCell ?_ ?_ _ | with_reducible refine Below.drew ?_ | with_reducible refine Go.below_drewN ?_ _ | with_reducible refine below_step ?_ (by assumption) ?_ | with_reducible refine below_mark ?_ (by assumption) ?_)); all_goals (first | omega | (simp; done) | (simp; omega))))
  obtain ⟨cBA09_0, cBA09_1, cBA09_2, cBA09_3, cBA09_4⟩ := BA0_9.out.cells
  go_upto_region 14 with fail
  go_cut [58] (fun s wx => s = .bool false ∧ Below w9.heap.size w9 wx)
  case first =>
    go_region_with (first | (go_at_call 7; refine (TO0.out _ (by (repeat' (first | with_reducible exact Below.refl _ _ | with_reducible refine below_alloc ?_ _ ?_ | with_reducible refine Below.setCell ?_ ?_ _ | with_reducible refine Below.drew ?_ | with_reducible refine Go.below_drewN ?_ _ | with_reducible refine below_step ?_ (by assumption) ?_ | with_reducible refine below_mark ?_ (by assumption) ?_)); all_goals (first | omega | (simp; done) | (simp; omega))) (by omega)).mono ?_; rintro e0 wa0 ⟨ys0, rfl, yf0, yo0, yb0⟩; have yR0 := Lib.hid (yo0.repV yf0); obtain ⟨y0, y1, y2, y3, y4⟩ := (Box.keep BX0_9.out (Below.trans (Below.drew (Below.refl _ _)) yb0) (Nat.le_refl _)).cells; clear yo0) | (go_at_call 10; refine (EQ0.out _ _ _ (xR0.out.keep (by (repeat' (first | with_reducible exact Below.refl _ _ | with_reducible refine below_alloc ?_ _ ?_ | with_reducible refine Below.setCell ?_ ?_ _ | with_reducible refine Below.drew ?_ | with_reducible refine Go.below_drewN ?_ _ | with_reducible refine below_step ?_ (by assumption) ?_ | with_reducible refine below_mark ?_ (by assumption) ?_)); all_goals (first | omega | (simp; done) | (simp; omega)))) yR0.out).mono ?_; rintro e0 wb0 ⟨rfl, zb0⟩))
    all_goals (go_wp2_with fail; go_meet; exact ⟨rfl, (by (repeat' (first | with_reducible exact Below.refl _ _ | with_reducible refine below_alloc ?_ _ ?_ | with_reducible refine Below.setCell ?_ ?_ _ | with_reducible refine Below.drew ?_ | with_reducible refine Go.below_drewN ?_ _ | with_reducible refine below_step ?_ (by assumption) ?_ | with_reducible refine below_mark ?_ (by assumption) ?_)); all_goals (first | omega | (simp; done) | (simp; omega)))⟩)
  case rest =>
    obtain ⟨rfl, hb10⟩ := hcut
    obtain ⟨w10, rfl⟩ : ∃ W : World, W = wc := ⟨_, rfl⟩
    have hz10 := hb10.size; try simp at hz10
    clear cBX09_0 cBX09_1 cBX09_2 cBX09_3 cBX09_4 cBA09_0 cBA09_1 cBA09_2 cBA09_3 cBA09_4
    go_wp2_with fail
    refine (TO1.out _ (by (repeat' (first | with_reducible exact Below.refl _ _ | with_reducible refine below_alloc ?_ _ ?_ | with_reducible refine Below.setCell ?_ ?_ _ | with_reducible refine Below.drew ?_ | with_reducible refine Go.below_drewN ?_ _ | with_reducible refine below_step ?_ (by assumption) ?_ | with_reducible refine below_mark ?_ (by assumption) ?_)); all_goals (first | omega | (simp; done) | (simp; omega))) (by omega)).mono ?_
    rintro e11 w11 ⟨_, rfl, yo1, hb11⟩
    have hz11 := hb11.size; try simp at hz11
    have yR1 := Lib.hid yo1.rep
    clear yo1
    go_wp2_with fail
    refine (EQ1.out _ _ _ (xR1.out.keep (by (repeat' (first | with_reducible exact Below.refl _ _ | with_reducible refine below_alloc ?_ _ ?_ | with_reducible refine Below.setCell ?_ ?_ _ | with_reducible refine Below.drew ?_ | with_reducible refine Go.below_drewN ?_ _ | with_reducible refine below_step ?_ (by assumption) ?_ | with_reducible refine below_mark ?_ (by assumption) ?_)); all_goals (first | omega | (simp; done) | (simp; omega)))) yR1.out).mono ?_
    rintro e12 w12 ⟨rfl, hb12⟩
    have hz12 := hb12.size; try simp at hz12
    have BX0_12 := Lib.hid (Box.stay BX0_9.out (w' := w12) (by (repeat' (first | with_reducible exact Below.refl _ _ | with_reducible refine below_alloc ?_ _ ?_ | with_reducible refine Below.setCell ?_ ?_ _ | with_reducible refine Below.drew ?_ | with_reducible refine Go.below_drewN ?_ _ | with_reducible refine below_step ?_ (by assumption) ?_ | with_reducible refine below_mark ?_ (by assumption) ?_)); all_goals (first | omega | (simp; done) | (simp; omega))))
    obtain ⟨cBX012_0, cBX012_1, cBX012_2, cBX012_3, cBX012_4⟩ := BX0_12.out.cells
    go_wp2_with fail
    have XB0 := Lib.hid ((xO0.out).keep (w' := w12) (fun x hx hxs => (show Below w6.heap.size w6 w12 by exact (by (repeat' (first | with_reducible exact Below.refl _ _ | with_reducible refine below_alloc ?_ _ ?_ | with_reducible refine Below.setCell ?_ ?_ _ | with_reducible refine Below.drew ?_ | with_reducible refine Go.below_drewN ?_ _ | with_reducible refine below_step ?_ (by assumption) ?_ | with_reducible refine below_mark ?_ (by assumption) ?_)); all_goals (first | omega | (simp; done) | (simp; omega)))).block x hxs))
    clear cBX012_0 cBX012_1 cBX012_2 cBX012_3 cBX012_4
    refine (mark_value t0 _ _ (1) _ XB0.out (by omega) (by omega)).mono ?_
    rintro e13 w13 ⟨rfl, ho13, ht13⟩
    have HT13 := Lib.hid ht13; clear ho13 ht13
    have hb13 : Below w5.heap.size w12 w13 := HT13.out.below (fun x hx => by have h1 := hx.1; (first | omega | (simp at h1; done) | (simp at h1; omega))) (by omega)
    have hz13 := HT13.out.size; try simp at hz13
    have BA0_13 := Lib.hid (Box.over (Box.stay BA0_9.out (w' := w12) (by (repeat' (first | with_reducible exact Below.refl _ _ | with_reducible refine below_alloc ?_ _ ?_ | with_reducible refine Below.setCell ?_ ?_ _ | with_reducible refine Below.drew ?_ | with_reducible refine Go.below_drewN ?_ _ | with_reducible refine below_step ?_ (by assumption) ?_ | with_reducible refine below_mark ?_ (by assumption) ?_)); all_goals (first | omega | (simp; done) | (simp; omega)))) HT13.out (fun hx => by have h1 := hx.1; have h2 := hx.2; first | omega | (simp at h1 h2; done) | (simp at h1; done) | (simp at h1; omega) | (simp at h2; omega) | (simp at h1 h2; omega)))
    have BQ0_13 := Lib.hid (Box.over (Box.stay BQ0_8.out (w' := w12) (by (repeat' (first | with_reducible exact Below.refl _ _ | with_reducible refine below_alloc ?_ _ ?_ | with_reducible refine Below.setCell ?_ ?_ _ | with_reducible refine Below.drew ?_ | with_reducible refine Go.below_drewN ?_ _ | with_reducible refine below_step ?_ (by assumption) ?_ | with_reducible refine below_mark ?_ (by assumption) ?_)); all_goals (first | omega | (simp; done) | (simp; omega)))) HT13.out (fun hx => by have h1 := hx.1; have h2 := hx.2; first | omega | (simp at h1 h2; done) | (simp at h1; done) | (simp at h1; omega) | (simp at h2; omega) | (simp at h1 h2; omega)))
    have BX0_13 := Lib.hid (Box.over (Box.stay BX0_12.out (w' := w12) (by (repeat' (first | with_reducible exact Below.refl _ _ | with_reducible refine below_alloc ?_ _ ?_ | with_reducible refine Below.setCell ?_ ?_ _ | with_reducible refine Below.drew ?_ | with_reducible refine Go.below_drewN ?_ _ | with_reducible refine below_step ?_ (by assumption) ?_ | with_reducible refine below_mark ?_ (by assumption) ?_)); all_goals (first | omega | (simp; done) | (simp; omega)))) HT13.out (fun hx => by have h1 := hx.1; have h2 := hx.2; first | omega | (simp at h1 h2; done) | (simp at h1; done) | (simp at h1; omega) | (simp at h2; omega) | (simp at h1 h2; omega)))
    have BG0_13 := Lib.hid (Box.over (Box.stay BG0_n.out (w' := w12) (by (repeat' (first | with_reducible exact Below.refl _ _ | with_reducible refine below_alloc ?_ _ ?_ | with_reducible refine Below.setCell ?_ ?_ _ | with_reducible refine Below.drew ?_ | with_reducible refine Go.below_drewN ?_ _ | with_reducible refine below_step ?_ (by assumption) ?_ | with_reducible refine below_mark ?_ (by assumption) ?_)); all_goals (first | omega | (simp; done) | (simp; omega)))) HT13.out (fun hx => by have h1 := hx.1; have h2 := hx.2; first | omega | (simp at h1 h2; done) | (simp at h1; done) | (simp at h1; omega) | (simp at h2; omega) | (simp at h1 h2; omega)))
    have gO0_13 := Lib.hid ((gO0.out.keep (w' := w12) (fun x hx hxs => (show Below w8.heap.size w8 w12 by exact (by (repeat' (first | with_reducible exact Below.refl _ _ | with_reducible refine below_alloc ?_ _ ?_ | with_reducible refine Below.setCell ?_ ?_ _ | with_reducible refine Below.drew ?_ | with_reducible refine Go.below_drewN ?_ _ | with_reducible refine below_step ?_ (by assumption) ?_ | with_reducible refine below_mark ?_ (by assumption) ?_)); all_goals (first | omega | (simp; done) | (simp; omega)))).block x hxs)).keep (w' := w13) (fun x hx hxs => HT13.out.block x hxs (fun hy => by have h1 := hx.1; have h2 := hy.2; (first | omega | (simp at h1; done) | (simp at h1; omega)))))
    have gR0_13 := Lib.hid (show Rep w13 (.agg #[.int .i64 r0.k, .int .i64 r0.n, .int .i64 r0.e, .string r0.s, .slice ga0 r0.kids.length gc0]) r0 from ⟨_, rfl, gf0, gO0_13.out.rep⟩)
    clear gO0 gR0
    have gO0 := gO0_13; have gR0 := gR0_13; clear gO0_13 gR0_13
    have xO1_13 := Lib.hid ((xO1.out.stay2 (w' := w12) (by (repeat' (first | with_reducible exact Below.refl _ _ | with_reducible refine below_alloc ?_ _ ?_ | with_reducible refine Below.setCell ?_ ?_ _ | with_reducible refine Below.drew ?_ | with_reducible refine Go.below_drewN ?_ _ | with_reducible refine below_step ?_ (by assumption) ?_ | with_reducible refine below_mark ?_ (by assumption) ?_)); all_goals (first | omega | (simp; done) | (simp; omega)))).keep (w' := w13) (fun x hx => HT13.out.block x (by have h3 := xO1.out.lt x hx; omega) (fun hy => by have h1 := (XL1.out x hx).1; have h2 := hy.2; (first | omega | (simp at h1; done) | (simp at h1; omega)))))
    clear xO1
    have xO1 := xO1_13; clear xO1_13
    go_wp2_with fail
    have XB1 := Lib.hid (xO1.out.stay2 (w' := w13) (by (repeat' (first | with_reducible exact Below.refl _ _ | with_reducible refine below_alloc ?_ _ ?_ | with_reducible refine Below.setCell ?_ ?_ _ | with_reducible refine Below.drew ?_ | with_reducible refine Go.below_drewN ?_ _ | with_reducible refine below_step ?_ (by assumption) ?_ | with_reducible refine below_mark ?_ (by assumption) ?_)); all_goals (first | omega | (simp; done) | (simp; omega))))
    refine (markStringS_any _ _ t1 (1 + (cnts t0.kids : Nat)) _ XB1.out (by omega) (by omega) (by omega)).mono ?_
    rintro e14 w14 ⟨rfl, ho14, hg14⟩
    have HL14 := Lib.hid (fun x hx => XL1.out x hx)
    have HU14 := Lib.hid (fun x hx => XL1.out x hx)
    have HT14 := Lib.hid (touch_of_grown hg14); clear ho14 hg14
    have hb14 : Below w6.heap.size w13 w14 := HT14.out.below (fun x hx => by have h1 := (HL14.out x hx).1; (first | omega | (simp at h1; done) | (simp at h1; omega))) (by omega)
    have hz14 := HT14.out.size; try simp at hz14
    have BA0_14 := Lib.hid (Box.over (Box.stay BA0_13.out (w' := w13) (by (repeat' (first | with_reducible exact Below.refl _ _ | with_reducible refine below_alloc ?_ _ ?_ | with_reducible refine Below.setCell ?_ ?_ _ | with_reducible refine Below.drew ?_ | with_reducible refine Go.below_drewN ?_ _ | with_reducible refine below_step ?_ (by assumption) ?_ | with_reducible refine below_mark ?_ (by assumption) ?_)); all_goals (first | omega | (simp; done) | (simp; omega)))) HT14.out (fun hx => by have h1 := (HU14.out _ hx).1; have h2 := (HU14.out _ hx).2; first | omega | (simp at h1 h2; done) | (simp at h1; done) | (simp at h1; omega) | (simp at h2; omega) | (simp at h1 h2; omega)))
    have BQ0_14 := Lib.hid (Box.over (Box.stay BQ0_13.out (w' := w13) (by (repeat' (first | with_reducible exact Below.refl _ _ | with_reducible refine below_alloc ?_ _ ?_ | with_reducible refine Below.setCell ?_ ?_ _ | with_reducible refine Below.drew ?_ | with_reducible refine Go.below_drewN ?_ _ | with_reducible refine below_step ?_ (by assumption) ?_ | with_reducible refine below_mark ?_ (by assumption) ?_)); all_goals (first | omega | (simp; done) | (simp; omega)))) HT14.out (fun hx => by have h1 := (HU14.out _ hx).1; have h2 := (HU14.out _ hx).2; first | omega | (simp at h1 h2; done) | (simp at h1; done) | (simp at h1; omega) | (simp at h2; omega) | (simp at h1 h2; omega)))
    have BX0_14 := Lib.hid (Box.over (Box.stay BX0_13.out (w' := w13) (by (repeat' (first | with_reducible exact Below.refl _ _ | with_reducible refine below_alloc ?_ _ ?_ | with_reducible refine Below.setCell ?_ ?_ _ | with_reducible refine Below.drew ?_ | with_reducible refine Go.below_drewN ?_ _ | with_reducible refine below_step ?_ (by assumption) ?_ | with_reducible refine below_mark ?_ (by assumption) ?_)); all_goals (first | omega | (simp; done) | (simp; omega)))) HT14.out (fun hx => by have h1 := (HU14.out _ hx).1; have h2 := (HU14.out _ hx).2; first | omega | (simp at h1 h2; done) | (simp at h1; done) | (simp at h1; omega) | (simp at h2; omega) | (simp at h1 h2; omega)))
    have BG0_14 := Lib.hid (Box.over (Box.stay BG0_13.out (w' := w13) (by (repeat' (first | with_reducible exact Below.refl _ _ | with_reducible refine below_alloc ?_ _ ?_ | with_reducible refine Below.setCell ?_ ?_ _ | with_reducible refine Below.drew ?_ | with_reducible refine Go.below_drewN ?_ _ | with_reducible refine below_step ?_ (by assumption) ?_ | with_reducible refine below_mark ?_ (by assumption) ?_)); all_goals (first | omega | (simp; done) | (simp; omega)))) HT14.out (fun hx => by have h1 := (HU14.out _ hx).1; have h2 := (HU14.out _ hx).2; first | omega | (simp at h1 h2; done) | (simp at h1; done) | (simp at h1; omega) | (simp at h2; omega) | (simp at h1 h2; omega)))
    have gO0_14 := Lib.hid ((gO0.out.keep (w' := w13) (fun x hx hxs => (show Below w13.heap.size w13 w13 by exact (by (repeat' (first | with_reducible exact Below.refl _ _ | with_reducible refine below_alloc ?_ _ ?_ | with_reducible refine Below.setCell ?_ ?_ _ | with_reducible refine Below.drew ?_ | with_reducible refine Go.below_drewN ?_ _ | with_reducible refine below_step ?_ (by assumption) ?_ | with_reducible refine below_mark ?_ (by assumption) ?_)); all_goals (first | omega | (simp; done) | (simp; omega)))).block x hxs)).keep (w' := w14) (fun x hx hxs => HT14.out.block x hxs (fun hy => by have h1 := hx.1; have h2 := (HU14.out _ hy).2; (first | omega | (simp at h1; done) | (simp at h1; omega)))))
    have gR0_14 := Lib.hid (show Rep w14 (.agg #[.int .i64 r0.k, .int .i64 r0.n, .int .i64 r0.e, .string r0.s, .slice ga0 r0.kids.length gc0]) r0 from ⟨_, rfl, gf0, gO0_14.out.rep⟩)
    clear gO0 gR0
    have gO0 := gO0_14; have gR0 := gR0_14; clear gO0_14 gR0_14
    have tk : decide ((1 + (cnts t0.kids : Nat) + (t1.length : Nat) : Int) < 0) = false := by simp; omega
    have BQ0_14 := Lib.hid (Box.stay BQ0_14.out (w' := w14) (by (repeat' (first | with_reducible exact Below.refl _ _ | with_reducible refine below_alloc ?_ _ ?_ | with_reducible refine Below.setCell ?_ ?_ _ | with_reducible refine Below.drew ?_ | with_reducible refine Go.below_drewN ?_ _ | with_reducible refine below_step ?_ (by assumption) ?_ | with_reducible refine below_mark ?_ (by assumption) ?_)); all_goals (first | omega | (simp; done) | (simp; omega))))
    obtain ⟨cBQ014_0, cBQ014_1, cBQ014_2, cBQ014_3, cBQ014_4⟩ := BQ0_14.out.cells
    have BG0_14 := Lib.hid (Box.stay BG0_14.out (w' := w14) (by (repeat' (first | with_reducible exact Below.refl _ _ | with_reducible refine below_alloc ?_ _ ?_ | with_reducible refine Below.setCell ?_ ?_ _ | with_reducible refine Below.drew ?_ | with_reducible refine Go.below_drewN ?_ _ | with_reducible refine below_step ?_ (by assumption) ?_ | with_reducible refine below_mark ?_ (by assumption) ?_)); all_goals (first | omega | (simp; done) | (simp; omega))))
    obtain ⟨cBG014_0, cBG014_1, cBG014_2, cBG014_3, cBG014_4⟩ := BG0_14.out.cells
    go_wp2_with fail
    clear cBQ014_0 cBQ014_1 cBQ014_2 cBQ014_3 cBQ014_4 cBG014_0 cBG014_1 cBG014_2 cBG014_3 cBG014_4
    refine (eq_any _ _ _ r0 (gR0.out.keep (by (repeat' (first | with_reducible exact Below.refl _ _ | with_reducible refine below_alloc ?_ _ ?_ | with_reducible refine Below.setCell ?_ ?_ _ | with_reducible refine Below.drew ?_ | with_reducible refine Go.below_drewN ?_ _ | with_reducible refine below_step ?_ (by assumption) ?_ | with_reducible refine below_mark ?_ (by assumption) ?_)); all_goals (first | omega | (simp; done) | (simp; omega)))) (qR0.out.keep (by (repeat' (first | with_reducible exact Below.refl _ _ | with_reducible refine below_alloc ?_ _ ?_ | with_reducible refine Below.setCell ?_ ?_ _ | with_reducible refine Below.drew ?_ | with_reducible refine Go.below_drewN ?_ _ | with_reducible refine below_step ?_ (by assumption) ?_ | with_reducible refine below_mark ?_ (by assumption) ?_)); all_goals (first | omega | (simp; done) | (simp; omega)))) _ (Below.refl _ _)).mono ?_
    rintro e15 w15 ⟨rfl, hb15⟩
    have hz15 := hb15.size; try simp at hz15
    have BG0_15 := Lib.hid (Box.stay BG0_14.out (w' := w15) (by (repeat' (first | with_reducible exact Below.refl _ _ | with_reducible refine below_alloc ?_ _ ?_ | with_reducible refine Below.setCell ?_ ?_ _ | with_reducible refine Below.drew ?_ | with_reducible refine Go.below_drewN ?_ _ | with_reducible refine below_step ?_ (by assumption) ?_ | with_reducible refine below_mark ?_ (by assumption) ?_)); all_goals (first | omega | (simp; done) | (simp; omega))))
    obtain ⟨cBG015_0, cBG015_1, cBG015_2, cBG015_3, cBG015_4⟩ := BG0_15.out.cells
    go_wp2_with fail
    have GB := Lib.hid (gO0.out.keep (w' := w15) (fun x hx hxs => (show Below w14.heap.size w14 w15 by exact (by (repeat' (first | with_reducible exact Below.refl _ _ | with_reducible refine below_alloc ?_ _ ?_ | with_reducible refine Below.setCell ?_ ?_ _ | with_reducible refine Below.drew ?_ | with_reducible refine Go.below_drewN ?_ _ | with_reducible refine below_step ?_ (by assumption) ?_ | with_reducible refine below_mark ?_ (by assumption) ?_)); all_goals (first | omega | (simp; done) | (simp; omega)))).block x hxs))
    clear cBG015_0 cBG015_1 cBG015_2 cBG015_3 cBG015_4
    refine (mark_value r0 _ _ 1 _ GB.out (by omega) (by omega)).mono ?_
    rintro e16 w16 ⟨rfl, ho16, ht16⟩
    have HT16 := Lib.hid ht16; have HM := Lib.hid ho16.rep; clear ho16 ht16
    have hb16 : Below w7.heap.size w15 w16 := HT16.out.below (fun x hx => by have h1 := hx.1; (first | omega | (simp at h1; done) | (simp at h1; omega))) (by omega)
    have hz16 := HT16.out.size; try simp at hz16
    have BA0_16 := Lib.hid (Box.over (Box.stay BA0_14.out (w' := w15) (by (repeat' (first | with_reducible exact Below.refl _ _ | with_reducible refine below_alloc ?_ _ ?_ | with_reducible refine Below.setCell ?_ ?_ _ | with_reducible refine Below.drew ?_ | with_reducible refine Go.below_drewN ?_ _ | with_reducible refine below_step ?_ (by assumption) ?_ | with_reducible refine below_mark ?_ (by assumption) ?_)); all_goals (first | omega | (simp; done) | (simp; omega)))) HT16.out (fun hx => by have h1 := hx.1; have h2 := hx.2; first | omega | (simp at h1 h2; done) | (simp at h1; done) | (simp at h1; omega) | (simp at h2; omega) | (simp at h1 h2; omega)))
    have BQ0_16 := Lib.hid (Box.over (Box.stay BQ0_14.out (w' := w15) (by (repeat' (first | with_reducible exact Below.refl _ _ | with_reducible refine below_alloc ?_ _ ?_ | with_reducible refine Below.setCell ?_ ?_ _ | with_reducible refine Below.drew ?_ | with_reducible refine Go.below_drewN ?_ _ | with_reducible refine below_step ?_ (by assumption) ?_ | with_reducible refine below_mark ?_ (by assumption) ?_)); all_goals (first | omega | (simp; done) | (simp; omega)))) HT16.out (fun hx => by have h1 := hx.1; have h2 := hx.2; first | omega | (simp at h1 h2; done) | (simp at h1; done) | (simp at h1; omega) | (simp at h2; omega) | (simp at h1 h2; omega)))
    have BG0_16 := Lib.hid (Box.over (Box.stay BG0_15.out (w' := w15) (by (repeat' (first | with_reducible exact Below.refl _ _ | with_reducible refine below_alloc ?_ _ ?_ | with_reducible refine Below.setCell ?_ ?_ _ | with_reducible refine Below.drew ?_ | with_reducible refine Go.below_drewN ?_ _ | with_reducible refine below_step ?_ (by assumption) ?_ | with_reducible refine below_mark ?_ (by assumption) ?_)); all_goals (first | omega | (simp; done) | (simp; omega)))) HT16.out (fun hx => by have h1 := hx.1; have h2 := hx.2; first | omega | (simp at h1 h2; done) | (simp at h1; done) | (simp at h1; omega) | (simp at h2; omega) | (simp at h1 h2; omega)))
    have t1 : ((1 + (cnts r0.kids : Nat) : Int) != (1 + (cnts r0.kids : Nat) : Int)) = false := by simp
    have t2 : decide ((1 + (cnts r0.kids : Nat) : Int) < 0) = false := by simp; omega
    have BG0_16 := Lib.hid (Box.stay BG0_16.out (w' := w16) (by (repeat' (first | with_reducible exact Below.refl _ _ | with_reducible refine below_alloc ?_ _ ?_ | with_reducible refine Below.setCell ?_ ?_ _ | with_reducible refine Below.drew ?_ | with_reducible refine Go.below_drewN ?_ _ | with_reducible refine below_step ?_ (by assumption) ?_ | with_reducible refine below_mark ?_ (by assumption) ?_)); all_goals (first | omega | (simp; done) | (simp; omega))))
    obtain ⟨cBG016_0, cBG016_1, cBG016_2, cBG016_3, cBG016_4⟩ := BG0_16.out.cells
    go_wp2_with fail
    clear cBG016_0 cBG016_1 cBG016_2 cBG016_3 cBG016_4
    refine (held_value _ r0 _ 1 _ HM.out (by (repeat' (first | with_reducible exact Below.refl _ _ | with_reducible refine below_alloc ?_ _ ?_ | with_reducible refine Below.setCell ?_ ?_ _ | with_reducible refine Below.drew ?_ | with_reducible refine Go.below_drewN ?_ _ | with_reducible refine below_step ?_ (by assumption) ?_ | with_reducible refine below_mark ?_ (by assumption) ?_)); all_goals (first | omega | (simp; done) | (simp; omega))) _ _ _ _ (by omega) (by omega)).mono ?_
    rintro e17 w17 ⟨rfl, hb17⟩
    have hz17 := hb17.size; try simp at hz17
    have BA0_17 := Lib.hid (Box.stay BA0_16.out (w' := w17) (by (repeat' (first | with_reducible exact Below.refl _ _ | with_reducible refine below_alloc ?_ _ ?_ | with_reducible refine Below.setCell ?_ ?_ _ | with_reducible refine Below.drew ?_ | with_reducible refine Go.below_drewN ?_ _ | with_reducible refine below_step ?_ (by assumption) ?_ | with_reducible refine below_mark ?_ (by assumption) ?_)); all_goals (first | omega | (simp; done) | (simp; omega))))
    obtain ⟨cBA017_0, cBA017_1, cBA017_2, cBA017_3, cBA017_4⟩ := BA0_17.out.cells
    go_wp2_with fail
    clear cBA017_0 cBA017_1 cBA017_2 cBA017_3 cBA017_4
    refine (TO0.out _ (by (repeat' (first | with_reducible exact Below.refl _ _ | with_reducible refine below_alloc ?_ _ ?_ | with_reducible refine Below.setCell ?_ ?_ _ | with_reducible refine Below.drew ?_ | with_reducible refine Go.below_drewN ?_ _ | with_reducible refine below_step ?_ (by assumption) ?_ | with_reducible refine below_mark ?_ (by assumption) ?_)); all_goals (first | omega | (simp; done) | (simp; omega))) (by omega)).mono ?_
    rintro e18 w18 ⟨zs0, rfl, zf0, zo0, hb18⟩
    have hz18 := hb18.size; try simp at hz18
    obtain ⟨za0, zc0, rfl⟩ := zo0.slice
    have zO0 := Lib.hid zo0
    have zR0 := Lib.hid (zo0.repV zf0)
    clear zo0
    unfold V.agg at zR0 ⊢
    go_wp2_with fail
    refine (TO1.out _ (by (repeat' (first | with_reducible exact Below.refl _ _ | with_reducible refine below_alloc ?_ _ ?_ | with_reducible refine Below.setCell ?_ ?_ _ | with_reducible refine Below.drew ?_ | with_reducible refine Go.below_drewN ?_ _ | with_reducible refine below_step ?_ (by assumption) ?_ | with_reducible refine below_mark ?_ (by assumption) ?_)); all_goals (first | omega | (simp; done) | (simp; omega))) (by omega)).mono ?_
    rintro e19 w19 ⟨_, rfl, zo1, hb19⟩
    have hz19 := hb19.size; try simp at hz19
    obtain ⟨za1, zc1, rfl⟩ := zo1.slice
    have zO1 := Lib.hid zo1
    have zR1 := Lib.hid zo1.rep
    clear zo1
    go_wp2_with fail
    refine (KI.out _ _ (zR0.out.keep (by (repeat' (first | with_reducible exact Below.refl _ _ | with_reducible refine below_alloc ?_ _ ?_ | with_reducible refine Below.setCell ?_ ?_ _ | with_reducible refine Below.drew ?_ | with_reducible refine Go.below_drewN ?_ _ | with_reducible refine below_step ?_ (by assumption) ?_ | with_reducible refine below_mark ?_ (by assumption) ?_)); all_goals (first | omega | (simp; done) | (simp; omega)))) (by omega) _ (zR1.out.keep (by (repeat' (first | with_reducible exact Below.refl _ _ | with_reducible refine below_alloc ?_ _ ?_ | with_reducible refine Below.setCell ?_ ?_ _ | with_reducible refine Below.drew ?_ | with_reducible refine Go.below_drewN ?_ _ | with_reducible refine below_step ?_ (by assumption) ?_ | with_reducible refine below_mark ?_ (by assumption) ?_)); all_goals (first | omega | (simp; done) | (simp; omega)))) (by omega) (by (repeat' (first | with_reducible exact Below.refl _ _ | with_reducible refine below_alloc ?_ _ ?_ | with_reducible refine Below.setCell ?_ ?_ _ | with_reducible refine Below.drew ?_ | with_reducible refine Go.below_drewN ?_ _ | with_reducible refine below_step ?_ (by assumption) ?_ | with_reducible refine below_mark ?_ (by assumption) ?_)); all_goals (first | omega | (simp; done) | (simp; omega)))).mono ?_
    rintro e20 w20 ⟨hs0, rfl, hf0, ho0, hb20⟩
    have hz20 := hb20.size; try simp at hz20
    obtain ⟨ha0, hc0, rfl⟩ := ho0.slice
    have hR0 := Lib.hid (show Rep w20 (r0.agg (.slice ha0 r0.kids.length hc0)) r0 from ⟨_, rfl, hf0, ho0.rep⟩)
    have hO0 := Lib.hid ho0.bound
    clear ho0
    unfold V.agg at hR0 ⊢
    have BQ0_20 := Lib.hid (Box.stay BQ0_16.out (w' := w20) (by (repeat' (first | with_reducible exact Below.refl _ _ | with_reducible refine below_alloc ?_ _ ?_ | with_reducible refine Below.setCell ?_ ?_ _ | with_reducible refine Below.drew ?_ | with_reducible refine Go.below_drewN ?_ _ | with_reducible refine below_step ?_ (by assumption) ?_ | with_reducible refine below_mark ?_ (by assumption) ?_)); all_goals (first | omega | (simp; done) | (simp; omega))))
    obtain ⟨cBQ020_0, cBQ020_1, cBQ020_2, cBQ020_3, cBQ020_4⟩ := BQ0_20.out.cells
    have hnq20 : w5.heap.size < w20.heap.size := by omega
    have hnr20 : w5.heap.size ≠ w20.heap.size := by omega
    go_wp2_with fail
    clear cBQ020_0 cBQ020_1 cBQ020_2 cBQ020_3 cBQ020_4
    refine (eq_any _ _ _ r0 (hR0.out.keep (by (repeat' (first | with_reducible exact Below.refl _ _ | with_reducible refine below_alloc ?_ _ ?_ | with_reducible refine Below.setCell ?_ ?_ _ | with_reducible refine Below.drew ?_ | with_reducible refine Go.below_drewN ?_ _ | with_reducible refine below_step ?_ (by assumption) ?_ | with_reducible refine below_mark ?_ (by assumption) ?_)); all_goals (first | omega | (simp; done) | (simp; omega)))) (qR0.out.keep (by (repeat' (first | with_reducible exact Below.refl _ _ | with_reducible refine below_alloc ?_ _ ?_ | with_reducible refine Below.setCell ?_ ?_ _ | with_reducible refine Below.drew ?_ | with_reducible refine Go.below_drewN ?_ _ | with_reducible refine below_step ?_ (by assumption) ?_ | with_reducible refine below_mark ?_ (by assumption) ?_)); all_goals (first | omega | (simp; done) | (simp; omega)))) _ (Below.refl _ _)).mono ?_
    rintro e21 w21 ⟨rfl, hb21⟩
    have hz21 := hb21.size; try simp at hz21
    have BG0_21 := Lib.hid (Box.stay BG0_16.out (w' := w21) (by (repeat' (first | with_reducible exact Below.refl _ _ | with_reducible refine below_alloc ?_ _ ?_ | with_reducible refine Below.setCell ?_ ?_ _ | with_reducible refine Below.drew ?_ | with_reducible refine Go.below_drewN ?_ _ | with_reducible refine below_step ?_ (by assumption) ?_ | with_reducible refine below_mark ?_ (by assumption) ?_)); all_goals (first | omega | (simp; done) | (simp; omega))))
    obtain ⟨cBG021_0, cBG021_1, cBG021_2, cBG021_3, cBG021_4⟩ := BG0_21.out.cells
    go_wp2_with fail
    clear cBG021_0 cBG021_1 cBG021_2 cBG021_3 cBG021_4
    refine (held_value _ r0 _ 1 _ HM.out (by (repeat' (first | with_reducible exact Below.refl _ _ | with_reducible refine below_alloc ?_ _ ?_ | with_reducible refine Below.setCell ?_ ?_ _ | with_reducible refine Below.drew ?_ | with_reducible refine Go.below_drewN ?_ _ | with_reducible refine below_step ?_ (by assumption) ?_ | with_reducible refine below_mark ?_ (by assumption) ?_)); all_goals (first | omega | (simp; done) | (simp; omega))) _ _ _ _ (by omega) (by omega)).mono ?_
    rintro e22 w22 ⟨rfl, hb22⟩
    have hz22 := hb22.size; try simp at hz22
    go_wp2_with fail
    go_ret
    exact ⟨rfl, (by (repeat' (first | with_reducible exact Below.refl _ _ | with_reducible refine below_alloc ?_ _ ?_ | with_reducible refine Below.setCell ?_ ?_ _ | with_reducible refine Below.drew ?_ | with_reducible refine Go.below_drewN ?_ _ | with_reducible refine below_step ?_ (by assumption) ?_ | with_reducible refine below_mark ?_ (by assumption) ?_)); all_goals (first | omega | (simp; done) | (simp; omega)))⟩
set_option maxRecDepth 100000 in
set_option maxHeartbeats 2000000 in
theorem lifted_FnExactRemove (os : Os) (started : os.Started) (H : Type) (enc : TypeId × Value → H) :
    ReturnsInHanded {} Tryd.checked os 4 .any (fun w args => (Rows.fnExactRemoveSpec.pre enc Tryd.prog Tryd.f4 [] false w args ∧ laidMetH Tryd.prog Rows.fnExactRemoveRow.laid w) ∧ sizedMet enc Tryd.prog Tryd.f4 (OpenSpec.ofChange Rows.fnExactRemoveSpec) false w args)
      (Rows.fnExactRemoveSpec.post enc Tryd.prog Tryd.f4 false true false false) := by
  refine returnsInHanded_of_change_and (C := Tryd.checked) (X := fun w _ => laidMetH Tryd.prog Rows.fnExactRemoveRow.laid w) (fun _ _ _ hh h => h.of_heap hh) lawOwn started (by kernel_rfl) Tryd.func4
    (ChangeSpec.witness_shaped (enc := enc) (C := Tryd.checked) (os := os) (X := fun w _ => laidMetH Tryd.prog Rows.fnExactRemoveRow.laid w) false (World.laidAll Tryd.prog os Rows.fnExactRemoveRow.laid) #[.agg #[.int .i64 0, .int .i64 0, .int .i64 0, .string ByteArray.empty, .slice none 0 0], .slice none 0 0] 8 (World.laidAll_os _ _ _)
      (World.shaped_of_ZipB (by kernel_rfl) (by kernel_rfl)) (by kernel_rfl) (by kernel_rfl) (by kernel_rfl)
      (by rw [MakeChecks.laidMetH_plain _ _ _ (by kernel_rfl)]; exact laidMet_laidAll _ (by kernel_rfl) (by kernel_rfl))) ?_
  intro W base args ds gs before hval0 hW _ _ hL _
  have hval : ∀ (j : Nat) t v, Tryd.f4.params[j]? = some t → args[j]? = some v → Value.okWide Tryd.prog W .any base t v := hval0
  have hW' := hW
  obtain ⟨p, q, hA0, hV, hpq, hfz, hnd⟩ := hW
  have hA : DataW.TrodAll enc Tryd.prog W 0 (fun _ => true) true Tryd.f4.params.toList args.toList ds p := hA0
  rw [Tryd.params4] at hA hval
  rw [MakeChecks.laidMetH_plain _ _ _ (by kernel_rfl)] at hL
  have hE : EnvD W := envD_of (Lib.laidMet.reads hL (.tail _ (.tail _ (.tail _ (.tail _ (.tail _ (.tail _ (.head _)))))))) (Lib.laidMet.reads hL (.tail _ (.tail _ (.tail _ (.head _))))) (Lib.laidMet.reads hL (.tail _ (.tail _ (.head _)))) (Lib.laidMet.reads hL (.tail _ (.tail _ (.tail _ (.tail _ (.tail _ (.head _))))))) (Lib.laidMet.reads hL (.tail _ (.tail _ (.tail _ (.tail _ (.head _))))))
  obtain ⟨v0, vs0, d0, ds0, p0, q0, hargs, rfl, hp, h0, r0⟩ := trodAll_cons hA
  obtain ⟨v1, vs1, d1, ds1, p1, q1, rfl, rfl, rfl, h1, r1⟩ := trodAll_cons r0
  obtain ⟨rfl, rfl, rfl⟩ := trodAll_nil r1
  obtain rfl : args = #[v0, v1] := by cases args; simp_all
  obtain ⟨a0, w0⟩ := open_V (okV (hval 0 24 v0 rfl rfl)) h0
  obtain ⟨a1, w1⟩ := open_Ss (okWide_slice Tryd.underlying37 (hval 1 37 v1 rfl rfl)) h1
  refine (walk_FnExactRemove v0 a0 w0 v1 a1 w1 W rfl hE).mono fun e W' ⟨he, hb⟩ => ?_
  subst he
  refine ⟨_, rfl, law_post rfl rfl rfl ?_ hW' hb⟩
  rw [Tryd.params4]
  intro t ht
  simp only [List.mem_cons, List.not_mem_nil, or_false] at ht
  rcases ht with rfl | rfl
  all_goals exact ⟨by kernel_rfl, of_decide_eq_true (by kernel_rfl)⟩
set_option maxHeartbeats 4000000 in
theorem row_FnExactRemove : Rows.FnExactRemoveSaid :=
  OpenClaim.holds_of_wide 4 Tryd.f4 rfl rfl rfl rfl rfl rfl rfl ⟨rfl, rfl, rfl, rfl, rfl⟩ rfl rfl rfl rfl rfl (by as_aux_lemma => kernel_rfl) Tryd.func4 (by as_aux_lemma => kernel_rfl)
    (of_decide_eq_true (by as_aux_lemma => kernel_rfl)) (by unfold Func.isWrapper; first | (rw [if_pos (by decide +kernel)]; kernel_rfl) | (rw [if_neg (by decide +kernel)]; exact ⟨rfl, rfl⟩))
    (fun os started H enc _ => lifted_FnExactRemove os started H enc)
set_option maxHeartbeats 4000000 in
theorem holds_FnExactRemoveCard : Rows.FnExactRemoveCardSaid :=
  Claim7.holds_tied_plain_at .later [] [.data, .data, .data, .data, .sentinel, .sentinel, .pinned] true (true, "2f723a8ee5352b8000cdf85415ae962236d083f5367bffb6e1b0c60781f682a7") true row_FnExactRemove (fun _ h => by cases h) (by as_aux_lemma => kernel_rfl) (fun _ h => by cases h) fnExactRemove_row_tie rfl ⟨rfl, rfl⟩ (by as_aux_lemma => kernel_rfl) rfl
    (fun f fn hf hfn => by
      obtain rfl : f = 4 := Option.some.inj ((show Tryd.prog.funcNamed "loop.example/g00421/laws.FnExactRemove" = some 4 by as_aux_lemma => kernel_rfl).symm.trans hf) |>.symm
      obtain rfl : fn = Tryd.f4 := (Option.some.inj (Tryd.func4.symm.trans hfn)).symm
      exact ⟨by as_aux_lemma => kernel_rfl, fun j t ht => by
        have hm : t ∈ Tryd.f4.params.toList := by simpa using Array.mem_of_getElem? ht
        have hall : (Tryd.f4.params.toList.all fun u => !Tryd.prog.wantsStandIn u) = true := by as_aux_lemma => kernel_rfl
        exact (show Tryd.prog.wantsStandIn t = false by simpa using List.all_eq_true.1 hall t hm)⟩)
    (by as_aux_lemma => kernel_rfl)
#print axioms holds_FnExactRemoveCard
end Go.Proofs.YtaphlemmlmdkiaaDoor
