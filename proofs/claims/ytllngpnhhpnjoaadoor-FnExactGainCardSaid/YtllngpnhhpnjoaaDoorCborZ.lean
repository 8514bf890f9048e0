/- PutCbor and CborSize of both sides, and the gain. What impl.shorter tells. -/
import Derived.Test.YtllngpnhhpnjoaaDoorCborW
namespace Go.Proofs.YtllngpnhhpnjoaaDoor
set_option linter.unusedVariables false
set_option maxRecDepth 100000
open Go.RowKit
def sizB (t : V) : Nat := (cborB t).length
theorem cborB_no {t : V} (h : (okT t && !hasT 4 4 t) = false) : cborB t = [] := by rw [cborB, h]; rfl
theorem cborB_yes {t : V} (h : (okT t && !hasT 4 4 t) = true) : cborB t = cborL t ∧ rightB t 12 = true ∧ t.nodes ≤ 300 := by
  refine ⟨by rw [cborB, h]; rfl, ?_⟩
  simp only [okT, Bool.and_eq_true, decide_eq_true_eq] at h
  exact h.1
def SizRet (t : V) (w : World) (e : Ending) (w' : World) : Prop := e = .returned (.int .i64 (sizB t)) ∧ Below w.heap.size w w'
def gainN (b : Bool) (x y : Nat) : Int := if b = false ∨ x = 0 ∨ y = 0 then 0 else (x : Int) - y
set_option maxHeartbeats 1000000 in
theorem CborFits_spec (w0 : World) (v : Value) (t : V) (h : Rep w0 v t) (hsz : t.sz ≤ 1048576) (w : World) (hw : Below w0.heap.size w0 w) :
    Calls Tryd.prog 176 #[v] w (BoolRet (okT t && !hasT 4 4 t) w) := by
  have VO := Lib.hid (fun (W : World) (hW : Below w.heap.size w W) => ValueOk_spec w0 v t h hsz W (hw.trans (hW.mono hw.size)))
  have FO := Lib.hid (fun (W : World) (hW : Below w.heap.size w W) => l05Four_any w0 _ v t (Nat.lt_succ_self _) h hsz W (hw.trans (hW.mono hw.size)))
  obtain ⟨sl, rfl, hwf, hr⟩ := h
  obtain ⟨sa, sc, rfl⟩ := hr.slice
  clear hr hwf hsz
  unfold V.agg at *
  generalize okT t = b at *
  generalize hasT 4 4 t = f at *
  generalize t.k = k at *
  generalize t.n = n at *
  generalize t.e = e at *
  generalize t.s = s at *
  generalize t.kids = ts at *
  have BX := Lib.hid (Box.new w k n e s (.slice sa ts.length sc) 30)
  cases b
  all_goals
    go_enter Tryd.func176, Tryd.ntmps176
    go_wp2_with fail
    refine (VO.out _ ((by (repeat' (first | with_reducible exact Below.refl _ _ | with_reducible refine below_alloc ?_ _ ?_ | with_reducible refine Below.setCell ?_ ?_ _ | with_reducible refine Below.drew ?_ | with_reducible refine below_drewN ?_ _ | with_reducible refine below_step ?_ (by assumption) ?_ | with_reducible refine below_mark ?_ (by assumption) ?_)); all_goals (first | omega | (simp; done) | (simp; omega))))).mono ?_
    rintro x w1 ⟨rfl, hb1⟩
    obtain ⟨p0, p1, p2, p3, p4⟩ := (BX.out.stay hb1).cells
    go_wp2_with fail
  · go_ret
    exact ⟨rfl, (by (repeat' (first | with_reducible exact Below.refl _ _ | with_reducible refine below_alloc ?_ _ ?_ | with_reducible refine Below.setCell ?_ ?_ _ | with_reducible refine Below.drew ?_ | with_reducible refine below_drewN ?_ _ | with_reducible refine below_step ?_ (by assumption) ?_ | with_reducible refine below_mark ?_ (by assumption) ?_)); all_goals (first | omega | (simp; done) | (simp; omega)))⟩
  · refine (FO.out _ ((by (repeat' (first | with_reducible exact Below.refl _ _ | with_reducible refine below_alloc ?_ _ ?_ | with_reducible refine Below.setCell ?_ ?_ _ | with_reducible refine Below.drew ?_ | with_reducible refine below_drewN ?_ _ | with_reducible refine below_step ?_ (by assumption) ?_ | with_reducible refine below_mark ?_ (by assumption) ?_)); all_goals (first | omega | (simp; done) | (simp; omega))))).mono ?_
    rintro x w2 ⟨rfl, hb2⟩
    go_wp2_with fail
    go_ret
    exact ⟨by simp, (by (repeat' (first | with_reducible exact Below.refl _ _ | with_reducible refine below_alloc ?_ _ ?_ | with_reducible refine Below.setCell ?_ ?_ _ | with_reducible refine Below.drew ?_ | with_reducible refine below_drewN ?_ _ | with_reducible refine below_step ?_ (by assumption) ?_ | with_reducible refine below_mark ?_ (by assumption) ?_)); all_goals (first | omega | (simp; done) | (simp; omega)))⟩
set_option maxHeartbeats 1000000 in
theorem PutCbor_spec (w0 : World) (v : Value) (t : V) (h : Rep w0 v t) (hsz : t.sz ≤ 1048576) (w : World) (hw : Below w0.heap.size w0 w) :
    Calls Tryd.prog 138 #[v] w (TxtRet w (cborB t)) := by
  have FI := Lib.hid (fun (W : World) (hW : Below w.heap.size w W) => CborFits_spec w0 v t h hsz W (hw.trans (hW.mono hw.size)))
  have PU := Lib.hid (fun (hr : rightB t 12 = true) (hn : t.nodes ≤ 300) (W : World) (hW : Below w.heap.size w W) => l05Put_any w0 _ v t 12 (Nat.lt_succ_self _) hr h hsz hn W (hw.trans (hW.mono hw.size)))
  have HN := Lib.hid (@cborB_no t)
  have HY := Lib.hid (@cborB_yes t)
  obtain ⟨sl, rfl, hwf, hr⟩ := h
  obtain ⟨sa, sc, rfl⟩ := hr.slice
  clear hr hwf hsz
  unfold V.agg at *
  generalize (okT t && !hasT 4 4 t) = b at *
  generalize cborB t = R at *
  generalize cborL t = C at *
  generalize t.k = k at *
  generalize t.n = n at *
  generalize t.e = e at *
  generalize t.s = s at *
  generalize t.kids = ts at *
  have BX := Lib.hid (Box.new w k n e s (.slice sa ts.length sc) 30)
  cases b
  all_goals
    go_enter Tryd.func138, Tryd.ntmps138
    go_wp2_with fail
    refine (FI.out _ ((by (repeat' (first | with_reducible exact Below.refl _ _ | with_reducible refine below_alloc ?_ _ ?_ | with_reducible refine Below.setCell ?_ ?_ _ | with_reducible refine Below.drew ?_ | with_reducible refine below_drewN ?_ _ | with_reducible refine below_step ?_ (by assumption) ?_ | with_reducible refine below_mark ?_ (by assumption) ?_)); all_goals (first | omega | (simp; done) | (simp; omega))))).mono ?_
    rintro x w1 ⟨rfl, hb1⟩
    obtain ⟨p0, p1, p2, p3, p4⟩ := (BX.out.stay hb1).cells
    go_wp2_with fail
  · go_ret
    exact ⟨by rw [HN.out (by simp)]; rfl, (by (repeat' (first | with_reducible exact Below.refl _ _ | with_reducible refine below_alloc ?_ _ ?_ | with_reducible refine Below.setCell ?_ ?_ _ | with_reducible refine Below.drew ?_ | with_reducible refine below_drewN ?_ _ | with_reducible refine below_step ?_ (by assumption) ?_ | with_reducible refine below_mark ?_ (by assumption) ?_)); all_goals (first | omega | (simp; done) | (simp; omega)))⟩
  · obtain ⟨hc, hr, hn⟩ := HY.out (by simp)
    refine (PU.out hr hn _ ((by (repeat' (first | with_reducible exact Below.refl _ _ | with_reducible refine below_alloc ?_ _ ?_ | with_reducible refine Below.setCell ?_ ?_ _ | with_reducible refine Below.drew ?_ | with_reducible refine below_drewN ?_ _ | with_reducible refine below_step ?_ (by assumption) ?_ | with_reducible refine below_mark ?_ (by assumption) ?_)); all_goals (first | omega | (simp; done) | (simp; omega))))).mono ?_
    rintro x w2 ⟨rfl, hb2⟩
    go_wp2_with fail
    go_ret
    exact ⟨by rw [hc]; rfl, (by (repeat' (first | with_reducible exact Below.refl _ _ | with_reducible refine below_alloc ?_ _ ?_ | with_reducible refine Below.setCell ?_ ?_ _ | with_reducible refine Below.drew ?_ | with_reducible refine below_drewN ?_ _ | with_reducible refine below_step ?_ (by assumption) ?_ | with_reducible refine below_mark ?_ (by assumption) ?_)); all_goals (first | omega | (simp; done) | (simp; omega)))⟩
theorem CborSize_spec (w0 : World) (v : Value) (t : V) (h : Rep w0 v t) (hsz : t.sz ≤ 1048576) (w : World) (hw : Below w0.heap.size w0 w) :
    Calls Tryd.prog 96 #[v] w (SizRet t w) := by
  have FI := Lib.hid (fun (W : World) (hW : Below w.heap.size w W) => PutCbor_spec w0 v t h hsz W (hw.trans (hW.mono hw.size)))
  have HL := Lib.hid (show (cborB t).length = sizB t from rfl)
  obtain ⟨sl, rfl, hwf, hr⟩ := h
  obtain ⟨sa, sc, rfl⟩ := hr.slice
  clear hr hwf hsz
  unfold SizRet
  unfold V.agg at *
  generalize sizB t = z at *
  generalize cborB t = R at *
  go_enter Tryd.func96, Tryd.ntmps96
  go_wp2_with fail
  refine (FI.out _ ((by (repeat' (first | with_reducible exact Below.refl _ _ | with_reducible refine below_alloc ?_ _ ?_ | with_reducible refine Below.setCell ?_ ?_ _ | with_reducible refine Below.drew ?_ | with_reducible refine below_drewN ?_ _ | with_reducible refine below_step ?_ (by assumption) ?_ | with_reducible refine below_mark ?_ (by assumption) ?_)); all_goals (first | omega | (simp; done) | (simp; omega))))).mono ?_
  rintro x w1 ⟨rfl, hb1⟩
  go_wp2_with fail
  go_ret
  exact ⟨by rw [← HL.out]; rfl, (by (repeat' (first | with_reducible exact Below.refl _ _ | with_reducible refine below_alloc ?_ _ ?_ | with_reducible refine Below.setCell ?_ ?_ _ | with_reducible refine Below.drew ?_ | with_reducible refine below_drewN ?_ _ | with_reducible refine below_step ?_ (by assumption) ?_ | with_reducible refine below_mark ?_ (by assumption) ?_)); all_goals (first | omega | (simp; done) | (simp; omega)))⟩
set_option maxHeartbeats 2000000 in
theorem PutCbor_impl (w0 : World) (hE : Env w0) (v : Value) (t : V) (h : Rep w0 v t) (hsz : t.sz ≤ 1048576) (w : World) (hw : Below w0.heap.size w0 w) :
    Calls Tryd.prog 178 #[v] w (TxtRet w (cborB t)) := by
  have VO := Lib.hid (fun (W : World) (hW : Below w.heap.size w W) => ValueOk_impl w0 hE v t h hsz W (hw.trans (hW.mono hw.size)))
  have FO := Lib.hid (fun (W : World) (hW : Below w.heap.size w W) => hasTag_any w0 v t h hsz 4 W (hw.trans (hW.mono hw.size)))
  have PU := Lib.hid (fun (b : Nat) (hb : w.heap.size ≤ b) (hr : rightB t 12 = true) (hn : t.nodes ≤ 300) (hl : (cborL t).length ≤ 1000000) (W : World) (hB : Bld b b [] W) (hW : Below w.heap.size w W) => putCbor_any w0 b b (Nat.le_trans hw.size hb) _ v t 12 (Nat.lt_succ_self _) hr h hsz hn [] W (hw.trans (hW.mono hw.size)) hB (Nat.le_of_lt hB.lt) (by simpa using hl))
  have SG := Lib.hid (fun (b : Nat) (W : World) (hB : Bld b b (Lib.byteCells (cborL t)) W) => String_any b b (cborL t) W hB (Nat.le_of_lt hB.lt))
  have HN := Lib.hid (@cborB_no t)
  have HY := Lib.hid (@cborB_yes t)
  have HLE := Lib.hid (cborB_le t)
  obtain ⟨sl, rfl, hwf, hr⟩ := h
  obtain ⟨sa, sc, rfl⟩ := hr.slice
  clear hr hwf hsz
  unfold V.agg at *
  generalize okT t = b1 at *
  generalize hasT 4 4 t = b2 at *
  generalize cborB t = R at *
  generalize cborL t = C at *
  generalize t.k = k at *
  generalize t.n = n at *
  generalize t.e = e at *
  generalize t.s = s at *
  generalize t.kids = ts at *
  have BX := Lib.hid (Box.new w k n e s (.slice sa ts.length sc) 30)
  cases b1
  · clear FO PU
    go_enter Tryd.func178, Tryd.ntmps178
    go_wp2_with fail
    refine (VO.out _ ((by (repeat' (first | with_reducible exact Below.refl _ _ | with_reducible refine below_alloc ?_ _ ?_ | with_reducible refine Below.setCell ?_ ?_ _ | with_reducible refine Below.drew ?_ | with_reducible refine below_drewN ?_ _ | with_reducible refine below_step ?_ (by assumption) ?_ | with_reducible refine below_mark ?_ (by assumption) ?_)); all_goals (first | omega | (simp; done) | (simp; omega))))).mono ?_
    rintro x w1 ⟨rfl, hb1⟩
    obtain ⟨p0, p1, p2, p3, p4⟩ := (BX.out.stay hb1).cells
    go_wp2_with fail
    go_ret
    exact ⟨by rw [HN.out (by simp)]; rfl, (by (repeat' (first | with_reducible exact Below.refl _ _ | with_reducible refine below_alloc ?_ _ ?_ | with_reducible refine Below.setCell ?_ ?_ _ | with_reducible refine Below.drew ?_ | with_reducible refine below_drewN ?_ _ | with_reducible refine below_step ?_ (by assumption) ?_ | with_reducible refine below_mark ?_ (by assumption) ?_)); all_goals (first | omega | (simp; done) | (simp; omega)))⟩
  · go_enter Tryd.func178, Tryd.ntmps178
    go_wp2_with fail
    refine (VO.out _ ((by (repeat' (first | with_reducible exact Below.refl _ _ | with_reducible refine below_alloc ?_ _ ?_ | with_reducible refine Below.setCell ?_ ?_ _ | with_reducible refine Below.drew ?_ | with_reducible refine below_drewN ?_ _ | with_reducible refine below_step ?_ (by assumption) ?_ | with_reducible refine below_mark ?_ (by assumption) ?_)); all_goals (first | omega | (simp; done) | (simp; omega))))).mono ?_
    rintro x w1 ⟨rfl, hb1⟩
    have BX1 := Lib.hid (BX.out.stay hb1)
    have HB1 := Lib.hid (show Below w.heap.size w w1 from (by (repeat' (first | with_reducible exact Below.refl _ _ | with_reducible refine below_alloc ?_ _ ?_ | with_reducible refine Below.setCell ?_ ?_ _ | with_reducible refine Below.drew ?_ | with_reducible refine below_drewN ?_ _ | with_reducible refine below_step ?_ (by assumption) ?_ | with_reducible refine below_mark ?_ (by assumption) ?_)); all_goals (first | omega | (simp; done) | (simp; omega))))
    obtain ⟨p0, p1, p2, p3, p4⟩ := BX1.out.cells
    go_wp2_with fail
    refine (FO.out _ ((by (repeat' (first | with_reducible exact Below.refl _ _ | with_reducible refine below_alloc ?_ _ ?_ | with_reducible refine Below.setCell ?_ ?_ _ | with_reducible refine Below.drew ?_ | with_reducible refine below_drewN ?_ _ | with_reducible refine below_step ?_ (by assumption) ?_ | with_reducible refine below_mark ?_ (by assumption) ?_)); all_goals (first | omega | (simp; done) | (simp; omega))))).mono ?_
    rintro x w2 ⟨rfl, hb2⟩
    have BX2 := Lib.hid (BX1.out.stay hb2)
    have HB2 := Lib.hid (show Below w.heap.size w w2 from (by (repeat' (first | with_reducible exact Below.refl _ _ | with_reducible refine below_alloc ?_ _ ?_ | with_reducible refine Below.setCell ?_ ?_ _ | with_reducible refine Below.drew ?_ | with_reducible refine below_drewN ?_ _ | with_reducible refine below_step ?_ (by assumption) ?_ | with_reducible refine below_mark ?_ (by assumption) ?_)); all_goals (first | omega | (simp; done) | (simp; omega))))
    clear p0 p1 p2 p3 p4
    cases b2
    · obtain ⟨p0, p1, p2, p3, p4⟩ := (BX2.out.alloc (.cells #[.pointer none, .slice none 0 0] 135)).cells
      obtain ⟨hc, hr, hn⟩ := HY.out (by simp)
      have hle := HLE.out
      have HFR := Lib.hid (show Bld w2.heap.size w2.heap.size [] (w2.alloc (.cells #[.pointer none, .slice none 0 0] 135)) from Lib.IsBuilderF.of (Lib.fresh_isBuilder _ _ _))
      have hz2 := HB2.out.size
      have PU2 := Lib.hid (PU.out w2.heap.size hz2 hr hn (by rw [← hc]; omega) (w2.alloc (.cells #[.pointer none, .slice none 0 0] 135)) HFR.out (below_alloc HB2.out _ (Nat.le_refl _)))
      clear PU
      go_wp2_with fail
      refine PU2.out.mono ?_
      rintro x w3 ⟨rfl, hr3⟩
      have HB3 := Lib.hid (show Below w.heap.size w w3 from (below_alloc HB2.out _ (Nat.le_refl _)).trans (hr3.2.1.mono hz2))
      have SG3 := Lib.hid (SG.out _ _ hr3.1)
      go_wp2_with fail
      refine SG3.out.mono ?_
      rintro x w4 ⟨rfl, hr4⟩
      have HB4 := Lib.hid (show Below w.heap.size w w4 from HB3.out.trans (hr4.2.1.mono hz2))
      go_wp2_with fail
      go_ret
      exact ⟨by rw [hc]; rfl, HB4.out⟩
    · obtain ⟨p0, p1, p2, p3, p4⟩ := BX2.out.cells
      go_wp2_with fail
      go_ret
      exact ⟨by rw [HN.out (by simp)]; rfl, HB2.out⟩
theorem CborSize_impl (w0 : World) (hE : Env w0) (v : Value) (t : V) (h : Rep w0 v t) (hsz : t.sz ≤ 1048576) (w : World) (hw : Below w0.heap.size w0 w) :
    Calls Tryd.prog 139 #[v] w (SizRet t w) := by
  have FI := Lib.hid (fun (W : World) (hW : Below w.heap.size w W) => PutCbor_impl w0 hE v t h hsz W (hw.trans (hW.mono hw.size)))
  have HL := Lib.hid (show (cborB t).length = sizB t from rfl)
  obtain ⟨sl, rfl, hwf, hr⟩ := h
  obtain ⟨sa, sc, rfl⟩ := hr.slice
  clear hr hwf hsz
  unfold SizRet
  unfold V.agg at *
  generalize sizB t = z at *
  generalize cborB t = R at *
  go_enter Tryd.func139, Tryd.ntmps139
  go_wp2_with fail
  refine (FI.out _ ((by (repeat' (first | with_reducible exact Below.refl _ _ | with_reducible refine below_alloc ?_ _ ?_ | with_reducible refine Below.setCell ?_ ?_ _ | with_reducible refine Below.drew ?_ | with_reducible refine below_drewN ?_ _ | with_reducible refine below_step ?_ (by assumption) ?_ | with_reducible refine below_mark ?_ (by assumption) ?_)); all_goals (first | omega | (simp; done) | (simp; omega))))).mono ?_
  rintro x w1 ⟨rfl, hb1⟩
  go_wp2_with fail
  go_ret
  exact ⟨by rw [← HL.out]; rfl, (by (repeat' (first | with_reducible exact Below.refl _ _ | with_reducible refine below_alloc ?_ _ ?_ | with_reducible refine Below.setCell ?_ ?_ _ | with_reducible refine Below.drew ?_ | with_reducible refine below_drewN ?_ _ | with_reducible refine below_step ?_ (by assumption) ?_ | with_reducible refine below_mark ?_ (by assumption) ?_)); all_goals (first | omega | (simp; done) | (simp; omega)))⟩
end Go.Proofs.YtllngpnhhpnjoaaDoor
namespace Go.Proofs.YtllngpnhhpnjoaaDoor
set_option linter.unusedVariables false
set_option maxRecDepth 100000
open Go.RowKit
theorem sizB_le (t : V) : sizB t ≤ 615000 := cborB_le t
theorem two_cells {w W : World} {k n e : Int} {s : ByteArray} {sl : Value} {k2 n2 e2 : Int} {s2 : ByteArray} {sl2 : Value}
    (h : Below ((w.alloc (.cells #[.int .i64 k, .int .i64 n, .int .i64 e, .string s, sl] 30)).alloc (.cells #[.int .i64 k2, .int .i64 n2, .int .i64 e2, .string s2, sl2] 30)).heap.size ((w.alloc (.cells #[.int .i64 k, .int .i64 n, .int .i64 e, .string s, sl] 30)).alloc (.cells #[.int .i64 k2, .int .i64 n2, .int .i64 e2, .string s2, sl2] 30)) W) :
    (W.cell? ⟨w.heap.size, 0, none⟩ = some (.int .i64 k) ∧ W.cell? ⟨w.heap.size, 1, none⟩ = some (.int .i64 n) ∧ W.cell? ⟨w.heap.size, 2, none⟩ = some (.int .i64 e) ∧ W.cell? ⟨w.heap.size, 3, none⟩ = some (.string s) ∧ W.cell? ⟨w.heap.size, 4, none⟩ = some sl) ∧
    (W.cell? ⟨w.heap.size + 1, 0, none⟩ = some (.int .i64 k2) ∧ W.cell? ⟨w.heap.size + 1, 1, none⟩ = some (.int .i64 n2) ∧ W.cell? ⟨w.heap.size + 1, 2, none⟩ = some (.int .i64 e2) ∧ W.cell? ⟨w.heap.size + 1, 3, none⟩ = some (.string s2) ∧ W.cell? ⟨w.heap.size + 1, 4, none⟩ = some sl2) := by
  have h2 := Box.new (w.alloc (.cells #[.int .i64 k, .int .i64 n, .int .i64 e, .string s, sl] 30)) k2 n2 e2 s2 sl2 30
  rw [show (w.alloc (.cells #[.int .i64 k, .int .i64 n, .int .i64 e, .string s, sl] 30)).heap.size = w.heap.size + 1 by simp] at h2
  exact ⟨(((Box.new w k n e s sl 30).alloc _).stay h).cells, (h2.stay h).cells⟩
theorem below_next {w W w2 : World} (hb : Below W.heap.size W w2) (h : Below w.heap.size w W) : Below w.heap.size w w2 := h.trans (hb.mono h.size)
def GainRet (b : Bool) (t u : V) (w : World) (e : Ending) (w' : World) : Prop := e = .returned (.int .i64 (gainN b (sizB t) (sizB u))) ∧ Below w.heap.size w w'
set_option maxHeartbeats 2000000 in
theorem shorter_any (w0 : World) (hE : Env w0) (v : Value) (t : V) (h : Rep w0 v t) (hsz : t.sz ≤ 1048576) (v2 : Value) (u : V) (h2 : Rep w0 v2 u) (hsz2 : u.sz ≤ 1048576) (b : Bool) (w : World) (hw : Below w0.heap.size w0 w) :
    Calls Tryd.prog 97 #[v, v2, .bool b] w (GainRet b t u w) := by
  have CT := Lib.hid (fun (W : World) (hW : Below w.heap.size w W) => CborSize_impl w0 hE v t h hsz W (hw.trans (hW.mono hw.size)))
  have CU := Lib.hid (fun (W : World) (hW : Below w.heap.size w W) => CborSize_impl w0 hE v2 u h2 hsz2 W (hw.trans (hW.mono hw.size)))
  have lt := sizB_le t
  have lu := sizB_le u
  obtain ⟨sl, rfl, -, hr⟩ := h
  obtain ⟨sa, sc, rfl⟩ := hr.slice
  obtain ⟨sl2, rfl, -, hr2⟩ := h2
  obtain ⟨sa2, sc2, rfl⟩ := hr2.slice
  clear hr hsz hr2 hsz2
  unfold SizRet at *
  unfold GainRet
  unfold V.agg at *
  generalize sizB t = x at *
  generalize sizB u = y at *
  generalize t.k = k at *
  generalize t.n = n at *
  generalize t.e = e at *
  generalize t.s = s at *
  generalize t.kids.length = m at *
  generalize u.k = k2 at *
  generalize u.n = n2 at *
  generalize u.e = e2 at *
  generalize u.s = s2 at *
  generalize u.kids.length = m2 at *
  have hw0 : wrap64 ((x : Int) - y) = (x : Int) - y := by unfold wrap64; omega
  have hcase : (gainN b x y = 0 ∧ (b = false ∨ b = true ∧ ((x : Int) == 0) = true ∨ b = true ∧ ((x : Int) == 0) = false ∧ ((y : Int) == 0) = true)) ∨ (gainN b x y = (x : Int) - y ∧ b = true ∧ ((x : Int) == 0) = false ∧ ((y : Int) == 0) = false) := by
    unfold gainN
    cases b with
    | false => exact .inl ⟨by simp, .inl rfl⟩
    | true =>
      by_cases hx : x = 0
      · exact .inl ⟨by simp [hx], .inr (.inl ⟨rfl, by simp [hx]⟩)⟩
      · by_cases hy : y = 0
        · exact .inl ⟨by simp [hy], .inr (.inr ⟨rfl, by simp; omega, by simp [hy]⟩)⟩
        · exact .inr ⟨by rw [if_neg (by simp; omega)], rfl, by simp; omega, by simp; omega⟩
  have TC := Lib.hid (fun (W : World) (h : Below ((w.alloc (.cells #[.int .i64 k, .int .i64 n, .int .i64 e, .string s, .slice sa m sc] 30)).alloc (.cells #[.int .i64 k2, .int .i64 n2, .int .i64 e2, .string s2, .slice sa2 m2 sc2] 30)).heap.size ((w.alloc (.cells #[.int .i64 k, .int .i64 n, .int .i64 e, .string s, .slice sa m sc] 30)).alloc (.cells #[.int .i64 k2, .int .i64 n2, .int .i64 e2, .string s2, .slice sa2 m2 sc2] 30)) W) => two_cells h)
  have BW := Lib.hid (show ∀ W, Below ((w.alloc (.cells #[.int .i64 k, .int .i64 n, .int .i64 e, .string s, .slice sa m sc] 30)).alloc (.cells #[.int .i64 k2, .int .i64 n2, .int .i64 e2, .string s2, .slice sa2 m2 sc2] 30)).heap.size ((w.alloc (.cells #[.int .i64 k, .int .i64 n, .int .i64 e, .string s, .slice sa m sc] 30)).alloc (.cells #[.int .i64 k2, .int .i64 n2, .int .i64 e2, .string s2, .slice sa2 m2 sc2] 30)) W → Below w.heap.size w W from fun W h => (by (repeat' (first | with_reducible exact Below.refl _ _ | with_reducible refine below_alloc ?_ _ ?_ | with_reducible refine Below.setCell ?_ ?_ _ | with_reducible refine Below.drew ?_ | with_reducible refine below_drewN ?_ _ | with_reducible refine below_step ?_ (by assumption) ?_ | with_reducible refine below_mark ?_ (by assumption) ?_)); all_goals (first | omega | (simp; done) | (simp; omega))))
  have B0 : Below ((w.alloc (.cells #[.int .i64 k, .int .i64 n, .int .i64 e, .string s, .slice sa m sc] 30)).alloc (.cells #[.int .i64 k2, .int .i64 n2, .int .i64 e2, .string s2, .slice sa2 m2 sc2] 30)).heap.size ((w.alloc (.cells #[.int .i64 k, .int .i64 n, .int .i64 e, .string s, .slice sa m sc] 30)).alloc (.cells #[.int .i64 k2, .int .i64 n2, .int .i64 e2, .string s2, .slice sa2 m2 sc2] 30)) ((w.alloc (.cells #[.int .i64 k, .int .i64 n, .int .i64 e, .string s, .slice sa m sc] 30)).alloc (.cells #[.int .i64 k2, .int .i64 n2, .int .i64 e2, .string s2, .slice sa2 m2 sc2] 30)).drew := (Below.refl _ _).drew
  have HG := Lib.hid (⟨gainN b x y, rfl⟩ : ∃ g, g = gainN b x y)
  obtain ⟨g, hg⟩ := HG.out
  rw [← hg] at hcase ⊢
  clear HG hg
  rcases hcase with ⟨rfl, rfl | ⟨rfl, t1⟩ | ⟨rfl, t1, t2⟩⟩ | ⟨rfl, rfl, t1, t2⟩
  all_goals
    go_enter Tryd.func97, Tryd.ntmps97
    obtain ⟨⟨p0, p1, p2, p3, p4⟩, ⟨r0, r1, r2, r3, r4⟩⟩ := TC.out _ B0
    go_wp2_with fail
    go_region_held3 (fun w' => w'.cell? ⟨w.heap.size, 0, none⟩ = some (.int .i64 k) ∧ w'.cell? ⟨w.heap.size, 1, none⟩ = some (.int .i64 n) ∧ w'.cell? ⟨w.heap.size, 2, none⟩ = some (.int .i64 e) ∧ w'.cell? ⟨w.heap.size, 3, none⟩ = some (.string s) ∧ w'.cell? ⟨w.heap.size, 4, none⟩ = some (.slice sa m sc) ∧
      w'.cell? ⟨w.heap.size + 1, 0, none⟩ = some (.int .i64 k2) ∧ w'.cell? ⟨w.heap.size + 1, 1, none⟩ = some (.int .i64 n2) ∧ w'.cell? ⟨w.heap.size + 1, 2, none⟩ = some (.int .i64 e2) ∧ w'.cell? ⟨w.heap.size + 1, 3, none⟩ = some (.string s2) ∧ w'.cell? ⟨w.heap.size + 1, 4, none⟩ = some (.slice sa2 m2 sc2))
      (first | with_reducible exact ⟨by assumption, by assumption, by assumption, by assumption, by assumption, by assumption, by assumption, by assumption, by assumption, by assumption⟩ | with_reducible assumption | exact ⟨p0, p1, p2, p3, p4, r0, r1, r2, r3, r4⟩ | go_keep)
      (((first | with_reducible refine (CT.out _ (BW.out _ (by assumption))).mono ?_ | with_reducible refine (CU.out _ (BW.out _ (by assumption))).mono ?_); rintro x1 w1 ⟨rfl, hb1⟩; have hG := below_next hb1 (by with_reducible assumption); obtain ⟨⟨p0, p1, p2, p3, p4⟩, ⟨r0, r1, r2, r3, r4⟩⟩ := TC.out _ hG))
    all_goals
      go_wp2_with fail
      go_ret
      exact ⟨rfl, BW.out _ hG⟩
end Go.Proofs.YtllngpnhhpnjoaaDoor
