/- Lemmas for the statement of the last text of this claim: texts joined. -/
import Derived.Test.YtfjehhdahpbbgaaDoorSo01
import Derived.Test.YtfjehhdahpbbgaaDoorSo02
import Derived.Test.YtfjehhdahpbbgaaDoorSo03
import Derived.Test.YtfjehhdahpbbgaaDoorSo04
import Derived.Test.YtfjehhdahpbbgaaDoorSo05
import Derived.Test.YtfjehhdahpbbgaaDoorSo09
import Derived.Test.YtfjehhdahpbbgaaDoorSo10
import Derived.WalkSpells
import Derived.Lib.Hide
import Derived.Deep.RegionWith
import Derived.StillTailTactics
import Derived.Test.YtfjehhdahpbbgaaDoorTie
import Derived.Test.YtfjehhdahpbbgaaDoorCards
import Derived.PinnedBridge
import Derived.Lay
import Derived.LaidOnce
import Derived.SevenTiedAt
import Derived.Lib.LaidU8T
import Derived.Lib.LaidIn
import Derived.Deep.QuietTactic
import Derived.BigQuiet
namespace Go.Proofs.YtfjehhdahpbbgaaDoor
set_option linter.unusedSimpArgs false
set_option linter.unusedVariables false
set_option maxRecDepth 100000
open Go.RowKit
def sortedV (t : V) : V := if okT t = true then srtV t else t
theorem sortedV_sz {t : V} (h : t.sz ≤ 1048576) : (sortedV t).sz ≤ 1048576 := by
  unfold sortedV
  split
  · rename_i ho
    unfold okT at ho
    simp only [Bool.and_eq_true] at ho
    rw [srt_sz _ t 12 (Nat.le_refl _) ho.1]; exact h
  · exact h
theorem ok_parts {t : V} (h : okT t = true) : rightB t 12 = true ∧ t.nodes ≤ 300 := by
  unfold okT at h
  simp only [Bool.and_eq_true, decide_eq_true_eq] at h
  exact h
theorem SrdRet.ofVal {w : World} {t : V} {e : Ending} {w' : World} (h : ValRet w t e w') : SrdRet w t e w' := by
  obtain ⟨sl, h1, h2, h3, h4⟩ := h
  exact ⟨sl, h1, h2, h3.toF, h4⟩
theorem SrdRet.ofR {w : World} {t : V} {e : Ending} {w' : World} (h : SrdRet w t e w') : ∃ sl, e = .returned (t.agg sl) ∧ Rep w' (t.agg sl) t ∧ Below w.heap.size w w' := by
  obtain ⟨sl, h1, h2, h3, h4⟩ := h
  exact ⟨sl, h1, ⟨sl, rfl, h2, h3.rep⟩, h4⟩
def U32Ret (w : World) (x : Int) (e : Ending) (w' : World) : Prop := e = .returned (.int .u32 x) ∧ Below w.heap.size w w'
theorem sum_yes {t : V} (h : okT t = true) : sumV t = crcOf (mpB (srtV t)) := by unfold sumV; rw [if_pos h]
theorem sum_no {t : V} (h : okT t = false) : sumV t = 0 := by unfold sumV; rw [if_neg (by simp [h])]
theorem srtV_sz {t : V} (h : okT t = true) : (srtV t).sz = t.sz := srt_sz _ t 12 (Nat.le_refl _) (ok_parts h).1
set_option maxHeartbeats 1600000 in
theorem Sorted_impl0 (w0 : World) (hE : Env w0) (v : Value) (t : V) (h : Rep w0 v t) (hsz : t.sz ≤ 1048576) (w : World) (hw : Below w0.heap.size w0 w) :
    Calls Tryd.prog 45 #[v] w (SrdRet w (sortedV t)) := by
  have VO := Lib.hid (fun (W : World) (hW : Below w.heap.size w W) => ValueOk_impl w0 hE v t h hsz W (hw.trans (hW.mono hw.size)))
  have SO := Lib.hid (fun (ho : okT t = true) (sl : Value) (W : World) (hr : RepS w0 sl t.kids) (hW : Below w.heap.size w W) => sorted_all t.nodes t 12 (Nat.le_refl _) (ok_parts ho).2 (ok_parts ho).1 (by obtain ⟨_, _, hwf, _⟩ := h; exact hwf) _ sl W ((hr.keep (hw.trans (hW.mono hw.size))).toF))
  have CO := Lib.hid (fun (W : World) (hW : Below w.heap.size w W) => own_any w0 v t h hsz W (hw.trans (hW.mono hw.size)))
  have SY := Lib.hid (fun (ho : okT t = true) => show sortedV t = srtV t from if_pos ho)
  have SN := Lib.hid (fun (ho : okT t = false) => show sortedV t = t from if_neg (by simp [ho]))
  obtain ⟨sl, rfl, hwf, hr⟩ := h
  obtain ⟨sa, sc, rfl⟩ := hr.slice
  have SO2 := Lib.hid (fun (ho : okT t = true) (W : World) (hW : Below w.heap.size w W) => SO.out ho (.slice sa t.kids.length sc) W hr hW)
  clear hr hwf hsz SO
  have BX := Lib.hid ((Box.new w t.k t.n t.e t.s (.slice sa t.kids.length sc) 29).alloc (.cells #[.int .i64 0, .int .i64 0, .int .i64 0, .string ⟨#[]⟩, .slice none 0 0] 29))
  have BZ := Lib.hid (Box.new (w.alloc (.cells #[.int .i64 t.k, .int .i64 t.n, .int .i64 t.e, .string t.s, .slice sa t.kids.length sc] 29)) 0 0 0 ⟨#[]⟩ (.slice none 0 0) 29)
  rw [show (w.alloc (.cells #[.int .i64 t.k, .int .i64 t.n, .int .i64 t.e, .string t.s, .slice sa t.kids.length sc] 29)).heap.size = w.heap.size + 1 by simp] at BZ
  generalize srtV t = u at *
  generalize sortedV t = R at *
  unfold V.agg at VO SO2 CO ⊢
  generalize okT t = b at *
  cases b
  all_goals
    go_enter Tryd.func45, Tryd.ntmps45
    go_wp2_with fail
    refine (VO.out _ ((by (with_reducible (repeat' (first | exact Below.refl _ _ | refine below_alloc ?_ _ ?_ | refine Below.setCell ?_ ?_ _ | refine Below.drew ?_ | refine below_drewN ?_ _ | refine below_step ?_ (by assumption) ?_ | refine below_mark ?_ (by assumption) ?_))); all_goals (first | omega | (simp; done) | (simp; omega))))).mono ?_
    rintro x w1 ⟨rfl, hb1⟩
    have BX1 := Lib.hid (BX.out.stay hb1)
    have BZ1 := Lib.hid (BZ.out.stay hb1)
    have hn1 := hb1.size
    rw [World.size_alloc, World.size_alloc] at hn1
    have HB1 := Lib.hid (show Below w.heap.size w w1 from (by (with_reducible (repeat' (first | exact Below.refl _ _ | refine below_alloc ?_ _ ?_ | refine Below.setCell ?_ ?_ _ | refine Below.drew ?_ | refine below_drewN ?_ _ | refine below_step ?_ (by assumption) ?_ | refine below_mark ?_ (by assumption) ?_))); all_goals (first | omega | (simp; done) | (simp; omega))))
    obtain ⟨p0, p1, p2, p3, p4⟩ := BX1.out.cells
    go_wp2_with fail
  · refine (CO.out _ HB1.out).mono ?_
    rintro x w2 hret
    obtain ⟨s2, rfl, twf, trep, hb2⟩ := SrdRet.ofVal hret
    obtain ⟨ua, un, uc, rfl⟩ : ∃ sa sn sc, s2 = .slice sa sn sc := (by obtain ⟨p, q, e⟩ := trep.slice; exact ⟨p, _, q, e⟩)
    have hR := SN.out trivial
    have HB2 := Lib.hid (HB1.out.trans (hb2.mono HB1.out.size))
    obtain ⟨z0, z1, z2, z3, z4⟩ := (BZ1.out.stay hb2).cells
    have zf0 := (BZ1.out.stay hb2).free (i := 0); have zf1 := (BZ1.out.stay hb2).free (i := 1); have zf2 := (BZ1.out.stay hb2).free (i := 2); have zf3 := (BZ1.out.stay hb2).free (i := 3); have zf4 := (BZ1.out.stay hb2).free (i := 4)
    have HF := Lib.hid (show SrdRet w R (.returned (.agg #[.int .i64 t.k, .int .i64 t.n, .int .i64 t.e, .string t.s, .slice ua un uc])) (set5 w2 (w.heap.size + 1) (.int .i64 t.k) (.int .i64 t.n) (.int .i64 t.e) (.string t.s) (.slice ua un uc)) from by
      rw [hR]
      exact ⟨_, rfl, twf, ((trep.set5 (w.heap.size + 1) (by omega) _ _ _ _ _).mono (fun x hx _ => by omega)), HB2.out.trans ((below_set5 w2 (w.heap.size + 1) _ _ _ _ _).mono (by omega))⟩)
    clear trep twf hb2 BZ1 BX1 hR
    unfold V.agg
    go_wp2_with fail
    exact bodyPost_ret (v := .agg #[.int .i64 t.k, .int .i64 t.n, .int .i64 t.e, .string t.s, .slice ua un uc]) (by simp [results, Tryd.results45, go_sem, z0, z1, z2, z3, z4]) rfl HF.out
  · refine (SO2.out trivial _ HB1.out).mono ?_
    rintro x w2 ⟨s2, rfl, twf, trep, hb2⟩
    obtain ⟨ua, un, uc, rfl⟩ : ∃ sa sn sc, s2 = .slice sa sn sc := (by obtain ⟨p, q, e⟩ := trep.slice; exact ⟨p, _, q, e⟩)
    have hR := SY.out trivial
    have HB2 := Lib.hid (HB1.out.trans (hb2.mono HB1.out.size))
    obtain ⟨z0, z1, z2, z3, z4⟩ := (BZ1.out.stay hb2).cells
    have zf0 := (BZ1.out.stay hb2).free (i := 0); have zf1 := (BZ1.out.stay hb2).free (i := 1); have zf2 := (BZ1.out.stay hb2).free (i := 2); have zf3 := (BZ1.out.stay hb2).free (i := 3); have zf4 := (BZ1.out.stay hb2).free (i := 4)
    have HF := Lib.hid (show SrdRet w R (.returned (.agg #[.int .i64 u.k, .int .i64 u.n, .int .i64 u.e, .string u.s, .slice ua un uc])) (set5 w2 (w.heap.size + 1) (.int .i64 u.k) (.int .i64 u.n) (.int .i64 u.e) (.string u.s) (.slice ua un uc)) from by
      rw [hR]
      exact ⟨_, rfl, twf, ((trep.set5 (w.heap.size + 1) (by omega) _ _ _ _ _).mono (fun x hx _ => by omega)), HB2.out.trans ((below_set5 w2 (w.heap.size + 1) _ _ _ _ _).mono (by omega))⟩)
    clear trep twf hb2 BZ1 BX1 hR
    unfold V.agg
    go_wp2_with fail
    exact bodyPost_ret (v := .agg #[.int .i64 u.k, .int .i64 u.n, .int .i64 u.e, .string u.s, .slice ua un uc]) (by simp [results, Tryd.results45, go_sem, z0, z1, z2, z3, z4]) rfl HF.out
set_option maxHeartbeats 1600000 in
theorem SumOf_impl0 (w0 : World) (hE : Env w0) (v : Value) (t : V) (h : Rep w0 v t) (hsz : t.sz ≤ 1048576) (w : World) (hw : Below w0.heap.size w0 w) :
    Calls Tryd.prog 16 #[v] w (U32Ret w (sumV t)) := by
  have VO := Lib.hid (fun (W : World) (hW : Below w.heap.size w W) => ValueOk_impl w0 hE v t h hsz W (hw.trans (hW.mono hw.size)))
  have SO := Lib.hid (fun (ho : okT t = true) (sl : Value) (W : World) (hr : RepS w0 sl t.kids) (hW : Below w.heap.size w W) => sorted_all t.nodes t 12 (Nat.le_refl _) (ok_parts ho).2 (ok_parts ho).1 (by obtain ⟨_, _, hwf, _⟩ := h; exact hwf) _ sl W ((hr.keep (hw.trans (hW.mono hw.size))).toF))
  have PM := Lib.hid (fun (ho : okT t = true) (sl : Value) (W : World) (hW : Below w.heap.size w W) (hr : Rep W ((srtV t).agg sl) (srtV t)) => PutMsg_impl W (hE.keep (hw.trans (hW.mono hw.size))) _ _ hr (by rw [srtV_sz ho]; exact hsz) W (Below.refl _ _))
  have SY := Lib.hid (fun (ho : okT t = true) => sum_yes ho)
  have SN := Lib.hid (fun (ho : okT t = false) => sum_no ho)
  have ML := Lib.hid (mpB_le (srtV t))
  generalize srtV t = u at *
  obtain ⟨sl, rfl, hwf, hr⟩ := h
  obtain ⟨sa, sc, rfl⟩ := hr.slice
  have SO2 := Lib.hid (fun (ho : okT t = true) (W : World) (hW : Below w.heap.size w W) => SO.out ho (.slice sa t.kids.length sc) W hr hW)
  clear hr hwf hsz SO
  have BX := Lib.hid (Box.new w t.k t.n t.e t.s (.slice sa t.kids.length sc) 29)
  generalize sumV t = R at *
  generalize mpB u = C at *
  unfold V.agg at VO SO2 PM ⊢
  generalize okT t = b at *
  cases b
  all_goals
    go_enter Tryd.func16, Tryd.ntmps16
    go_wp2_with fail
    refine (VO.out _ ((by (with_reducible (repeat' (first | exact Below.refl _ _ | refine below_alloc ?_ _ ?_ | refine Below.setCell ?_ ?_ _ | refine Below.drew ?_ | refine below_drewN ?_ _ | refine below_step ?_ (by assumption) ?_ | refine below_mark ?_ (by assumption) ?_))); all_goals (first | omega | (simp; done) | (simp; omega))))).mono ?_
    rintro x w1 ⟨rfl, hb1⟩
    have HB1 := Lib.hid (show Below w.heap.size w w1 from (by (with_reducible (repeat' (first | exact Below.refl _ _ | refine below_alloc ?_ _ ?_ | refine Below.setCell ?_ ?_ _ | refine Below.drew ?_ | refine below_drewN ?_ _ | refine below_step ?_ (by assumption) ?_ | refine below_mark ?_ (by assumption) ?_))); all_goals (first | omega | (simp; done) | (simp; omega))))
    obtain ⟨p0, p1, p2, p3, p4⟩ := (BX.out.stay hb1).cells
    clear hb1
    go_wp2_with fail
  · have hR := SN.out trivial
    go_ret
    exact ⟨by rw [hR]; rfl, HB1.out⟩
  · have hR := SY.out trivial
    refine (SO2.out trivial _ HB1.out).mono ?_
    rintro x w2 hret
    obtain ⟨s2, rfl, hrep, hb2⟩ := SrdRet.ofR hret
    have HB2 := Lib.hid (HB1.out.trans (hb2.mono HB1.out.size))
    obtain ⟨ua, un, uc, rfl⟩ : ∃ sa sn sc, s2 = .slice sa sn sc := (by obtain ⟨_, e, _, hr⟩ := hrep; obtain ⟨p, q, e2⟩ := hr.slice; unfold V.agg at e; injection e with e; simp at e; exact ⟨p, _, q, by rw [e, e2]⟩)
    have PM2 := Lib.hid (PM.out trivial _ w2 HB2.out hrep)
    have ml := ML.out
    have HR := Lib.hid hR
    clear hrep hb2 hret hR
    unfold V.agg
    go_wp2_with fail
    refine PM2.out.mono ?_
    rintro x w3 ⟨rfl, hb3⟩
    have HB3 := Lib.hid (HB2.out.trans (hb3.mono HB2.out.size))
    clear hb3
    go_wp2_with fail
    refine (crc_impl ⟨C.toArray⟩ _ (by show C.toArray.size ≤ _; rw [List.size_toArray]; omega)).mono ?_
    rintro x w4 ⟨rfl, rfl⟩
    go_wp2_with fail
    go_ret
    exact ⟨by rw [HR.out]; rfl, HB3.out⟩
set_option maxHeartbeats 1600000 in
theorem Sorted_spec0 (w0 : World) (v : Value) (t : V) (h : Rep w0 v t) (hsz : t.sz ≤ 1048576) (w : World) (hw : Below w0.heap.size w0 w) :
    Calls Tryd.prog 43 #[v] w (SrdRet w (sortedV t)) := by
  have VO := Lib.hid (fun (W : World) (hW : Below w.heap.size w W) => ValueOk_spec w0 v t h hsz W (hw.trans (hW.mono hw.size)))
  have SO := Lib.hid (fun (ho : okT t = true) (sl : Value) (W : World) (hr : RepS w0 sl t.kids) (hW : Below w.heap.size w W) => sortS_all t.nodes t 12 (Nat.le_refl _) (ok_parts ho).2 (ok_parts ho).1 (by obtain ⟨_, _, hwf, _⟩ := h; exact hwf) hsz _ sl W ((hr.keep (hw.trans (hW.mono hw.size))).toF))
  have CO := Lib.hid (fun (W : World) (hW : Below w.heap.size w W) => copy_any w0 v t h hsz W (hw.trans (hW.mono hw.size)))
  have SY := Lib.hid (fun (ho : okT t = true) => show sortedV t = srtV t from if_pos ho)
  have SN := Lib.hid (fun (ho : okT t = false) => show sortedV t = t from if_neg (by simp [ho]))
  obtain ⟨sl, rfl, hwf, hr⟩ := h
  obtain ⟨sa, sc, rfl⟩ := hr.slice
  have SO2 := Lib.hid (fun (ho : okT t = true) (W : World) (hW : Below w.heap.size w W) => SO.out ho (.slice sa t.kids.length sc) W hr hW)
  clear hr hwf hsz SO
  have BX := Lib.hid ((Box.new w t.k t.n t.e t.s (.slice sa t.kids.length sc) 29).alloc (.cells #[.int .i64 0, .int .i64 0, .int .i64 0, .string ⟨#[]⟩, .slice none 0 0] 29))
  have BZ := Lib.hid (Box.new (w.alloc (.cells #[.int .i64 t.k, .int .i64 t.n, .int .i64 t.e, .string t.s, .slice sa t.kids.length sc] 29)) 0 0 0 ⟨#[]⟩ (.slice none 0 0) 29)
  rw [show (w.alloc (.cells #[.int .i64 t.k, .int .i64 t.n, .int .i64 t.e, .string t.s, .slice sa t.kids.length sc] 29)).heap.size = w.heap.size + 1 by simp] at BZ
  generalize srtV t = u at *
  generalize sortedV t = R at *
  unfold V.agg at VO SO2 CO ⊢
  generalize okT t = b at *
  cases b
  all_goals
    go_enter Tryd.func43, Tryd.ntmps43
    go_wp2_with fail
    refine (VO.out _ ((by (with_reducible (repeat' (first | exact Below.refl _ _ | refine below_alloc ?_ _ ?_ | refine Below.setCell ?_ ?_ _ | refine Below.drew ?_ | refine below_drewN ?_ _ | refine below_step ?_ (by assumption) ?_ | refine below_mark ?_ (by assumption) ?_))); all_goals (first | omega | (simp; done) | (simp; omega))))).mono ?_
    rintro x w1 ⟨rfl, hb1⟩
    have BX1 := Lib.hid (BX.out.stay hb1)
    have BZ1 := Lib.hid (BZ.out.stay hb1)
    have hn1 := hb1.size
    rw [World.size_alloc, World.size_alloc] at hn1
    have HB1 := Lib.hid (show Below w.heap.size w w1 from (by (with_reducible (repeat' (first | exact Below.refl _ _ | refine below_alloc ?_ _ ?_ | refine Below.setCell ?_ ?_ _ | refine Below.drew ?_ | refine below_drewN ?_ _ | refine below_step ?_ (by assumption) ?_ | refine below_mark ?_ (by assumption) ?_))); all_goals (first | omega | (simp; done) | (simp; omega))))
    obtain ⟨p0, p1, p2, p3, p4⟩ := BX1.out.cells
    go_wp2_with fail
  · refine (CO.out _ HB1.out).mono ?_
    rintro x w2 hret
    obtain ⟨s2, rfl, twf, trep, hb2⟩ := SrdRet.ofVal hret
    obtain ⟨ua, un, uc, rfl⟩ : ∃ sa sn sc, s2 = .slice sa sn sc := (by obtain ⟨p, q, e⟩ := trep.slice; exact ⟨p, _, q, e⟩)
    have hR := SN.out trivial
    have HB2 := Lib.hid (HB1.out.trans (hb2.mono HB1.out.size))
    obtain ⟨z0, z1, z2, z3, z4⟩ := (BZ1.out.stay hb2).cells
    have zf0 := (BZ1.out.stay hb2).free (i := 0); have zf1 := (BZ1.out.stay hb2).free (i := 1); have zf2 := (BZ1.out.stay hb2).free (i := 2); have zf3 := (BZ1.out.stay hb2).free (i := 3); have zf4 := (BZ1.out.stay hb2).free (i := 4)
    have HF := Lib.hid (show SrdRet w R (.returned (.agg #[.int .i64 t.k, .int .i64 t.n, .int .i64 t.e, .string t.s, .slice ua un uc])) (set5 w2 (w.heap.size + 1) (.int .i64 t.k) (.int .i64 t.n) (.int .i64 t.e) (.string t.s) (.slice ua un uc)) from by
      rw [hR]
      exact ⟨_, rfl, twf, ((trep.set5 (w.heap.size + 1) (by omega) _ _ _ _ _).mono (fun x hx _ => by omega)), HB2.out.trans ((below_set5 w2 (w.heap.size + 1) _ _ _ _ _).mono (by omega))⟩)
    clear trep twf hb2 BZ1 BX1 hR
    unfold V.agg
    go_wp2_with fail
    exact bodyPost_ret (v := .agg #[.int .i64 t.k, .int .i64 t.n, .int .i64 t.e, .string t.s, .slice ua un uc]) (by simp [results, Tryd.results43, go_sem, z0, z1, z2, z3, z4]) rfl HF.out
  · refine (SO2.out trivial _ HB1.out).mono ?_
    rintro x w2 ⟨s2, rfl, twf, trep, hb2⟩
    obtain ⟨ua, un, uc, rfl⟩ : ∃ sa sn sc, s2 = .slice sa sn sc := (by obtain ⟨p, q, e⟩ := trep.slice; exact ⟨p, _, q, e⟩)
    have hR := SY.out trivial
    have HB2 := Lib.hid (HB1.out.trans (hb2.mono HB1.out.size))
    obtain ⟨z0, z1, z2, z3, z4⟩ := (BZ1.out.stay hb2).cells
    have zf0 := (BZ1.out.stay hb2).free (i := 0); have zf1 := (BZ1.out.stay hb2).free (i := 1); have zf2 := (BZ1.out.stay hb2).free (i := 2); have zf3 := (BZ1.out.stay hb2).free (i := 3); have zf4 := (BZ1.out.stay hb2).free (i := 4)
    have HF := Lib.hid (show SrdRet w R (.returned (.agg #[.int .i64 u.k, .int .i64 u.n, .int .i64 u.e, .string u.s, .slice ua un uc])) (set5 w2 (w.heap.size + 1) (.int .i64 u.k) (.int .i64 u.n) (.int .i64 u.e) (.string u.s) (.slice ua un uc)) from by
      rw [hR]
      exact ⟨_, rfl, twf, ((trep.set5 (w.heap.size + 1) (by omega) _ _ _ _ _).mono (fun x hx _ => by omega)), HB2.out.trans ((below_set5 w2 (w.heap.size + 1) _ _ _ _ _).mono (by omega))⟩)
    clear trep twf hb2 BZ1 BX1 hR
    unfold V.agg
    go_wp2_with fail
    exact bodyPost_ret (v := .agg #[.int .i64 u.k, .int .i64 u.n, .int .i64 u.e, .string u.s, .slice ua un uc]) (by simp [results, Tryd.results43, go_sem, z0, z1, z2, z3, z4]) rfl HF.out
set_option maxHeartbeats 1600000 in
theorem SumOf_spec0 (w0 : World) (v : Value) (t : V) (h : Rep w0 v t) (hsz : t.sz ≤ 1048576) (w : World) (hw : Below w0.heap.size w0 w) :
    Calls Tryd.prog 15 #[v] w (U32Ret w (sumV t)) := by
  have VO := Lib.hid (fun (W : World) (hW : Below w.heap.size w W) => ValueOk_spec w0 v t h hsz W (hw.trans (hW.mono hw.size)))
  have SO := Lib.hid (fun (ho : okT t = true) (sl : Value) (W : World) (hr : RepS w0 sl t.kids) (hW : Below w.heap.size w W) => sortS_all t.nodes t 12 (Nat.le_refl _) (ok_parts ho).2 (ok_parts ho).1 (by obtain ⟨_, _, hwf, _⟩ := h; exact hwf) hsz _ sl W ((hr.keep (hw.trans (hW.mono hw.size))).toF))
  have SD := Lib.hid (fun (W : World) (hW : Below w.heap.size w W) => Sorted_spec0 w0 v t h hsz W (hw.trans (hW.mono hw.size)))
  have PM := Lib.hid (fun (ho : okT t = true) (sl : Value) (W : World) (hr : Rep W ((sortedV t).agg sl) (sortedV t)) => PutMsg_spec W _ _ hr (sortedV_sz hsz) W (Below.refl _ _))
  have SY := Lib.hid (fun (ho : okT t = true) => show sumV t = crcOf (mpB (sortedV t)) from by unfold sortedV; rw [if_pos ho]; exact sum_yes ho)
  have SN := Lib.hid (fun (ho : okT t = false) => sum_no ho)
  have ML := Lib.hid (mpB_le (sortedV t))
  generalize sortedV t = u at *
  obtain ⟨sl, rfl, hwf, hr⟩ := h
  obtain ⟨sa, sc, rfl⟩ := hr.slice
  have SO2 := Lib.hid (fun (ho : okT t = true) (W : World) (hW : Below w.heap.size w W) => SO.out ho (.slice sa t.kids.length sc) W hr hW)
  clear hr hwf hsz SO
  have BX := Lib.hid (Box.new w t.k t.n t.e t.s (.slice sa t.kids.length sc) 29)
  generalize sumV t = R at *
  generalize mpB u = C at *
  unfold V.agg at VO SO2 PM SD ⊢
  generalize okT t = b at *
  cases b
  all_goals
    go_enter Tryd.func15, Tryd.ntmps15
    go_wp2_with fail
    refine (VO.out _ ((by (with_reducible (repeat' (first | exact Below.refl _ _ | refine below_alloc ?_ _ ?_ | refine Below.setCell ?_ ?_ _ | refine Below.drew ?_ | refine below_drewN ?_ _ | refine below_step ?_ (by assumption) ?_ | refine below_mark ?_ (by assumption) ?_))); all_goals (first | omega | (simp; done) | (simp; omega))))).mono ?_
    rintro x w1 ⟨rfl, hb1⟩
    have HB1 := Lib.hid (show Below w.heap.size w w1 from (by (with_reducible (repeat' (first | exact Below.refl _ _ | refine below_alloc ?_ _ ?_ | refine Below.setCell ?_ ?_ _ | refine Below.drew ?_ | refine below_drewN ?_ _ | refine below_step ?_ (by assumption) ?_ | refine below_mark ?_ (by assumption) ?_))); all_goals (first | omega | (simp; done) | (simp; omega))))
    obtain ⟨p0, p1, p2, p3, p4⟩ := (BX.out.stay hb1).cells
    clear hb1
    go_wp2_with fail
  · have hR := SN.out trivial
    go_ret
    exact ⟨by rw [hR]; rfl, HB1.out⟩
  · have hR := SY.out trivial
    refine (SD.out _ HB1.out).mono ?_
    rintro x w2 hret
    obtain ⟨s2, rfl, hrep, hb2⟩ := SrdRet.ofR hret
    have HB2 := Lib.hid (HB1.out.trans (hb2.mono HB1.out.size))
    obtain ⟨ua, un, uc, rfl⟩ : ∃ sa sn sc, s2 = .slice sa sn sc := (by obtain ⟨_, e, _, hr⟩ := hrep; obtain ⟨p, q, e2⟩ := hr.slice; unfold V.agg at e; injection e with e; simp at e; exact ⟨p, _, q, by rw [e, e2]⟩)
    have PM2 := Lib.hid (PM.out trivial _ w2 hrep)
    have ml := ML.out
    have HR := Lib.hid hR
    clear hrep hb2 hret hR
    unfold V.agg
    go_wp2_with fail
    refine PM2.out.mono ?_
    rintro x w3 ⟨rfl, hb3⟩
    have HB3 := Lib.hid (HB2.out.trans (hb3.mono HB2.out.size))
    clear hb3
    go_wp2_with fail
    refine (crc_spec ⟨C.toArray⟩ _ (by show C.toArray.size ≤ _; rw [List.size_toArray]; omega)).mono ?_
    rintro x w4 ⟨rfl, rfl⟩
    go_wp2_with fail
    go_ret
    exact ⟨by rw [HR.out]; rfl, HB3.out⟩
theorem both_cat (a b : Int) : (⟨(sumL a).toArray⟩ : ByteArray) ++ ⟨(sumL b).toArray⟩ = ⟨(sumL a ++ sumL b).toArray⟩ := by simp [ByteArray.ext_iff]
theorem sumL_len (x : Int) : (sumL x).length = 4 := big_length _ _
set_option maxHeartbeats 400000 in
theorem both_impl (a b : Int) (w : World) (ha0 : 0 ≤ a) (ha : a < 4294967296) (hb0 : 0 ≤ b) (hb : b < 4294967296) : Calls Tryd.prog 54 #[.int .u32 a, .int .u32 b] w (U32Ret w (bothI a b)) := by
  have C1 := Lib.hid (fun W => sumBytes_any a W ha0 ha)
  have C2 := Lib.hid (fun W => sumBytes_any b W hb0 hb)
  have HC := Lib.hid (both_cat a b)
  have HR := Lib.hid (show bothI a b = crcOf (sumL a ++ sumL b) from rfl)
  have l1 := sumL_len a
  have l2 := sumL_len b
  generalize sumL a = la at *
  generalize sumL b = lb at *
  generalize bothI a b = R at *
  go_enter Tryd.func54, Tryd.ntmps54
  go_wp2_with fail
  refine (C1.out _).mono ?_
  rintro e w1 ⟨rfl, hb1⟩
  go_wp2_with fail
  refine (C2.out _).mono ?_
  rintro e w2 ⟨rfl, hb2⟩
  go_wp2_with fail
  rw [HC.out]
  refine (crc_impl ⟨(la ++ lb).toArray⟩ _ (by show (la ++ lb).toArray.size ≤ _; rw [List.size_toArray, List.length_append]; omega)).mono ?_
  rintro e w3 ⟨rfl, rfl⟩
  go_wp2_with fail
  go_ret
  exact ⟨by rw [HR.out]; rfl, (by (repeat' (first | with_reducible exact Below.refl _ _ | with_reducible refine below_alloc ?_ _ ?_ | with_reducible refine Below.setCell ?_ ?_ _ | with_reducible refine Below.drew ?_ | with_reducible refine below_drewN ?_ _ | with_reducible refine below_step ?_ (by assumption) ?_ | with_reducible refine below_mark ?_ (by assumption) ?_)); all_goals (first | omega | (simp; done) | (simp; omega)))⟩
set_option maxHeartbeats 400000 in
theorem both_spec (a b : Int) (w : World) (ha0 : 0 ≤ a) (ha : a < 4294967296) (hb0 : 0 ≤ b) (hb : b < 4294967296) : Calls Tryd.prog 53 #[.int .u32 a, .int .u32 b] w (U32Ret w (bothI a b)) := by
  have C1 := Lib.hid (fun W => l05Big_int a 4 W (by omega) (by omega) (by omega) (by omega))
  have C2 := Lib.hid (fun W => l05Big_int b 4 W (by omega) (by omega) (by omega) (by omega))
  have HC := Lib.hid (both_cat a b)
  have HR := Lib.hid (show bothI a b = crcOf (sumL a ++ sumL b) from rfl)
  have l1 := sumL_len a
  have l2 := sumL_len b
  unfold sumL at HC HR l1 l2
  rw [show (4 : Int).toNat = 4 from rfl] at C1 C2
  generalize big 4 a.toNat = la at *
  generalize big 4 b.toNat = lb at *
  generalize bothI a b = R at *
  go_enter Tryd.func53, Tryd.ntmps53
  go_wp2_with fail
  refine (C1.out _).mono ?_
  rintro e w1 ⟨rfl, hb1⟩
  go_wp2_with fail
  refine (C2.out _).mono ?_
  rintro e w2 ⟨rfl, hb2⟩
  go_wp2_with fail
  rw [HC.out]
  refine (crc_spec ⟨(la ++ lb).toArray⟩ _ (by show (la ++ lb).toArray.size ≤ _; rw [List.size_toArray, List.length_append]; omega)).mono ?_
  rintro e w3 ⟨rfl, rfl⟩
  go_wp2_with fail
  go_ret
  exact ⟨by rw [HR.out]; rfl, (by (repeat' (first | with_reducible exact Below.refl _ _ | with_reducible refine below_alloc ?_ _ ?_ | with_reducible refine Below.setCell ?_ ?_ _ | with_reducible refine Below.drew ?_ | with_reducible refine below_drewN ?_ _ | with_reducible refine below_step ?_ (by assumption) ?_ | with_reducible refine below_mark ?_ (by assumption) ?_)); all_goals (first | omega | (simp; done) | (simp; omega)))⟩
end Go.Proofs.YtfjehhdahpbbgaaDoor
namespace Go.Proofs.YtfjehhdahpbbgaaDoor
set_option linter.unusedSimpArgs false
set_option linter.unusedVariables false
set_option maxRecDepth 100000
open Go.RowKit
set_option maxHeartbeats 400000 in
theorem eq_value (t : V) (sl sm : Value) (w : World)
    (ih : ∀ (w' : World), Below w.heap.size w w' → Calls Tryd.prog 21 #[sl, sm] w' (LawRet w')) :
    Calls Tryd.prog 14 #[t.agg sl, t.agg sm] w (LawRet w) := by
  have IH := Lib.hid ih; clear ih
  unfold V.agg
  generalize t.k = k at *
  generalize t.n = n at *
  generalize t.e = e at *
  generalize t.s = s at *
  go_enter Tryd.func14, Tryd.ntmps14
  go_wp2_with fail
  refine (IH.out _ (by (repeat' (first | with_reducible exact Below.refl _ _ | with_reducible refine below_alloc ?_ _ ?_ | with_reducible refine Below.setCell ?_ ?_ _ | with_reducible refine Below.drew ?_ | with_reducible refine below_drewN ?_ _ | with_reducible refine below_step ?_ (by assumption) ?_ | with_reducible refine below_mark ?_ (by assumption) ?_)); all_goals (first | omega | (simp; done) | (simp; omega)))).mono ?_
  rintro e1 w1 ⟨rfl, hb⟩
  go_wp2_with fail
  go_ret
  exact ⟨rfl, (by (repeat' (first | with_reducible exact Below.refl _ _ | with_reducible refine below_alloc ?_ _ ?_ | with_reducible refine Below.setCell ?_ ?_ _ | with_reducible refine Below.drew ?_ | with_reducible refine below_drewN ?_ _ | with_reducible refine below_step ?_ (by assumption) ?_ | with_reducible refine below_mark ?_ (by assumption) ?_)); all_goals (first | omega | (simp; done) | (simp; omega)))⟩
set_option maxHeartbeats 400000 in
theorem eq_list (w0 : World) (v : Value) (ts : List V) (h : RepS w0 v ts) : ∀ (u : Value), RepS w0 u ts → ∀ (w : World), Below w0.heap.size w0 w →
    Calls Tryd.prog 21 #[v, u] w (LawRet w) := by
  induction h with
  | mk a b off cap ts sls ha hc hm hbb cells wfs kids ih =>
  intro u hu w hw
  cases hu with
  | mk a2 b2 off2 cap2 ts2 sls2 ha2 hc2 hm2 hbb2 cells2 wfs2 kids2 =>
  have IH := Lib.hid ih; have CC := Lib.hid cells; have HA := Lib.hid ha; have CC2 := Lib.hid cells2; have HA2 := Lib.hid ha2; have KK := Lib.hid kids2
  clear ih cells wfs kids ha cells2 wfs2 kids2 ha2
  go_enter Tryd.func21, Tryd.ntmps21
  go_wp2_with fail
  go_loopw [5] (fun i wr => ∃ k : Nat, k ≤ ts.length ∧ i = .int .i64 k ∧ Below w.heap.size w wr) (fun i _ => ts.length - (intOf i).toNat)
  case atStart => exact ⟨0, by omega, rfl, Below.refl _ _⟩
  case round =>
    obtain ⟨k, hk, rfl, hbl⟩ := hrel
    by_cases hlt : k < ts.length
    · have hne : ts ≠ [] := by intro e; rw [e] at hlt; simp at hlt
      obtain rfl := HA.out hne
      obtain rfl := HA2.out hne
      have hbw := hbb hne
      have hbw2 := hbb2 hne
      have hx : ∀ b, b < w0.heap.size → wr.heap[b]? = w0.heap[b]? := fun b hb => (hbl.block b (Nat.lt_of_lt_of_le hb hw.size)).trans (hw.block b hb)
      obtain ⟨c0, c1, c2, c3, c4⟩ := (CC.out k hlt).keep (hx b hbw)
      obtain ⟨d0, d1, d2, d3, d4⟩ := (CC2.out k hlt).keep (hx b2 hbw2)
      have hwr : Below w0.heap.size w0 wr := hw.trans (hbl.mono hw.size)
      have V1 := Lib.hid (fun w'' (hh : Below wr.heap.size wr w'') => eq_value ts[k] (sls k) (sls2 k) w'' (fun w' hb' => IH.out k hlt (sls2 k) (KK.out k hlt) w' (below_step (below_step hwr hh (Nat.le_refl _)) hb' (Nat.le_refl _))))
      clear hx hwr
      unfold V.agg at V1
      generalize ts[k].k = vk at *
      generalize ts[k].n = vn at *
      generalize ts[k].e = ve at *
      generalize ts[k].s = vs at *
      go_wp2_with fail
      go_region_with (go_at_call 14; refine (V1.out _ (by (repeat' (first | with_reducible exact Below.refl _ _ | with_reducible refine below_alloc ?_ _ ?_ | with_reducible refine Below.setCell ?_ ?_ _ | with_reducible refine Below.drew ?_ | with_reducible refine below_drewN ?_ _ | with_reducible refine below_step ?_ (by assumption) ?_ | with_reducible refine below_mark ?_ (by assumption) ?_)); all_goals (first | omega | (simp; done) | (simp; omega)))).mono ?_; rintro e1 w1 ⟨rfl, hb⟩)
      all_goals go_wp2_with fail
      all_goals go_roundw
      case rel => exact ⟨k + 1, by omega, by go_num, (by (repeat' (first | with_reducible exact Below.refl _ _ | with_reducible refine below_alloc ?_ _ ?_ | with_reducible refine Below.setCell ?_ ?_ _ | with_reducible refine Below.drew ?_ | with_reducible refine below_drewN ?_ _ | with_reducible refine below_step ?_ (by assumption) ?_ | with_reducible refine below_mark ?_ (by assumption) ?_)); all_goals (first | omega | (simp; done) | (simp; omega)))⟩
      case measure => simp [intOf]; omega
      case rel => exact ⟨k + 1, by omega, by go_num, (by (repeat' (first | with_reducible exact Below.refl _ _ | with_reducible refine below_alloc ?_ _ ?_ | with_reducible refine Below.setCell ?_ ?_ _ | with_reducible refine Below.drew ?_ | with_reducible refine below_drewN ?_ _ | with_reducible refine below_step ?_ (by assumption) ?_ | with_reducible refine below_mark ?_ (by assumption) ?_)); all_goals (first | omega | (simp; done) | (simp; omega)))⟩
      case measure => simp [intOf]; omega
    · go_wp2_with fail
      go_ret
      exact ⟨rfl, hbl⟩
theorem eq_any (w0 : World) (a b : Value) (t : V) (ha : Rep w0 a t) (hb : Rep w0 b t) (w : World) (hw : Below w0.heap.size w0 w) : Calls Tryd.prog 14 #[a, b] w (LawRet w) := by
  obtain ⟨sl, rfl, _, hr⟩ := ha
  obtain ⟨sm, rfl, _, hr2⟩ := hb
  exact eq_value t sl sm w (fun w' h => eq_list w0 sl t.kids hr sm hr2 w' (below_step hw h (Nat.le_refl _)))
end Go.Proofs.YtfjehhdahpbbgaaDoor
namespace Go.Proofs.YtfjehhdahpbbgaaDoor
set_option linter.unusedSimpArgs false
set_option linter.unusedVariables false
set_option maxRecDepth 100000
open Go.RowKit
theorem Box.over {w w' : World} {F : Nat → Prop} {b : Nat} {k n e : Int} {s : ByteArray} {sl : Value} {T : TypeId} (h : Box w b k n e s sl T) (ht : Touch F F w w') (hn : ¬ F b) : Box w' b k n e s sl T :=
  (ht.block b h.lt hn).trans h
theorem touch_of_grown {w w' : World} {v : Value} (h : w.grownBy w' v.ownBlock) : Touch (fun x => v.ownBlock = some x) (fun x => v.ownBlock = some x) w w' :=
  ⟨h.os, h.tape, h.output, h.size, fun k hk hn => h.block k hk (fun e => hn e.symm), fun k hk => .inl hk⟩
theorem SRow.stay2 {w w' : World} {base : Nat} {v : Value} {l : List ByteArray} (h : SRow w base v l) (hb : Below w.heap.size w w') : SRow w' base v l :=
  h.keep (fun x hx => hb.block x (h.lt x hx).2)
theorem cnts_kids_le {t : V} (h : t.sz ≤ 1048576) : cnts t.kids ≤ 4194304 := by have h1 := cnts_sz t.kids; have h2 := V.sz_eq t; omega
theorem cnts_list_le {ts : List V} (h : szs ts ≤ 1048576) : cnts ts ≤ 4194304 := by have h1 := cnts_sz ts; omega
theorem szr_ok {L : Int} {n : Nat} (h : ¬ szr L n < 0) : (n : Int) ≤ L ∧ szr L n ≤ L := by unfold szr at *; split at h <;> omega
theorem eq_listB (w0 : World) (v u : Value) (ts : List V) (h : RepS w0 v ts) (h2 : RepS w0 u ts) (w : World) (hw : Below w0.heap.size w0 w) : Calls Tryd.prog 21 #[v, u] w (LawRet w) := eq_list w0 v ts h u h2 w hw
theorem open_Vs {H : Type} {enc : TypeId × Value → H} {w : World} {sp : Nat → Bool} {hd : Bool} {v : Value} {d : DataW H} {p : List MemPlace} (hv : ∃ a len cap, v = .slice a len cap)
    (h : DataW.Trod enc Tryd.prog w 0 sp hd 22 v d p) : ∃ ts : List V, RepS w v ts := by
  obtain ⟨fuel, hf⟩ := h
  obtain ⟨a0, len0, cap0, rfl⟩ := hv
  rcases DataW.trod_slice Tryd.underlying22 hf with ⟨hc, _⟩ | ⟨a, len, cap, elems, rest, n', hn', hc, _, _, hlc, hcm, hel, hes, _, _⟩
  · have hc : Value.slice a0 len0 cap0 = .slice none 0 0 := by simpa [Value.cells] using hc
    rw [hc]
    exact ⟨[], .mk none 0 0 0 [] (fun _ => .nilIface) (by simp) (by simp) (by omega) (by simp) (by simp) (by simp) (by simp)⟩
  · have hc : Value.slice a0 len0 cap0 = .slice (some a) len cap := by simpa [Value.cells] using hc
    rw [hc]
    have key : ∀ i, ∃ (t : V) (sl : Value), i < len → (i = 0 → a.spot = none) ∧ Cells5 w a.block (a.off + i * 5) t sl ∧ t.wf ∧ RepS w sl t.kids := by
      intro i
      by_cases hi : i < len
      · have h1 := hes i hi
        rw [List.getElem?_eq_getElem (by omega), cellsLaws] at h1
        rcases hq : w.cells? 0 (a.add (i * 5)) 5 with _ | cs'
        · rw [hq] at h1; cases h1
        · rw [hq] at h1
          obtain ⟨t, sl, rfl, tw, tr⟩ := trod_value n' cs' _ h1
          obtain ⟨q0, q1⟩ := cells5_some hq
          exact ⟨t, sl, fun _ => ⟨q0, q1, tw, tr⟩⟩
      · exact ⟨.mk 0 0 0 ByteArray.empty [], .nilIface, fun h => absurd h hi⟩
    have hT := fun i => Classical.choose_spec (Classical.choose_spec (key i))
    generalize hTT : (fun i => Classical.choose (key i)) = T at *
    generalize hSS : (fun i => Classical.choose (Classical.choose_spec (key i))) = S at *
    have hT' : ∀ i, i < len → (i = 0 → a.spot = none) ∧ Cells5 w a.block (a.off + i * 5) (T i) (S i) ∧ (T i).wf ∧ RepS w (S i) (T i).kids := by
      intro i hi; rw [← hTT, ← hSS]; exact hT i hi
    have hlen : ((List.range len).map T).length = len := by simp
    refine ⟨(List.range len).map T, ?_⟩
    have hr := RepS.mk (w := w) (some a) a.block a.off cap ((List.range len).map T) S ?_ (by omega) (by simpa [maxLen] using hcm) ?_ ?_ ?_ ?_
    · rw [hlen] at hr; exact hr
    · intro hne
      have h0 : 0 < len := by rcases Nat.eq_zero_or_pos len with e | e; (subst e; simp at hne); exact e
      have := (hT' 0 h0).1 rfl
      cases a; simp at this; subst this; rfl
    · intro hne
      have h0 : 0 < len := by rcases Nat.eq_zero_or_pos len with e | e; (subst e; simp at hne); exact e
      exact World.block_lt_of_cell? w ⟨a.block, a.off + 0 * 5, none⟩ (hT' 0 h0).2.1.1
    · intro i hi; rw [hlen] at hi; simpa using (hT' i hi).2.1
    · intro i hi; rw [hlen] at hi; simpa using (hT' i hi).2.2.1
    · intro i hi; rw [hlen] at hi; simpa using (hT' i hi).2.2.2
end Go.Proofs.YtfjehhdahpbbgaaDoor
namespace Go.Proofs.YtfjehhdahpbbgaaDoor
set_option linter.unusedSimpArgs false
set_option linter.unusedVariables false
set_option maxRecDepth 100000
open Go.RowKit Go.Lib Go.Shelf
theorem accept_eq : Rows.laid_unicode_utf8_acceptRanges = Lib.acceptData := by kernel_rfl
theorem first_eq : Rows.laid_unicode_utf8_first = Lib.firstData := Pinned.utf8First_eq
theorem env_of {w : World} (h3 : VarReads Tryd.prog w "unicode/utf8.first" Rows.laid_unicode_utf8_first) (h4 : VarReads Tryd.prog w "unicode/utf8.acceptRanges" Rows.laid_unicode_utf8_acceptRanges) : Env w := by
  rw [accept_eq] at h4
  rw [first_eq] at h3
  exact utf8Tabs_of_readsT (U8Types.of196 Tryd.laysValid) ⟨by kernel_rfl, by kernel_rfl, by kernel_rfl, by kernel_rfl, by kernel_rfl, by kernel_rfl, by kernel_rfl⟩ h3 h4
end Go.Proofs.YtfjehhdahpbbgaaDoor
