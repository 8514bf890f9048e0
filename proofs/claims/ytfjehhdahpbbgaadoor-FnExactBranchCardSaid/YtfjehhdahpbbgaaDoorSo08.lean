/- Lemmas for the statement of the last text of this claim: texts joined. -/
import Derived.Test.YtfjehhdahpbbgaaDoorSo01
import Derived.Test.YtfjehhdahpbbgaaDoorSo03
import Derived.Test.YtfjehhdahpbbgaaDoorSo05
import Derived.Test.YtfjehhdahpbbgaaDoorSo07
import Derived.Deep.RegionHeld3
import Derived.Deep.RegionWith
import Derived.Deep.DeepCutAuto
import Derived.Lib.SliceRun
namespace Go.Proofs.YtfjehhdahpbbgaaDoor
set_option linter.unusedSimpArgs false
set_option linter.unusedVariables false
set_option maxRecDepth 100000
open Go.RowKit
theorem PRow.some1 {w : World} {base : Nat} {G : Nat → Prop} {v : Value} {ts : List V} (h : PRow w base G v ts) (hne : ts ≠ []) : ∃ g cap, v = .slice (some ⟨g, 0, none⟩) ts.length cap := by
  obtain ⟨sls, h⟩ := h
  rcases h.row.2 with ⟨rfl, hn⟩ | ⟨g, cap, cur, rfl, _⟩
  · exact absurd (List.eq_nil_of_length_eq_zero hn) hne
  · exact ⟨g, cap, rfl⟩
theorem PPair.some1 {w : World} {base n : Nat} {G : Nat → Prop} {v : Value} {ts : List V} {sls : List Value} (h : PPair w base G v n ts sls) (hn : 0 < n) : ∃ g cap, v = .slice (some ⟨g, 0, none⟩) n cap := by
  rcases h.row.2 with ⟨rfl, h0⟩ | ⟨g, cap, cur, rfl, _⟩
  · omega
  · exact ⟨g, cap, rfl⟩
theorem vsrc_lt {w : World} {F : Nat → Prop} {T : TypeId} (us : List V) (sms : List Value) (hl : sms.length = us.length) (hw : ∀ i (h : i < us.length), us[i].wf) (hk : ∀ i (h : i < us.length), RepF w F (sms.getD i undef) us[i].kids) (cs : Array Value) (hcs : cs = (flat us sms).toArray) (n m : Nat) (hn : n = us.length) :
    VSrc (w.alloc (.cells cs T)) F (.slice (some ⟨w.heap.size, 0, none⟩) n m) us sms := by
  subst hcs hn
  refine ⟨Src.ofSlice _ Tryd.underlying27 _ _ _ _ (by rw [flat_length _ _ hl]) ?_ (flat_one us sms ?_), hl, hw, ?_⟩
  · intro j u hu
    rw [addr_add _ _ rfl, Nat.zero_add]
    have hh := heap_alloc_new w (.cells (flat us sms).toArray T)
    rw [cell_of_row _ _ _ _ _ (0, 0) hh]
    simpa using hu
  · intro s hs
    obtain ⟨i, hi, rfl⟩ := List.getElem_of_mem hs
    obtain ⟨a, cap, e⟩ := (hk i (by omega)).slice
    rw [List.getD_eq_getElem?_getD, List.getElem?_eq_getElem hi] at e
    exact ⟨a, _, cap, e⟩
  · intro i hi
    exact (hk i hi).stay ((Below.refl _ _).alloc (Nat.le_refl _) _)
end Go.Proofs.YtfjehhdahpbbgaaDoor
namespace Go.Proofs.YtfjehhdahpbbgaaDoor
set_option linter.unusedSimpArgs false
set_option linter.unusedVariables false
set_option maxRecDepth 100000
open Go.RowKit
theorem upr_take (l : List PE) (i : Nat) (h : i < l.length) : upr ((l.take (i + 1)).map PE.vv) = upr ((l.take i).map PE.vv) ++ [l[i].key, l[i].val] := by
  rw [List.take_succ_eq_append_getElem h, List.map_append, upr_app]; rfl
def MapRet (F : Nat → Prop) (w : World) (l : List PE) (e : Ending) (w' : World) : Prop := ∃ sl, e = .returned ((V.mk 8 0 0 ⟨#[]⟩ (upr (l.map PE.vv))).agg sl) ∧ RepF w' (fun x => F x ∨ w.heap.size ≤ x) sl (upr (l.map PE.vv)) ∧ Below w.heap.size w w'
set_option maxHeartbeats 8000000 in
theorem mapOf_any (F : Nat → Prop) (l : List PE) (v : Value) (w : World) (h : PRd w F v l) (hl : l.length ≤ 1048576) : Calls Tryd.prog 83 #[v] w (MapRet F w l) := by
  obtain ⟨⟨a, b, cap, rfl, ha, hten⟩, hoks⟩ := h
  have HA := Lib.hid ha; have HE := Lib.hid hten; have HO := Lib.hid hoks
  clear ha hten hoks
  have BZ := Lib.hid ((Box.new w 0 0 0 ⟨#[]⟩ (.slice none 0 0) 29).alloc (.cells #[.int .i64 8, .int .i64 0, .int .i64 0, .string ⟨#[]⟩, .slice none 0 0] 29))
  have BX := Lib.hid (Box.new (w.alloc (.cells #[.int .i64 0, .int .i64 0, .int .i64 0, .string ⟨#[]⟩, .slice none 0 0] 29)) 8 0 0 ⟨#[]⟩ (.slice none 0 0) 29)
  obtain ⟨W0, hW0⟩ : ∃ W0, W0 = (w.alloc (.cells #[.int .i64 0, .int .i64 0, .int .i64 0, .string ⟨#[]⟩, .slice none 0 0] 29)).alloc (.cells #[.int .i64 8, .int .i64 0, .int .i64 0, .string ⟨#[]⟩, .slice none 0 0] 29) := ⟨_, rfl⟩
  have hz0 : W0.heap.size = w.heap.size + 2 := by rw [hW0]; simp
  have HB0 := Lib.hid (show Below w.heap.size w W0 from by rw [hW0]; exact (by (with_reducible (repeat' (first | exact Below.refl _ _ | refine below_alloc ?_ _ ?_ | refine Below.setCell ?_ ?_ _ | refine Below.drew ?_ | refine below_drewN ?_ _ | refine below_step ?_ (by assumption) ?_ | refine below_mark ?_ (by assumption) ?_))); all_goals (first | omega | (simp; done) | (simp; omega))))
  rw [← hW0] at BX BZ
  rw [show (w.alloc (.cells #[.int .i64 0, .int .i64 0, .int .i64 0, .string ⟨#[]⟩, .slice none 0 0] 29)).heap.size = w.heap.size + 1 by simp] at BX
  have HP := Lib.hid (show ∀ a' n' c' W, RepF W (fun x => F x ∨ w.heap.size ≤ x) (.slice a' n' c') (upr (l.map PE.vv)) → Below w.heap.size w W → MapRet F w l (.returned (.agg #[.int .i64 8, .int .i64 0, .int .i64 0, .string ⟨#[]⟩, .slice a' n' c'])) W from fun a' n' c' W h1 h2 => ⟨_, rfl, h1, h2⟩)
  go_enter Tryd.func83, Tryd.ntmps83
  go_wp2_with fail
  rw [← hW0]
  clear hW0
  go_loopw [9] (fun ii wr => ∃ (j : Nat) (a' : Option Addr) (n' c' : Nat) (G : Nat → Prop), ii = .int .i64 j ∧ j ≤ l.length ∧ Hid (∀ x, G x → F x ∧ x < w.heap.size) ∧ Hid (Box wr (w.heap.size + 1) 8 0 0 ⟨#[]⟩ (.slice a' n' c') 29) ∧ Hid (PRow wr (w.heap.size + 2) G (.slice a' n' c') (upr ((l.take j).map PE.vv))) ∧ Hid (Below (w.heap.size + 1) W0 wr)) (fun ii _ => l.length + 1 - (intOf ii).toNat)
  case atStart => exact ⟨0, none, 0, 0, _, rfl, by omega, Lib.hid (fun x h => h.elim), BX, Lib.hid (PRow.nil _ _), Lib.hid (Below.refl _ _)⟩
  case round =>
    obtain ⟨j, a', n', c', G, rfl, hj, HG, HBX, HROW, HBL⟩ := hrel
    have hzr := HBL.out.size
    have HB := Lib.hid (HB0.out.trans (HBL.out.mono (by omega)))
    obtain ⟨x0, x1, x2, x3, x4⟩ := HBX.out.cells
    have xf4 := HBX.out.free (i := 4)
    by_cases hlt : j < l.length
    · have hne : l ≠ [] := by intro e; rw [e] at hlt; simp at hlt
      obtain ⟨rfl, hbw⟩ := HA.out hne
      have hkb : wr.heap[b]? = w.heap[b]? := HB.out.block b hbw
      have HT := Lib.hid (upr_take l j hlt)
      have HK := Lib.hid (HO.out l[j] (List.getElem_mem hlt))
      have kc : ∀ {i u}, w.cell? ⟨b, i, none⟩ = some u → wr.cell? ⟨b, i, none⟩ = some u := fun h => (World.cell?_of_block hkb).trans h
      obtain ⟨c0, c1, c2, c3, c4, c5, c6, c7, c8, c9⟩ := HE.out j hlt
      replace c0 := kc c0; replace c1 := kc c1; replace c2 := kc c2; replace c3 := kc c3; replace c4 := kc c4; replace c5 := kc c5; replace c6 := kc c6; replace c7 := kc c7; replace c8 := kc c8; replace c9 := kc c9
      have HLEN := Lib.hid (show (upr ((l.take j).map PE.vv)).length ≤ 2097152 by rw [upr_len, List.length_map, List.length_take]; omega)
      clear kc hkb HE HO
      obtain ⟨⟨xk, xv, xa, xc, va, vn, vc⟩, hx⟩ : ∃ x, x = l[j] := ⟨_, rfl⟩
      rw [← hx] at HT HK c0 c1 c2 c3 c4 c5 c6 c7 c8 c9
      clear hx
      dsimp only at HT c0 c1 c2 c3 c4 c5 c6 c7 c8 c9
      have KW := Lib.hid (show xk.wf from HK.out.kwf)
      have VW := Lib.hid (show xv.wf from HK.out.vwf)
      have KR := Lib.hid (show RepF wr (fun x => F x ∧ x < w.heap.size) (.slice xa 0 xc) xk.kids from (show RepF w F (.slice xa 0 xc) xk.kids from HK.out.kk).bound.stay HB.out)
      have VR := Lib.hid (show RepF wr (fun x => F x ∧ x < w.heap.size) (.slice va vn vc) xv.kids from (show RepF w F (.slice va vn vc) xv.kids from HK.out.vk).bound.stay HB.out)
      clear HK
      have hm1 : w.heap.size + 1 ≠ wr.heap.size := by omega
      have hm2 : wr.heap.size ≠ w.heap.size + 1 := by omega
      have hm3 : w.heap.size + 1 < wr.heap.size := by omega
      generalize upr ((l.take j).map PE.vv) = us at *
      have B1 := Lib.hid (show Below wr.heap.size wr (wr.alloc (.cells #[.int .i64 xk.k, .int .i64 xk.n, .int .i64 xk.e, .string xk.s, .slice xa 0 xc, .int .i64 xv.k, .int .i64 xv.n, .int .i64 xv.e, .string xv.s, .slice va vn vc] 92)) from (by (with_reducible (repeat' (first | exact Below.refl _ _ | refine below_alloc ?_ _ ?_ | refine Below.setCell ?_ ?_ _ | refine Below.drew ?_ | refine below_drewN ?_ _ | refine below_step ?_ (by assumption) ?_ | refine below_mark ?_ (by assumption) ?_))); all_goals (first | omega | (simp; done) | (simp; omega))))
      have B2 := Lib.hid (show Below wr.heap.size wr ((wr.alloc (.cells #[.int .i64 xk.k, .int .i64 xk.n, .int .i64 xk.e, .string xk.s, .slice xa 0 xc, .int .i64 xv.k, .int .i64 xv.n, .int .i64 xv.e, .string xv.s, .slice va vn vc] 92)).alloc (.cells #[.int .i64 xk.k, .int .i64 xk.n, .int .i64 xk.e, .string xk.s, .slice xa 0 xc, .int .i64 xv.k, .int .i64 xv.n, .int .i64 xv.e, .string xv.s, .slice va vn vc] 29)) from (by (with_reducible (repeat' (first | exact Below.refl _ _ | refine below_alloc ?_ _ ?_ | refine Below.setCell ?_ ?_ _ | refine Below.drew ?_ | refine below_drewN ?_ _ | refine below_step ?_ (by assumption) ?_ | refine below_mark ?_ (by assumption) ?_))); all_goals (first | omega | (simp; done) | (simp; omega))))
      have hzs : (wr.alloc (.cells #[.int .i64 xk.k, .int .i64 xk.n, .int .i64 xk.e, .string xk.s, .slice xa 0 xc, .int .i64 xv.k, .int .i64 xv.n, .int .i64 xv.e, .string xv.s, .slice va vn vc] 92)).heap.size = wr.heap.size + 1 := by simp
      have HS := Lib.hid (vsrc_lt (w := (wr.alloc (.cells #[.int .i64 xk.k, .int .i64 xk.n, .int .i64 xk.e, .string xk.s, .slice xa 0 xc, .int .i64 xv.k, .int .i64 xv.n, .int .i64 xv.e, .string xv.s, .slice va vn vc] 92))) (T := 29) [xk, xv] [.slice xa 0 xc, .slice va vn vc] rfl (fun j hj => by rcases (show j = 0 ∨ j = 1 by simp at hj; omega) with rfl | rfl; exact KW.out; exact VW.out) (fun j hj => by rcases (show j = 0 ∨ j = 1 by simp at hj; omega) with rfl | rfl; exact KR.out.stay B1.out; exact VR.out.stay B1.out) _ rfl 2 2 rfl)
      rw [hzs] at HS
      clear hzs
      have HR1 := Lib.hid (HROW.out.stay B2.out)
      have HX1 := Lib.hid (HBX.out.stay B2.out)
      have HFz := Lib.hid (show ∀ x, (F x ∧ x < w.heap.size) → x < ((wr.alloc (.cells #[.int .i64 xk.k, .int .i64 xk.n, .int .i64 xk.e, .string xk.s, .slice xa 0 xc, .int .i64 xv.k, .int .i64 xv.n, .int .i64 xv.e, .string xv.s, .slice va vn vc] 92)).alloc (.cells #[.int .i64 xk.k, .int .i64 xk.n, .int .i64 xk.e, .string xk.s, .slice xa 0 xc, .int .i64 xv.k, .int .i64 xv.n, .int .i64 xv.e, .string xv.s, .slice va vn vc] 29)).heap.size ∧ (Value.slice a' n' c').ownBlock ≠ some x from fun x hx => ⟨by simp; have := hx.2; omega, fun e => by have := (HROW.out.lt x e).1; have := hx.2; omega⟩)
      have hz2 : w.heap.size + 2 ≤ ((wr.alloc (.cells #[.int .i64 xk.k, .int .i64 xk.n, .int .i64 xk.e, .string xk.s, .slice xa 0 xc, .int .i64 xv.k, .int .i64 xv.n, .int .i64 xv.e, .string xv.s, .slice va vn vc] 92)).alloc (.cells #[.int .i64 xk.k, .int .i64 xk.n, .int .i64 xk.e, .string xk.s, .slice xa 0 xc, .int .i64 xv.k, .int .i64 xv.n, .int .i64 xv.e, .string xv.s, .slice va vn vc] 29)).heap.size := by simp; omega
      have HZ2 := Lib.hid hz2
      clear hz2
      go_wp2_with (at_builtin; refine app_vals rfl _ _ rfl (w.heap.size + 2) G (fun x => F x ∧ x < w.heap.size) _ us [xk, xv] _ rfl HR1.out _ rfl HS.out HFz.out (by have := HLEN.out; simp; omega) HZ2.out ?_; intro v2 w2 hrow2 hg2 hfr2; obtain ⟨va2, vn2, vc2, rfl⟩ := hrow2.slice3; have HG2 := Lib.hid hg2; have HR2 := Lib.hid hrow2; have HB2 := Lib.hid (HX1.out.grown hg2 (fun e => by have := (HROW.out.lt _ e).1; omega)); obtain ⟨y0, y1, y2, y3, y4⟩ := HB2.out.cells; have yf4 := HB2.out.free (i := 4); clear hrow2 hg2 hfr2)
      have HL := Lib.hid (show Below (w.heap.size + 1) W0 w2 from (HBL.out.trans (B2.out.mono (by omega))).grown HG2.out (by have := HZ2.out; omega) (fun x hx => by have := (HROW.out.lt x hx).1; omega))
      have HG9 := Lib.hid (show ∀ x, (G x ∨ (F x ∧ x < w.heap.size)) → F x ∧ x < w.heap.size from fun x hx => hx.elim (HG.out x) id)
      go_roundw
      case rel => exact ⟨j + 1, va2, vn2, vc2, _, by go_num, by omega, HG9, Lib.hid (HB2.out.set4), Lib.hid (by rw [HT.out]; exact HR2.out.keep (by simp) (fun x hx _ => heap_setCell_other _ _ _ _ (by rcases hx with hx | hx; have := (HG9.out x hx).2; (intro e; simp at e; omega); have := (HR2.out.lt x hx).1; (intro e; simp at e; omega)))), Lib.hid (by refine Below.setCell HL.out ?_ _; simp)⟩
      case measure => simp [intOf]; omega
    · have hje : j = l.length := by omega
      subst hje
      rw [List.take_length] at HROW
      have xf0 := BZ.out
      obtain ⟨z0, z1, z2, z3, z4⟩ := (show Box wr w.heap.size 0 0 0 ⟨#[]⟩ (.slice none 0 0) 29 from (HBL.out.block w.heap.size (by omega)).trans BZ.out).cells
      have HZ := Lib.hid (show Box wr w.heap.size 0 0 0 ⟨#[]⟩ (.slice none 0 0) 29 from (HBL.out.block w.heap.size (by omega)).trans BZ.out)
      have zf0 := HZ.out.free (i := 0); have zf1 := HZ.out.free (i := 1); have zf2 := HZ.out.free (i := 2); have zf3 := HZ.out.free (i := 3); have zf4 := HZ.out.free (i := 4)
      go_wp2_with fail
      refine bodyPost_ret (v := .agg #[.int .i64 8, .int .i64 0, .int .i64 0, .string ⟨#[]⟩, .slice a' n' c']) (by simp [results, Tryd.results83, go_sem, z0, z1, z2, z3, z4]) rfl (HP.out _ _ _ _ ?_ ?_)
      · refine RepF.keep ((HROW.out.repF).mono (G' := fun x => (F x ∧ x < w.heap.size) ∨ w.heap.size + 2 ≤ x) (fun x hx _ => hx.elim (fun h => .inl (HG.out x h)) (fun h => .inr (HROW.out.lt x h).1)) |>.mono (G' := fun x => (F x ∧ x < w.heap.size) ∨ w.heap.size + 2 ≤ x) (fun x hx _ => hx)) (by simp) (fun x hx _ => ?_) |>.mono (fun x hx _ => hx.elim (fun h => .inl h.1) (fun h => .inr (by omega)))
        have hxn : x ≠ w.heap.size := by rcases hx with hx | hx <;> omega
        iterate 5 rw [heap_setCell_other _ _ _ _ hxn]
      · exact HB.out.trans ((below_set5 wr w.heap.size _ _ _ _ _).mono (Nat.le_refl _))
end Go.Proofs.YtfjehhdahpbbgaaDoor
namespace Go.Proofs.YtfjehhdahpbbgaaDoor
set_option linter.unusedSimpArgs false
set_option linter.unusedVariables false
set_option maxRecDepth 100000
theorem srtVs_get : ∀ (l : List V) (j : Nat) (h : j < l.length), (srtVs l)[j]'(by rw [srtVs_len]; exact h) = srtV l[j]
  | t :: ts, 0, _ => by simp [srtVs]
  | t :: ts, j + 1, h => by
    have := srtVs_get ts j (by simpa using h)
    simpa [srtVs] using this
theorem srt_leaf {t : V} (h : t.kids = []) : srtV t = t := by
  rw [srtV_eq, h]
  have : (if t.k = 8 then upr (srtP (prs (srtVs []))) else srtVs []) = t.kids := by
    rw [h]
    split
    · rfl
    · rw [srtVs]
  rw [this, V.eta]
theorem map_zero {t : V} {d : Int} (h : rightB t d = true) (h8 : t.k = 8) : t.n = 0 ∧ t.e = 0 ∧ t.s = ⟨#[]⟩ := by
  rw [rightB_eq] at h
  simp only [Bool.and_eq_true, ownB] at h
  have h1 := h.1.2.1
  unfold nodeB at h1
  rw [if_pos (by omega), decide_eq_true_eq] at h1
  refine ⟨h1.1, h1.2.1, ?_⟩
  have h2 := h1.2.2
  exact ba_ext (List.eq_nil_of_length_eq_zero h2)
theorem key_e {t : V} {d : Int} (h : rightB t d = true) (hk : isKeyB t = true) : t.e = 0 := by
  rw [rightB_eq] at h
  simp only [Bool.and_eq_true, ownB] at h
  have h1 := h.1.2.1
  unfold isKeyB at hk
  rw [decide_eq_true_eq] at hk
  unfold nodeB at h1
  rw [if_neg (by omega)] at h1
  rcases hk with h5 | h3
  · rw [if_neg (by omega), if_neg (by omega), if_pos h5, Bool.and_eq_true, decide_eq_true_eq] at h1
    exact h1.1.2.1
  · rw [if_pos h3, decide_eq_true_eq] at h1
    exact h1.1
theorem srt_key {t : V} {d : Int} (h : rightB t d = true) (h8 : t.k = 8) (j : Nat) (hj : j < t.kids.length) (he : j % 2 = 0) : srtV t.kids[j] = t.kids[j] ∧ t.kids[j].kids = [] ∧ t.kids[j].e = 0 := by
  have hr := rightsB_at (right_kids h) j hj
  have hk := key_at h h8 j hj he
  have hl := key_leaf hr hk
  exact ⟨srt_leaf hl, hl, key_e hr hk⟩
theorem srt_keys_ne {t : V} {d : Int} (h : rightB t d = true) (h8 : t.k = 8) : (prs (srtVs t.kids)).Pairwise (fun a b => cmpK a.1 b.1 ≠ 0) := by
  have hev := (right_map h h8).1
  refine prs_keys (R := fun a b => cmpK a b ≠ 0) _ (by rw [srtVs_len]; exact hev) ?_
  have e : evV (srtVs t.kids) = (evV t.kids).map id := evV_map id t.kids (srtVs t.kids) (srtVs_len _) (fun j h1 h2 h3 => by rw [srtVs_get _ j h1]; exact (srt_key h h8 j h1 h3).1)
  rw [e, List.map_id]
  rw [rightB_eq] at h
  simp only [Bool.and_eq_true, ownB] at h
  have h3 := h.1.2.2
  rw [if_neg (by omega), if_neg (by omega), if_pos h8] at h3
  unfold pairsB keysB at h3
  simp only [Bool.and_eq_true, decide_eq_true_eq] at h3
  refine h3.1.1.2.imp (fun {a b} hab hc => ?_)
  rw [decide_eq_false_iff_not] at hab
  exact hab (cmpK_zero.1 hc)
theorem srt_map {t : V} {d : Int} (h : rightB t d = true) (h8 : t.k = 8) : srtV t = .mk 8 0 0 ⟨#[]⟩ (upr (srtP (prs (srtVs t.kids)))) := by
  obtain ⟨h1, h2, h3⟩ := map_zero h h8
  rw [srtV_eq, h1, h2, h3, if_pos h8, h8]
theorem srt_else {t : V} (h8 : ¬ t.k = 8) : srtV t = .mk t.k t.n t.e t.s (srtVs t.kids) := by rw [srtV_eq, if_neg h8]
theorem srtV_wf {t : V} (h : t.wf) : (srtV t).wf := by rw [srtV_eq]; exact h
theorem srtVs_take (l : List V) (i : Nat) (h : i < l.length) : srtVs (l.take (i + 1)) = srtVs (l.take i) ++ [srtV l[i]] := by
  rw [List.take_succ_eq_append_getElem h, srtVs_app]
  congr 1
end Go.Proofs.YtfjehhdahpbbgaaDoor
namespace Go.Proofs.YtfjehhdahpbbgaaDoor
set_option linter.unusedSimpArgs false
set_option linter.unusedVariables false
set_option maxRecDepth 100000
open Go.RowKit
structure SAcc (W0 W : World) (c : Nat) (k n e : Int) (s : ByteArray) (us : List V) (o : Value) (G : Nat → Prop) : Prop where
  bel : Below c W0 W
  box : Box W c k n e s o 29
  rows : PRow W (c + 1) G o us
  gl : ∀ x, G x → c + 1 ≤ x
theorem SAcc.over {W0 W W' : World} {c : Nat} {k n e : Int} {s : ByteArray} {us : List V} {o : Value} {G : Nat → Prop} (h : SAcc W0 W c k n e s us o G) (hb : Below W.heap.size W W') : SAcc W0 W' c k n e s us o G :=
  ⟨h.bel.trans (hb.mono (Nat.le_of_lt h.box.lt)), (hb.block c h.box.lt).trans h.box, h.rows.stay hb, h.gl⟩
theorem SAcc.put {W0 W W1 W2 : World} {c : Nat} {k n e : Int} {s : ByteArray} {us us2 : List V} {o v2 : Value} {G G2 : Nat → Prop} (h : SAcc W0 W c k n e s us o G) (hW : Below W.heap.size W W1) (hg : W1.grownBy W2 o.ownBlock) (hr : PRow W2 (c + 1) G2 v2 us2) (hG : ∀ x, G2 x → c + 1 ≤ x) :
    SAcc W0 (W2.setCell ⟨c, 4, none⟩ v2) c k n e s us2 v2 G2 := by
  have hl := h.box.lt
  have z1 := hW.size
  have z2 := hg.size
  have z3 := h.bel.size
  have hn : ∀ x, x < W.heap.size → o.ownBlock ≠ some x → W2.heap[x]? = W.heap[x]? := fun x hx hxo => (hg.block x (by omega) (fun e => hxo e.symm)).trans (hW.block x hx)
  have hob : o.ownBlock ≠ some c := fun e => by have := (h.rows.lt c e).1; omega
  have hs : ∀ x, x ≠ c → (W2.setCell ⟨c, 4, none⟩ v2).heap[x]? = W2.heap[x]? := fun x hx => heap_setCell_other _ _ _ _ (show ¬ x = c from hx)
  refine ⟨⟨hg.os.trans (hW.os.trans h.bel.os), hg.tape.trans (hW.tape.trans h.bel.tape), hg.output.trans (hW.output.trans h.bel.output), by simp; omega, fun x hx => (hs x (by omega)).trans ((hn x (by omega) (fun e => by have := (h.rows.lt x e).1; omega)).trans (h.bel.block x hx))⟩, Box.set4 (show Box W2 c k n e s o 29 from (hn c hl hob).trans h.box), hr.keep (by simp) (fun x hx _ => hs x ?_), hG⟩
  rcases hx with hx | hx
  · have := hG x hx; omega
  · have := (hr.lt x hx).1; omega
theorem prs_le : ∀ l : List V, (prs l).length ≤ l.length
  | [] => by simp [prs]
  | [_] => by simp [prs]
  | _ :: _ :: r => by have := prs_le r; simp only [prs, List.length_cons]; omega
theorem RepF.set5 {w : World} {F : Nat → Prop} {v : Value} {ts : List V} (h : RepF w F v ts) (c : Nat) (hc : ¬ F c) (v0 v1 v2 v3 v4 : Value) : RepF (Go.Proofs.YtfjehhdahpbbgaaDoor.set5 w c v0 v1 v2 v3 v4) F v ts :=
  h.keep (by rw [size_set5]; exact Nat.le_refl _) (fun x hx _ => heap_set5 _ _ _ _ _ _ _ _ (fun e => hc (e ▸ hx)))
def SrdRet (w : World) (t : V) (e : Ending) (w' : World) : Prop := ∃ sl, e = .returned (t.agg sl) ∧ t.wf ∧ RepF w' (fun x => w.heap.size ≤ x) sl t.kids ∧ Below w.heap.size w w'
set_option maxHeartbeats 16000000 in
theorem sorted_all : ∀ (N : Nat) (t : V) (d : Int), t.nodes ≤ N → N ≤ 300 → rightB t d = true → t.wf → ∀ (F : Nat → Prop) (sl : Value) (w : World), RepF w F sl t.kids → Calls Tryd.prog 52 #[t.agg sl] w (SrdRet w (srtV t)) := by
  intro N
  induction N with
  | zero => intro t d h; rw [V.nodes_eq] at h; omega
  | succ N ih =>
  intro t d hN hN3 hr hwf F sl w h0
  have hB := h0.bound
  obtain ⟨a, b, off, cap, rfl, ha, hc, hm, sls, hel⟩ := hB.opened
  have hlen : t.kids.length ≤ 300 := by have := nodess_length t.kids; rw [V.nodes_eq] at hN; omega
  have HA := Lib.hid ha; have HE := Lib.hid hel
  have IH := Lib.hid (fun (j : Nat) (hj : j < t.kids.length) (s1 : Value) (W : World) (F1 : Nat → Prop) (hR : RepF W F1 s1 t.kids[j].kids) => ih t.kids[j] (d - 1) (by have h3 := nodes_mem (List.getElem_mem hj); rw [V.nodes_eq] at hN; omega) (by omega) (rightsB_at (right_kids hr) j hj) (hel j hj).2.1 F1 s1 W hR)
  have BX := Lib.hid (((Box.new w t.k t.n t.e t.s (.slice a t.kids.length cap) 29).alloc (.cells #[.int .i64 0, .int .i64 0, .int .i64 0, .string ⟨#[]⟩, .slice none 0 0] 29)).alloc (.cells #[.int .i64 t.k, .int .i64 t.n, .int .i64 t.e, .string t.s, .slice none 0 0] 29))
  have BZ := Lib.hid ((Box.new (w.alloc (.cells #[.int .i64 t.k, .int .i64 t.n, .int .i64 t.e, .string t.s, .slice a t.kids.length cap] 29)) 0 0 0 ⟨#[]⟩ (.slice none 0 0) 29).alloc (.cells #[.int .i64 t.k, .int .i64 t.n, .int .i64 t.e, .string t.s, .slice none 0 0] 29))
  have BO := Lib.hid (Box.new ((w.alloc (.cells #[.int .i64 t.k, .int .i64 t.n, .int .i64 t.e, .string t.s, .slice a t.kids.length cap] 29)).alloc (.cells #[.int .i64 0, .int .i64 0, .int .i64 0, .string ⟨#[]⟩, .slice none 0 0] 29)) t.k t.n t.e t.s (.slice none 0 0) 29)
  obtain ⟨W0, hW0⟩ : ∃ W0, W0 = ((w.alloc (.cells #[.int .i64 t.k, .int .i64 t.n, .int .i64 t.e, .string t.s, .slice a t.kids.length cap] 29)).alloc (.cells #[.int .i64 0, .int .i64 0, .int .i64 0, .string ⟨#[]⟩, .slice none 0 0] 29)).alloc (.cells #[.int .i64 t.k, .int .i64 t.n, .int .i64 t.e, .string t.s, .slice none 0 0] 29) := ⟨_, rfl⟩
  have hz0 : W0.heap.size = w.heap.size + 3 := by rw [hW0]; simp
  have HB0 := Lib.hid (show Below w.heap.size w W0 from by rw [hW0]; exact (by (with_reducible (repeat' (first | exact Below.refl _ _ | refine below_alloc ?_ _ ?_ | refine Below.setCell ?_ ?_ _ | refine Below.drew ?_ | refine below_drewN ?_ _ | refine below_step ?_ (by assumption) ?_ | refine below_mark ?_ (by assumption) ?_))); all_goals (first | omega | (simp; done) | (simp; omega))))
  rw [← hW0] at BX BZ BO
  rw [show (w.alloc (.cells #[.int .i64 t.k, .int .i64 t.n, .int .i64 t.e, .string t.s, .slice a t.kids.length cap] 29)).heap.size = w.heap.size + 1 by simp] at BZ
  rw [show ((w.alloc (.cells #[.int .i64 t.k, .int .i64 t.n, .int .i64 t.e, .string t.s, .slice a t.kids.length cap] 29)).alloc (.cells #[.int .i64 0, .int .i64 0, .int .i64 0, .string ⟨#[]⟩, .slice none 0 0] 29)).heap.size = w.heap.size + 2 by simp] at BO
  have HR := Lib.hid hr; have HWF := Lib.hid (srtV_wf hwf)
  clear hwf
  have HS1 := Lib.hid (fun (j : Nat) (hj : j < t.kids.length) => srtVs_take t.kids j hj)
  clear ha hel hB h0 ih hr hN hc hm
  obtain ⟨R, hRR⟩ : ∃ R, R = srtV t := ⟨_, rfl⟩
  have HRR := Lib.hid hRR
  rw [← hRR] at HWF ⊢
  unfold V.agg
  clear hRR
  go_enter Tryd.func52, Tryd.ntmps52
  go_wp2_with fail
  rw [← hW0]
  clear hW0
  have S0 := Lib.hid (show SAcc W0 W0 (w.heap.size + 2) t.k t.n t.e t.s (srtVs (t.kids.take 0)) (.slice none 0 0) (fun _ => False) from ⟨Below.refl _ _, BO.out, PRow.nil _ _, fun x h => h.elim⟩)
  go_loopw [12] (fun ii wr => ∃ (j : Nat) (a' : Option Addr) (n' c' : Nat) (G : Nat → Prop), ii = .int .i64 j ∧ j ≤ t.kids.length ∧ Hid (SAcc W0 wr (w.heap.size + 2) t.k t.n t.e t.s (srtVs (t.kids.take j)) (.slice a' n' c') G)) (fun ii _ => t.kids.length + 1 - (intOf ii).toNat)
  case atStart => exact ⟨0, none, 0, 0, _, rfl, by omega, S0⟩
  case round =>
    clear S0
    obtain ⟨j, a', n', c', G, rfl, hj, HSA⟩ := hrel
    have hzr := HSA.out.bel.size
    have HB := Lib.hid (HB0.out.trans (HSA.out.bel.mono (by omega)))
    by_cases hlt : j < t.kids.length
    · have hne : t.kids ≠ [] := by intro e; rw [e] at hlt; simp at hlt
      obtain ⟨rfl, hbw, -, -⟩ := HA.out hne
      obtain ⟨c0, c1, c2, c3, c4⟩ := (HE.out j hlt).1.keep (HB.out.block b hbw)
      have HT := Lib.hid (HS1.out j hlt)
      have HK := Lib.hid ((HE.out j hlt).2.2.stay HB.out)
      obtain ⟨a3, cap3, hs3⟩ := (HE.out j hlt).2.2.slice
      rw [hs3] at c4 HK
      clear hs3
      have CL := Lib.hid (fun (W : World) (hW : Below wr.heap.size wr W) => IH.out j hlt (.slice a3 t.kids[j].kids.length cap3) W _ (HK.out.stay hW))
      have HLEN := Lib.hid (show (srtVs (t.kids.take j)).length ≤ 300 by rw [srtVs_len, List.length_take]; omega)
      clear IH HE HA HS1
      generalize srtV t.kids[j] = u at *
      generalize srtVs (t.kids.take j) = us at *
      unfold V.agg at CL
      generalize hx : t.kids[j] = x at *
      obtain ⟨Wk, hWk⟩ : ∃ Wk : World, Wk = wr.alloc (.cells #[.int .i64 x.k, .int .i64 x.n, .int .i64 x.e, .string x.s, .slice a3 x.kids.length cap3] 29) := ⟨_, rfl⟩
      have hzk : Wk.heap.size = wr.heap.size + 1 := by rw [hWk]; simp
      have HBk := Lib.hid (show Below wr.heap.size wr Wk from by rw [hWk]; exact (by (with_reducible (repeat' (first | exact Below.refl _ _ | refine below_alloc ?_ _ ?_ | refine Below.setCell ?_ ?_ _ | refine Below.drew ?_ | refine below_drewN ?_ _ | refine below_step ?_ (by assumption) ?_ | refine below_mark ?_ (by assumption) ?_))); all_goals (first | omega | (simp; done) | (simp; omega))))
      have BK := Lib.hid (show Box Wk wr.heap.size x.k x.n x.e x.s (.slice a3 x.kids.length cap3) 29 from by rw [hWk]; exact (Box.new wr x.k x.n x.e x.s (.slice a3 x.kids.length cap3) 29))
      clear hx
      go_upto_region 6 with fail
      rw [← hWk]
      clear hWk c0 c1 c2 c3 c4
      obtain ⟨W9, hW9⟩ : ∃ W9 : World, W9 = Wk.drew := ⟨_, rfl⟩
      have hz9 : Wk.heap.size = W9.heap.size := by rw [hW9]; rfl
      have HB9 := Lib.hid (show Below wr.heap.size wr W9 from by rw [hW9]; exact HBk.out.drew)
      have HS9 := Lib.hid (HSA.out.over HB9.out)
      have BK9 := Lib.hid (show Box W9 wr.heap.size x.k x.n x.e x.s (.slice a3 x.kids.length cap3) 29 from by rw [hW9]; exact BK.out)
      obtain ⟨s0, s1, s2, s3, s4⟩ := BK.out.cells
      obtain ⟨g0, g1, g2, g3, g4⟩ := (HSA.out.over HBk.out).box.cells
      have gf4 := (HSA.out.over HBk.out).box.free (i := 4)
      have hl300 := HLEN.out
      subst hW9
      go_region_law (first | (refine step_vals rfl _ _ rfl (w.heap.size + 3) G (fun z => Wk.heap.size ≤ z ∧ z < w5.heap.size) _ us [u] [.slice ua un uc] rfl (HM5.out.rows.stay ((by (with_reducible (repeat' (first | exact Below.refl _ _ | refine below_alloc ?_ _ ?_ | refine Below.setCell ?_ ?_ _ | refine Below.drew ?_ | refine below_drewN ?_ _ | refine below_step ?_ (by assumption) ?_ | refine below_mark ?_ (by assumption) ?_))); all_goals (first | omega | (simp; done) | (simp; omega))))) _ rfl (vsrc_lt [u] [.slice ua un uc] rfl (fun j hj => by obtain rfl : j = 0 := (by simpa using hj); exact HUW.out) (fun j hj => by obtain rfl : j = 0 := (by simpa using hj); exact HU.out) _ rfl _ _ rfl) (fun z hz => by have h1 := hz.1; have h2 := hz.2; exact ⟨by simp; omega, fun e => by have := (HSA.out.rows.lt z e).2; omega⟩) (by simp; omega) (by simp; omega) ?_; intro v2 w2 hrow2 hg2 hfr2; obtain ⟨va, vn, vc, rfl⟩ := hrow2.slice3; have HG2 := Lib.hid hg2; have HR2 := Lib.hid hrow2; have HB2 := Lib.hid (show Box w2 (w.heap.size + 2) t.k t.n t.e t.s (.slice a' n' c') 29 from (hg2.block (w.heap.size + 2) (by simp; omega) (fun e => by have := (HM5.out.rows.lt _ e.symm).1; omega)).trans (HM5.out.box.stay ((by (with_reducible (repeat' (first | exact Below.refl _ _ | refine below_alloc ?_ _ ?_ | refine Below.setCell ?_ ?_ _ | refine Below.drew ?_ | refine below_drewN ?_ _ | refine below_step ?_ (by assumption) ?_ | refine below_mark ?_ (by assumption) ?_))); all_goals (first | omega | (simp; done) | (simp; omega)))))); have hfz := HB2.out.free (i := 4); have hcc := HB2.out.cells.2.2.2.2; clear hrow2 hg2 hfr2) | (go_simp; go_at_call 52; refine (CL.out _ HB9.out).mono ?_; rintro e5 w5 ⟨ss5, rfl, uwf, urep, hb5⟩; obtain ⟨ua, un, uc, rfl⟩ : ∃ sa sn sc, ss5 = .slice sa sn sc := (by obtain ⟨p, q, e⟩ := urep.slice; exact ⟨p, _, q, e⟩); unfold V.agg; have HM5 := Lib.hid (HS9.out.over hb5); have HUW := Lib.hid uwf; have HU := Lib.hid (urep.mono (G' := fun z => Wk.heap.size ≤ z ∧ z < w5.heap.size) (fun z hz hzs => ⟨hz, hzs⟩)); have hz5 : Wk.heap.size ≤ w5.heap.size := hb5.size; clear uwf urep hb5; obtain ⟨g0, g1, g2, g3, g4⟩ := HM5.out.box.cells; have gf4 := HM5.out.box.free (i := 4); have hm4 : w.heap.size + 2 ≠ w5.heap.size := (by omega); have hm5 : w5.heap.size ≠ w.heap.size + 2 := (by omega); have hm6 : w.heap.size + 2 < w5.heap.size := (by omega)))
      all_goals
        go_wp2_with fail
        have hb5n : Below w5.heap.size w5 (w5.alloc (.cells #[.int .i64 u.k, .int .i64 u.n, .int .i64 u.e, .string u.s, .slice ua un uc] 29)) := (by (with_reducible (repeat' (first | exact Below.refl _ _ | refine below_alloc ?_ _ ?_ | refine Below.setCell ?_ ?_ _ | refine Below.drew ?_ | refine below_drewN ?_ _ | refine below_step ?_ (by assumption) ?_ | refine below_mark ?_ (by assumption) ?_))); all_goals (first | omega | (simp; done) | (simp; omega)))
        go_roundw
        case rel => exact ⟨j + 1, va, vn, vc, _, by go_num, by omega, Lib.hid (by rw [HT.out]; exact HM5.out.put hb5n HG2.out HR2.out (fun z hz => by
                rcases hz with h | h
                · exact HSA.out.gl z h
                · have := h.1; omega))⟩
        case measure => simp [intOf]; omega
    · have hje : j = t.kids.length := by omega
      subst hje
      rw [List.take_length] at HSA
      have hbl := HSA.out.bel
      obtain ⟨y0, y1, y2, y3, y4⟩ := HSA.out.box.cells
      have HX := Lib.hid (show Box wr w.heap.size t.k t.n t.e t.s (.slice a t.kids.length cap) 29 from (hbl.block w.heap.size (by omega)).trans BX.out)
      have HZ := Lib.hid (show Box wr (w.heap.size + 1) 0 0 0 ⟨#[]⟩ (.slice none 0 0) 29 from (hbl.block (w.heap.size + 1) (by omega)).trans BZ.out)
      obtain ⟨x0, x1, x2, x3, x4⟩ := HX.out.cells
      have HRF := Lib.hid (show RepF wr (fun x => w.heap.size + 3 ≤ x) (.slice a' n' c') (srtVs t.kids) from HSA.out.rows.repF.mono (fun x hx _ => hx.elim (HSA.out.gl x) (fun h => (HSA.out.rows.lt x h).1)))
      clear hbl IH HE HA HS1 BX BZ BO
      by_cases h8 : t.k = 8
      · have HM := Lib.hid (show R = .mk 8 0 0 ⟨#[]⟩ (upr (srtP (prs (srtVs t.kids)))) from by rw [HRR.out]; exact srt_map HR.out h8)
        have hev := (right_map HR.out h8).1
        have PO := Lib.hid (show Calls Tryd.prog 79 #[.agg #[.int .i64 t.k, .int .i64 t.n, .int .i64 t.e, .string t.s, .slice a' n' c']] wr (PairsRet (fun x => w.heap.size + 3 ≤ x) wr (srtVs t.kids)) from pairsOf_any (fun x => w.heap.size + 3 ≤ x) (.mk t.k t.n t.e t.s (srtVs t.kids)) (.slice a' n' c') wr HRF.out (by show (srtVs t.kids).length % 2 = 0; rw [srtVs_len]; exact hev) (by show (srtVs t.kids).length ≤ _; rw [srtVs_len]; omega))
        have SP1 := Lib.hid (fun (W : World) (v : Value) (psl : List Value) (hpp : PPair W wr.heap.size (fun x => w.heap.size + 3 ≤ x ∧ x < wr.heap.size) v ((srtVs t.kids).length / 2) (srtVs t.kids) psl) (hz : wr.heap.size ≤ W.heap.size) => sort_pairs hpp (by rw [srtVs_len]; omega) hz (fun i hi => by
          have hi' : 2 * i + 1 < t.kids.length := by rw [srtVs_len] at hi; exact hi
          obtain ⟨k1, k2, k3⟩ := srt_key HR.out h8 (2 * i) (by omega) (by omega)
          rw [srtVs_get _ _ (by omega), k1]
          exact ⟨k2, k3⟩) (fun x hx hg => by have := (World.ownsRow.lt hpp.row x hx).1; have := hg.2; omega) (srt_keys_ne HR.out h8))
        have hsl : (srtVs t.kids).length ≤ 300 := by rw [srtVs_len]; exact hlen
        have t8 : (t.k == 8) = true := by simpa using h8
        generalize srtVs t.kids = us at *
        clear h8 hev
        go_wp2_with fail
        refine PO.out.mono ?_
        rintro e1 w1 ⟨v1, psl, rfl, hpp, hb1⟩
        obtain ⟨pa, pc, rfl⟩ := owns_slice3 hpp.row
        have ST := Lib.hid (SP1.out w1 _ psl hpp hb1.size)
        have HB1 := Lib.hid hb1
        clear hpp hb1 SP1
        go_wp2_with fail
        refine ST.out.mono ?_
        rintro e2 w2 ⟨rfl, l, hl1, hl2, hb2⟩
        have hll : l.length ≤ 1048576 := by
          have e := congrArg List.length hl2
          rw [List.length_map, srtP_len] at e
          have := prs_le us
          omega
        have MO1 := Lib.hid (mapOf_any _ l _ w2 hl1 hll)
        have HB2 := Lib.hid (HB1.out.trans hb2)
        rw [← hl2] at HM
        clear hl1 hl2 hb2 hll ST PO
        go_wp2_with fail
        refine MO1.out.mono ?_
        rintro e3 w3 ⟨s3, rfl, hr3, hb3⟩
        obtain ⟨ra, rc, rfl⟩ := hr3.slice
        have HR3 := Lib.hid hr3
        have HB3 := Lib.hid (HB2.out.trans (hb3.mono HB2.out.size))
        unfold V.agg
        dsimp only [V.k, V.n, V.e, V.s]
        clear hr3 hb3
        have HZ3 := Lib.hid (show Box w3 (w.heap.size + 1) 0 0 0 ⟨#[]⟩ (.slice none 0 0) 29 from (HB3.out.block (w.heap.size + 1) (by omega)).trans HZ.out)
        obtain ⟨z0, z1, z2, z3, z4⟩ := HZ3.out.cells
        have zf0 := HZ3.out.free (i := 0); have zf1 := HZ3.out.free (i := 1); have zf2 := HZ3.out.free (i := 2); have zf3 := HZ3.out.free (i := 3); have zf4 := HZ3.out.free (i := 4)
        have hz2 := HB2.out.size
        have HF := Lib.hid (show SrdRet w R (.returned (.agg #[.int .i64 8, .int .i64 0, .int .i64 0, .string ⟨#[]⟩, .slice ra (upr (l.map PE.vv)).length rc])) (set5 w3 (w.heap.size + 1) (.int .i64 8) (.int .i64 0) (.int .i64 0) (.string ⟨#[]⟩) (.slice ra (upr (l.map PE.vv)).length rc)) from by
          rw [HM.out] at HWF ⊢
          refine ⟨_, rfl, HWF.out, ?_, (HB.out.trans (HB3.out.mono HB.out.size)).trans ((below_set5 w3 (w.heap.size + 1) _ _ _ _ _).mono (by omega))⟩
          refine ((HR3.out.mono (G' := fun x => w.heap.size + 3 ≤ x) (fun x hx _ => ?_)).set5 (w.heap.size + 1) (by omega) _ _ _ _ _).mono (fun x hx _ => by omega)
          rcases hx with hx | hx
          · exact hx.1
          · omega)
        clear HM HR3 HSA HRF MO1
        go_wp2_with fail
        exact bodyPost_ret (v := .agg #[.int .i64 8, .int .i64 0, .int .i64 0, .string ⟨#[]⟩, .slice ra (upr (l.map PE.vv)).length rc]) (by simp [results, Tryd.results52, go_sem, z0, z1, z2, z3, z4]) rfl HF.out
      · have t8 : (t.k == 8) = false := by simpa using h8
        obtain ⟨z0, z1, z2, z3, z4⟩ := HZ.out.cells
        have zf0 := HZ.out.free (i := 0); have zf1 := HZ.out.free (i := 1); have zf2 := HZ.out.free (i := 2); have zf3 := HZ.out.free (i := 3); have zf4 := HZ.out.free (i := 4)
        have HF := Lib.hid (show SrdRet w R (.returned (.agg #[.int .i64 t.k, .int .i64 t.n, .int .i64 t.e, .string t.s, .slice a' n' c'])) (set5 wr (w.heap.size + 1) (.int .i64 t.k) (.int .i64 t.n) (.int .i64 t.e) (.string t.s) (.slice a' n' c')) from by
          have HM : R = .mk t.k t.n t.e t.s (srtVs t.kids) := by rw [HRR.out]; exact srt_else h8
          rw [HM] at HWF ⊢
          exact ⟨_, rfl, HWF.out, (HRF.out.set5 (w.heap.size + 1) (by omega) _ _ _ _ _).mono (fun x hx _ => by omega), HB.out.trans ((below_set5 wr (w.heap.size + 1) _ _ _ _ _).mono (by omega))⟩)
        clear h8 HSA HRF
        go_wp2_with fail
        exact bodyPost_ret (v := .agg #[.int .i64 t.k, .int .i64 t.n, .int .i64 t.e, .string t.s, .slice a' n' c']) (by simp [results, Tryd.results52, go_sem, z0, z1, z2, z3, z4]) rfl HF.out
end Go.Proofs.YtfjehhdahpbbgaaDoor
namespace Go.Proofs.YtfjehhdahpbbgaaDoor
set_option linter.unusedSimpArgs false
set_option linter.unusedVariables false
set_option maxRecDepth 100000
open Go.RowKit
theorem RepF.takeS {w : World} {F : Nat → Prop} {a : Option Addr} {n cap j : Nat} {ts : List V} (h : RepF w F (.slice a n cap) ts) (hj : j ≤ ts.length) : RepF w F (.slice a j cap) (ts.take j) := by
  obtain ⟨a2, b, off, cap2, e, ha, hc, hm, sls, hel⟩ := h.opened
  injection e with e1 e2 e3
  subst e1 e2 e3
  have hl : (ts.take j).length = j := by rw [List.length_take]; omega
  have := RepF.mk (w := w) (G := F) a b off cap (ts.take j) sls (fun hne => (ha (fun e => hne (by rw [e, List.take_nil]))).1) (by omega) hm (fun hne => (ha (fun e => hne (by rw [e, List.take_nil]))).2)
    (fun i hi => by rw [hl] at hi; rw [List.getElem_take]; exact (hel i (by omega)).1) (fun i hi => by rw [hl] at hi; rw [List.getElem_take]; exact (hel i (by omega)).2.1) (fun i hi => by rw [hl] at hi; rw [List.getElem_take]; exact (hel i (by omega)).2.2)
  rw [hl] at this
  exact this
theorem RepF.dropS {w : World} {F : Nat → Prop} {g off n cap j : Nat} {ts : List V} {A : Option Addr} (h : RepF w F (.slice (some ⟨g, off, none⟩) n cap) ts) (hj : j ≤ ts.length) (hA : j < ts.length → A = some ⟨g, off + j * 5, none⟩) : RepF w F (.slice A (n - j) (cap - j)) (ts.drop j) := by
  obtain ⟨a2, b, off2, cap2, e, ha, hc, hm, sls, hel⟩ := h.opened
  injection e with e1 e2 e3
  subst e2 e3
  have hl : (ts.drop j).length = ts.length - j := List.length_drop
  have hne : ts.drop j ≠ [] → j < ts.length := fun hne => by
    rcases Nat.lt_or_ge j ts.length with h | h
    · exact h
    · exact absurd (List.drop_eq_nil_of_le h) hne
  have hb : j < ts.length → g = b ∧ off = off2 ∧ b < w.heap.size ∧ F b := fun hlt => by
    have := ha (fun e => by rw [e] at hlt; simp at hlt)
    rw [this.1] at e1
    injection e1 with e1
    injection e1 with e1 e4
    exact ⟨e1, e4, this.2⟩
  have := RepF.mk (w := w) (G := F) A g (off + j * 5) (cap - j) (ts.drop j) (fun i => sls (j + i)) (fun h => hA (hne h)) (by omega) (by omega) (fun h => by obtain ⟨e1, -, h2⟩ := hb (hne h); rw [e1]; exact h2)
    (fun i hi => by
      rw [hl] at hi
      have hji : j + i < ts.length := by omega
      obtain ⟨rfl, rfl, -⟩ := hb (by omega)
      have h1 := (hel (j + i) hji).1
      rw [List.getElem_drop, show off + j * 5 + i * 5 = off + (j + i) * 5 by omega]
      exact h1)
    (fun i hi => by rw [hl] at hi; rw [List.getElem_drop]; exact (hel (j + i) (by omega)).2.1) (fun i hi => by rw [hl] at hi; rw [List.getElem_drop]; exact (hel (j + i) (by omega)).2.2)
  rw [hl] at this
  exact this
end Go.Proofs.YtfjehhdahpbbgaaDoor
