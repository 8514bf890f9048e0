/- Lemmas for the statement of the last text of this claim: texts joined. -/
import Derived.Test.YtgbgeocmjdgmoaaDoorFnMsgK01
import Derived.Test.YtgbgeocmjdgmoaaDoorFnMsgK02
import Derived.Deep.QuietTactic
import Derived.BigQuiet
import Derived.Deep.RegionHeld3
import Derived.Deep.RegionLaw
import Derived.BigRegion
import Derived.Deep.RegionWith
import Derived.Lib.Hide
import Derived.OwnWalk
namespace Go.Proofs.YtgbgeocmjdgmoaaDoor
set_option linter.unusedSimpArgs false
set_option linter.unusedVariables false
set_option maxRecDepth 100000
open Go.RowKit
def keqB (a b : V) : Bool := decide (keyEq a b)
set_option maxHeartbeats 4000000 in
theorem l02Pairs_any (w0 : World) (v : Value) (ts : List V) (h : RepS w0 v ts) (w : World) (hw : Below w0.heap.size w0 w) (hlen : ts.length ≤ 1048576) :
    Calls Tryd.prog 221 #[v] w (BoolRet (pairsB ts) w) := by
  obtain ⟨b, hb⟩ : ∃ b : Bool, b = pairsB ts := ⟨_, rfl⟩
  rw [← hb]
  have HB := Lib.hid (show b = (keysB keqB (evV ts) && decide (ts.length % 2 = 0) && decide (ts.length ≤ 300)) from hb)
  clear hb
  obtain ⟨a, bb, off, cap, rfl, ha, hc, hm, sls, hel⟩ := h.opened
  have HA := Lib.hid ha; have HE := Lib.hid hel
  clear ha hel h hc hm
  have HW := Lib.hid hw
  go_enter Tryd.func221, Tryd.ntmps221
  go_wp2_with fail
  go_loopw [3, 4] (fun i q wr => ∃ j : Nat, j % 2 = 0 ∧ j ≤ ts.length + 1 ∧ i = .int .i64 j ∧ Hid (keysB keqB (evV (ts.take j)) = true) ∧ Below w.heap.size w wr) (fun i _ _ => ts.length + 2 - (intOf i).toNat)
  case atStart => exact ⟨0, rfl, by omega, rfl, Lib.hid rfl, Below.refl _ _⟩
  case round =>
    obtain ⟨j, hj2, hj, rfl, HN, hbl⟩ := hrel
    by_cases hlt : j < ts.length
    · have hne : ts ≠ [] := by intro e; rw [e] at hlt; simp at hlt
      obtain ⟨rfl, hbw⟩ := HA.out hne
      have HWR := Lib.hid (show Below w0.heap.size w0 wr from HW.out.trans (hbl.mono HW.out.size))
      obtain ⟨c0, c1, c2, c3, c4⟩ := (HE.out j hlt).1.keep (HWR.out.block bb hbw)
      clear c1 c2 c4
      have HS := Lib.hid (show keysB keqB (evV (ts.take (j + 2))) = (keysB keqB (evV (ts.take j)) && isKeyB ts[j] && (evV (ts.take j)).all fun y => !(keqB y ts[j])) by rw [evV_take ts j hj2 hlt, keysB_snoc])
      have HST := Lib.hid (keysB_stuck keqB ts j hj2 hlt)
      cases hkey : isKeyB ts[j]
      · have HX := Lib.hid (show b = false by rw [HB.out, HST.out (.inl hkey)]; rfl)
        have hk' : ¬ (ts[j].k = 5 ∨ ts[j].k = 3) := of_decide_eq_false hkey
        have t1 : (ts[j].k != 5) = true := by simp; omega
        have t2 : (ts[j].k != 3) = true := by simp; omega
        clear hkey hk' HS HST HN
        generalize ts[j].k = xk at *
        go_wp2_with fail
        go_ret
        exact ⟨by rw [HX.out]; rfl, (by (repeat' (first | with_reducible exact Below.refl _ _ | with_reducible refine below_alloc ?_ _ ?_ | with_reducible refine Below.setCell ?_ ?_ _ | with_reducible refine Below.drew ?_ | with_reducible refine below_drewN ?_ _ | with_reducible refine below_step ?_ (by assumption) ?_ | with_reducible refine below_mark ?_ (by assumption) ?_)); all_goals (first | omega | (simp; done) | (simp; omega)))⟩
      · have hk' : ts[j].k = 5 ∨ ts[j].k = 3 := of_decide_eq_true hkey
        rw [hkey] at HS
        clear hkey
        have HKK := Lib.hid hk'
        clear hk'
        have hcase : (ts[j].k != 5) = false ∨ ((ts[j].k != 5) = true ∧ (ts[j].k != 3) = false) := by
          rcases HKK.out with h | h
          · left; simp [h]
          · right; simp [h]
        rcases hcase with t1 | ⟨t1, t2⟩
        · go_wp2_with fail
          go_loopw [4] (fun i w2 => ∃ q : Nat, q % 2 = 0 ∧ q ≤ j + 1 ∧ i = .int .i64 q ∧ Hid (∀ x, (hx : x < q) → (hl : x < ts.length) → x % 2 = 0 → keqB ts[x] ts[j] = false) ∧ Below w.heap.size w w2) (fun i _ => j + 2 - (intOf i).toNat)
          case atStart => exact ⟨0, rfl, by omega, rfl, Lib.hid (by omega), hbl⟩
          case round =>
            clear c0 c3 hbl HWR
            obtain ⟨q, hq2, hqj, rfl, HNE, hbl⟩ := hrel
            have HWR := Lib.hid (show Below w0.heap.size w0 wr from HW.out.trans (hbl.mono HW.out.size))
            by_cases hqlt : q < j
            · have hqts : q < ts.length := by omega
              obtain ⟨c0, c1, c2, c3, c4⟩ := (HE.out q hqts).1.keep (HWR.out.block bb hbw)
              obtain ⟨d0, d1, d2, d3, d4⟩ := (HE.out j hlt).1.keep (HWR.out.block bb hbw)
              clear c2 c4 d2 d4
              have HX1 := Lib.hid (show keqB ts[q] ts[j] = true → b = false from fun e => by rw [HB.out, HST.out (.inr ⟨q, hqts, hqlt, hq2, e⟩)]; rfl)
              have HX2 := Lib.hid (show keqB ts[q] ts[j] = false → ∀ x, (hx : x < q + 2) → (hl : x < ts.length) → x % 2 = 0 → keqB ts[x] ts[j] = false from fun e x hx hl hx2 => by
                by_cases hxq : x < q
                · exact HNE.out x hxq hl hx2
                · have : x = q := by omega
                  subst this; exact e)
              have HKQ := Lib.hid (show keqB ts[q] ts[j] = decide (ts[q].k = ts[j].k ∧ ts[q].n = ts[j].n ∧ ts[q].s = ts[j].s) from rfl)
              clear HNE HS HST
              generalize ts[q].k = qk at *
              generalize ts[q].n = qn at *
              generalize ts[q].s = qs at *
              generalize ts[j].k = jk at *
              generalize ts[j].n = jn at *
              generalize ts[j].s = js at *
              by_cases e1 : qk = jk
              case neg =>
                have s1 : (qk == jk) = false := by simpa using e1
                have HX2 := Lib.hid (HX2.out (by rw [HKQ.out]; exact decide_eq_false (fun h => e1 h.1)))
                clear e1
                go_wp2_with fail
                go_quiet (fail)
                all_goals go_wp2_with fail
                all_goals go_roundw
                all_goals first
                  | (simp [intOf]; omega)
                  | exact ⟨q + 2, by omega, by omega, by go_num, HX2, (by (repeat' (first | with_reducible exact Below.refl _ _ | with_reducible refine below_alloc ?_ _ ?_ | with_reducible refine Below.setCell ?_ ?_ _ | with_reducible refine Below.drew ?_ | with_reducible refine below_drewN ?_ _ | with_reducible refine below_step ?_ (by assumption) ?_ | with_reducible refine below_mark ?_ (by assumption) ?_)); all_goals (first | omega | (simp; done) | (simp; omega)))⟩
              have s1 : (qk == jk) = true := by simpa using e1
              by_cases e2 : qn = jn
              case neg =>
                have s2 : (qn == jn) = false := by simpa using e2
                have HX2 := Lib.hid (HX2.out (by rw [HKQ.out]; exact decide_eq_false (fun h => e2 h.2.1)))
                clear e1 e2
                go_wp2_with fail
                go_quiet (fail)
                all_goals go_wp2_with fail
                all_goals go_roundw
                all_goals first
                  | (simp [intOf]; omega)
                  | exact ⟨q + 2, by omega, by omega, by go_num, HX2, (by (repeat' (first | with_reducible exact Below.refl _ _ | with_reducible refine below_alloc ?_ _ ?_ | with_reducible refine Below.setCell ?_ ?_ _ | with_reducible refine Below.drew ?_ | with_reducible refine below_drewN ?_ _ | with_reducible refine below_step ?_ (by assumption) ?_ | with_reducible refine below_mark ?_ (by assumption) ?_)); all_goals (first | omega | (simp; done) | (simp; omega)))⟩
              have s2 : (qn == jn) = true := by simpa using e2
              by_cases e3 : qs = js
              case neg =>
                have s3 := ba_no e3
                have HX2 := Lib.hid (HX2.out (by rw [HKQ.out]; exact decide_eq_false (fun h => e3 h.2.2)))
                clear e1 e2 e3
                go_wp2_with fail
                go_quiet (fail)
                all_goals go_wp2_with fail
                all_goals go_roundw
                all_goals first
                  | (simp [intOf]; omega)
                  | exact ⟨q + 2, by omega, by omega, by go_num, HX2, (by (repeat' (first | with_reducible exact Below.refl _ _ | with_reducible refine below_alloc ?_ _ ?_ | with_reducible refine Below.setCell ?_ ?_ _ | with_reducible refine Below.drew ?_ | with_reducible refine below_drewN ?_ _ | with_reducible refine below_step ?_ (by assumption) ?_ | with_reducible refine below_mark ?_ (by assumption) ?_)); all_goals (first | omega | (simp; done) | (simp; omega)))⟩
              have s3 := ba_yes e3
              have HX := Lib.hid (HX1.out (by rw [HKQ.out]; exact decide_eq_true ⟨e1, e2, e3⟩))
              clear e1 e2 e3 HX1 HX2
              go_wp2_with fail
              go_quiet (fail)
              all_goals go_wp2_with fail
              all_goals go_ret
              all_goals exact ⟨by rw [HX.out]; rfl, (by (repeat' (first | with_reducible exact Below.refl _ _ | with_reducible refine below_alloc ?_ _ ?_ | with_reducible refine Below.setCell ?_ ?_ _ | with_reducible refine Below.drew ?_ | with_reducible refine below_drewN ?_ _ | with_reducible refine below_step ?_ (by assumption) ?_ | with_reducible refine below_mark ?_ (by assumption) ?_)); all_goals (first | omega | (simp; done) | (simp; omega)))⟩
            · have HX := Lib.hid (show keysB keqB (evV (ts.take (j + 2))) = true by
                rw [HS.out, HN.out, Bool.true_and, Bool.true_and, List.all_eq_true]
                intro y hy
                obtain ⟨x, hx, hxj, hx2, rfl⟩ := (mem_evV_take ts j hj2 y).1 hy
                simp [HNE.out x (by omega) hx hx2])
              clear HST HS HNE
              go_wp2_with fail
              go_roundw
              case rel => exact ⟨j + 2, by omega, by omega, by go_num, HX, hbl⟩
              case measure => simp [intOf]; omega
        · go_wp2_with fail
          go_loopw [4] (fun i w2 => ∃ q : Nat, q % 2 = 0 ∧ q ≤ j + 1 ∧ i = .int .i64 q ∧ Hid (∀ x, (hx : x < q) → (hl : x < ts.length) → x % 2 = 0 → keqB ts[x] ts[j] = false) ∧ Below w.heap.size w w2) (fun i _ => j + 2 - (intOf i).toNat)
          case atStart => exact ⟨0, rfl, by omega, rfl, Lib.hid (by omega), hbl⟩
          case round =>
            clear c0 c3 hbl HWR
            obtain ⟨q, hq2, hqj, rfl, HNE, hbl⟩ := hrel
            have HWR := Lib.hid (show Below w0.heap.size w0 wr from HW.out.trans (hbl.mono HW.out.size))
            by_cases hqlt : q < j
            · have hqts : q < ts.length := by omega
              obtain ⟨c0, c1, c2, c3, c4⟩ := (HE.out q hqts).1.keep (HWR.out.block bb hbw)
              obtain ⟨d0, d1, d2, d3, d4⟩ := (HE.out j hlt).1.keep (HWR.out.block bb hbw)
              clear c2 c4 d2 d4
              have HX1 := Lib.hid (show keqB ts[q] ts[j] = true → b = false from fun e => by rw [HB.out, HST.out (.inr ⟨q, hqts, hqlt, hq2, e⟩)]; rfl)
              have HX2 := Lib.hid (show keqB ts[q] ts[j] = false → ∀ x, (hx : x < q + 2) → (hl : x < ts.length) → x % 2 = 0 → keqB ts[x] ts[j] = false from fun e x hx hl hx2 => by
                by_cases hxq : x < q
                · exact HNE.out x hxq hl hx2
                · have : x = q := by omega
                  subst this; exact e)
              have HKQ := Lib.hid (show keqB ts[q] ts[j] = decide (ts[q].k = ts[j].k ∧ ts[q].n = ts[j].n ∧ ts[q].s = ts[j].s) from rfl)
              clear HNE HS HST
              generalize ts[q].k = qk at *
              generalize ts[q].n = qn at *
              generalize ts[q].s = qs at *
              generalize ts[j].k = jk at *
              generalize ts[j].n = jn at *
              generalize ts[j].s = js at *
              by_cases e1 : qk = jk
              case neg =>
                have s1 : (qk == jk) = false := by simpa using e1
                have HX2 := Lib.hid (HX2.out (by rw [HKQ.out]; exact decide_eq_false (fun h => e1 h.1)))
                clear e1
                go_wp2_with fail
                go_quiet (fail)
                all_goals go_wp2_with fail
                all_goals go_roundw
                all_goals first
                  | (simp [intOf]; omega)
                  | exact ⟨q + 2, by omega, by omega, by go_num, HX2, (by (repeat' (first | with_reducible exact Below.refl _ _ | with_reducible refine below_alloc ?_ _ ?_ | with_reducible refine Below.setCell ?_ ?_ _ | with_reducible refine Below.drew ?_ | with_reducible refine below_drewN ?_ _ | with_reducible refine below_step ?_ (by assumption) ?_ | with_reducible refine below_mark ?_ (by assumption) ?_)); all_goals (first | omega | (simp; done) | (simp; omega)))⟩
              have s1 : (qk == jk) = true := by simpa using e1
              by_cases e2 : qn = jn
              case neg =>
                have s2 : (qn == jn) = false := by simpa using e2
                have HX2 := Lib.hid (HX2.out (by rw [HKQ.out]; exact decide_eq_false (fun h => e2 h.2.1)))
                clear e1 e2
                go_wp2_with fail
                go_quiet (fail)
                all_goals go_wp2_with fail
                all_goals go_roundw
                all_goals first
                  | (simp [intOf]; omega)
                  | exact ⟨q + 2, by omega, by omega, by go_num, HX2, (by (repeat' (first | with_reducible exact Below.refl _ _ | with_reducible refine below_alloc ?_ _ ?_ | with_reducible refine Below.setCell ?_ ?_ _ | with_reducible refine Below.drew ?_ | with_reducible refine below_drewN ?_ _ | with_reducible refine below_step ?_ (by assumption) ?_ | with_reducible refine below_mark ?_ (by assumption) ?_)); all_goals (first | omega | (simp; done) | (simp; omega)))⟩
              have s2 : (qn == jn) = true := by simpa using e2
              by_cases e3 : qs = js
              case neg =>
                have s3 := ba_no e3
                have HX2 := Lib.hid (HX2.out (by rw [HKQ.out]; exact decide_eq_false (fun h => e3 h.2.2)))
                clear e1 e2 e3
                go_wp2_with fail
                go_quiet (fail)
                all_goals go_wp2_with fail
                all_goals go_roundw
                all_goals first
                  | (simp [intOf]; omega)
                  | exact ⟨q + 2, by omega, by omega, by go_num, HX2, (by (repeat' (first | with_reducible exact Below.refl _ _ | with_reducible refine below_alloc ?_ _ ?_ | with_reducible refine Below.setCell ?_ ?_ _ | with_reducible refine Below.drew ?_ | with_reducible refine below_drewN ?_ _ | with_reducible refine below_step ?_ (by assumption) ?_ | with_reducible refine below_mark ?_ (by assumption) ?_)); all_goals (first | omega | (simp; done) | (simp; omega)))⟩
              have s3 := ba_yes e3
              have HX := Lib.hid (HX1.out (by rw [HKQ.out]; exact decide_eq_true ⟨e1, e2, e3⟩))
              clear e1 e2 e3 HX1 HX2
              go_wp2_with fail
              go_quiet (fail)
              all_goals go_wp2_with fail
              all_goals go_ret
              all_goals exact ⟨by rw [HX.out]; rfl, (by (repeat' (first | with_reducible exact Below.refl _ _ | with_reducible refine below_alloc ?_ _ ?_ | with_reducible refine Below.setCell ?_ ?_ _ | with_reducible refine Below.drew ?_ | with_reducible refine below_drewN ?_ _ | with_reducible refine below_step ?_ (by assumption) ?_ | with_reducible refine below_mark ?_ (by assumption) ?_)); all_goals (first | omega | (simp; done) | (simp; omega)))⟩
            · have HX := Lib.hid (show keysB keqB (evV (ts.take (j + 2))) = true by
                rw [HS.out, HN.out, Bool.true_and, Bool.true_and, List.all_eq_true]
                intro y hy
                obtain ⟨x, hx, hxj, hx2, rfl⟩ := (mem_evV_take ts j hj2 y).1 hy
                simp [HNE.out x (by omega) hx hx2])
              clear HST HS HNE
              go_wp2_with fail
              go_roundw
              case rel => exact ⟨j + 2, by omega, by omega, by go_num, HX, hbl⟩
              case measure => simp [intOf]; omega
    · have HX := Lib.hid (show b = (decide (ts.length % 2 = 0) && decide (ts.length ≤ 300)) by
        rw [HB.out]
        have h1 := HN.out
        rw [List.take_of_length_le (by omega)] at h1
        rw [h1]; simp)
      by_cases h2 : ts.length % 2 = 0
      · have t1 : ((ts.length : Int) % 2 == 0) = true := by simp; omega
        have H := Lib.hid (show b = decide ((ts.length : Int) ≤ 300) by rw [HX.out, decide_eq_true h2, Bool.true_and, decide_eq_decide]; omega)
        go_wp2_with fail
        go_ret
        exact ⟨by rw [H.out]; rfl, hbl⟩
      · have t1 : ((ts.length : Int) % 2 == 0) = false := by simp; omega
        have H := Lib.hid (show b = false by rw [HX.out, decide_eq_false h2]; rfl)
        go_wp2_with fail
        go_ret
        exact ⟨by rw [H.out]; rfl, hbl⟩
set_option maxHeartbeats 1000000 in
theorem nodes_any (w0 : World) : ∀ (N : Nat) (v : Value) (ts : List V), szs ts ≤ N → RepS w0 v ts → szs ts ≤ 1048576 → ∀ (u : V), u.kids = ts → ∀ (w : World), Below w0.heap.size w0 w →
    Calls Tryd.prog 95 #[u.agg v] w fun e w' => e = .returned (.int .i64 (u.nodes : Nat)) ∧ Below w.heap.size w w' := by
  intro N
  induction N using Nat.strongRecOn with
  | ind N ih =>
  intro v ts hN hrep hsz u huk w hw
  obtain ⟨a, b, off, cap, rfl, ha, hc, hm, sls, hel⟩ := hrep.opened
  have hlen : ts.length ≤ 1048576 := Nat.le_trans (szs_length ts) hsz
  have HP := Lib.hid (show u.nodes = 1 + nodess ts by rw [V.nodes_eq, huk])
  have IH := Lib.hid (show ∀ i (hi : i < ts.length) (w : World), Below w0.heap.size w0 w → Calls Tryd.prog 95 #[ts[i].agg (sls i)] w fun e w' => e = .returned (.int .i64 (ts[i].nodes : Nat)) ∧ Below w.heap.size w w' from
    fun i hi w h7 => by
      have q1 := szs_mem (List.getElem_mem hi); have q2 := V.sz_eq ts[i]
      exact ih (szs ts[i].kids) (by omega) (sls i) ts[i].kids (Nat.le_refl _) (hel i hi).2.2 (by omega) ts[i] rfl w h7)
  have HA := Lib.hid ha; have HE := Lib.hid hel
  have HSZ := Lib.hid hsz
  clear ih ha hel hc hm hrep hsz huk hN
  unfold V.agg
  generalize u.nodes = un at *
  generalize u.k = vk at *
  generalize u.n = vn at *
  generalize u.e = ve at *
  generalize u.s = vs at *
  have B0 := Lib.hid (Box.new w vk vn ve vs (.slice a ts.length cap) 26)
  go_enter Tryd.func95, Tryd.ntmps95
  go_wp2_with fail
  generalize hW1 : w.alloc (.cells #[.int .i64 vk, .int .i64 vn, .int .i64 ve, .string vs, .slice a ts.length cap] 26) = W1 at *
  have HB1 := Lib.hid (show Below w.heap.size w W1 by rw [← hW1]; exact (Below.refl _ _).alloc (Nat.le_refl _) _)
  have HZ1 := Lib.hid (show w.heap.size + 1 = W1.heap.size by rw [← hW1]; simp)
  clear hW1
  go_loopw [3, 4] (fun c i wr => ∃ (k : Nat) (q : Int), k ≤ ts.length ∧ i = .int .i64 k ∧ c = .int .i64 q ∧ 0 ≤ q ∧ q ≤ 4194304 ∧ Hid (q = (1 + nodess (ts.take k) : Nat)) ∧ Below W1.heap.size W1 wr) (fun _ i _ => ts.length - (intOf i).toNat)
  case atStart => exact ⟨0, 1, by omega, rfl, rfl, by omega, by omega, Lib.hid rfl, Below.refl _ _⟩
  case round =>
    obtain ⟨k, q, hk, rfl, rfl, hq0, hq1, HQ, hbl⟩ := hrel
    obtain ⟨p0, p1, p2, p3, p4⟩ := (B0.out.stay hbl).cells
    by_cases hlt : k < ts.length
    · have hne : ts ≠ [] := by intro e; rw [e] at hlt; simp at hlt
      obtain ⟨rfl, hbw⟩ := HA.out hne
      have HWR := Lib.hid (show Below w0.heap.size w0 wr from hw.trans ((HB1.out.mono hw.size).trans (hbl.mono (by have := hw.size; have := HZ1.out; omega))))
      obtain ⟨c0, c1, c2, c3, c4⟩ := (HE.out k hlt).1.keep (HWR.out.block b hbw)
      obtain ⟨ak, kcap, hks⟩ := (HE.out k hlt).2.2.slice
      have N1 := Lib.hid (fun (W : World) (hW : Below wr.heap.size wr W) => IH.out k hlt W (HWR.out.trans (hW.mono HWR.out.size)))
      rw [hks] at c4 N1
      have HT := Lib.hid (show q + (ts[k].nodes : Nat) = (1 + nodess (ts.take (k + 1)) : Nat) by
        rw [HQ.out, List.take_succ_eq_append_getElem hlt, nodess_append]; simp [nodess]; omega)
      have hqb : q + (ts[k].nodes : Nat) ≤ 4194304 := by
        rw [HT.out]
        have h1 := nodess_sz (ts.take (k + 1)); have h2 := szs_append (ts.take (k + 1)) (ts.drop (k + 1)); rw [List.take_append_drop] at h2; have := HSZ.out; omega
      unfold V.agg at N1
      clear hks
      generalize ts[k].nodes = nn at *
      generalize ts[k].k = xk at *
      generalize ts[k].n = xn at *
      generalize ts[k].e = xe at *
      generalize ts[k].s = xs at *
      go_wp2_with fail
      refine (N1.out _ (by (repeat' (first | with_reducible exact Below.refl _ _ | with_reducible refine below_alloc ?_ _ ?_ | with_reducible refine Below.setCell ?_ ?_ _ | with_reducible refine Below.drew ?_ | with_reducible refine below_drewN ?_ _ | with_reducible refine below_step ?_ (by assumption) ?_ | with_reducible refine below_mark ?_ (by assumption) ?_)); all_goals (first | omega | (simp; done) | (simp; omega)))).mono ?_
      rintro e1 w1 ⟨rfl, hb1⟩
      go_wp2_with fail
      go_roundw
      case rel => exact ⟨k + 1, q + nn, by omega, by go_num, rfl, by omega, hqb, HT, (by (repeat' (first | with_reducible exact Below.refl _ _ | with_reducible refine below_alloc ?_ _ ?_ | with_reducible refine Below.setCell ?_ ?_ _ | with_reducible refine Below.drew ?_ | with_reducible refine below_drewN ?_ _ | with_reducible refine below_step ?_ (by assumption) ?_ | with_reducible refine below_mark ?_ (by assumption) ?_)); all_goals (first | omega | (simp; done) | (simp; omega)))⟩
      case measure => simp [intOf]; omega
    · have H := Lib.hid (show (un : Int) = q by rw [HQ.out, HP.out, List.take_of_length_le (by omega)])
      go_wp2_with fail
      go_ret
      exact ⟨by rw [H.out]; rfl, HB1.out.trans (hbl.mono (by have := HZ1.out; omega))⟩
end Go.Proofs.YtgbgeocmjdgmoaaDoor
namespace Go.Proofs.YtgbgeocmjdgmoaaDoor
set_option linter.unusedSimpArgs false
set_option linter.unusedVariables false
set_option maxRecDepth 100000
open Go.RowKit
theorem str_ne {s : ByteArray} (h : ¬ s.size = 0) : (s.toList = [] ↔ False) ∧ s.toList.isEmpty = false ∧ (s.toList == []) = false := by
  have h1 : s.toList ≠ [] := fun e => h (by have := congrArg List.length e; rw [ByteArray.toList_eq] at this; simpa using this)
  refine ⟨⟨h1, False.elim⟩, ?_, ?_⟩
  · rcases h2 : s.toList with _ | ⟨x, l⟩
    · exact absurd h2 h1
    · rfl
  · rcases h2 : s.toList with _ | ⟨x, l⟩
    · exact absurd h2 h1
    · rfl
def NodeRet (b : Bool) (w : World) (e : Ending) (w' : World) : Prop := e = .returned (.bool b) ∧ Below w.heap.size w w'

set_option maxHeartbeats 1000000 in
theorem node_a (k n e : Int) (s : ByteArray) (sl : Value) (w : World) (hk : k = 0 ∨ k = 1 ∨ k = 2 ∨ k = 7 ∨ k = 8) : Calls Tryd.prog 154 #[.agg #[.int .i64 k, .int .i64 n, .int .i64 e, .string s, sl]] w (NodeRet (decide (n = 0 ∧ e = 0 ∧ s.size = 0)) w) := by
  by_cases hn : n = 0
  case neg =>
    have t1 : (n == 0) = false := by simpa using hn
    rw [decide_eq_false (fun h => hn h.1)]
    clear hn
    rcases hk with rfl | rfl | rfl | rfl | rfl
    all_goals
      go_enter Tryd.func154, Tryd.ntmps154
      go_wp2_with fail
      go_ret
      exact ⟨rfl, (by (repeat' (first | with_reducible exact Below.refl _ _ | with_reducible refine below_alloc ?_ _ ?_ | with_reducible refine Below.setCell ?_ ?_ _ | with_reducible refine Below.drew ?_ | with_reducible refine below_drewN ?_ _ | with_reducible refine below_step ?_ (by assumption) ?_ | with_reducible refine below_mark ?_ (by assumption) ?_)); all_goals (first | omega | (simp; done) | (simp; omega)))⟩
  by_cases he : e = 0
  case neg =>
    have t2 : (e == 0) = false := by simpa using he
    rw [decide_eq_false (fun h => he h.2.1)]
    clear he
    subst hn
    rcases hk with rfl | rfl | rfl | rfl | rfl
    all_goals
      go_enter Tryd.func154, Tryd.ntmps154
      go_wp2_with fail
      go_ret
      exact ⟨rfl, (by (repeat' (first | with_reducible exact Below.refl _ _ | with_reducible refine below_alloc ?_ _ ?_ | with_reducible refine Below.setCell ?_ ?_ _ | with_reducible refine Below.drew ?_ | with_reducible refine below_drewN ?_ _ | with_reducible refine below_step ?_ (by assumption) ?_ | with_reducible refine below_mark ?_ (by assumption) ?_)); all_goals (first | omega | (simp; done) | (simp; omega)))⟩
  by_cases hs : s.size = 0
  case neg =>
    obtain ⟨s1, s2, s3⟩ := str_ne hs
    rw [decide_eq_false (fun h => hs h.2.2)]
    clear hs
    subst hn
    subst he
    rcases hk with rfl | rfl | rfl | rfl | rfl
    all_goals
      go_enter Tryd.func154, Tryd.ntmps154
      go_wp2_with fail
      go_ret
      exact ⟨rfl, (by (repeat' (first | with_reducible exact Below.refl _ _ | with_reducible refine below_alloc ?_ _ ?_ | with_reducible refine Below.setCell ?_ ?_ _ | with_reducible refine Below.drew ?_ | with_reducible refine below_drewN ?_ _ | with_reducible refine below_step ?_ (by assumption) ?_ | with_reducible refine below_mark ?_ (by assumption) ?_)); all_goals (first | omega | (simp; done) | (simp; omega)))⟩
  obtain rfl := ba_empty hs
  subst hn
  subst he
  rw [decide_eq_true ⟨rfl, rfl, rfl⟩]
  rcases hk with rfl | rfl | rfl | rfl | rfl
  all_goals
    go_enter Tryd.func154, Tryd.ntmps154
    go_wp2_with fail
    go_ret
    exact ⟨rfl, (by (repeat' (first | with_reducible exact Below.refl _ _ | with_reducible refine below_alloc ?_ _ ?_ | with_reducible refine Below.setCell ?_ ?_ _ | with_reducible refine Below.drew ?_ | with_reducible refine below_drewN ?_ _ | with_reducible refine below_step ?_ (by assumption) ?_ | with_reducible refine below_mark ?_ (by assumption) ?_)); all_goals (first | omega | (simp; done) | (simp; omega)))⟩

set_option maxHeartbeats 1000000 in
theorem node_b (k n e : Int) (s : ByteArray) (sl : Value) (w : World) (hk : k = 3) : Calls Tryd.prog 154 #[.agg #[.int .i64 k, .int .i64 n, .int .i64 e, .string s, sl]] w (NodeRet (decide (e = 0 ∧ s.size = 0)) w) := by
  by_cases he : e = 0
  case neg =>
    have t2 : (e == 0) = false := by simpa using he
    rw [decide_eq_false (fun h => he h.1)]
    clear he
    rcases hk with rfl
    all_goals
      go_enter Tryd.func154, Tryd.ntmps154
      go_wp2_with fail
      go_ret
      exact ⟨rfl, (by (repeat' (first | with_reducible exact Below.refl _ _ | with_reducible refine below_alloc ?_ _ ?_ | with_reducible refine Below.setCell ?_ ?_ _ | with_reducible refine Below.drew ?_ | with_reducible refine below_drewN ?_ _ | with_reducible refine below_step ?_ (by assumption) ?_ | with_reducible refine below_mark ?_ (by assumption) ?_)); all_goals (first | omega | (simp; done) | (simp; omega)))⟩
  by_cases hs : s.size = 0
  case neg =>
    obtain ⟨s1, s2, s3⟩ := str_ne hs
    rw [decide_eq_false (fun h => hs h.2)]
    clear hs
    subst he
    rcases hk with rfl
    all_goals
      go_enter Tryd.func154, Tryd.ntmps154
      go_wp2_with fail
      go_ret
      exact ⟨rfl, (by (repeat' (first | with_reducible exact Below.refl _ _ | with_reducible refine below_alloc ?_ _ ?_ | with_reducible refine Below.setCell ?_ ?_ _ | with_reducible refine Below.drew ?_ | with_reducible refine below_drewN ?_ _ | with_reducible refine below_step ?_ (by assumption) ?_ | with_reducible refine below_mark ?_ (by assumption) ?_)); all_goals (first | omega | (simp; done) | (simp; omega)))⟩
  obtain rfl := ba_empty hs
  subst he
  rw [decide_eq_true ⟨rfl, rfl⟩]
  rcases hk with rfl
  all_goals
    go_enter Tryd.func154, Tryd.ntmps154
    go_wp2_with fail
    go_ret
    exact ⟨rfl, (by (repeat' (first | with_reducible exact Below.refl _ _ | with_reducible refine below_alloc ?_ _ ?_ | with_reducible refine Below.setCell ?_ ?_ _ | with_reducible refine Below.drew ?_ | with_reducible refine below_drewN ?_ _ | with_reducible refine below_step ?_ (by assumption) ?_ | with_reducible refine below_mark ?_ (by assumption) ?_)); all_goals (first | omega | (simp; done) | (simp; omega)))⟩

set_option maxHeartbeats 1000000 in
theorem node_c (n e : Int) (s : ByteArray) (sl : Value) (w : World) (hn : In64 n) (he : In64 e) : Calls Tryd.prog 154 #[.agg #[.int .i64 4, .int .i64 n, .int .i64 e, .string s, sl]] w (NodeRet (decOk n e && decide (s.size = 0)) w) := by
  have DC := Lib.hid (fun W => isDec_any 4 n e s sl hn he W)
  have B0 := Lib.hid (Box.new w 4 n e s sl 26)
  cases hd : decOk n e
  case false =>
    rw [hd] at DC
    rw [Bool.false_and]
    clear hd
    go_enter Tryd.func154, Tryd.ntmps154
    go_wp2_with fail
    refine (DC.out _).mono ?_
    rintro x w1 ⟨rfl, hb1⟩
    go_wp2_with fail
    go_ret
    exact ⟨rfl, (by (repeat' (first | with_reducible exact Below.refl _ _ | with_reducible refine below_alloc ?_ _ ?_ | with_reducible refine Below.setCell ?_ ?_ _ | with_reducible refine Below.drew ?_ | with_reducible refine below_drewN ?_ _ | with_reducible refine below_step ?_ (by assumption) ?_ | with_reducible refine below_mark ?_ (by assumption) ?_)); all_goals (first | omega | (simp; done) | (simp; omega)))⟩
  case true =>
    rw [hd] at DC
    rw [Bool.true_and]
    clear hd
    have P0 := Lib.hid (Box.new (w.alloc (.cells #[.int .i64 4, .int .i64 n, .int .i64 e, .string s, sl] 26)) 4 0 0 ⟨#[]⟩ (.slice none 0 0) 26)
    rw [show (w.alloc (.cells #[.int .i64 4, .int .i64 n, .int .i64 e, .string s, sl] 26)).heap.size = w.heap.size + 1 by simp] at P0
    have hss : ∃ b : Bool, b = decide (s.size = 0) := ⟨_, rfl⟩
    obtain ⟨b, hb⟩ := hss
    rw [← hb]
    have HB := Lib.hid hb; clear hb
    have t1 : (n == n) = true := by simp
    have t2 : (e == e) = true := by simp
    by_cases hs : s.size = 0
    case neg =>
      have H := Lib.hid (show b = false by rw [HB.out, decide_eq_false hs])
      obtain ⟨s1, s2, s3⟩ := str_ne hs
      clear hs
      go_enter Tryd.func154, Tryd.ntmps154
      go_wp2_with fail
      refine (DC.out _).mono ?_
      rintro x w1 ⟨rfl, hb1⟩
      have hz1 := hb1.size
      simp at hz1
      obtain ⟨p0, p1, p2, p3, p4⟩ := ((B0.out.alloc _).stay hb1).cells
      have PX := Lib.hid (P0.out.stay hb1)
      obtain ⟨q0, q1, q2, q3, q4⟩ := PX.out.cells
      have f0 : ∀ o, w1.frozen? ⟨w.heap.size + 1, o, none⟩ = false := fun o => frozen_of_row w1 _ o _ _ PX.out
      go_wp2_with fail
      go_region
      all_goals go_wp2_with fail
      all_goals go_ret
      all_goals exact ⟨by rw [H.out]; rfl, (by (repeat' (first | with_reducible exact Below.refl _ _ | with_reducible refine below_alloc ?_ _ ?_ | with_reducible refine Below.setCell ?_ ?_ _ | with_reducible refine Below.drew ?_ | with_reducible refine below_drewN ?_ _ | with_reducible refine below_step ?_ (by assumption) ?_ | with_reducible refine below_mark ?_ (by assumption) ?_)); all_goals (first | omega | (simp; done) | (simp; omega)))⟩
    case pos =>
      have H := Lib.hid (show b = true by rw [HB.out, decide_eq_true hs])
      obtain rfl := ba_empty hs
      clear hs
      go_enter Tryd.func154, Tryd.ntmps154
      go_wp2_with fail
      refine (DC.out _).mono ?_
      rintro x w1 ⟨rfl, hb1⟩
      have hz1 := hb1.size
      simp at hz1
      obtain ⟨p0, p1, p2, p3, p4⟩ := ((B0.out.alloc _).stay hb1).cells
      have PX := Lib.hid (P0.out.stay hb1)
      obtain ⟨q0, q1, q2, q3, q4⟩ := PX.out.cells
      have f0 : ∀ o, w1.frozen? ⟨w.heap.size + 1, o, none⟩ = false := fun o => frozen_of_row w1 _ o _ _ PX.out
      go_wp2_with fail
      go_region
      all_goals go_wp2_with fail
      all_goals go_ret
      all_goals exact ⟨by rw [H.out]; rfl, (by (repeat' (first | with_reducible exact Below.refl _ _ | with_reducible refine below_alloc ?_ _ ?_ | with_reducible refine Below.setCell ?_ ?_ _ | with_reducible refine Below.drew ?_ | with_reducible refine below_drewN ?_ _ | with_reducible refine below_step ?_ (by assumption) ?_ | with_reducible refine below_mark ?_ (by assumption) ?_)); all_goals (first | omega | (simp; done) | (simp; omega)))⟩

set_option maxHeartbeats 2000000 in
theorem node_d (n e : Int) (s : ByteArray) (sl : Value) (w : World) (hsz : s.size ≤ 9223372036854775807) (hE : Env w) : Calls Tryd.prog 154 #[.agg #[.int .i64 5, .int .i64 n, .int .i64 e, .string s, sl]] w (NodeRet (decide (n = 0 ∧ e = 0 ∧ s.size ≤ 2000) && txt s) w) := by
  have TX := Lib.hid (fun W (hW : Below w.heap.size w W) => textOk_impl s W hsz (hE.keep hW))
  clear hE
  have B0 := Lib.hid (Box.new w 5 n e s sl 26)
  have P0 := Lib.hid (Box.new (w.alloc (.cells #[.int .i64 5, .int .i64 n, .int .i64 e, .string s, sl] 26)) 5 0 0 ⟨#[]⟩ (.slice none 0 0) 26)
  rw [show (w.alloc (.cells #[.int .i64 5, .int .i64 n, .int .i64 e, .string s, sl] 26)).heap.size = w.heap.size + 1 by simp] at P0
  have ts := ba_yes (rfl : s = s)
  obtain ⟨b, hb⟩ : ∃ b : Bool, b = (decide (n = 0 ∧ e = 0 ∧ s.size ≤ 2000) && txt s) := ⟨_, rfl⟩
  rw [← hb]
  have HB := Lib.hid hb; clear hb
  by_cases h1 : s.size ≤ 2000
  case neg =>
    have H := Lib.hid (show b = false by rw [HB.out, decide_eq_false (fun h => h1 h.2.2)]; rfl)
    have h2 : (2000 : Int) < s.size := by omega
    clear h1 HB TX
    go_enter Tryd.func154, Tryd.ntmps154
    go_wp2_with fail
    go_ret
    exact ⟨by rw [H.out]; rfl, (by (repeat' (first | with_reducible exact Below.refl _ _ | with_reducible refine below_alloc ?_ _ ?_ | with_reducible refine Below.setCell ?_ ?_ _ | with_reducible refine Below.drew ?_ | with_reducible refine below_drewN ?_ _ | with_reducible refine below_step ?_ (by assumption) ?_ | with_reducible refine below_mark ?_ (by assumption) ?_)); all_goals (first | omega | (simp; done) | (simp; omega)))⟩
  have h2 : ¬ (2000 : Int) < s.size := by omega
  cases ht : txt s
  case false =>
    rw [ht] at TX HB
    have H := Lib.hid (show b = false by rw [HB.out]; simp)
    clear h1 HB ht
    go_enter Tryd.func154, Tryd.ntmps154
    go_wp2_with fail
    refine (TX.out _ (by (repeat' (first | with_reducible exact Below.refl _ _ | with_reducible refine below_alloc ?_ _ ?_ | with_reducible refine Below.setCell ?_ ?_ _ | with_reducible refine Below.drew ?_ | with_reducible refine below_drewN ?_ _ | with_reducible refine below_step ?_ (by assumption) ?_ | with_reducible refine below_mark ?_ (by assumption) ?_)); all_goals (first | omega | (simp; done) | (simp; omega)))).mono ?_
    rintro x0 w1 ⟨rfl, hb1⟩
    have hz1 := hb1.size
    simp at hz1
    obtain ⟨p0, p1, p2, p3, p4⟩ := ((B0.out.alloc _).stay hb1).cells
    have PX := Lib.hid (P0.out.stay hb1)
    obtain ⟨q0, q1, q2, q3, q4⟩ := PX.out.cells
    have f0 : ∀ o, w1.frozen? ⟨w.heap.size + 1, o, none⟩ = false := fun o => frozen_of_row w1 _ o _ _ PX.out
    go_wp2_with fail
    go_ret
    exact ⟨by rw [H.out]; rfl, (by (repeat' (first | with_reducible exact Below.refl _ _ | with_reducible refine below_alloc ?_ _ ?_ | with_reducible refine Below.setCell ?_ ?_ _ | with_reducible refine Below.drew ?_ | with_reducible refine below_drewN ?_ _ | with_reducible refine below_step ?_ (by assumption) ?_ | with_reducible refine below_mark ?_ (by assumption) ?_)); all_goals (first | omega | (simp; done) | (simp; omega)))⟩
  case true =>
    rw [ht] at TX HB
    clear ht
    by_cases hn : n = 0
    case neg =>
      have H := Lib.hid (show b = false by rw [HB.out]; simp [hn])
      have t1 : (n == 0) = false := by simpa using hn
      clear h1 HB hn
      go_enter Tryd.func154, Tryd.ntmps154
      go_wp2_with fail
      refine (TX.out _ (by (repeat' (first | with_reducible exact Below.refl _ _ | with_reducible refine below_alloc ?_ _ ?_ | with_reducible refine Below.setCell ?_ ?_ _ | with_reducible refine Below.drew ?_ | with_reducible refine below_drewN ?_ _ | with_reducible refine below_step ?_ (by assumption) ?_ | with_reducible refine below_mark ?_ (by assumption) ?_)); all_goals (first | omega | (simp; done) | (simp; omega)))).mono ?_
      rintro x0 w1 ⟨rfl, hb1⟩
      have hz1 := hb1.size
      simp at hz1
      obtain ⟨p0, p1, p2, p3, p4⟩ := ((B0.out.alloc _).stay hb1).cells
      have PX := Lib.hid (P0.out.stay hb1)
      obtain ⟨q0, q1, q2, q3, q4⟩ := PX.out.cells
      have f0 : ∀ o, w1.frozen? ⟨w.heap.size + 1, o, none⟩ = false := fun o => frozen_of_row w1 _ o _ _ PX.out
      go_wp2_with fail
      go_ret
      exact ⟨by rw [H.out]; rfl, (by (repeat' (first | with_reducible exact Below.refl _ _ | with_reducible refine below_alloc ?_ _ ?_ | with_reducible refine Below.setCell ?_ ?_ _ | with_reducible refine Below.drew ?_ | with_reducible refine below_drewN ?_ _ | with_reducible refine below_step ?_ (by assumption) ?_ | with_reducible refine below_mark ?_ (by assumption) ?_)); all_goals (first | omega | (simp; done) | (simp; omega)))⟩
    by_cases he : e = 0
    case neg =>
      have H := Lib.hid (show b = false by rw [HB.out]; simp [he])
      have t2 : (e == 0) = false := by simpa using he
      subst hn
      clear h1 HB he
      go_enter Tryd.func154, Tryd.ntmps154
      go_wp2_with fail
      refine (TX.out _ (by (repeat' (first | with_reducible exact Below.refl _ _ | with_reducible refine below_alloc ?_ _ ?_ | with_reducible refine Below.setCell ?_ ?_ _ | with_reducible refine Below.drew ?_ | with_reducible refine below_drewN ?_ _ | with_reducible refine below_step ?_ (by assumption) ?_ | with_reducible refine below_mark ?_ (by assumption) ?_)); all_goals (first | omega | (simp; done) | (simp; omega)))).mono ?_
      rintro x0 w1 ⟨rfl, hb1⟩
      have hz1 := hb1.size
      simp at hz1
      obtain ⟨p0, p1, p2, p3, p4⟩ := ((B0.out.alloc _).stay hb1).cells
      have PX := Lib.hid (P0.out.stay hb1)
      obtain ⟨q0, q1, q2, q3, q4⟩ := PX.out.cells
      have f0 : ∀ o, w1.frozen? ⟨w.heap.size + 1, o, none⟩ = false := fun o => frozen_of_row w1 _ o _ _ PX.out
      go_wp2_with fail
      go_ret
      exact ⟨by rw [H.out]; rfl, (by (repeat' (first | with_reducible exact Below.refl _ _ | with_reducible refine below_alloc ?_ _ ?_ | with_reducible refine Below.setCell ?_ ?_ _ | with_reducible refine Below.drew ?_ | with_reducible refine below_drewN ?_ _ | with_reducible refine below_step ?_ (by assumption) ?_ | with_reducible refine below_mark ?_ (by assumption) ?_)); all_goals (first | omega | (simp; done) | (simp; omega)))⟩
    have H := Lib.hid (show b = true by rw [HB.out]; simp [hn, he, h1])
    subst hn
    subst he
    clear h1 HB
    go_enter Tryd.func154, Tryd.ntmps154
    go_wp2_with fail
    refine (TX.out _ (by (repeat' (first | with_reducible exact Below.refl _ _ | with_reducible refine below_alloc ?_ _ ?_ | with_reducible refine Below.setCell ?_ ?_ _ | with_reducible refine Below.drew ?_ | with_reducible refine below_drewN ?_ _ | with_reducible refine below_step ?_ (by assumption) ?_ | with_reducible refine below_mark ?_ (by assumption) ?_)); all_goals (first | omega | (simp; done) | (simp; omega)))).mono ?_
    rintro x0 w1 ⟨rfl, hb1⟩
    have hz1 := hb1.size
    simp at hz1
    obtain ⟨p0, p1, p2, p3, p4⟩ := ((B0.out.alloc _).stay hb1).cells
    have PX := Lib.hid (P0.out.stay hb1)
    obtain ⟨q0, q1, q2, q3, q4⟩ := PX.out.cells
    have f0 : ∀ o, w1.frozen? ⟨w.heap.size + 1, o, none⟩ = false := fun o => frozen_of_row w1 _ o _ _ PX.out
    go_wp2_with fail
    go_ret
    exact ⟨by rw [H.out]; rfl, (by (repeat' (first | with_reducible exact Below.refl _ _ | with_reducible refine below_alloc ?_ _ ?_ | with_reducible refine Below.setCell ?_ ?_ _ | with_reducible refine Below.drew ?_ | with_reducible refine below_drewN ?_ _ | with_reducible refine below_step ?_ (by assumption) ?_ | with_reducible refine below_mark ?_ (by assumption) ?_)); all_goals (first | omega | (simp; done) | (simp; omega)))⟩

set_option maxHeartbeats 2000000 in
theorem node_e (n e : Int) (s : ByteArray) (sl : Value) (w : World) (hsz : s.size ≤ 9223372036854775807) : Calls Tryd.prog 154 #[.agg #[.int .i64 6, .int .i64 n, .int .i64 e, .string s, sl]] w (NodeRet (decide (n = 0 ∧ e = 0 ∧ s.size ≤ 2000)) w) := by
  have B0 := Lib.hid (Box.new w 6 n e s sl 26)
  have P0 := Lib.hid (Box.new (w.alloc (.cells #[.int .i64 6, .int .i64 n, .int .i64 e, .string s, sl] 26)) 6 0 0 ⟨#[]⟩ (.slice none 0 0) 26)
  rw [show (w.alloc (.cells #[.int .i64 6, .int .i64 n, .int .i64 e, .string s, sl] 26)).heap.size = w.heap.size + 1 by simp] at P0
  have ts := ba_yes (rfl : s = s)
  obtain ⟨b, hb⟩ : ∃ b : Bool, b = decide (n = 0 ∧ e = 0 ∧ s.size ≤ 2000) := ⟨_, rfl⟩
  rw [← hb]
  have HB := Lib.hid hb; clear hb
  by_cases h1 : s.size ≤ 2000
  case neg =>
    have H := Lib.hid (show b = false by rw [HB.out, decide_eq_false (fun h => h1 h.2.2)])
    have h2 : (2000 : Int) < s.size := by omega
    clear h1 HB
    go_enter Tryd.func154, Tryd.ntmps154
    go_wp2_with fail
    go_ret
    exact ⟨by rw [H.out]; rfl, (by (repeat' (first | with_reducible exact Below.refl _ _ | with_reducible refine below_alloc ?_ _ ?_ | with_reducible refine Below.setCell ?_ ?_ _ | with_reducible refine Below.drew ?_ | with_reducible refine below_drewN ?_ _ | with_reducible refine below_step ?_ (by assumption) ?_ | with_reducible refine below_mark ?_ (by assumption) ?_)); all_goals (first | omega | (simp; done) | (simp; omega)))⟩
  have h2 : ¬ (2000 : Int) < s.size := by omega
  by_cases hn : n = 0
  case neg =>
    have H := Lib.hid (show b = false by rw [HB.out]; simp [hn])
    have t1 : (n == 0) = false := by simpa using hn
    clear h1 HB hn
    go_enter Tryd.func154, Tryd.ntmps154
    go_wp2_with fail
    go_ret
    exact ⟨by rw [H.out]; rfl, (by (repeat' (first | with_reducible exact Below.refl _ _ | with_reducible refine below_alloc ?_ _ ?_ | with_reducible refine Below.setCell ?_ ?_ _ | with_reducible refine Below.drew ?_ | with_reducible refine below_drewN ?_ _ | with_reducible refine below_step ?_ (by assumption) ?_ | with_reducible refine below_mark ?_ (by assumption) ?_)); all_goals (first | omega | (simp; done) | (simp; omega)))⟩
  by_cases he : e = 0
  case neg =>
    have H := Lib.hid (show b = false by rw [HB.out]; simp [he])
    have t2 : (e == 0) = false := by simpa using he
    subst hn
    clear h1 HB he
    go_enter Tryd.func154, Tryd.ntmps154
    go_wp2_with fail
    go_ret
    exact ⟨by rw [H.out]; rfl, (by (repeat' (first | with_reducible exact Below.refl _ _ | with_reducible refine below_alloc ?_ _ ?_ | with_reducible refine Below.setCell ?_ ?_ _ | with_reducible refine Below.drew ?_ | with_reducible refine below_drewN ?_ _ | with_reducible refine below_step ?_ (by assumption) ?_ | with_reducible refine below_mark ?_ (by assumption) ?_)); all_goals (first | omega | (simp; done) | (simp; omega)))⟩
  have H := Lib.hid (show b = true by rw [HB.out]; simp [hn, he, h1])
  subst hn
  subst he
  clear h1 HB
  go_enter Tryd.func154, Tryd.ntmps154
  go_wp2_with fail
  go_ret
  exact ⟨by rw [H.out]; rfl, (by (repeat' (first | with_reducible exact Below.refl _ _ | with_reducible refine below_alloc ?_ _ ?_ | with_reducible refine Below.setCell ?_ ?_ _ | with_reducible refine Below.drew ?_ | with_reducible refine below_drewN ?_ _ | with_reducible refine below_step ?_ (by assumption) ?_ | with_reducible refine below_mark ?_ (by assumption) ?_)); all_goals (first | omega | (simp; done) | (simp; omega)))⟩

set_option maxHeartbeats 2000000 in
theorem node_f (n e : Int) (s : ByteArray) (sl : Value) (w : World) : Calls Tryd.prog 154 #[.agg #[.int .i64 9, .int .i64 n, .int .i64 e, .string s, sl]] w (NodeRet (decide (0 ≤ n ∧ n ≤ 1000000 ∧ e = 0 ∧ s.size = 0)) w) := by
  obtain ⟨b, hb⟩ : ∃ b : Bool, b = decide (0 ≤ n ∧ n ≤ 1000000 ∧ e = 0 ∧ s.size = 0) := ⟨_, rfl⟩
  rw [← hb]
  have HB := Lib.hid hb; clear hb
  have tn : (n == n) = true := by simp
  by_cases h1 : 0 ≤ n ∧ n ≤ 1000000
  case neg =>
    have H := Lib.hid (show b = false by rw [HB.out, decide_eq_false (fun h => h1 ⟨h.1, h.2.1⟩)])
    have W1 := Lib.hid (fun W => within_no n 0 1000000 W (by omega))
    clear h1 HB
    go_enter Tryd.func154, Tryd.ntmps154
    go_wp2_with fail
    refine (W1.out _).mono ?_
    rintro x0 w1 ⟨rfl, rfl⟩
    go_wp2_with fail
    go_ret
    exact ⟨by rw [H.out]; rfl, (by (repeat' (first | with_reducible exact Below.refl _ _ | with_reducible refine below_alloc ?_ _ ?_ | with_reducible refine Below.setCell ?_ ?_ _ | with_reducible refine Below.drew ?_ | with_reducible refine below_drewN ?_ _ | with_reducible refine below_step ?_ (by assumption) ?_ | with_reducible refine below_mark ?_ (by assumption) ?_)); all_goals (first | omega | (simp; done) | (simp; omega)))⟩
  have W1 := Lib.hid (fun W => within_yes n 0 1000000 W h1.1 h1.2)
  by_cases he : e = 0
  case neg =>
    have H := Lib.hid (show b = false by rw [HB.out, decide_eq_false (fun h => he h.2.2.1)])
    have t2 : (e == 0) = false := by simpa using he
    clear h1 HB he
    go_enter Tryd.func154, Tryd.ntmps154
    go_wp2_with fail
    refine (W1.out _).mono ?_
    rintro x0 w1 ⟨rfl, rfl⟩
    go_wp2_with fail
    go_ret
    exact ⟨by rw [H.out]; rfl, (by (repeat' (first | with_reducible exact Below.refl _ _ | with_reducible refine below_alloc ?_ _ ?_ | with_reducible refine Below.setCell ?_ ?_ _ | with_reducible refine Below.drew ?_ | with_reducible refine below_drewN ?_ _ | with_reducible refine below_step ?_ (by assumption) ?_ | with_reducible refine below_mark ?_ (by assumption) ?_)); all_goals (first | omega | (simp; done) | (simp; omega)))⟩
  by_cases hs : s.size = 0
  case neg =>
    have H := Lib.hid (show b = false by rw [HB.out, decide_eq_false (fun h => hs h.2.2.2)])
    obtain ⟨s1, s2, s3⟩ := str_ne hs
    subst he
    clear h1 HB hs
    go_enter Tryd.func154, Tryd.ntmps154
    go_wp2_with fail
    refine (W1.out _).mono ?_
    rintro x0 w1 ⟨rfl, rfl⟩
    go_wp2_with fail
    go_ret
    exact ⟨by rw [H.out]; rfl, (by (repeat' (first | with_reducible exact Below.refl _ _ | with_reducible refine below_alloc ?_ _ ?_ | with_reducible refine Below.setCell ?_ ?_ _ | with_reducible refine Below.drew ?_ | with_reducible refine below_drewN ?_ _ | with_reducible refine below_step ?_ (by assumption) ?_ | with_reducible refine below_mark ?_ (by assumption) ?_)); all_goals (first | omega | (simp; done) | (simp; omega)))⟩
  have H := Lib.hid (show b = true by rw [HB.out]; simp [h1, he, hs])
  obtain rfl := ba_empty hs
  subst he
  clear h1 HB hs
  go_enter Tryd.func154, Tryd.ntmps154
  go_wp2_with fail
  refine (W1.out _).mono ?_
  rintro x0 w1 ⟨rfl, rfl⟩
  go_wp2_with fail
  go_ret
  exact ⟨by rw [H.out]; rfl, (by (repeat' (first | with_reducible exact Below.refl _ _ | with_reducible refine below_alloc ?_ _ ?_ | with_reducible refine Below.setCell ?_ ?_ _ | with_reducible refine Below.drew ?_ | with_reducible refine below_drewN ?_ _ | with_reducible refine below_step ?_ (by assumption) ?_ | with_reducible refine below_mark ?_ (by assumption) ?_)); all_goals (first | omega | (simp; done) | (simp; omega)))⟩

set_option maxHeartbeats 2000000 in
theorem node_g (k n e : Int) (s : ByteArray) (sl : Value) (w : World) (hk : k < 0 ∨ 9 < k) : Calls Tryd.prog 154 #[.agg #[.int .i64 k, .int .i64 n, .int .i64 e, .string s, sl]] w (NodeRet false w) := by
  have t0 : (k == 0) = false := by simp; omega
  have t1 : (k == 1) = false := by simp; omega
  have t2 : (k == 2) = false := by simp; omega
  have t3 : (k == 3) = false := by simp; omega
  have t4 : (k == 4) = false := by simp; omega
  have t5 : (k == 5) = false := by simp; omega
  have t6 : (k == 6) = false := by simp; omega
  have t7 : (k == 7) = false := by simp; omega
  have t8 : (k == 8) = false := by simp; omega
  have t9 : (k == 9) = false := by simp; omega
  clear hk
  go_enter Tryd.func154, Tryd.ntmps154
  go_wp2_with fail
  go_ret
  exact ⟨rfl, (by (repeat' (first | with_reducible exact Below.refl _ _ | with_reducible refine below_alloc ?_ _ ?_ | with_reducible refine Below.setCell ?_ ?_ _ | with_reducible refine Below.drew ?_ | with_reducible refine below_drewN ?_ _ | with_reducible refine below_step ?_ (by assumption) ?_ | with_reducible refine below_mark ?_ (by assumption) ?_)); all_goals (first | omega | (simp; done) | (simp; omega)))⟩
theorem isNode_any (t : V) (sl : Value) (w : World) (hw : t.wf) (hE : Env w) : Calls Tryd.prog 154 #[t.agg sl] w (NodeRet (nodeB t) w) := by
  obtain ⟨wk, wn, we, ws⟩ := hw
  unfold nodeB V.agg
  by_cases h1 : t.k = 0 ∨ t.k = 1 ∨ t.k = 2 ∨ t.k = 7 ∨ t.k = 8
  · rw [if_pos h1]; exact node_a t.k t.n t.e t.s sl w h1
  rw [if_neg h1]
  by_cases h2 : t.k = 3
  · rw [if_pos h2]; exact node_b t.k t.n t.e t.s sl w h2
  rw [if_neg h2]
  by_cases h3 : t.k = 4
  · rw [if_pos h3, h3]; exact node_c t.n t.e t.s sl w wn we
  rw [if_neg h3]
  by_cases h4 : t.k = 5
  · rw [if_pos h4, h4]; exact node_d t.n t.e t.s sl w ws hE
  rw [if_neg h4]
  by_cases h5 : t.k = 6
  · rw [if_pos h5, h5]; exact node_e t.n t.e t.s sl w ws
  rw [if_neg h5]
  by_cases h6 : t.k = 9
  · rw [if_pos h6, h6]; exact node_f t.n t.e t.s sl w
  rw [if_neg h6]
  exact node_g t.k t.n t.e t.s sl w (by omega)

end Go.Proofs.YtgbgeocmjdgmoaaDoor
namespace Go.Proofs.YtgbgeocmjdgmoaaDoor
set_option linter.unusedSimpArgs false
set_option linter.unusedVariables false
set_option maxRecDepth 100000
open Go.RowKit
theorem own_nes (n e : Int) (s : ByteArray) : decide (n = 0 ∧ e = 0 ∧ s.size = 0) = ((n == 0) && (e == 0) && s.toList.isEmpty) := by
  rw [Bool.decide_and, Bool.decide_and, Bool.and_assoc]
  congr 1
  congr 1
  by_cases h : s.size = 0
  · rw [ba_empty h, ByteArray.toList_eq]; rfl
  · rw [(str_ne h).2.1, decide_eq_false h]
theorem own_es (e : Int) (s : ByteArray) : decide (e = 0 ∧ s.size = 0) = ((e == 0) && s.toList.isEmpty) := by
  have := own_nes 0 e s
  simpa using this
theorem own_s (s : ByteArray) : decide (s.size = 0) = s.toList.isEmpty := by
  have := own_nes 0 0 s
  simpa using this
theorem own_ne (n e : Int) (P : Prop) [Decidable P] : decide (n = 0 ∧ e = 0 ∧ P) = ((n == 0) && (e == 0) && decide P) := by
  rw [Bool.decide_and, Bool.decide_and, Bool.and_assoc]; rfl
theorem own_len (n : Nat) (q : Nat) : decide (n = q) = ((n : Int) == (q : Int)) := by
  by_cases h : n = q
  · subst h; simp
  · rw [decide_eq_false h]
    symm
    rw [beq_eq_false_iff_ne]
    omega
theorem l01In_any (a lo hi : Int) (w : World) : Calls Tryd.prog 102 #[.int .i64 a, .int .i64 lo, .int .i64 hi] w fun e w' => e = .returned (.bool (decide (lo ≤ a ∧ a ≤ hi))) ∧ w' = w := by
  by_cases h1 : lo ≤ a
  · by_cases h2 : a ≤ hi
    · have t1 : decide (lo ≤ a) = true := decide_eq_true h1
      have t2 : decide (a ≤ hi) = true := decide_eq_true h2
      rw [decide_eq_true ⟨h1, h2⟩]
      go_enter Tryd.func102, Tryd.ntmps102
      go_wp2_with fail
      go_ret
      exact ⟨rfl, rfl⟩
    · have t1 : decide (lo ≤ a) = true := decide_eq_true h1
      have t2 : decide (a ≤ hi) = false := decide_eq_false h2
      rw [decide_eq_false (fun h => h2 h.2)]
      go_enter Tryd.func102, Tryd.ntmps102
      go_wp2_with fail
      go_ret
      exact ⟨rfl, rfl⟩
  · have t1 : decide (lo ≤ a) = false := decide_eq_false h1
    rw [decide_eq_false (fun h => h1 h.1)]
    go_enter Tryd.func102, Tryd.ntmps102
    go_wp2_with fail
    go_ret
    exact ⟨rfl, rfl⟩

set_option maxHeartbeats 1000000 in
theorem own_a (t : V) (h : t.k = 0 ∨ t.k = 1 ∨ t.k = 2) : ownB t = ((t.n == 0) && (t.e == 0) && t.s.toList.isEmpty && ((t.kids.length : Int) == 0)) := by
  have h' := h
  unfold ownB nodeB
  rw [if_pos (by omega), if_neg (by omega), if_neg (by omega), if_neg (by omega), own_nes, own_len]; rfl
set_option maxHeartbeats 1000000 in
theorem own_b (t : V) (h : t.k = 3) : ownB t = ((t.e == 0) && t.s.toList.isEmpty && ((t.kids.length : Int) == 0)) := by
  have h' := h
  unfold ownB nodeB
  rw [if_neg (by omega), if_pos h, if_neg (by omega), if_neg (by omega), if_neg (by omega), own_es, own_len]; rfl
set_option maxHeartbeats 1000000 in
theorem own_c (t : V) (h : t.k = 4) : ownB t = ((t.n.tmod 10 != 0) && (decide (-999999999999999999 ≤ t.n ∧ t.n ≤ 999999999999999999)) && (decide (-20 ≤ t.e ∧ t.e ≤ 20)) && !(t.e == 0) && t.s.toList.isEmpty && ((t.kids.length : Int) == 0) && !(decide (0 < t.e) && (fits10 t.n t.e.toNat).isSome)) := by
  have h' := h
  unfold ownB nodeB
  rw [if_neg (by omega), if_neg (by omega), if_pos h, if_neg (by omega), if_neg (by omega), if_neg (by omega), own_s, own_len, decOk_eq]
  rw [show decide (t.e ≠ 0) = !(t.e == 0) by by_cases h0 : t.e = 0 <;> simp [h0]]
  rw [show decide (t.n.tmod 10 ≠ 0) = (t.n.tmod 10 != 0) by by_cases h0 : t.n.tmod 10 = 0 <;> simp [h0]]
  generalize (t.n.tmod 10 != 0) = a1
  generalize (decide (-999999999999999999 ≤ t.n ∧ t.n ≤ 999999999999999999)) = a2
  generalize decide (-20 ≤ t.e ∧ t.e ≤ 20) = a3
  generalize (t.e == 0) = a4
  generalize (decide (0 < t.e) && (fits10 t.n t.e.toNat).isSome) = a5
  generalize t.s.toList.isEmpty = a6
  show (a1 && a2 && a3 && !a4 && !a5 && a6 && ((t.kids.length : Int) == 0)) = _
  generalize ((t.kids.length : Int) == 0) = a7
  cases a1 <;> cases a2 <;> cases a3 <;> cases a4 <;> cases a5 <;> cases a6 <;> cases a7 <;> rfl
set_option maxHeartbeats 1000000 in
theorem own_d (t : V) (h : t.k = 5) : ownB t = ((t.n == 0) && (t.e == 0) && txt t.s && (decide ((t.s.size : Int) ≤ 2000)) && ((t.kids.length : Int) == 0)) := by
  have h' := h
  unfold ownB nodeB
  rw [if_neg (by omega), if_neg (by omega), if_neg (by omega), if_pos h, if_neg (by omega), if_neg (by omega), if_neg (by omega), own_ne, own_len]
  rw [show decide (t.s.size ≤ 2000) = decide ((t.s.size : Int) ≤ 2000) by rw [decide_eq_decide]; omega]
  generalize decide ((t.s.size : Int) ≤ 2000) = a1
  generalize txt t.s = a2
  generalize (t.n == 0) = a3
  generalize (t.e == 0) = a4
  cases a1 <;> cases a2 <;> cases a3 <;> cases a4 <;> rfl
set_option maxHeartbeats 1000000 in
theorem own_f (t : V) (h : t.k = 6) : ownB t = ((t.n == 0) && (t.e == 0) && (decide ((t.s.size : Int) ≤ 2000)) && ((t.kids.length : Int) == 0)) := by
  have h' := h
  unfold ownB nodeB
  rw [if_neg (by omega), if_neg (by omega), if_neg (by omega), if_neg (by omega), if_pos h, if_neg (by omega), if_neg (by omega), if_neg (by omega), own_ne, own_len]
  rw [show decide (t.s.size ≤ 2000) = decide ((t.s.size : Int) ≤ 2000) by rw [decide_eq_decide]; omega]
  rfl
set_option maxHeartbeats 1000000 in
theorem own_g (t : V) (h : t.k = 7) : ownB t = ((t.n == 0) && (t.e == 0) && t.s.toList.isEmpty) := by
  have h' := h
  unfold ownB nodeB
  rw [if_pos (by omega), if_pos h, own_nes, Bool.and_true]
set_option maxHeartbeats 1000000 in
theorem own_h (t : V) (h : t.k = 8) : ownB t = ((t.n == 0) && (t.e == 0) && t.s.toList.isEmpty && (pairsB t.kids)) := by
  have h' := h
  unfold ownB nodeB
  rw [if_pos (by omega), if_neg (by omega), if_neg (by omega), if_pos h, own_nes]
set_option maxHeartbeats 1000000 in
theorem own_i (t : V) (h : t.k = 9) : ownB t = ((decide (0 ≤ t.n ∧ t.n ≤ 1000000)) && (t.e == 0) && t.s.toList.isEmpty && ((t.kids.length : Int) == 1)) := by
  have h' := h
  unfold ownB nodeB
  rw [if_neg (by omega), if_neg (by omega), if_neg (by omega), if_neg (by omega), if_neg (by omega), if_pos h, if_neg (by omega), if_pos h, own_len]
  rw [show decide (0 ≤ t.n ∧ t.n ≤ 1000000 ∧ t.e = 0 ∧ t.s.size = 0) = (decide (0 ≤ t.n ∧ t.n ≤ 1000000) && (decide (t.e = 0 ∧ t.s.size = 0))) by rw [← Bool.decide_and, decide_eq_decide]; omega, own_es, ← Bool.and_assoc]
  rfl
theorem own_j (t : V) (h : ¬ (0 ≤ t.k ∧ t.k ≤ 9)) : ownB t = false := by
  unfold ownB nodeB
  rw [if_neg (by omega), if_neg (by omega), if_neg (by omega), if_neg (by omega), if_neg (by omega), if_neg (by omega)]; rfl
set_option maxHeartbeats 4000000 in
theorem l02Own_any (w0 : World) (v : Value) (t : V) (h : Rep w0 v t) (hsz : t.sz ≤ 1048576) (w : World) (hw : Below w0.heap.size w0 w) :
    Calls Tryd.prog 153 #[v] w (BoolRet (ownB t) w) := by
  obtain ⟨sl, rfl, hwf, hr⟩ := h
  have hks : t.kids.length ≤ 1048576 := by have := V.sz_eq t; have := szs_length t.kids; omega
  have hss : t.s.size ≤ 1048576 := by have := V.sz_eq t; omega
  obtain ⟨b, hb⟩ : ∃ b : Bool, b = ownB t := ⟨_, rfl⟩
  rw [← hb]
  obtain ⟨a, bb, off, cap, rfl, ha, hc, hm, sls, hel⟩ := hr.opened
  unfold V.agg
  have HB := Lib.hid hb
  have HW := Lib.hid hw
  have HR := Lib.hid hr
  have HWF := Lib.hid hwf
  clear hb ha hc hm hel hw hr hwf
  go_enter Tryd.func153, Tryd.ntmps153
  go_wp2_with fail
  go_quiet (fail)
  have LP := Lib.hid (fun (W : World) (hW : Below w.heap.size w W) => l02Pairs_any w0 _ t.kids HR.out W (HW.out.trans (hW.mono HW.out.size)) hks)
  have TO := Lib.hid (fun (W : World) => textOk_spec t.s W (by omega))
  have WH := Lib.hid (fun (W : World) => l02Whole_any t.n t.e HWF.out.2.1 HWF.out.2.2.1 W)
  have IN1 := Lib.hid (fun (W : World) => l01In_any t.n (-999999999999999999) 999999999999999999 W)
  have IN2 := Lib.hid (fun (W : World) => l01In_any t.e (-20) 20 W)
  have IN3 := Lib.hid (fun (W : World) => l01In_any t.n 0 1000000 W)
  obtain ⟨hwfk, -⟩ := HWF.out
  clear HW HR

  by_cases hk : t.k = 0 ∨ t.k = 1 ∨ t.k = 2
  case' pos =>
    have HB := Lib.hid (show b = ((t.n == 0) && (t.e == 0) && t.s.toList.isEmpty && ((t.kids.length : Int) == 0)) by rw [HB.out, own_a t hk])
    clear HWF LP TO WH IN1 IN2 IN3
    generalize hg0 : (t.n == 0) = g0 at *
    generalize hg1 : (t.e == 0) = g1 at *
    generalize hg2 : t.s.toList.isEmpty = g2 at *
    generalize hg3 : ((t.kids.length : Int) == 0) = g3 at *
    generalize t.k = xk at *
    rcases hk with rfl | rfl | rfl
    all_goals
      cases g0
      case false =>
        go_wp2_with fail
        go_ret
        exact ⟨by rw [HB.out]; simp, (by (repeat' (first | with_reducible exact Below.refl _ _ | with_reducible refine below_alloc ?_ _ ?_ | with_reducible refine Below.setCell ?_ ?_ _ | with_reducible refine Below.drew ?_ | with_reducible refine below_drewN ?_ _ | with_reducible refine below_step ?_ (by assumption) ?_ | with_reducible refine below_mark ?_ (by assumption) ?_)); all_goals (first | omega | (simp; done) | (simp; omega)))⟩
      case true =>
        cases g1
        case false =>
          go_wp2_with fail
          go_ret
          exact ⟨by rw [HB.out]; simp, (by (repeat' (first | with_reducible exact Below.refl _ _ | with_reducible refine below_alloc ?_ _ ?_ | with_reducible refine Below.setCell ?_ ?_ _ | with_reducible refine Below.drew ?_ | with_reducible refine below_drewN ?_ _ | with_reducible refine below_step ?_ (by assumption) ?_ | with_reducible refine below_mark ?_ (by assumption) ?_)); all_goals (first | omega | (simp; done) | (simp; omega)))⟩
        case true =>
          cases g2
          case false =>
            go_wp2_with fail
            go_ret
            exact ⟨by rw [HB.out]; simp, (by (repeat' (first | with_reducible exact Below.refl _ _ | with_reducible refine below_alloc ?_ _ ?_ | with_reducible refine Below.setCell ?_ ?_ _ | with_reducible refine Below.drew ?_ | with_reducible refine below_drewN ?_ _ | with_reducible refine below_step ?_ (by assumption) ?_ | with_reducible refine below_mark ?_ (by assumption) ?_)); all_goals (first | omega | (simp; done) | (simp; omega)))⟩
          case true =>
            cases g3
            case false =>
              go_wp2_with fail
              go_ret
              exact ⟨by rw [HB.out]; simp, (by (repeat' (first | with_reducible exact Below.refl _ _ | with_reducible refine below_alloc ?_ _ ?_ | with_reducible refine Below.setCell ?_ ?_ _ | with_reducible refine Below.drew ?_ | with_reducible refine below_drewN ?_ _ | with_reducible refine below_step ?_ (by assumption) ?_ | with_reducible refine below_mark ?_ (by assumption) ?_)); all_goals (first | omega | (simp; done) | (simp; omega)))⟩
            case true =>
              go_wp2_with fail
              go_ret
              exact ⟨by rw [HB.out]; rfl, (by (repeat' (first | with_reducible exact Below.refl _ _ | with_reducible refine below_alloc ?_ _ ?_ | with_reducible refine Below.setCell ?_ ?_ _ | with_reducible refine Below.drew ?_ | with_reducible refine below_drewN ?_ _ | with_reducible refine below_step ?_ (by assumption) ?_ | with_reducible refine below_mark ?_ (by assumption) ?_)); all_goals (first | omega | (simp; done) | (simp; omega)))⟩
  case' neg =>
    have hka := hk; clear hk
  by_cases hk : t.k = 3
  case' pos =>
    have HB := Lib.hid (show b = ((t.e == 0) && t.s.toList.isEmpty && ((t.kids.length : Int) == 0)) by rw [HB.out, own_b t hk])
    clear HWF LP TO WH IN1 IN2 IN3
    generalize hg0 : (t.e == 0) = g0 at *
    generalize hg1 : t.s.toList.isEmpty = g1 at *
    generalize hg2 : ((t.kids.length : Int) == 0) = g2 at *
    generalize t.k = xk at *
    subst hk
    cases g0
    case false =>
      go_wp2_with fail
      go_ret
      exact ⟨by rw [HB.out]; simp, (by (repeat' (first | with_reducible exact Below.refl _ _ | with_reducible refine below_alloc ?_ _ ?_ | with_reducible refine Below.setCell ?_ ?_ _ | with_reducible refine Below.drew ?_ | with_reducible refine below_drewN ?_ _ | with_reducible refine below_step ?_ (by assumption) ?_ | with_reducible refine below_mark ?_ (by assumption) ?_)); all_goals (first | omega | (simp; done) | (simp; omega)))⟩
    case true =>
      cases g1
      case false =>
        go_wp2_with fail
        go_ret
        exact ⟨by rw [HB.out]; simp, (by (repeat' (first | with_reducible exact Below.refl _ _ | with_reducible refine below_alloc ?_ _ ?_ | with_reducible refine Below.setCell ?_ ?_ _ | with_reducible refine Below.drew ?_ | with_reducible refine below_drewN ?_ _ | with_reducible refine below_step ?_ (by assumption) ?_ | with_reducible refine below_mark ?_ (by assumption) ?_)); all_goals (first | omega | (simp; done) | (simp; omega)))⟩
      case true =>
        cases g2
        case false =>
          go_wp2_with fail
          go_ret
          exact ⟨by rw [HB.out]; simp, (by (repeat' (first | with_reducible exact Below.refl _ _ | with_reducible refine below_alloc ?_ _ ?_ | with_reducible refine Below.setCell ?_ ?_ _ | with_reducible refine Below.drew ?_ | with_reducible refine below_drewN ?_ _ | with_reducible refine below_step ?_ (by assumption) ?_ | with_reducible refine below_mark ?_ (by assumption) ?_)); all_goals (first | omega | (simp; done) | (simp; omega)))⟩
        case true =>
          go_wp2_with fail
          go_ret
          exact ⟨by rw [HB.out]; rfl, (by (repeat' (first | with_reducible exact Below.refl _ _ | with_reducible refine below_alloc ?_ _ ?_ | with_reducible refine Below.setCell ?_ ?_ _ | with_reducible refine Below.drew ?_ | with_reducible refine below_drewN ?_ _ | with_reducible refine below_step ?_ (by assumption) ?_ | with_reducible refine below_mark ?_ (by assumption) ?_)); all_goals (first | omega | (simp; done) | (simp; omega)))⟩
  case' neg =>
    have hkb := hk; clear hk
  by_cases hk : t.k = 4
  case' pos =>
    have HB := Lib.hid (show b = ((t.n.tmod 10 != 0) && (decide (-999999999999999999 ≤ t.n ∧ t.n ≤ 999999999999999999)) && (decide (-20 ≤ t.e ∧ t.e ≤ 20)) && !(t.e == 0) && t.s.toList.isEmpty && ((t.kids.length : Int) == 0) && !(decide (0 < t.e) && (fits10 t.n t.e.toNat).isSome)) by rw [HB.out, own_c t hk])
    clear HWF LP TO IN3
    generalize hg0 : (t.n.tmod 10 != 0) = g0 at *
    obtain ⟨g1, hg1⟩ : ∃ g : Bool, g = ((decide (-999999999999999999 ≤ t.n ∧ t.n ≤ 999999999999999999))) := ⟨_, rfl⟩
    rw [← hg1] at HB IN1
    clear hg1
    obtain ⟨g2, hg2⟩ : ∃ g : Bool, g = ((decide (-20 ≤ t.e ∧ t.e ≤ 20))) := ⟨_, rfl⟩
    rw [← hg2] at HB IN2
    clear hg2
    generalize hg3 : (t.e == 0) = g3 at *
    generalize hg4 : t.s.toList.isEmpty = g4 at *
    generalize hg5 : ((t.kids.length : Int) == 0) = g5 at *
    obtain ⟨g6, hg6⟩ : ∃ g : Bool, g = ((decide (0 < t.e) && (fits10 t.n t.e.toNat).isSome)) := ⟨_, rfl⟩
    rw [← hg6] at HB WH
    clear hg6
    generalize t.k = xk at *
    subst hk
    cases g0
    case false =>
      go_wp2_with fail
      go_ret
      exact ⟨by rw [HB.out]; simp, (by (repeat' (first | with_reducible exact Below.refl _ _ | with_reducible refine below_alloc ?_ _ ?_ | with_reducible refine Below.setCell ?_ ?_ _ | with_reducible refine Below.drew ?_ | with_reducible refine below_drewN ?_ _ | with_reducible refine below_step ?_ (by assumption) ?_ | with_reducible refine below_mark ?_ (by assumption) ?_)); all_goals (first | omega | (simp; done) | (simp; omega)))⟩
    case true =>
      cases g1
      case false =>
        go_wp2_with fail
        refine (IN1.out _).mono ?_
        rintro x wx ⟨rfl, hwx⟩
        subst wx
        go_wp2_with fail
        go_ret
        exact ⟨by rw [HB.out]; simp, (by (repeat' (first | with_reducible exact Below.refl _ _ | with_reducible refine below_alloc ?_ _ ?_ | with_reducible refine Below.setCell ?_ ?_ _ | with_reducible refine Below.drew ?_ | with_reducible refine below_drewN ?_ _ | with_reducible refine below_step ?_ (by assumption) ?_ | with_reducible refine below_mark ?_ (by assumption) ?_)); all_goals (first | omega | (simp; done) | (simp; omega)))⟩
      case true =>
        cases g2
        case false =>
          go_wp2_with fail
          refine (IN1.out _).mono ?_
          rintro x wx ⟨rfl, hwx⟩
          subst wx
          go_wp2_with fail
          refine (IN2.out _).mono ?_
          rintro x wx ⟨rfl, hwx⟩
          subst wx
          go_wp2_with fail
          go_ret
          exact ⟨by rw [HB.out]; simp, (by (repeat' (first | with_reducible exact Below.refl _ _ | with_reducible refine below_alloc ?_ _ ?_ | with_reducible refine Below.setCell ?_ ?_ _ | with_reducible refine Below.drew ?_ | with_reducible refine below_drewN ?_ _ | with_reducible refine below_step ?_ (by assumption) ?_ | with_reducible refine below_mark ?_ (by assumption) ?_)); all_goals (first | omega | (simp; done) | (simp; omega)))⟩
        case true =>
          cases g3
          case true =>
            go_wp2_with fail
            refine (IN1.out _).mono ?_
            rintro x wx ⟨rfl, hwx⟩
            subst wx
            go_wp2_with fail
            refine (IN2.out _).mono ?_
            rintro x wx ⟨rfl, hwx⟩
            subst wx
            go_wp2_with fail
            go_ret
            exact ⟨by rw [HB.out]; simp, (by (repeat' (first | with_reducible exact Below.refl _ _ | with_reducible refine below_alloc ?_ _ ?_ | with_reducible refine Below.setCell ?_ ?_ _ | with_reducible refine Below.drew ?_ | with_reducible refine below_drewN ?_ _ | with_reducible refine below_step ?_ (by assumption) ?_ | with_reducible refine below_mark ?_ (by assumption) ?_)); all_goals (first | omega | (simp; done) | (simp; omega)))⟩
          case false =>
            cases g4
            case false =>
              go_wp2_with fail
              refine (IN1.out _).mono ?_
              rintro x wx ⟨rfl, hwx⟩
              subst wx
              go_wp2_with fail
              refine (IN2.out _).mono ?_
              rintro x wx ⟨rfl, hwx⟩
              subst wx
              go_wp2_with fail
              go_ret
              exact ⟨by rw [HB.out]; simp, (by (repeat' (first | with_reducible exact Below.refl _ _ | with_reducible refine below_alloc ?_ _ ?_ | with_reducible refine Below.setCell ?_ ?_ _ | with_reducible refine Below.drew ?_ | with_reducible refine below_drewN ?_ _ | with_reducible refine below_step ?_ (by assumption) ?_ | with_reducible refine below_mark ?_ (by assumption) ?_)); all_goals (first | omega | (simp; done) | (simp; omega)))⟩
            case true =>
              cases g5
              case false =>
                go_wp2_with fail
                refine (IN1.out _).mono ?_
                rintro x wx ⟨rfl, hwx⟩
                subst wx
                go_wp2_with fail
                refine (IN2.out _).mono ?_
                rintro x wx ⟨rfl, hwx⟩
                subst wx
                go_wp2_with fail
                go_ret
                exact ⟨by rw [HB.out]; simp, (by (repeat' (first | with_reducible exact Below.refl _ _ | with_reducible refine below_alloc ?_ _ ?_ | with_reducible refine Below.setCell ?_ ?_ _ | with_reducible refine Below.drew ?_ | with_reducible refine below_drewN ?_ _ | with_reducible refine below_step ?_ (by assumption) ?_ | with_reducible refine below_mark ?_ (by assumption) ?_)); all_goals (first | omega | (simp; done) | (simp; omega)))⟩
              case true =>
                cases g6
                case true =>
                  go_wp2_with fail
                  refine (IN1.out _).mono ?_
                  rintro x wx ⟨rfl, hwx⟩
                  subst wx
                  go_wp2_with fail
                  refine (IN2.out _).mono ?_
                  rintro x wx ⟨rfl, hwx⟩
                  subst wx
                  go_wp2_with fail
                  refine (WH.out _).mono ?_
                  rintro x wx ⟨rfl, hwx⟩
                  subst wx
                  go_wp2_with fail
                  go_ret
                  exact ⟨by rw [HB.out]; simp, (by (repeat' (first | with_reducible exact Below.refl _ _ | with_reducible refine below_alloc ?_ _ ?_ | with_reducible refine Below.setCell ?_ ?_ _ | with_reducible refine Below.drew ?_ | with_reducible refine below_drewN ?_ _ | with_reducible refine below_step ?_ (by assumption) ?_ | with_reducible refine below_mark ?_ (by assumption) ?_)); all_goals (first | omega | (simp; done) | (simp; omega)))⟩
                case false =>
                  go_wp2_with fail
                  refine (IN1.out _).mono ?_
                  rintro x wx ⟨rfl, hwx⟩
                  subst wx
                  go_wp2_with fail
                  refine (IN2.out _).mono ?_
                  rintro x wx ⟨rfl, hwx⟩
                  subst wx
                  go_wp2_with fail
                  refine (WH.out _).mono ?_
                  rintro x wx ⟨rfl, hwx⟩
                  subst wx
                  go_wp2_with fail
                  go_ret
                  exact ⟨by rw [HB.out]; rfl, (by (repeat' (first | with_reducible exact Below.refl _ _ | with_reducible refine below_alloc ?_ _ ?_ | with_reducible refine Below.setCell ?_ ?_ _ | with_reducible refine Below.drew ?_ | with_reducible refine below_drewN ?_ _ | with_reducible refine below_step ?_ (by assumption) ?_ | with_reducible refine below_mark ?_ (by assumption) ?_)); all_goals (first | omega | (simp; done) | (simp; omega)))⟩
  case' neg =>
    have hkc := hk; clear hk
  by_cases hk : t.k = 5
  case' pos =>
    have HB := Lib.hid (show b = ((t.n == 0) && (t.e == 0) && txt t.s && (decide ((t.s.size : Int) ≤ 2000)) && ((t.kids.length : Int) == 0)) by rw [HB.out, own_d t hk])
    clear HWF LP WH IN1 IN2 IN3
    generalize hg0 : (t.n == 0) = g0 at *
    generalize hg1 : (t.e == 0) = g1 at *
    obtain ⟨g2, hg2⟩ : ∃ g : Bool, g = (txt t.s) := ⟨_, rfl⟩
    rw [← hg2] at HB TO
    clear hg2
    generalize hg3 : (decide ((t.s.size : Int) ≤ 2000)) = g3 at *
    generalize hg4 : ((t.kids.length : Int) == 0) = g4 at *
    generalize t.k = xk at *
    subst hk
    cases g0
    case false =>
      go_wp2_with fail
      go_ret
      exact ⟨by rw [HB.out]; simp, (by (repeat' (first | with_reducible exact Below.refl _ _ | with_reducible refine below_alloc ?_ _ ?_ | with_reducible refine Below.setCell ?_ ?_ _ | with_reducible refine Below.drew ?_ | with_reducible refine below_drewN ?_ _ | with_reducible refine below_step ?_ (by assumption) ?_ | with_reducible refine below_mark ?_ (by assumption) ?_)); all_goals (first | omega | (simp; done) | (simp; omega)))⟩
    case true =>
      cases g1
      case false =>
        go_wp2_with fail
        go_ret
        exact ⟨by rw [HB.out]; simp, (by (repeat' (first | with_reducible exact Below.refl _ _ | with_reducible refine below_alloc ?_ _ ?_ | with_reducible refine Below.setCell ?_ ?_ _ | with_reducible refine Below.drew ?_ | with_reducible refine below_drewN ?_ _ | with_reducible refine below_step ?_ (by assumption) ?_ | with_reducible refine below_mark ?_ (by assumption) ?_)); all_goals (first | omega | (simp; done) | (simp; omega)))⟩
      case true =>
        cases g2
        case false =>
          go_wp2_with fail
          refine (TO.out _).mono ?_
          rintro x wx ⟨rfl, hbx⟩
          obtain ⟨c0, c1, c2, c3, c4⟩ := (show Box wx w.heap.size 5 t.n t.e t.s _ 26 from (hbx.block w.heap.size (by simp; done)).trans (Box.new w 5 t.n t.e t.s _ 26)).cells
          go_wp2_with fail
          go_ret
          exact ⟨by rw [HB.out]; simp, (by (repeat' (first | with_reducible exact Below.refl _ _ | with_reducible refine below_alloc ?_ _ ?_ | with_reducible refine Below.setCell ?_ ?_ _ | with_reducible refine Below.drew ?_ | with_reducible refine below_drewN ?_ _ | with_reducible refine below_step ?_ (by assumption) ?_ | with_reducible refine below_mark ?_ (by assumption) ?_)); all_goals (first | omega | (simp; done) | (simp; omega)))⟩
        case true =>
          cases g3
          case false =>
            go_wp2_with fail
            refine (TO.out _).mono ?_
            rintro x wx ⟨rfl, hbx⟩
            obtain ⟨c0, c1, c2, c3, c4⟩ := (show Box wx w.heap.size 5 t.n t.e t.s _ 26 from (hbx.block w.heap.size (by simp; done)).trans (Box.new w 5 t.n t.e t.s _ 26)).cells
            go_wp2_with fail
            go_ret
            exact ⟨by rw [HB.out]; simp, (by (repeat' (first | with_reducible exact Below.refl _ _ | with_reducible refine below_alloc ?_ _ ?_ | with_reducible refine Below.setCell ?_ ?_ _ | with_reducible refine Below.drew ?_ | with_reducible refine below_drewN ?_ _ | with_reducible refine below_step ?_ (by assumption) ?_ | with_reducible refine below_mark ?_ (by assumption) ?_)); all_goals (first | omega | (simp; done) | (simp; omega)))⟩
          case true =>
            cases g4
            case false =>
              go_wp2_with fail
              refine (TO.out _).mono ?_
              rintro x wx ⟨rfl, hbx⟩
              obtain ⟨c0, c1, c2, c3, c4⟩ := (show Box wx w.heap.size 5 t.n t.e t.s _ 26 from (hbx.block w.heap.size (by simp; done)).trans (Box.new w 5 t.n t.e t.s _ 26)).cells
              go_wp2_with fail
              go_ret
              exact ⟨by rw [HB.out]; simp, (by (repeat' (first | with_reducible exact Below.refl _ _ | with_reducible refine below_alloc ?_ _ ?_ | with_reducible refine Below.setCell ?_ ?_ _ | with_reducible refine Below.drew ?_ | with_reducible refine below_drewN ?_ _ | with_reducible refine below_step ?_ (by assumption) ?_ | with_reducible refine below_mark ?_ (by assumption) ?_)); all_goals (first | omega | (simp; done) | (simp; omega)))⟩
            case true =>
              go_wp2_with fail
              refine (TO.out _).mono ?_
              rintro x wx ⟨rfl, hbx⟩
              obtain ⟨c0, c1, c2, c3, c4⟩ := (show Box wx w.heap.size 5 t.n t.e t.s _ 26 from (hbx.block w.heap.size (by simp; done)).trans (Box.new w 5 t.n t.e t.s _ 26)).cells
              go_wp2_with fail
              go_ret
              exact ⟨by rw [HB.out]; rfl, (by (repeat' (first | with_reducible exact Below.refl _ _ | with_reducible refine below_alloc ?_ _ ?_ | with_reducible refine Below.setCell ?_ ?_ _ | with_reducible refine Below.drew ?_ | with_reducible refine below_drewN ?_ _ | with_reducible refine below_step ?_ (by assumption) ?_ | with_reducible refine below_mark ?_ (by assumption) ?_)); all_goals (first | omega | (simp; done) | (simp; omega)))⟩
  case' neg =>
    have hkd := hk; clear hk
  by_cases hk : t.k = 6
  case' pos =>
    have HB := Lib.hid (show b = ((t.n == 0) && (t.e == 0) && (decide ((t.s.size : Int) ≤ 2000)) && ((t.kids.length : Int) == 0)) by rw [HB.out, own_f t hk])
    clear HWF LP TO WH IN1 IN2 IN3
    generalize hg0 : (t.n == 0) = g0 at *
    generalize hg1 : (t.e == 0) = g1 at *
    generalize hg2 : (decide ((t.s.size : Int) ≤ 2000)) = g2 at *
    generalize hg3 : ((t.kids.length : Int) == 0) = g3 at *
    generalize t.k = xk at *
    subst hk
    cases g0
    case false =>
      go_wp2_with fail
      go_ret
      exact ⟨by rw [HB.out]; simp, (by (repeat' (first | with_reducible exact Below.refl _ _ | with_reducible refine below_alloc ?_ _ ?_ | with_reducible refine Below.setCell ?_ ?_ _ | with_reducible refine Below.drew ?_ | with_reducible refine below_drewN ?_ _ | with_reducible refine below_step ?_ (by assumption) ?_ | with_reducible refine below_mark ?_ (by assumption) ?_)); all_goals (first | omega | (simp; done) | (simp; omega)))⟩
    case true =>
      cases g1
      case false =>
        go_wp2_with fail
        go_ret
        exact ⟨by rw [HB.out]; simp, (by (repeat' (first | with_reducible exact Below.refl _ _ | with_reducible refine below_alloc ?_ _ ?_ | with_reducible refine Below.setCell ?_ ?_ _ | with_reducible refine Below.drew ?_ | with_reducible refine below_drewN ?_ _ | with_reducible refine below_step ?_ (by assumption) ?_ | with_reducible refine below_mark ?_ (by assumption) ?_)); all_goals (first | omega | (simp; done) | (simp; omega)))⟩
      case true =>
        cases g2
        case false =>
          go_wp2_with fail
          go_ret
          exact ⟨by rw [HB.out]; simp, (by (repeat' (first | with_reducible exact Below.refl _ _ | with_reducible refine below_alloc ?_ _ ?_ | with_reducible refine Below.setCell ?_ ?_ _ | with_reducible refine Below.drew ?_ | with_reducible refine below_drewN ?_ _ | with_reducible refine below_step ?_ (by assumption) ?_ | with_reducible refine below_mark ?_ (by assumption) ?_)); all_goals (first | omega | (simp; done) | (simp; omega)))⟩
        case true =>
          cases g3
          case false =>
            go_wp2_with fail
            go_ret
            exact ⟨by rw [HB.out]; simp, (by (repeat' (first | with_reducible exact Below.refl _ _ | with_reducible refine below_alloc ?_ _ ?_ | with_reducible refine Below.setCell ?_ ?_ _ | with_reducible refine Below.drew ?_ | with_reducible refine below_drewN ?_ _ | with_reducible refine below_step ?_ (by assumption) ?_ | with_reducible refine below_mark ?_ (by assumption) ?_)); all_goals (first | omega | (simp; done) | (simp; omega)))⟩
          case true =>
            go_wp2_with fail
            go_ret
            exact ⟨by rw [HB.out]; rfl, (by (repeat' (first | with_reducible exact Below.refl _ _ | with_reducible refine below_alloc ?_ _ ?_ | with_reducible refine Below.setCell ?_ ?_ _ | with_reducible refine Below.drew ?_ | with_reducible refine below_drewN ?_ _ | with_reducible refine below_step ?_ (by assumption) ?_ | with_reducible refine below_mark ?_ (by assumption) ?_)); all_goals (first | omega | (simp; done) | (simp; omega)))⟩
  case' neg =>
    have hkf := hk; clear hk
  by_cases hk : t.k = 7
  case' pos =>
    have HB := Lib.hid (show b = ((t.n == 0) && (t.e == 0) && t.s.toList.isEmpty) by rw [HB.out, own_g t hk])
    clear HWF LP TO WH IN1 IN2 IN3
    generalize hg0 : (t.n == 0) = g0 at *
    generalize hg1 : (t.e == 0) = g1 at *
    generalize hg2 : t.s.toList.isEmpty = g2 at *
    generalize t.k = xk at *
    subst hk
    cases g0
    case false =>
      go_wp2_with fail
      go_ret
      exact ⟨by rw [HB.out]; simp, (by (repeat' (first | with_reducible exact Below.refl _ _ | with_reducible refine below_alloc ?_ _ ?_ | with_reducible refine Below.setCell ?_ ?_ _ | with_reducible refine Below.drew ?_ | with_reducible refine below_drewN ?_ _ | with_reducible refine below_step ?_ (by assumption) ?_ | with_reducible refine below_mark ?_ (by assumption) ?_)); all_goals (first | omega | (simp; done) | (simp; omega)))⟩
    case true =>
      cases g1
      case false =>
        go_wp2_with fail
        go_ret
        exact ⟨by rw [HB.out]; simp, (by (repeat' (first | with_reducible exact Below.refl _ _ | with_reducible refine below_alloc ?_ _ ?_ | with_reducible refine Below.setCell ?_ ?_ _ | with_reducible refine Below.drew ?_ | with_reducible refine below_drewN ?_ _ | with_reducible refine below_step ?_ (by assumption) ?_ | with_reducible refine below_mark ?_ (by assumption) ?_)); all_goals (first | omega | (simp; done) | (simp; omega)))⟩
      case true =>
        cases g2
        case false =>
          go_wp2_with fail
          go_ret
          exact ⟨by rw [HB.out]; simp, (by (repeat' (first | with_reducible exact Below.refl _ _ | with_reducible refine below_alloc ?_ _ ?_ | with_reducible refine Below.setCell ?_ ?_ _ | with_reducible refine Below.drew ?_ | with_reducible refine below_drewN ?_ _ | with_reducible refine below_step ?_ (by assumption) ?_ | with_reducible refine below_mark ?_ (by assumption) ?_)); all_goals (first | omega | (simp; done) | (simp; omega)))⟩
        case true =>
          go_wp2_with fail
          go_ret
          exact ⟨by rw [HB.out]; rfl, (by (repeat' (first | with_reducible exact Below.refl _ _ | with_reducible refine below_alloc ?_ _ ?_ | with_reducible refine Below.setCell ?_ ?_ _ | with_reducible refine Below.drew ?_ | with_reducible refine below_drewN ?_ _ | with_reducible refine below_step ?_ (by assumption) ?_ | with_reducible refine below_mark ?_ (by assumption) ?_)); all_goals (first | omega | (simp; done) | (simp; omega)))⟩
  case' neg =>
    have hkg := hk; clear hk
  by_cases hk : t.k = 8
  case' pos =>
    have HB := Lib.hid (show b = ((t.n == 0) && (t.e == 0) && t.s.toList.isEmpty && (pairsB t.kids)) by rw [HB.out, own_h t hk])
    clear HWF TO WH IN1 IN2 IN3
    generalize hg0 : (t.n == 0) = g0 at *
    generalize hg1 : (t.e == 0) = g1 at *
    generalize hg2 : t.s.toList.isEmpty = g2 at *
    obtain ⟨g3, hg3⟩ : ∃ g : Bool, g = ((pairsB t.kids)) := ⟨_, rfl⟩
    rw [← hg3] at HB LP
    clear hg3
    generalize t.k = xk at *
    subst hk
    cases g0
    case false =>
      go_wp2_with fail
      go_ret
      exact ⟨by rw [HB.out]; simp, (by (repeat' (first | with_reducible exact Below.refl _ _ | with_reducible refine below_alloc ?_ _ ?_ | with_reducible refine Below.setCell ?_ ?_ _ | with_reducible refine Below.drew ?_ | with_reducible refine below_drewN ?_ _ | with_reducible refine below_step ?_ (by assumption) ?_ | with_reducible refine below_mark ?_ (by assumption) ?_)); all_goals (first | omega | (simp; done) | (simp; omega)))⟩
    case true =>
      cases g1
      case false =>
        go_wp2_with fail
        go_ret
        exact ⟨by rw [HB.out]; simp, (by (repeat' (first | with_reducible exact Below.refl _ _ | with_reducible refine below_alloc ?_ _ ?_ | with_reducible refine Below.setCell ?_ ?_ _ | with_reducible refine Below.drew ?_ | with_reducible refine below_drewN ?_ _ | with_reducible refine below_step ?_ (by assumption) ?_ | with_reducible refine below_mark ?_ (by assumption) ?_)); all_goals (first | omega | (simp; done) | (simp; omega)))⟩
      case true =>
        cases g2
        case false =>
          go_wp2_with fail
          go_ret
          exact ⟨by rw [HB.out]; simp, (by (repeat' (first | with_reducible exact Below.refl _ _ | with_reducible refine below_alloc ?_ _ ?_ | with_reducible refine Below.setCell ?_ ?_ _ | with_reducible refine Below.drew ?_ | with_reducible refine below_drewN ?_ _ | with_reducible refine below_step ?_ (by assumption) ?_ | with_reducible refine below_mark ?_ (by assumption) ?_)); all_goals (first | omega | (simp; done) | (simp; omega)))⟩
        case true =>
          cases g3
          case false =>
            go_wp2_with fail
            refine (LP.out _ ((by (repeat' (first | with_reducible exact Below.refl _ _ | with_reducible refine below_alloc ?_ _ ?_ | with_reducible refine Below.setCell ?_ ?_ _ | with_reducible refine Below.drew ?_ | with_reducible refine below_drewN ?_ _ | with_reducible refine below_step ?_ (by assumption) ?_ | with_reducible refine below_mark ?_ (by assumption) ?_)); all_goals (first | omega | (simp; done) | (simp; omega))))).mono ?_
            rintro x wx ⟨rfl, hbx⟩
            go_wp2_with fail
            go_ret
            exact ⟨by rw [HB.out]; simp, (by (repeat' (first | with_reducible exact Below.refl _ _ | with_reducible refine below_alloc ?_ _ ?_ | with_reducible refine Below.setCell ?_ ?_ _ | with_reducible refine Below.drew ?_ | with_reducible refine below_drewN ?_ _ | with_reducible refine below_step ?_ (by assumption) ?_ | with_reducible refine below_mark ?_ (by assumption) ?_)); all_goals (first | omega | (simp; done) | (simp; omega)))⟩
          case true =>
            go_wp2_with fail
            refine (LP.out _ ((by (repeat' (first | with_reducible exact Below.refl _ _ | with_reducible refine below_alloc ?_ _ ?_ | with_reducible refine Below.setCell ?_ ?_ _ | with_reducible refine Below.drew ?_ | with_reducible refine below_drewN ?_ _ | with_reducible refine below_step ?_ (by assumption) ?_ | with_reducible refine below_mark ?_ (by assumption) ?_)); all_goals (first | omega | (simp; done) | (simp; omega))))).mono ?_
            rintro x wx ⟨rfl, hbx⟩
            go_wp2_with fail
            go_ret
            exact ⟨by rw [HB.out]; rfl, (by (repeat' (first | with_reducible exact Below.refl _ _ | with_reducible refine below_alloc ?_ _ ?_ | with_reducible refine Below.setCell ?_ ?_ _ | with_reducible refine Below.drew ?_ | with_reducible refine below_drewN ?_ _ | with_reducible refine below_step ?_ (by assumption) ?_ | with_reducible refine below_mark ?_ (by assumption) ?_)); all_goals (first | omega | (simp; done) | (simp; omega)))⟩
  case' neg =>
    have hkh := hk; clear hk
  by_cases hk : t.k = 9
  case' pos =>
    have HB := Lib.hid (show b = ((decide (0 ≤ t.n ∧ t.n ≤ 1000000)) && (t.e == 0) && t.s.toList.isEmpty && ((t.kids.length : Int) == 1)) by rw [HB.out, own_i t hk])
    clear HWF LP TO WH IN1 IN2
    obtain ⟨g0, hg0⟩ : ∃ g : Bool, g = ((decide (0 ≤ t.n ∧ t.n ≤ 1000000))) := ⟨_, rfl⟩
    rw [← hg0] at HB IN3
    clear hg0
    generalize hg1 : (t.e == 0) = g1 at *
    generalize hg2 : t.s.toList.isEmpty = g2 at *
    generalize hg3 : ((t.kids.length : Int) == 1) = g3 at *
    generalize t.k = xk at *
    subst hk
    cases g0
    case false =>
      go_wp2_with fail
      refine (IN3.out _).mono ?_
      rintro x wx ⟨rfl, hwx⟩
      subst wx
      go_wp2_with fail
      go_ret
      exact ⟨by rw [HB.out]; simp, (by (repeat' (first | with_reducible exact Below.refl _ _ | with_reducible refine below_alloc ?_ _ ?_ | with_reducible refine Below.setCell ?_ ?_ _ | with_reducible refine Below.drew ?_ | with_reducible refine below_drewN ?_ _ | with_reducible refine below_step ?_ (by assumption) ?_ | with_reducible refine below_mark ?_ (by assumption) ?_)); all_goals (first | omega | (simp; done) | (simp; omega)))⟩
    case true =>
      cases g1
      case false =>
        go_wp2_with fail
        refine (IN3.out _).mono ?_
        rintro x wx ⟨rfl, hwx⟩
        subst wx
        go_wp2_with fail
        go_ret
        exact ⟨by rw [HB.out]; simp, (by (repeat' (first | with_reducible exact Below.refl _ _ | with_reducible refine below_alloc ?_ _ ?_ | with_reducible refine Below.setCell ?_ ?_ _ | with_reducible refine Below.drew ?_ | with_reducible refine below_drewN ?_ _ | with_reducible refine below_step ?_ (by assumption) ?_ | with_reducible refine below_mark ?_ (by assumption) ?_)); all_goals (first | omega | (simp; done) | (simp; omega)))⟩
      case true =>
        cases g2
        case false =>
          go_wp2_with fail
          refine (IN3.out _).mono ?_
          rintro x wx ⟨rfl, hwx⟩
          subst wx
          go_wp2_with fail
          go_ret
          exact ⟨by rw [HB.out]; simp, (by (repeat' (first | with_reducible exact Below.refl _ _ | with_reducible refine below_alloc ?_ _ ?_ | with_reducible refine Below.setCell ?_ ?_ _ | with_reducible refine Below.drew ?_ | with_reducible refine below_drewN ?_ _ | with_reducible refine below_step ?_ (by assumption) ?_ | with_reducible refine below_mark ?_ (by assumption) ?_)); all_goals (first | omega | (simp; done) | (simp; omega)))⟩
        case true =>
          cases g3
          case false =>
            go_wp2_with fail
            refine (IN3.out _).mono ?_
            rintro x wx ⟨rfl, hwx⟩
            subst wx
            go_wp2_with fail
            go_ret
            exact ⟨by rw [HB.out]; simp, (by (repeat' (first | with_reducible exact Below.refl _ _ | with_reducible refine below_alloc ?_ _ ?_ | with_reducible refine Below.setCell ?_ ?_ _ | with_reducible refine Below.drew ?_ | with_reducible refine below_drewN ?_ _ | with_reducible refine below_step ?_ (by assumption) ?_ | with_reducible refine below_mark ?_ (by assumption) ?_)); all_goals (first | omega | (simp; done) | (simp; omega)))⟩
          case true =>
            go_wp2_with fail
            refine (IN3.out _).mono ?_
            rintro x wx ⟨rfl, hwx⟩
            subst wx
            go_wp2_with fail
            go_ret
            exact ⟨by rw [HB.out]; rfl, (by (repeat' (first | with_reducible exact Below.refl _ _ | with_reducible refine below_alloc ?_ _ ?_ | with_reducible refine Below.setCell ?_ ?_ _ | with_reducible refine Below.drew ?_ | with_reducible refine below_drewN ?_ _ | with_reducible refine below_step ?_ (by assumption) ?_ | with_reducible refine below_mark ?_ (by assumption) ?_)); all_goals (first | omega | (simp; done) | (simp; omega)))⟩
  case' neg =>
    have hki := hk; clear hk
  have HB := Lib.hid (show b = false by rw [HB.out, own_j t (by omega)])
  clear HWF LP TO WH IN1 IN2 IN3
  generalize t.k = xk at *
  have t0 : (xk == 0) = false := by rw [beq_eq_false_iff_ne]; omega
  have t1 : (xk == 1) = false := by rw [beq_eq_false_iff_ne]; omega
  have t2 : (xk == 2) = false := by rw [beq_eq_false_iff_ne]; omega
  have t3 : (xk == 3) = false := by rw [beq_eq_false_iff_ne]; omega
  have t4 : (xk == 4) = false := by rw [beq_eq_false_iff_ne]; omega
  have t5 : (xk == 5) = false := by rw [beq_eq_false_iff_ne]; omega
  have t6 : (xk == 6) = false := by rw [beq_eq_false_iff_ne]; omega
  have t7 : (xk == 7) = false := by rw [beq_eq_false_iff_ne]; omega
  have t8 : (xk == 8) = false := by rw [beq_eq_false_iff_ne]; omega
  have t9 : (xk == 9) = false := by rw [beq_eq_false_iff_ne]; omega
  clear hka hkb hkc hkd hkf hkg hkh hki
  go_wp2_with fail
  go_ret
  exact ⟨by rw [HB.out]; rfl, (by (repeat' (first | with_reducible exact Below.refl _ _ | with_reducible refine below_alloc ?_ _ ?_ | with_reducible refine Below.setCell ?_ ?_ _ | with_reducible refine Below.drew ?_ | with_reducible refine below_drewN ?_ _ | with_reducible refine below_step ?_ (by assumption) ?_ | with_reducible refine below_mark ?_ (by assumption) ?_)); all_goals (first | omega | (simp; done) | (simp; omega)))⟩
theorem rightsB_take (ts : List V) (d : Int) (j : Nat) (hj : j < ts.length) : rightsB (ts.take (j + 1)) d = (rightsB (ts.take j) d && rightB ts[j] d) := by
  rw [rightsB_all, rightsB_all, List.take_succ_eq_append_getElem hj, List.all_append]
  simp
theorem rightsB_stuck (ts : List V) (d : Int) (j : Nat) (hj : j < ts.length) (h : rightB ts[j] d = false) : rightsB ts d = false := by
  rw [rightsB_all, Bool.eq_false_iff]
  intro hc
  rw [List.all_eq_true] at hc
  rw [hc _ (List.getElem_mem hj)] at h
  exact absurd h (by simp)
set_option maxHeartbeats 1000000 in
theorem l02Right_all (w0 : World) : ∀ (N : Nat) (v : Value) (t : V), t.sz < N → Rep w0 v t → t.sz ≤ 1048576 → ∀ (d : Int), -9223372036854775807 ≤ d → d ≤ 9223372036854775807 → ∀ (w : World), Below w0.heap.size w0 w →
    Calls Tryd.prog 94 #[v, .int .i64 d] w (BoolRet (rightB t d) w) := by
  intro N
  induction N with
  | zero => intro v t h; omega
  | succ N ih =>
    intro v t hN h hsz d hd0 hd1 w hw
    by_cases hd : d < 0
    · have t1 : decide (d < 0) = true := decide_eq_true hd
      rw [show rightB t d = false by rw [rightB_eq, decide_eq_false (show ¬ (0 ≤ d) by omega)]; rfl]
      obtain ⟨sl, rfl, hwf, hr⟩ := h
      unfold V.agg
      clear ih hr
      go_enter Tryd.func94, Tryd.ntmps94
      go_wp2_with fail
      go_ret
      exact ⟨rfl, (by (repeat' (first | with_reducible exact Below.refl _ _ | with_reducible refine below_alloc ?_ _ ?_ | with_reducible refine Below.setCell ?_ ?_ _ | with_reducible refine Below.drew ?_ | with_reducible refine below_drewN ?_ _ | with_reducible refine below_step ?_ (by assumption) ?_ | with_reducible refine below_mark ?_ (by assumption) ?_)); all_goals (first | omega | (simp; done) | (simp; omega)))⟩
    have t1 : decide (d < 0) = false := decide_eq_false hd
    have OW := Lib.hid (fun (W : World) (hW : Below w.heap.size w W) => l02Own_any w0 v t h hsz W (hw.trans (hW.mono hw.size)))
    obtain ⟨sl, rfl, hwf, hr⟩ := h
    have hks : t.kids.length ≤ 1048576 := by have := V.sz_eq t; have := szs_length t.kids; omega
    obtain ⟨b, hb⟩ : ∃ b : Bool, b = rightB t d := ⟨_, rfl⟩
    rw [← hb]
    have HB := Lib.hid (show b = (ownB t && rightsB t.kids (d - 1)) by rw [hb, rightB_eq, decide_eq_true (show 0 ≤ d by omega)]; rfl)
    have HW := Lib.hid hw
    obtain ⟨a, bb, off, cap, rfl, ha, hc, hm, sls, hel⟩ := hr.opened
    have HA := Lib.hid ha
    have IH := Lib.hid (fun (j : Nat) (hj : j < t.kids.length) (W : World) (hW : Below w.heap.size w W) => ih (t.kids[j].agg (sls j)) t.kids[j] (by have := V.sz_eq t; have := szs_mem (List.getElem_mem hj); omega) ⟨sls j, rfl, (hel j hj).2.1, (hel j hj).2.2⟩ (by have := V.sz_eq t; have := szs_mem (List.getElem_mem hj); omega) (d - 1) (by omega) (by omega) W (hw.trans (hW.mono hw.size)))
    have HE := Lib.hid hel
    clear ih hr hel ha hb hw hc hm
    have BX := Lib.hid (Box.new w t.k t.n t.e t.s (.slice a t.kids.length cap) 26)
    unfold V.agg at OW ⊢
    cases ho : ownB t
    case false =>
      have HB := Lib.hid (show b = false by rw [HB.out, ho]; rfl)
      rw [ho] at OW
      clear IH HE
      go_enter Tryd.func94, Tryd.ntmps94
      go_wp2_with fail
      refine (OW.out _ ((by (repeat' (first | with_reducible exact Below.refl _ _ | with_reducible refine below_alloc ?_ _ ?_ | with_reducible refine Below.setCell ?_ ?_ _ | with_reducible refine Below.drew ?_ | with_reducible refine below_drewN ?_ _ | with_reducible refine below_step ?_ (by assumption) ?_ | with_reducible refine below_mark ?_ (by assumption) ?_)); all_goals (first | omega | (simp; done) | (simp; omega))))).mono ?_
      rintro x w1 ⟨rfl, hb1⟩
      go_wp2_with fail
      go_ret
      exact ⟨by rw [HB.out]; rfl, (by (repeat' (first | with_reducible exact Below.refl _ _ | with_reducible refine below_alloc ?_ _ ?_ | with_reducible refine Below.setCell ?_ ?_ _ | with_reducible refine Below.drew ?_ | with_reducible refine below_drewN ?_ _ | with_reducible refine below_step ?_ (by assumption) ?_ | with_reducible refine below_mark ?_ (by assumption) ?_)); all_goals (first | omega | (simp; done) | (simp; omega)))⟩
    rw [ho, Bool.true_and] at HB
    rw [ho] at OW
    clear ho
    go_enter Tryd.func94, Tryd.ntmps94
    go_wp2_with fail
    refine (OW.out _ ((by (repeat' (first | with_reducible exact Below.refl _ _ | with_reducible refine below_alloc ?_ _ ?_ | with_reducible refine Below.setCell ?_ ?_ _ | with_reducible refine Below.drew ?_ | with_reducible refine below_drewN ?_ _ | with_reducible refine below_step ?_ (by assumption) ?_ | with_reducible refine below_mark ?_ (by assumption) ?_)); all_goals (first | omega | (simp; done) | (simp; omega))))).mono ?_
    rintro x w1 ⟨rfl, hb1⟩
    have hz1 := hb1.size
    simp at hz1
    have BX := Lib.hid (BX.out.stay hb1)
    obtain ⟨c0, c1, c2, c3, c4⟩ := BX.out.cells
    clear OW c0 c1 c2 c3
    go_wp2_with fail
    go_loopw [5] (fun i wr => ∃ j : Nat, j ≤ t.kids.length ∧ i = .int .i64 j ∧ Hid (rightsB (t.kids.take j) (d - 1) = true) ∧ Below w1.heap.size w1 wr) (fun i _ => t.kids.length + 1 - (intOf i).toNat)
    case atStart => exact ⟨0, by omega, rfl, Lib.hid rfl, Below.refl _ _⟩
    case round =>
      obtain ⟨j, hj, rfl, HN, hbl⟩ := hrel
      obtain ⟨-, -, -, -, c4⟩ := (BX.out.stay hbl).cells
      by_cases hlt : j < t.kids.length
      · have hne : t.kids ≠ [] := by intro e; rw [e] at hlt; simp at hlt
        obtain ⟨rfl, hbw⟩ := HA.out hne
        have HWR := Lib.hid (show Below w0.heap.size w0 wr from HW.out.trans (Below.mono ((by (repeat' (first | with_reducible exact Below.refl _ _ | with_reducible refine below_alloc ?_ _ ?_ | with_reducible refine Below.setCell ?_ ?_ _ | with_reducible refine Below.drew ?_ | with_reducible refine below_drewN ?_ _ | with_reducible refine below_step ?_ (by assumption) ?_ | with_reducible refine below_mark ?_ (by assumption) ?_)); all_goals (first | omega | (simp; done) | (simp; omega)))) HW.out.size))
        obtain ⟨d0, d1, d2, d3, d4⟩ := (HE.out j hlt).1.keep (HWR.out.block bb hbw)
        have IHJ := Lib.hid (IH.out j hlt)
        obtain ⟨ak, kcap, hks⟩ := (HE.out j hlt).2.2.slice
        rw [hks] at d4 IHJ
        clear hks
        have hdd : IntKind.i64.wrap (d - 1) = d - 1 := IntWalk.i64_in _ (by omega)
        have HT := Lib.hid (rightsB_take t.kids (d - 1) j hlt)
        have HS := Lib.hid (rightsB_stuck t.kids (d - 1) j hlt)
        rw [HN.out, Bool.true_and] at HT
        clear IH
        unfold V.agg at IHJ
        cases hrb : rightB t.kids[j] (d - 1)
        · have HX := Lib.hid (show b = false by rw [HB.out, HS.out hrb])
          rw [hrb] at IHJ
          clear HT HS hrb
          go_wp2_with fail
          refine (IHJ.out _ ((by (repeat' (first | with_reducible exact Below.refl _ _ | with_reducible refine below_alloc ?_ _ ?_ | with_reducible refine Below.setCell ?_ ?_ _ | with_reducible refine Below.drew ?_ | with_reducible refine below_drewN ?_ _ | with_reducible refine below_step ?_ (by assumption) ?_ | with_reducible refine below_mark ?_ (by assumption) ?_)); all_goals (first | omega | (simp; done) | (simp; omega))))).mono ?_
          rintro x wx ⟨rfl, hbx⟩
          go_wp2_with fail
          go_ret
          exact ⟨by rw [HX.out]; rfl, (by (repeat' (first | with_reducible exact Below.refl _ _ | with_reducible refine below_alloc ?_ _ ?_ | with_reducible refine Below.setCell ?_ ?_ _ | with_reducible refine Below.drew ?_ | with_reducible refine below_drewN ?_ _ | with_reducible refine below_step ?_ (by assumption) ?_ | with_reducible refine below_mark ?_ (by assumption) ?_)); all_goals (first | omega | (simp; done) | (simp; omega)))⟩
        · rw [hrb] at IHJ HT
          clear HS hrb
          go_wp2_with fail
          refine (IHJ.out _ ((by (repeat' (first | with_reducible exact Below.refl _ _ | with_reducible refine below_alloc ?_ _ ?_ | with_reducible refine Below.setCell ?_ ?_ _ | with_reducible refine Below.drew ?_ | with_reducible refine below_drewN ?_ _ | with_reducible refine below_step ?_ (by assumption) ?_ | with_reducible refine below_mark ?_ (by assumption) ?_)); all_goals (first | omega | (simp; done) | (simp; omega))))).mono ?_
          rintro x wx ⟨rfl, hbx⟩
          go_wp2_with fail
          go_roundw
          case rel => exact ⟨j + 1, by omega, by go_num, HT, (by (repeat' (first | with_reducible exact Below.refl _ _ | with_reducible refine below_alloc ?_ _ ?_ | with_reducible refine Below.setCell ?_ ?_ _ | with_reducible refine Below.drew ?_ | with_reducible refine below_drewN ?_ _ | with_reducible refine below_step ?_ (by assumption) ?_ | with_reducible refine below_mark ?_ (by assumption) ?_)); all_goals (first | omega | (simp; done) | (simp; omega)))⟩
          case measure => simp [intOf]; omega
      · have HX := Lib.hid (show b = true by
          rw [HB.out]
          have := HN.out
          rwa [show j = t.kids.length by omega, List.take_length] at this)
        clear HN
        go_wp2_with fail
        go_ret
        exact ⟨by rw [HX.out]; rfl, (by (repeat' (first | with_reducible exact Below.refl _ _ | with_reducible refine below_alloc ?_ _ ?_ | with_reducible refine Below.setCell ?_ ?_ _ | with_reducible refine Below.drew ?_ | with_reducible refine below_drewN ?_ _ | with_reducible refine below_step ?_ (by assumption) ?_ | with_reducible refine below_mark ?_ (by assumption) ?_)); all_goals (first | omega | (simp; done) | (simp; omega)))⟩
set_option maxHeartbeats 1000000 in
theorem ValueOk_spec (w0 : World) (v : Value) (t : V) (h : Rep w0 v t) (hsz : t.sz ≤ 1048576) (w : World) (hw : Below w0.heap.size w0 w) : Calls Tryd.prog 18 #[v] w fun e w' => e = .returned (.bool (okT t)) ∧ Below w.heap.size w w' := by
  have RI := Lib.hid (fun (W : World) (hW : Below w.heap.size w W) => l02Right_all w0 _ v t (Nat.lt_succ_self _) h hsz 12 (by omega) (by omega) W (hw.trans (hW.mono hw.size)))
  have HB := Lib.hid (show okT t = (rightB t 12 && decide ((t.nodes : Int) ≤ 300)) by unfold okT; congr 1; rw [decide_eq_decide]; omega)
  have hno : (t.nodes : Int) ≤ 1048577 := by have := nodes_sz t; omega
  obtain ⟨b, hb⟩ : ∃ b : Bool, b = okT t := ⟨_, rfl⟩
  rw [← hb] at HB ⊢
  clear hb
  obtain ⟨sl, rfl, hwf, hr⟩ := h
  have NO := Lib.hid (fun (W : World) (hW : Below w.heap.size w W) => nodes_any w0 _ sl t.kids (Nat.le_refl _) hr (by have := V.sz_eq t; omega) t rfl W (hw.trans (hW.mono hw.size)))
  have BX := Lib.hid (Box.new w t.k t.n t.e t.s sl 26)
  clear hr
  unfold V.agg at *
  cases hrb : rightB t 12
  · rw [hrb] at HB RI
    go_enter Tryd.func18, Tryd.ntmps18
    go_wp2_with fail
    refine (RI.out _ ((by (repeat' (first | with_reducible exact Below.refl _ _ | with_reducible refine below_alloc ?_ _ ?_ | with_reducible refine Below.setCell ?_ ?_ _ | with_reducible refine Below.drew ?_ | with_reducible refine below_drewN ?_ _ | with_reducible refine below_step ?_ (by assumption) ?_ | with_reducible refine below_mark ?_ (by assumption) ?_)); all_goals (first | omega | (simp; done) | (simp; omega))))).mono ?_
    rintro x wx ⟨rfl, hbx⟩
    go_wp2_with fail
    go_ret
    exact ⟨by rw [HB.out]; rfl, (by (repeat' (first | with_reducible exact Below.refl _ _ | with_reducible refine below_alloc ?_ _ ?_ | with_reducible refine Below.setCell ?_ ?_ _ | with_reducible refine Below.drew ?_ | with_reducible refine below_drewN ?_ _ | with_reducible refine below_step ?_ (by assumption) ?_ | with_reducible refine below_mark ?_ (by assumption) ?_)); all_goals (first | omega | (simp; done) | (simp; omega)))⟩
  · rw [hrb, Bool.true_and] at HB
    rw [hrb] at RI
    generalize hg : decide ((t.nodes : Int) ≤ 300) = g at *
    go_enter Tryd.func18, Tryd.ntmps18
    go_wp2_with fail
    refine (RI.out _ ((by (repeat' (first | with_reducible exact Below.refl _ _ | with_reducible refine below_alloc ?_ _ ?_ | with_reducible refine Below.setCell ?_ ?_ _ | with_reducible refine Below.drew ?_ | with_reducible refine below_drewN ?_ _ | with_reducible refine below_step ?_ (by assumption) ?_ | with_reducible refine below_mark ?_ (by assumption) ?_)); all_goals (first | omega | (simp; done) | (simp; omega))))).mono ?_
    rintro x wx ⟨rfl, hbx⟩
    obtain ⟨c0, c1, c2, c3, c4⟩ := (BX.out.stay hbx).cells
    go_wp2_with fail
    refine (NO.out _ ((by (repeat' (first | with_reducible exact Below.refl _ _ | with_reducible refine below_alloc ?_ _ ?_ | with_reducible refine Below.setCell ?_ ?_ _ | with_reducible refine Below.drew ?_ | with_reducible refine below_drewN ?_ _ | with_reducible refine below_step ?_ (by assumption) ?_ | with_reducible refine below_mark ?_ (by assumption) ?_)); all_goals (first | omega | (simp; done) | (simp; omega))))).mono ?_
    rintro x wy ⟨rfl, hby⟩
    cases g
    all_goals go_wp2_with fail
    all_goals go_ret
    all_goals exact ⟨by rw [HB.out]; rfl, (by (repeat' (first | with_reducible exact Below.refl _ _ | with_reducible refine below_alloc ?_ _ ?_ | with_reducible refine Below.setCell ?_ ?_ _ | with_reducible refine Below.drew ?_ | with_reducible refine below_drewN ?_ _ | with_reducible refine below_step ?_ (by assumption) ?_ | with_reducible refine below_mark ?_ (by assumption) ?_)); all_goals (first | omega | (simp; done) | (simp; omega)))⟩
end Go.Proofs.YtgbgeocmjdgmoaaDoor
namespace Go.Proofs.YtgbgeocmjdgmoaaDoor
set_option linter.unusedSimpArgs false
set_option linter.unusedVariables false
set_option maxRecDepth 100000
open Go.RowKit
theorem node_small {t : V} (h : nodeB t = true) : t.s.size ≤ 2000 := by
  unfold nodeB at h
  split at h
  · have := of_decide_eq_true h; omega
  · split at h
    · have := of_decide_eq_true h; omega
    · split at h
      · simp only [Bool.and_eq_true, decide_eq_true_eq] at h; omega
      · split at h
        · simp only [Bool.and_eq_true, decide_eq_true_eq] at h; omega
        · split at h
          · have := of_decide_eq_true h; omega
          · split at h
            · have := of_decide_eq_true h; omega
            · cases h
mutual
theorem right_small : ∀ (t : V) (d : Int), rightB t d = true → t.sz + 1 ≤ 2001 * t.nodes
  | .mk k n e s ks, d, h => by
    have h1 := node_small (rightB_leaf h).1
    have h2 := rights_small ks (d - 1) (right_kids h)
    rw [V.nodes_eq, V.sz]
    simp only [V.s, V.kids] at h1 ⊢
    omega
theorem rights_small : ∀ (ts : List V) (d : Int), rightsB ts d = true → szs ts ≤ 2001 * nodess ts
  | [], _, _ => by simp [szs]
  | t :: ts, d, h => by
    rw [rightsB, Bool.and_eq_true] at h
    have h1 := right_small t d h.1
    have h2 := rights_small ts d h.2
    rw [szs, nodess]; omega
 end
theorem ok_small {t : V} (h : okT t = true) : t.sz ≤ 600300 ∧ t.nodes ≤ 300 := by
  simp only [okT, Bool.and_eq_true, decide_eq_true_eq] at h
  have := right_small t 12 h.1
  omega
end Go.Proofs.YtgbgeocmjdgmoaaDoor
namespace Go.Proofs.YtgbgeocmjdgmoaaDoor
set_option linter.unusedSimpArgs false
set_option linter.unusedVariables false
set_option maxRecDepth 100000
open Go.RowKit
theorem plain_kids {t : V} {d : Int} (h : rightB t d = true) (hk : t.k ≠ 7 ∧ t.k ≠ 8 ∧ t.k ≠ 9) : t.kids = [] := by
  rw [rightB_eq] at h
  simp only [Bool.and_eq_true, ownB] at h
  have h2 := h.1.2.2
  rw [if_neg hk.1, if_neg hk.2.2, if_neg hk.2.1] at h2
  exact List.eq_nil_of_length_eq_zero (by simpa using h2)
theorem kind_in {t : V} {d : Int} (h : rightB t d = true) : 0 ≤ t.k ∧ t.k ≤ 9 := by
  have h2 := (rightB_leaf h).1
  unfold nodeB at h2
  by_cases hk : 0 ≤ t.k ∧ t.k ≤ 9
  · exact hk
  · rw [if_neg (by omega), if_neg (by omega), if_neg (by omega), if_neg (by omega), if_neg (by omega), if_neg (by omega)] at h2
    cases h2
theorem tag_n {t : V} {d : Int} (h : rightB t d = true) (hk : t.k = 9) : 0 ≤ t.n ∧ t.n ≤ 1000000 := by
  have h2 := (rightB_leaf h).1
  unfold nodeB at h2
  rw [if_neg (by omega), if_neg (by omega), if_neg (by omega), if_neg (by omega), if_neg (by omega), if_pos hk] at h2
  have := of_decide_eq_true h2
  omega
end Go.Proofs.YtgbgeocmjdgmoaaDoor
namespace Go.Proofs.YtgbgeocmjdgmoaaDoor
set_option linter.unusedSimpArgs false
set_option linter.unusedVariables false
set_option maxRecDepth 100000
open Go.RowKit
theorem u64w (x : Int) (h0 : 0 ≤ x) (h1 : x < 18446744073709551616) : IntKind.u64.wrap x = x := by
  unfold IntKind.wrap; simp [IntKind.bits, IntKind.signed]; omega
end Go.Proofs.YtgbgeocmjdgmoaaDoor
namespace Go.Proofs.YtgbgeocmjdgmoaaDoor
set_option linter.unusedSimpArgs false
set_option linter.unusedVariables false
set_option maxRecDepth 100000
open Go.RowKit
def bigZ : Nat → Int → List UInt8
  | 0, _ => []
  | i + 1, n => UInt8.ofNat ((n / 256 ^ i) % 256).toNat :: bigZ i n
theorem bigZ_length (i : Nat) (n : Int) : (bigZ i n).length = i := by induction i with | zero => rfl | succ i ih => simp [bigZ, ih]
set_option maxHeartbeats 400000 in
theorem PutWide_any (n m : Int) (w : World) (hm0 : 1 ≤ m) (hm : m ≤ 8) :
    Calls Tryd.prog 44 #[.int .i64 n, .int .i64 m] w (TxtRet w (bigZ m.toNat n)) := by
  go_enter Tryd.func44, Tryd.ntmps44
  go_wp2_with (go_at_call 105; refine (within_yes _ _ _ _ (by omega) (by omega)).mono ?_; rintro e w' ⟨rfl, rfl⟩)
  go_loopw [5, 6] (fun v i wr => ∃ k : Int, ∃ l : List UInt8, -1 ≤ k ∧ k < m ∧ i = .int .i64 k ∧ l.length = (m - 1 - k).toNat ∧ Hid (l ++ bigZ (k + 1).toNat n = bigZ m.toNat n) ∧ BRow wr w'.heap.size v l ∧ Below w'.heap.size w' wr) (fun _ i _ => (intOf i + 1).toNat)
  case atStart => exact ⟨m - 1, [], by omega, by omega, rfl, by simp, Lib.hid (by rw [List.nil_append, show m - 1 + 1 = m by omega]), BRow.made [] (Nat.le_refl _) (by simp), (Below.refl _ _).alloc (Nat.le_refl _) _⟩
  case round =>
    obtain ⟨k, l, hk, hkm, rfl, hl8, HL, hrow, hbl⟩ := hrel
    have hsz := hbl.size
    have HL8 := Lib.hid hl8; clear hl8
    by_cases hlt : 0 ≤ k
    · have R1 := Lib.hid (src_new wr (n / 2 ^ (8 * k).toNat % 256) (by omega) (by omega))
      have R2 := Lib.hid (show BRow (wr.alloc (.cells #[.int .u8 (n / 2 ^ (8 * k).toNat % 256)] 5)) w'.heap.size u5 l from World.ownsRow.alloc hrow _)
      have HB := Lib.hid hrow; clear hrow
      go_wp2_with (at_builtin; refine app_bytes rfl _ _ _ rfl w'.heap.size _ l rfl R2.out _ rfl _ R1.out (by rw [HL8.out]; simp; omega) (by simp; omega) ?_; intro v' w2 hrow' hg' _)
      go_roundw
      case rel =>
        refine ⟨k - 1, _, by omega, by omega, rfl, ?_, Lib.hid ?_, hrow', (hbl.alloc hsz _).grown hg' (by simp; omega) (fun k' hk' => (BRow.lt R2.out k' hk').1)⟩
        · rw [List.length_append, HL8.out]; simp; omega
        · rw [← HL.out, show (k + 1).toNat = (k - 1 + 1).toNat + 1 by omega, bigZ, List.append_assoc, show (k - 1 + 1).toNat = k.toNat by omega, show (8 * k).toNat = 8 * k.toNat by omega, Int.pow_mul]
          rfl
      case measure => simp [intOf]; omega
    · obtain rfl : k = -1 := by omega
      have r := run_str hrow
      have H := Lib.hid (show l = bigZ m.toNat n by have := HL.out; simpa [bigZ] using this)
      clear HL HL8 hrow
      go_wp2
      go_ret
      exact ⟨by rw [← H.out]; rfl, hbl⟩
theorem big_bigZ (m n : Nat) : big m n = bigZ m n := by
  induction m with
  | zero => rfl
  | succ m ih =>
    rw [big, bigZ, ih]
    congr 1
    have : ((n : Int) / 256 ^ m % 256).toNat = n / 256 ^ m % 256 := by
      have h : ((n : Int) / 256 ^ m % 256) = ((n / 256 ^ m % 256 : Nat) : Int) := by simp
      rw [h]; exact Int.toNat_natCast _
    rw [this]
    simp [← UInt8.toNat_inj]
theorem bigZ_neg (m : Nat) (n : Int) (hm : m ≤ 8) : bigZ m (n - 18446744073709551616) = bigZ m n := by
  induction m with
  | zero => rfl
  | succ m ih =>
    rw [bigZ, bigZ, ih (by omega)]
    congr 3
    have h : (18446744073709551616 : Int) = 256 ^ m * 256 ^ (8 - m) := by
      rw [← Int.pow_add, show m + (8 - m) = 8 by omega]; rfl
    have hp : (256 : Int) ^ m ≠ 0 := Int.ne_of_gt (Int.pow_pos (by decide))
    rw [h, show n - 256 ^ m * 256 ^ (8 - m) = n + 256 ^ m * (-(256 ^ (8 - m))) by rw [Int.mul_neg]; omega, Int.add_mul_ediv_left _ _ hp]
    have h2 : (256 : Int) ^ (8 - m) = 256 * 256 ^ (7 - m) := by
      rw [show 8 - m = (7 - m) + 1 by omega, Int.pow_succ, Int.mul_comm]
    rw [h2]
    omega
end Go.Proofs.YtgbgeocmjdgmoaaDoor
namespace Go.Proofs.YtgbgeocmjdgmoaaDoor
set_option linter.unusedSimpArgs false
set_option linter.unusedVariables false
set_option maxRecDepth 100000
open Go.RowKit
end Go.Proofs.YtgbgeocmjdgmoaaDoor
namespace Go.Proofs.YtgbgeocmjdgmoaaDoor
set_option linter.unusedSimpArgs false
set_option linter.unusedVariables false
set_option maxRecDepth 100000
open Go.RowKit
def wval (l : List UInt8) : Nat := l.foldl (fun n c => 256 * n + c.toNat) 0
theorem wval_snoc (l : List UInt8) (c : UInt8) : wval (l ++ [c]) = 256 * wval l + c.toNat := by simp [wval, List.foldl_append]
def sub (l : List UInt8) (i m : Nat) : List UInt8 := (l.drop i).take m
theorem sub_length (l : List UInt8) (i m : Nat) (h : i + m ≤ l.length) : (sub l i m).length = m := by simp [sub]; omega
theorem sub_succ (s : ByteArray) (i m : Nat) (h : i + m < s.size) : sub s.data.toList i (m + 1) = sub s.data.toList i m ++ [s[i + m]] := by
  have hl : m < (s.data.toList.drop i).length := by simp; omega
  rw [sub, sub, List.take_succ_eq_append_getElem hl]
  congr 2
  simp
  rfl
theorem or_byte (q b : Int) (h0 : 0 ≤ b) (h1 : b < 256) : bits BinOp.or IntKind.i64 (wrap64 (q * 256)) (wrap64 b) = wrap64 (q * 256 + b) := by
  have hb : wrap64 b = b := by unfold wrap64; omega
  rw [hb]
  have hX : (BitVec.ofInt 64 (wrap64 (q * 256))).toNat = ((q * 256) % 18446744073709551616).toNat := by
    rw [BitVec.toNat_ofInt]
    congr 1
    unfold wrap64
    omega
  have hY : (BitVec.ofInt 64 b).toNat = b.toNat := by
    rw [BitVec.toNat_ofInt]
    congr 1
    omega
  obtain ⟨c, hc⟩ : ∃ c : Nat, ((q * 256) % 18446744073709551616).toNat = 2 ^ 8 * c := ⟨((q * 256) % 18446744073709551616).toNat / 256, by omega⟩
  have hor : (BitVec.ofInt 64 (wrap64 (q * 256)) ||| BitVec.ofInt 64 b).toNat = ((q * 256) % 18446744073709551616).toNat + b.toNat := by
    rw [BitVec.toNat_or, hX, hY, hc]
    exact (Nat.two_pow_add_eq_or_of_lt (by omega) c).symm
  show IntKind.i64.wrap ((BitVec.ofInt 64 (wrap64 (q * 256)) ||| BitVec.ofInt 64 b).toNat : Int) = _
  rw [hor]
  simp only [IntKind.wrap, IntKind.signed, IntKind.bits, wrap64]
  simp
  omega
theorem wrap_step (v c : Nat) : wrap64 (wrap64 (v : Int) * 256 + (c : Int)) = wrap64 ((256 * v + c : Nat) : Int) := by
  unfold wrap64; omega
set_option maxHeartbeats 400000 in
theorem GetWide_any (s : ByteArray) (i m : Int) (w : World) (hs : s.size ≤ 9223372036854775807) (hi : 0 ≤ i) (hm0 : 1 ≤ m) (hm : m ≤ 8) (him : i ≤ s.size - m) :
    Calls Tryd.prog 46 #[.string s, .int .i64 i, .int .i64 m] w fun e w' => e = .returned (.tuple #[.int .i64 (wrap64 (wval (sub s.data.toList i.toNat m.toNat))), .bool true]) ∧ w' = w := by
  go_enter Tryd.func46, Tryd.ntmps46
  go_wp2_with (go_at_call 105; refine (within_yes _ _ _ _ (by omega) (by omega)).mono ?_; rintro e w' ⟨rfl, rfl⟩)
  go_loop [8, 26, 9] (fun n k _ => ∃ j : Nat, ∃ q : Int, (j : Int) ≤ m ∧ k = .int .i64 j ∧ n = .int .i64 q ∧ Hid (q = wrap64 (wval (sub s.data.toList i.toNat j)))) (fun _ k _ => (m - intOf k).toNat)
  case atStart => exact ⟨0, 0, by omega, rfl, rfl, Lib.hid (by simp [sub, wval, wrap64])⟩
  case round =>
    obtain ⟨j, q, hj, rfl, rfl, HQ⟩ := hrel
    by_cases hlt : (j : Int) < m
    · have HT := Lib.hid (show bits BinOp.or IntKind.i64 (wrap64 (q * 256)) (wrap64 (s[(i + (j : Int)).toNat].toNat : Int)) = wrap64 (wval (sub s.data.toList i.toNat (j + 1))) by
        rw [or_byte _ _ (by omega) (by have := s[(i + (j : Int)).toNat].toNat_lt; omega), HQ.out, sub_succ s i.toNat j (by omega), wval_snoc, ← wrap_step]
        congr 3
        simp only [show (i + (j : Int)).toNat = i.toNat + j by omega])
      go_wp2_with fail
      go_round
      case rel => exact ⟨j + 1, _, by omega, by go_num, rfl, HT⟩
      case measure => simp [intOf]; omega
    · have H := Lib.hid (show q = wrap64 (wval (sub s.data.toList i.toNat m.toNat)) by rw [HQ.out, show m.toNat = j by omega])
      clear HQ
      go_wp2_with fail
      go_ret2
      exact ⟨by rw [← H.out]; rfl, rfl⟩
set_option maxHeartbeats 400000 in
theorem GetWide_no (s : ByteArray) (i m : Int) (w : World) (hs : s.size ≤ 9223372036854775807) (hm0 : 1 ≤ m) (hm : m ≤ 8) (h : i < 0 ∨ s.size - m < i) :
    Calls Tryd.prog 46 #[.string s, .int .i64 i, .int .i64 m] w fun e w' => e = .returned (.tuple #[.int .i64 0, .bool false]) ∧ w' = w := by
  by_cases h1 : i < 0
  · clear h
    go_enter Tryd.func46, Tryd.ntmps46
    go_wp2_with (go_at_call 105; refine (within_yes _ _ _ _ (by omega) (by omega)).mono ?_; rintro e w' ⟨rfl, rfl⟩)
    go_ret2
    exact ⟨rfl, rfl⟩
  · have h2 : (s.size : Int) - m < i := by omega
    clear h
    go_enter Tryd.func46, Tryd.ntmps46
    go_wp2_with (go_at_call 105; refine (within_yes _ _ _ _ (by omega) (by omega)).mono ?_; rintro e w' ⟨rfl, rfl⟩)
    go_ret2
    exact ⟨rfl, rfl⟩
end Go.Proofs.YtgbgeocmjdgmoaaDoor
namespace Go.Proofs.YtgbgeocmjdgmoaaDoor
set_option linter.unusedSimpArgs false
set_option linter.unusedVariables false
set_option maxRecDepth 100000
open Go.RowKit
theorem wval_lt (l : List UInt8) : wval l < 256 ^ l.length := by
  have : ∀ (l : List UInt8) (n : Nat), l.foldl (fun n c => 256 * n + c.toNat) n < (n + 1) * 256 ^ l.length := by
    intro l
    induction l with
    | nil => intro n; simp
    | cons c l ih =>
      intro n
      have h := ih (256 * n + c.toNat)
      have hc := c.toNat_lt
      simp only [List.foldl_cons, List.length_cons, Nat.pow_succ]
      refine Nat.lt_of_lt_of_le h ?_
      rw [Nat.mul_comm (256 ^ l.length) 256, ← Nat.mul_assoc]
      exact Nat.mul_le_mul_right _ (by omega)
  simpa [wval] using this l 0
theorem wval_sub_lt (l : List UInt8) (i m : Nat) (h : m ≤ 8) : wval (sub l i m) < 18446744073709551616 := by
  have h1 := wval_lt (sub l i m)
  have h2 : (sub l i m).length ≤ 8 := by simp [sub]; omega
  exact Nat.lt_of_lt_of_le h1 (Nat.pow_le_pow_right (by decide) h2)
end Go.Proofs.YtgbgeocmjdgmoaaDoor
