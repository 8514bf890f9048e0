/- Whether a value is right, as the reference asks: spec.l02Pairs, Nodes. -/
import Derived.Test.YtiemlefmhleaeaaDoorDec
import Derived.Test.YtiemlefmhleaeaaDoorSign
import Derived.Test.YtiemlefmhleaeaaDoorAreKids
import Derived.Deep.QuietTactic
import Derived.BigQuiet
namespace Go.Proofs.YtiemlefmhleaeaaDoor
set_option linter.unusedVariables false
set_option maxRecDepth 100000
open Go.RowKit
def keqB (a b : V) : Bool := decide (keyEq a b)
set_option maxHeartbeats 4000000 in
theorem l02Pairs_any (w0 : World) (v : Value) (ts : List V) (h : RepS w0 v ts) (w : World) (hw : Below w0.heap.size w0 w) (hlen : ts.length ≤ 1048576) :
    Calls Tryd.prog 217 #[v] w (BoolRet (pairsB ts) w) := by
  obtain ⟨b, hb⟩ : ∃ b : Bool, b = pairsB ts := ⟨_, rfl⟩
  rw [← hb]
  have HB := Lib.hid (show b = (keysB keqB (evV ts) && decide (ts.length % 2 = 0) && decide (ts.length ≤ 300)) from hb)
  clear hb
  obtain ⟨a, bb, off, cap, rfl, ha, hc, hm, sls, hel⟩ := h.opened
  have HA := Lib.hid ha; have HE := Lib.hid hel
  clear ha hel h hc hm
  have HW := Lib.hid hw
  go_enter Tryd.func217, Tryd.ntmps217
  go_wp2_with fail
  go_loopw [3, 4] (fun i q wr => ∃ j : Nat, j % 2 = 0 ∧ j ≤ ts.length + 1 ∧ i = .int .i64 j ∧ Hid (keysB keqB (evV (ts.take j)) = true) ∧ Below w.heap.size w wr) (fun i _ _ => ts.length + 2 - (intOf i).toNat)
  case atStart => exact ⟨0, rfl, by omega, rfl, Lib.hid rfl, Below.refl _ _⟩
  case round =>
    obtain ⟨j, hj2, hj, rfl, HN, hbl⟩ := hrel
    by_cases hlt : j < ts.length
    · have hne : ts ≠ [] := by intro e; rw [e] at hlt; simp at hlt
      obtain ⟨rfl, hbw⟩ := HA.out hne
      have HWR := Lib.hid (show Below w0.heap.size w0 wr from HW.out.trans (hbl.mono HW.out.size))
      obtain ⟨c0, c1, c2, c3, c4⟩ := (HE.out j hlt).1.keep (HWR.out.block bb hbw)
      clear c1 c2 c4
      have HS := Lib.hid (show keysB keqB (evV (ts.take (j + 2))) = (keysB keqB (evV (ts.take j)) && isKeyB ts[j] && (evV (ts.take j)).all fun y => !(keqB y ts[j])) by rw [evV_take ts j hj2 hlt, keysB_snoc])
      have HST := Lib.hid (keysB_stuck keqB ts j hj2 hlt)
      cases hkey : isKeyB ts[j]
      · have HX := Lib.hid (show b = false by rw [HB.out, HST.out (.inl hkey)]; rfl)
        have hk' : ¬ (ts[j].k = 5 ∨ ts[j].k = 3) := of_decide_eq_false hkey
        have t1 : (ts[j].k != 5) = true := by simp; omega
        have t2 : (ts[j].k != 3) = true := by simp; omega
        clear hkey hk' HS HST HN
        generalize ts[j].k = xk at *
        go_wp2_with fail
        go_ret
        exact ⟨by rw [HX.out]; rfl, (by (repeat' (first | with_reducible exact Below.refl _ _ | with_reducible refine below_alloc ?_ _ ?_ | with_reducible refine Below.setCell ?_ ?_ _ | with_reducible refine Below.drew ?_ | with_reducible refine below_drewN ?_ _ | with_reducible refine below_step ?_ (by assumption) ?_ | with_reducible refine below_mark ?_ (by assumption) ?_)); all_goals (first | omega | (simp; done) | (simp; omega)))⟩
      · have hk' : ts[j].k = 5 ∨ ts[j].k = 3 := of_decide_eq_true hkey
        rw [hkey] at HS
        clear hkey
        have HKK := Lib.hid hk'
        clear hk'
        have hcase : (ts[j].k != 5) = false ∨ ((ts[j].k != 5) = true ∧ (ts[j].k != 3) = false) := by
          rcases HKK.out with h | h
          · left; simp [h]
          · right; simp [h]
        rcases hcase with t1 | ⟨t1, t2⟩
        · go_wp2_with fail
          go_loopw [4] (fun i w2 => ∃ q : Nat, q % 2 = 0 ∧ q ≤ j + 1 ∧ i = .int .i64 q ∧ Hid (∀ x, (hx : x < q) → (hl : x < ts.length) → x % 2 = 0 → keqB ts[x] ts[j] = false) ∧ Below w.heap.size w w2) (fun i _ => j + 2 - (intOf i).toNat)
          case atStart => exact ⟨0, rfl, by omega, rfl, Lib.hid (by omega), hbl⟩
          case round =>
            clear c0 c3 hbl HWR
            obtain ⟨q, hq2, hqj, rfl, HNE, hbl⟩ := hrel
            have HWR := Lib.hid (show Below w0.heap.size w0 wr from HW.out.trans (hbl.mono HW.out.size))
            by_cases hqlt : q < j
            · have hqts : q < ts.length := by omega
              obtain ⟨c0, c1, c2, c3, c4⟩ := (HE.out q hqts).1.keep (HWR.out.block bb hbw)
              obtain ⟨d0, d1, d2, d3, d4⟩ := (HE.out j hlt).1.keep (HWR.out.block bb hbw)
              clear c2 c4 d2 d4
              have HX1 := Lib.hid (show keqB ts[q] ts[j] = true → b = false from fun e => by rw [HB.out, HST.out (.inr ⟨q, hqts, hqlt, hq2, e⟩)]; rfl)
              have HX2 := Lib.hid (show keqB ts[q] ts[j] = false → ∀ x, (hx : x < q + 2) → (hl : x < ts.length) → x % 2 = 0 → keqB ts[x] ts[j] = false from fun e x hx hl hx2 => by
                by_cases hxq : x < q
                · exact HNE.out x hxq hl hx2
                · have : x = q := by omega
                  subst this; exact e)
              have HKQ := Lib.hid (show keqB ts[q] ts[j] = decide (ts[q].k = ts[j].k ∧ ts[q].n = ts[j].n ∧ ts[q].s = ts[j].s) from rfl)
              clear HNE HS HST
              generalize ts[q].k = qk at *
              generalize ts[q].n = qn at *
              generalize ts[q].s = qs at *
              generalize ts[j].k = jk at *
              generalize ts[j].n = jn at *
              generalize ts[j].s = js at *
              by_cases e1 : qk = jk
              case neg =>
                have s1 : (qk == jk) = false := by simpa using e1
                have HX2 := Lib.hid (HX2.out (by rw [HKQ.out]; exact decide_eq_false (fun h => e1 h.1)))
                clear e1
                go_wp2_with fail
                go_quiet (fail)
                all_goals go_wp2_with fail
                all_goals go_roundw
                all_goals first
                  | (simp [intOf]; omega)
                  | exact ⟨q + 2, by omega, by omega, by go_num, HX2, (by (repeat' (first | with_reducible exact Below.refl _ _ | with_reducible refine below_alloc ?_ _ ?_ | with_reducible refine Below.setCell ?_ ?_ _ | with_reducible refine Below.drew ?_ | with_reducible refine below_drewN ?_ _ | with_reducible refine below_step ?_ (by assumption) ?_ | with_reducible refine below_mark ?_ (by assumption) ?_)); all_goals (first | omega | (simp; done) | (simp; omega)))⟩
              have s1 : (qk == jk) = true := by simpa using e1
              by_cases e2 : qn = jn
              case neg =>
                have s2 : (qn == jn) = false := by simpa using e2
                have HX2 := Lib.hid (HX2.out (by rw [HKQ.out]; exact decide_eq_false (fun h => e2 h.2.1)))
                clear e1 e2
                go_wp2_with fail
                go_quiet (fail)
                all_goals go_wp2_with fail
                all_goals go_roundw
                all_goals first
                  | (simp [intOf]; omega)
                  | exact ⟨q + 2, by omega, by omega, by go_num, HX2, (by (repeat' (first | with_reducible exact Below.refl _ _ | with_reducible refine below_alloc ?_ _ ?_ | with_reducible refine Below.setCell ?_ ?_ _ | with_reducible refine Below.drew ?_ | with_reducible refine below_drewN ?_ _ | with_reducible refine below_step ?_ (by assumption) ?_ | with_reducible refine below_mark ?_ (by assumption) ?_)); all_goals (first | omega | (simp; done) | (simp; omega)))⟩
              have s2 : (qn == jn) = true := by simpa using e2
              by_cases e3 : qs = js
              case neg =>
                have s3 := ba_no e3
                have HX2 := Lib.hid (HX2.out (by rw [HKQ.out]; exact decide_eq_false (fun h => e3 h.2.2)))
                clear e1 e2 e3
                go_wp2_with fail
                go_quiet (fail)
                all_goals go_wp2_with fail
                all_goals go_roundw
                all_goals first
                  | (simp [intOf]; omega)
                  | exact ⟨q + 2, by omega, by omega, by go_num, HX2, (by (repeat' (first | with_reducible exact Below.refl _ _ | with_reducible refine below_alloc ?_ _ ?_ | with_reducible refine Below.setCell ?_ ?_ _ | with_reducible refine Below.drew ?_ | with_reducible refine below_drewN ?_ _ | with_reducible refine below_step ?_ (by assumption) ?_ | with_reducible refine below_mark ?_ (by assumption) ?_)); all_goals (first | omega | (simp; done) | (simp; omega)))⟩
              have s3 := ba_yes e3
              have HX := Lib.hid (HX1.out (by rw [HKQ.out]; exact decide_eq_true ⟨e1, e2, e3⟩))
              clear e1 e2 e3 HX1 HX2
              go_wp2_with fail
              go_quiet (fail)
              all_goals go_wp2_with fail
              all_goals go_ret
              all_goals exact ⟨by rw [HX.out]; rfl, (by (repeat' (first | with_reducible exact Below.refl _ _ | with_reducible refine below_alloc ?_ _ ?_ | with_reducible refine Below.setCell ?_ ?_ _ | with_reducible refine Below.drew ?_ | with_reducible refine below_drewN ?_ _ | with_reducible refine below_step ?_ (by assumption) ?_ | with_reducible refine below_mark ?_ (by assumption) ?_)); all_goals (first | omega | (simp; done) | (simp; omega)))⟩
            · have HX := Lib.hid (show keysB keqB (evV (ts.take (j + 2))) = true by
                rw [HS.out, HN.out, Bool.true_and, Bool.true_and, List.all_eq_true]
                intro y hy
                obtain ⟨x, hx, hxj, hx2, rfl⟩ := (mem_evV_take ts j hj2 y).1 hy
                simp [HNE.out x (by omega) hx hx2])
              clear HST HS HNE
              go_wp2_with fail
              go_roundw
              case rel => exact ⟨j + 2, by omega, by omega, by go_num, HX, hbl⟩
              case measure => simp [intOf]; omega
        · go_wp2_with fail
          go_loopw [4] (fun i w2 => ∃ q : Nat, q % 2 = 0 ∧ q ≤ j + 1 ∧ i = .int .i64 q ∧ Hid (∀ x, (hx : x < q) → (hl : x < ts.length) → x % 2 = 0 → keqB ts[x] ts[j] = false) ∧ Below w.heap.size w w2) (fun i _ => j + 2 - (intOf i).toNat)
          case atStart => exact ⟨0, rfl, by omega, rfl, Lib.hid (by omega), hbl⟩
          case round =>
            clear c0 c3 hbl HWR
            obtain ⟨q, hq2, hqj, rfl, HNE, hbl⟩ := hrel
            have HWR := Lib.hid (show Below w0.heap.size w0 wr from HW.out.trans (hbl.mono HW.out.size))
            by_cases hqlt : q < j
            · have hqts : q < ts.length := by omega
              obtain ⟨c0, c1, c2, c3, c4⟩ := (HE.out q hqts).1.keep (HWR.out.block bb hbw)
              obtain ⟨d0, d1, d2, d3, d4⟩ := (HE.out j hlt).1.keep (HWR.out.block bb hbw)
              clear c2 c4 d2 d4
              have HX1 := Lib.hid (show keqB ts[q] ts[j] = true → b = false from fun e => by rw [HB.out, HST.out (.inr ⟨q, hqts, hqlt, hq2, e⟩)]; rfl)
              have HX2 := Lib.hid (show keqB ts[q] ts[j] = false → ∀ x, (hx : x < q + 2) → (hl : x < ts.length) → x % 2 = 0 → keqB ts[x] ts[j] = false from fun e x hx hl hx2 => by
                by_cases hxq : x < q
                · exact HNE.out x hxq hl hx2
                · have : x = q := by omega
                  subst this; exact e)
              have HKQ := Lib.hid (show keqB ts[q] ts[j] = decide (ts[q].k = ts[j].k ∧ ts[q].n = ts[j].n ∧ ts[q].s = ts[j].s) from rfl)
              clear HNE HS HST
              generalize ts[q].k = qk at *
              generalize ts[q].n = qn at *
              generalize ts[q].s = qs at *
              generalize ts[j].k = jk at *
              generalize ts[j].n = jn at *
              generalize ts[j].s = js at *
              by_cases e1 : qk = jk
              case neg =>
                have s1 : (qk == jk) = false := by simpa using e1
                have HX2 := Lib.hid (HX2.out (by rw [HKQ.out]; exact decide_eq_false (fun h => e1 h.1)))
                clear e1
                go_wp2_with fail
                go_quiet (fail)
                all_goals go_wp2_with fail
                all_goals go_roundw
                all_goals first
                  | (simp [intOf]; omega)
                  | exact ⟨q + 2, by omega, by omega, by go_num, HX2, (by (repeat' (first | with_reducible exact Below.refl _ _ | with_reducible refine below_alloc ?_ _ ?_ | with_reducible refine Below.setCell ?_ ?_ _ | with_reducible refine Below.drew ?_ | with_reducible refine below_drewN ?_ _ | with_reducible refine below_step ?_ (by assumption) ?_ | with_reducible refine below_mark ?_ (by assumption) ?_)); all_goals (first | omega | (simp; done) | (simp; omega)))⟩
              have s1 : (qk == jk) = true := by simpa using e1
              by_cases e2 : qn = jn
              case neg =>
                have s2 : (qn == jn) = false := by simpa using e2
                have HX2 := Lib.hid (HX2.out (by rw [HKQ.out]; exact decide_eq_false (fun h => e2 h.2.1)))
                clear e1 e2
                go_wp2_with fail
                go_quiet (fail)
                all_goals go_wp2_with fail
                all_goals go_roundw
                all_goals first
                  | (simp [intOf]; omega)
                  | exact ⟨q + 2, by omega, by omega, by go_num, HX2, (by (repeat' (first | with_reducible exact Below.refl _ _ | with_reducible refine below_alloc ?_ _ ?_ | with_reducible refine Below.setCell ?_ ?_ _ | with_reducible refine Below.drew ?_ | with_reducible refine below_drewN ?_ _ | with_reducible refine below_step ?_ (by assumption) ?_ | with_reducible refine below_mark ?_ (by assumption) ?_)); all_goals (first | omega | (simp; done) | (simp; omega)))⟩
              have s2 : (qn == jn) = true := by simpa using e2
              by_cases e3 : qs = js
              case neg =>
                have s3 := ba_no e3
                have HX2 := Lib.hid (HX2.out (by rw [HKQ.out]; exact decide_eq_false (fun h => e3 h.2.2)))
                clear e1 e2 e3
                go_wp2_with fail
                go_quiet (fail)
                all_goals go_wp2_with fail
                all_goals go_roundw
                all_goals first
                  | (simp [intOf]; omega)
                  | exact ⟨q + 2, by omega, by omega, by go_num, HX2, (by (repeat' (first | with_reducible exact Below.refl _ _ | with_reducible refine below_alloc ?_ _ ?_ | with_reducible refine Below.setCell ?_ ?_ _ | with_reducible refine Below.drew ?_ | with_reducible refine below_drewN ?_ _ | with_reducible refine below_step ?_ (by assumption) ?_ | with_reducible refine below_mark ?_ (by assumption) ?_)); all_goals (first | omega | (simp; done) | (simp; omega)))⟩
              have s3 := ba_yes e3
              have HX := Lib.hid (HX1.out (by rw [HKQ.out]; exact decide_eq_true ⟨e1, e2, e3⟩))
              clear e1 e2 e3 HX1 HX2
              go_wp2_with fail
              go_quiet (fail)
              all_goals go_wp2_with fail
              all_goals go_ret
              all_goals exact ⟨by rw [HX.out]; rfl, (by (repeat' (first | with_reducible exact Below.refl _ _ | with_reducible refine below_alloc ?_ _ ?_ | with_reducible refine Below.setCell ?_ ?_ _ | with_reducible refine Below.drew ?_ | with_reducible refine below_drewN ?_ _ | with_reducible refine below_step ?_ (by assumption) ?_ | with_reducible refine below_mark ?_ (by assumption) ?_)); all_goals (first | omega | (simp; done) | (simp; omega)))⟩
            · have HX := Lib.hid (show keysB keqB (evV (ts.take (j + 2))) = true by
                rw [HS.out, HN.out, Bool.true_and, Bool.true_and, List.all_eq_true]
                intro y hy
                obtain ⟨x, hx, hxj, hx2, rfl⟩ := (mem_evV_take ts j hj2 y).1 hy
                simp [HNE.out x (by omega) hx hx2])
              clear HST HS HNE
              go_wp2_with fail
              go_roundw
              case rel => exact ⟨j + 2, by omega, by omega, by go_num, HX, hbl⟩
              case measure => simp [intOf]; omega
    · have HX := Lib.hid (show b = (decide (ts.length % 2 = 0) && decide (ts.length ≤ 300)) by
        rw [HB.out]
        have h1 := HN.out
        rw [List.take_of_length_le (by omega)] at h1
        rw [h1]; simp)
      by_cases h2 : ts.length % 2 = 0
      · have t1 : ((ts.length : Int) % 2 == 0) = true := by simp; omega
        have H := Lib.hid (show b = decide ((ts.length : Int) ≤ 300) by rw [HX.out, decide_eq_true h2, Bool.true_and, decide_eq_decide]; omega)
        go_wp2_with fail
        go_ret
        exact ⟨by rw [H.out]; rfl, hbl⟩
      · have t1 : ((ts.length : Int) % 2 == 0) = false := by simp; omega
        have H := Lib.hid (show b = false by rw [HX.out, decide_eq_false h2]; rfl)
        go_wp2_with fail
        go_ret
        exact ⟨by rw [H.out]; rfl, hbl⟩
set_option maxHeartbeats 1000000 in
theorem nodes_any (w0 : World) : ∀ (N : Nat) (v : Value) (ts : List V), szs ts ≤ N → RepS w0 v ts → szs ts ≤ 1048576 → ∀ (u : V), u.kids = ts → ∀ (w : World), Below w0.heap.size w0 w →
    Calls Tryd.prog 110 #[u.agg v] w fun e w' => e = .returned (.int .i64 (u.nodes : Nat)) ∧ Below w.heap.size w w' := by
  intro N
  induction N using Nat.strongRecOn with
  | ind N ih =>
  intro v ts hN hrep hsz u huk w hw
  obtain ⟨a, b, off, cap, rfl, ha, hc, hm, sls, hel⟩ := hrep.opened
  have hlen : ts.length ≤ 1048576 := Nat.le_trans (szs_length ts) hsz
  have HP := Lib.hid (show u.nodes = 1 + nodess ts by rw [V.nodes_eq, huk])
  have IH := Lib.hid (show ∀ i (hi : i < ts.length) (w : World), Below w0.heap.size w0 w → Calls Tryd.prog 110 #[ts[i].agg (sls i)] w fun e w' => e = .returned (.int .i64 (ts[i].nodes : Nat)) ∧ Below w.heap.size w w' from
    fun i hi w h7 => by
      have q1 := szs_mem (List.getElem_mem hi); have q2 := V.sz_eq ts[i]
      exact ih (szs ts[i].kids) (by omega) (sls i) ts[i].kids (Nat.le_refl _) (hel i hi).2.2 (by omega) ts[i] rfl w h7)
  have HA := Lib.hid ha; have HE := Lib.hid hel
  have HSZ := Lib.hid hsz
  clear ih ha hel hc hm hrep hsz huk hN
  unfold V.agg
  generalize u.nodes = un at *
  generalize u.k = vk at *
  generalize u.n = vn at *
  generalize u.e = ve at *
  generalize u.s = vs at *
  have B0 := Lib.hid (Box.new w vk vn ve vs (.slice a ts.length cap) 28)
  go_enter Tryd.func110, Tryd.ntmps110
  go_wp2_with fail
  generalize hW1 : w.alloc (.cells #[.int .i64 vk, .int .i64 vn, .int .i64 ve, .string vs, .slice a ts.length cap] 28) = W1 at *
  have HB1 := Lib.hid (show Below w.heap.size w W1 by rw [← hW1]; exact (Below.refl _ _).alloc (Nat.le_refl _) _)
  have HZ1 := Lib.hid (show w.heap.size + 1 = W1.heap.size by rw [← hW1]; simp)
  clear hW1
  go_loopw [3, 4] (fun c i wr => ∃ (k : Nat) (q : Int), k ≤ ts.length ∧ i = .int .i64 k ∧ c = .int .i64 q ∧ 0 ≤ q ∧ q ≤ 4194304 ∧ Hid (q = (1 + nodess (ts.take k) : Nat)) ∧ Below W1.heap.size W1 wr) (fun _ i _ => ts.length - (intOf i).toNat)
  case atStart => exact ⟨0, 1, by omega, rfl, rfl, by omega, by omega, Lib.hid rfl, Below.refl _ _⟩
  case round =>
    obtain ⟨k, q, hk, rfl, rfl, hq0, hq1, HQ, hbl⟩ := hrel
    obtain ⟨p0, p1, p2, p3, p4⟩ := (B0.out.stay hbl).cells
    by_cases hlt : k < ts.length
    · have hne : ts ≠ [] := by intro e; rw [e] at hlt; simp at hlt
      obtain ⟨rfl, hbw⟩ := HA.out hne
      have HWR := Lib.hid (show Below w0.heap.size w0 wr from hw.trans ((HB1.out.mono hw.size).trans (hbl.mono (by have := hw.size; have := HZ1.out; omega))))
      obtain ⟨c0, c1, c2, c3, c4⟩ := (HE.out k hlt).1.keep (HWR.out.block b hbw)
      obtain ⟨ak, kcap, hks⟩ := (HE.out k hlt).2.2.slice
      have N1 := Lib.hid (fun (W : World) (hW : Below wr.heap.size wr W) => IH.out k hlt W (HWR.out.trans (hW.mono HWR.out.size)))
      rw [hks] at c4 N1
      have HT := Lib.hid (show q + (ts[k].nodes : Nat) = (1 + nodess (ts.take (k + 1)) : Nat) by
        rw [HQ.out, List.take_succ_eq_append_getElem hlt, nodess_append]; simp [nodess]; omega)
      have hqb : q + (ts[k].nodes : Nat) ≤ 4194304 := by
        rw [HT.out]
        have h1 := nodess_sz (ts.take (k + 1)); have h2 := szs_append (ts.take (k + 1)) (ts.drop (k + 1)); rw [List.take_append_drop] at h2; have := HSZ.out; omega
      unfold V.agg at N1
      clear hks
      generalize ts[k].nodes = nn at *
      generalize ts[k].k = xk at *
      generalize ts[k].n = xn at *
      generalize ts[k].e = xe at *
      generalize ts[k].s = xs at *
      go_wp2_with fail
      refine (N1.out _ (by (repeat' (first | with_reducible exact Below.refl _ _ | with_reducible refine below_alloc ?_ _ ?_ | with_reducible refine Below.setCell ?_ ?_ _ | with_reducible refine Below.drew ?_ | with_reducible refine below_drewN ?_ _ | with_reducible refine below_step ?_ (by assumption) ?_ | with_reducible refine below_mark ?_ (by assumption) ?_)); all_goals (first | omega | (simp; done) | (simp; omega)))).mono ?_
      rintro e1 w1 ⟨rfl, hb1⟩
      go_wp2_with fail
      go_roundw
      case rel => exact ⟨k + 1, q + nn, by omega, by go_num, rfl, by omega, hqb, HT, (by (repeat' (first | with_reducible exact Below.refl _ _ | with_reducible refine below_alloc ?_ _ ?_ | with_reducible refine Below.setCell ?_ ?_ _ | with_reducible refine Below.drew ?_ | with_reducible refine below_drewN ?_ _ | with_reducible refine below_step ?_ (by assumption) ?_ | with_reducible refine below_mark ?_ (by assumption) ?_)); all_goals (first | omega | (simp; done) | (simp; omega)))⟩
      case measure => simp [intOf]; omega
    · have H := Lib.hid (show (un : Int) = q by rw [HQ.out, HP.out, List.take_of_length_le (by omega)])
      go_wp2_with fail
      go_ret
      exact ⟨by rw [H.out]; rfl, HB1.out.trans (hbl.mono (by have := HZ1.out; omega))⟩
end Go.Proofs.YtiemlefmhleaeaaDoor
