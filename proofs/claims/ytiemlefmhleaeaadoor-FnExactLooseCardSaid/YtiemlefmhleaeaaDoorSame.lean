/- Whether two values are one: impl.Same and slices.EqualFunc over it. -/
import Derived.Test.YtiemlefmhleaeaaDoorValM
import Derived.Test.YtiemlefmhleaeaaDoorLawAid
import Derived.Test.YtiemlefmhleaeaaDoorLens
import Derived.Test.YtiemlefmhleaeaaDoorMarkV
import Derived.WalkSpells
import Derived.Lib.Hide
import Derived.Deep.QuietTactic
import Derived.BigQuiet
namespace Go.Proofs.YtiemlefmhleaeaaDoor
set_option linter.unusedVariables false
set_option maxRecDepth 100000
open Go.RowKit
def BoolRet (b : Bool) (w : World) (e : Ending) (w' : World) : Prop := e = .returned (.bool b) ∧ Below w.heap.size w w'
theorem V.ext_iff (t u : V) : t = u ↔ t.k = u.k ∧ t.n = u.n ∧ t.e = u.e ∧ t.s = u.s ∧ t.kids = u.kids := by
  cases t; cases u
  simp [V.k, V.n, V.e, V.s, V.kids]
set_option maxHeartbeats 1000000 in
theorem same_value (t u : V) (sl sm : Value) (w : World)
    (ih : ∀ (w' : World), Below w.heap.size w w' → Calls Tryd.prog 232 #[sl, sm, .func (.func 198) #[] #[]] w' (BoolRet (decide (t.kids = u.kids)) w')) :
    Calls Tryd.prog 198 #[t.agg sl, u.agg sm] w (BoolRet (decide (t = u)) w) := by
  have hpost : ∃ b : Bool, b = decide (t = u) := ⟨_, rfl⟩
  obtain ⟨b, hb⟩ := hpost
  rw [← hb]
  have HB := Lib.hid (show b = decide (t.k = u.k ∧ t.n = u.n ∧ t.e = u.e ∧ t.s = u.s ∧ t.kids = u.kids) by rw [hb]; simp only [V.ext_iff])
  clear hb
  have IH := Lib.hid ih; clear ih
  unfold V.agg
  generalize t.kids = tk at *
  generalize u.kids = uk at *
  generalize t.k = k at *
  generalize t.n = n at *
  generalize t.e = e at *
  generalize t.s = s at *
  generalize u.k = k2 at *
  generalize u.n = n2 at *
  generalize u.e = e2 at *
  generalize u.s = s2 at *
  by_cases h1 : k = k2
  case neg =>
    have H := Lib.hid (show b = false by rw [HB.out, decide_eq_false (fun h => h1 h.1)])
    have t1 : (k == k2) = false := by simpa using h1
    clear h1 IH HB
    go_enter Tryd.func198, Tryd.ntmps198
    go_wp2_with fail
    go_ret
    exact ⟨by rw [H.out]; rfl, (by (repeat' (first | with_reducible exact Below.refl _ _ | with_reducible refine below_alloc ?_ _ ?_ | with_reducible refine Below.setCell ?_ ?_ _ | with_reducible refine Below.drew ?_ | with_reducible refine below_drewN ?_ _ | with_reducible refine below_step ?_ (by assumption) ?_ | with_reducible refine below_mark ?_ (by assumption) ?_)); all_goals (first | omega | (simp; done) | (simp; omega)))⟩
  have t1 : (k == k2) = true := by simpa using h1
  by_cases h2 : n = n2
  case neg =>
    have H := Lib.hid (show b = false by rw [HB.out, decide_eq_false (fun h => h2 h.2.1)])
    have t2 : (n == n2) = false := by simpa using h2
    clear h1 h2 IH HB
    go_enter Tryd.func198, Tryd.ntmps198
    go_wp2_with fail
    go_ret
    exact ⟨by rw [H.out]; rfl, (by (repeat' (first | with_reducible exact Below.refl _ _ | with_reducible refine below_alloc ?_ _ ?_ | with_reducible refine Below.setCell ?_ ?_ _ | with_reducible refine Below.drew ?_ | with_reducible refine below_drewN ?_ _ | with_reducible refine below_step ?_ (by assumption) ?_ | with_reducible refine below_mark ?_ (by assumption) ?_)); all_goals (first | omega | (simp; done) | (simp; omega)))⟩
  have t2 : (n == n2) = true := by simpa using h2
  by_cases h3 : e = e2
  case neg =>
    have H := Lib.hid (show b = false by rw [HB.out, decide_eq_false (fun h => h3 h.2.2.1)])
    have t3 : (e == e2) = false := by simpa using h3
    clear h1 h2 h3 IH HB
    go_enter Tryd.func198, Tryd.ntmps198
    go_wp2_with fail
    go_ret
    exact ⟨by rw [H.out]; rfl, (by (repeat' (first | with_reducible exact Below.refl _ _ | with_reducible refine below_alloc ?_ _ ?_ | with_reducible refine Below.setCell ?_ ?_ _ | with_reducible refine Below.drew ?_ | with_reducible refine below_drewN ?_ _ | with_reducible refine below_step ?_ (by assumption) ?_ | with_reducible refine below_mark ?_ (by assumption) ?_)); all_goals (first | omega | (simp; done) | (simp; omega)))⟩
  have t3 : (e == e2) = true := by simpa using h3
  by_cases h4 : s = s2
  case neg =>
    have H := Lib.hid (show b = false by rw [HB.out, decide_eq_false (fun h => h4 h.2.2.2.1)])
    have t4 := ba_no h4
    clear h1 h2 h3 h4 IH HB
    go_enter Tryd.func198, Tryd.ntmps198
    go_wp2_with fail
    go_ret
    exact ⟨by rw [H.out]; rfl, (by (repeat' (first | with_reducible exact Below.refl _ _ | with_reducible refine below_alloc ?_ _ ?_ | with_reducible refine Below.setCell ?_ ?_ _ | with_reducible refine Below.drew ?_ | with_reducible refine below_drewN ?_ _ | with_reducible refine below_step ?_ (by assumption) ?_ | with_reducible refine below_mark ?_ (by assumption) ?_)); all_goals (first | omega | (simp; done) | (simp; omega)))⟩
  have t4 := ba_yes h4
  have H := Lib.hid (show b = decide (tk = uk) by rw [HB.out]; simp [h1, h2, h3, h4])
  clear h1 h2 h3 h4 HB
  go_enter Tryd.func198, Tryd.ntmps198
  go_wp2_with fail
  refine (IH.out _ (by (repeat' (first | with_reducible exact Below.refl _ _ | with_reducible refine below_alloc ?_ _ ?_ | with_reducible refine Below.setCell ?_ ?_ _ | with_reducible refine Below.drew ?_ | with_reducible refine below_drewN ?_ _ | with_reducible refine below_step ?_ (by assumption) ?_ | with_reducible refine below_mark ?_ (by assumption) ?_)); all_goals (first | omega | (simp; done) | (simp; omega)))).mono ?_
  rintro x w1 ⟨rfl, hb1⟩
  rw [← H.out]
  go_wp2_with fail
  go_ret
  exact ⟨rfl, (by (repeat' (first | with_reducible exact Below.refl _ _ | with_reducible refine below_alloc ?_ _ ?_ | with_reducible refine Below.setCell ?_ ?_ _ | with_reducible refine Below.drew ?_ | with_reducible refine below_drewN ?_ _ | with_reducible refine below_step ?_ (by assumption) ?_ | with_reducible refine below_mark ?_ (by assumption) ?_)); all_goals (first | omega | (simp; done) | (simp; omega)))⟩
set_option maxHeartbeats 1000000 in
theorem same_list (w0 : World) (v : Value) (ts : List V) (h : RepS w0 v ts) : ∀ (u : Value) (us : List V), RepS w0 u us → ∀ (w : World), Below w0.heap.size w0 w →
    Calls Tryd.prog 232 #[v, u, .func (.func 198) #[] #[]] w (BoolRet (decide (ts = us)) w) := by
  induction h with
  | mk a b off cap ts sls ha hc hm hbb cells wfs kids ih =>
  intro u us hu w hw
  obtain ⟨a2, b2, off2, cap2, rfl, ha2, hc2, hm2, sls2, hel⟩ := hu.opened
  have HP := Lib.hid (show ∃ b : Bool, b = decide (ts = us) from ⟨_, rfl⟩)
  by_cases hlen : ts.length = us.length
  case neg =>
    have H := Lib.hid (show decide (ts = us) = false from decide_eq_false (fun e => hlen (by rw [e])))
    have t1 : ((ts.length : Int) != us.length) = true := by simp; omega
    rw [H.out]
    clear ih cells wfs kids hel hlen HP
    go_enter Tryd.func232, Tryd.ntmps232
    go_wp2_with fail
    go_ret
    exact ⟨rfl, (by (repeat' (first | with_reducible exact Below.refl _ _ | with_reducible refine below_alloc ?_ _ ?_ | with_reducible refine Below.setCell ?_ ?_ _ | with_reducible refine Below.drew ?_ | with_reducible refine below_drewN ?_ _ | with_reducible refine below_step ?_ (by assumption) ?_ | with_reducible refine below_mark ?_ (by assumption) ?_)); all_goals (first | omega | (simp; done) | (simp; omega)))⟩
  have HLEN := Lib.hid hlen
  have IH := Lib.hid ih; have CC := Lib.hid cells; have WF := Lib.hid wfs; have HA := Lib.hid ha; have HA2 := Lib.hid ha2; have HE := Lib.hid hel; have KK := Lib.hid kids
  have hl63 : ts.length ≤ 9223372036854775807 := by omega
  obtain ⟨bb, hbbe⟩ := HP.out
  rw [← hbbe]
  have HB := Lib.hid hbbe
  clear ih cells wfs kids ha ha2 hel hc hm hc2 hm2 HP hbbe
  rw [← hlen]
  clear hlen
  go_enter Tryd.func232, Tryd.ntmps232
  go_wp2_with fail
  go_loopw [17] (fun i wr => ∃ k : Nat, k ≤ ts.length ∧ i = .int .i64 k ∧ Hid (ts.take k = us.take k) ∧ Below w.heap.size w wr) (fun i _ => ts.length - (intOf i).toNat)
  case atStart => exact ⟨0, by omega, rfl, Lib.hid (by simp), Below.refl _ _⟩
  case round =>
    obtain ⟨k, hk, rfl, HT, hbl⟩ := hrel
    by_cases hlt : k < ts.length
    · have hlt2 : k < us.length := by rw [← HLEN.out]; exact hlt
      have hne : ts ≠ [] := by intro e; rw [e] at hlt; simp at hlt
      have hne2 : us ≠ [] := by intro e; rw [e] at hlt2; simp at hlt2
      obtain rfl := HA.out hne
      obtain ⟨rfl, hbw2⟩ := HA2.out hne2
      have hbw := hbb hne
      have HWR := Lib.hid (hw.trans (hbl.mono hw.size))
      have hzr := HWR.out.size
      obtain ⟨c0, c1, c2, c3, c4⟩ := (CC.out k hlt).keep (HWR.out.block b hbw)
      obtain ⟨d0, d1, d2, d3, d4⟩ := (HE.out k hlt2).1.keep (HWR.out.block b2 hbw2)
      have S1 := Lib.hid (fun (W : World) (hW : Below wr.heap.size wr W) => same_value ts[k] us[k] (sls k) (sls2 k) W (fun w' hb' => IH.out k hlt (sls2 k) us[k].kids (HE.out k hlt2).2.2 w' (HWR.out.trans ((hW.trans (hb'.mono hW.size)).mono hzr))))
      have HS := Lib.hid (show ts.take (k + 1) = ts.take k ++ [ts[k]] ∧ us.take (k + 1) = us.take k ++ [us[k]] from ⟨List.take_succ_eq_append_getElem hlt, List.take_succ_eq_append_getElem hlt2⟩)
      obtain ⟨a3, cap3, hs3⟩ := (KK.out k hlt).slice
      obtain ⟨a4, cap4, hs4⟩ := (HE.out k hlt2).2.2.slice
      rw [hs3] at c4 S1
      rw [hs4] at d4 S1
      unfold V.agg at S1
      clear hs3 hs4
      have hbr : b < wr.heap.size := Nat.lt_of_lt_of_le hbw hzr
      have hbr2 : b2 < wr.heap.size := Nat.lt_of_lt_of_le hbw2 hzr
      have hbn : b2 ≠ wr.heap.size := by omega
      have hbn' : wr.heap.size ≠ b2 := by omega
      by_cases heq : ts[k] = us[k]
      · rw [decide_eq_true heq] at S1
        have HX := Lib.hid (show ts.take (k + 1) = us.take (k + 1) by rw [HS.out.1, HS.out.2, HT.out, heq])
        clear heq HS HT
        go_wp2_with fail
        refine (S1.out _ (by (repeat' (first | with_reducible exact Below.refl _ _ | with_reducible refine below_alloc ?_ _ ?_ | with_reducible refine Below.setCell ?_ ?_ _ | with_reducible refine Below.drew ?_ | with_reducible refine below_drewN ?_ _ | with_reducible refine below_step ?_ (by assumption) ?_ | with_reducible refine below_mark ?_ (by assumption) ?_)); all_goals (first | omega | (simp; done) | (simp; omega)))).mono ?_
        rintro e1 w1 ⟨rfl, hb1⟩
        go_wp2_with fail
        go_roundw
        case rel => exact ⟨k + 1, by omega, by go_num, HX, (by (repeat' (first | with_reducible exact Below.refl _ _ | with_reducible refine below_alloc ?_ _ ?_ | with_reducible refine Below.setCell ?_ ?_ _ | with_reducible refine Below.drew ?_ | with_reducible refine below_drewN ?_ _ | with_reducible refine below_step ?_ (by assumption) ?_ | with_reducible refine below_mark ?_ (by assumption) ?_)); all_goals (first | omega | (simp; done) | (simp; omega)))⟩
        case measure => simp [intOf]; omega
      · rw [decide_eq_false heq] at S1
        have HX := Lib.hid (show bb = false by
          rw [HB.out]
          exact decide_eq_false (fun e => heq (by subst e; rfl)))
        clear heq HS HT
        go_wp2_with fail
        refine (S1.out _ (by (repeat' (first | with_reducible exact Below.refl _ _ | with_reducible refine below_alloc ?_ _ ?_ | with_reducible refine Below.setCell ?_ ?_ _ | with_reducible refine Below.drew ?_ | with_reducible refine below_drewN ?_ _ | with_reducible refine below_step ?_ (by assumption) ?_ | with_reducible refine below_mark ?_ (by assumption) ?_)); all_goals (first | omega | (simp; done) | (simp; omega)))).mono ?_
        rintro e1 w1 ⟨rfl, hb1⟩
        go_wp2_with fail
        go_ret
        exact ⟨by rw [HX.out]; rfl, (by (repeat' (first | with_reducible exact Below.refl _ _ | with_reducible refine below_alloc ?_ _ ?_ | with_reducible refine Below.setCell ?_ ?_ _ | with_reducible refine Below.drew ?_ | with_reducible refine below_drewN ?_ _ | with_reducible refine below_step ?_ (by assumption) ?_ | with_reducible refine below_mark ?_ (by assumption) ?_)); all_goals (first | omega | (simp; done) | (simp; omega)))⟩
    · have HX := Lib.hid (show bb = true by
        rw [HB.out]
        have h1 := HT.out
        rw [List.take_of_length_le (by omega), List.take_of_length_le (by rw [← HLEN.out]; omega)] at h1
        exact decide_eq_true h1)
      go_wp2_with fail
      go_ret
      exact ⟨by rw [HX.out]; rfl, hbl⟩
theorem same_any (w0 : World) (v u : Value) (t x : V) (h : Rep w0 v t) (h2 : Rep w0 u x) (w : World) (hw : Below w0.heap.size w0 w) : Calls Tryd.prog 198 #[v, u] w (BoolRet (decide (t = x)) w) := by
  obtain ⟨sl, rfl, _, hr⟩ := h
  obtain ⟨sm, rfl, _, hr2⟩ := h2
  exact same_value t x sl sm w (fun w' hb => same_list w0 sl t.kids hr sm x.kids hr2 w' (below_step hw hb (by have := hw.size; omega)))
end Go.Proofs.YtiemlefmhleaeaaDoor
