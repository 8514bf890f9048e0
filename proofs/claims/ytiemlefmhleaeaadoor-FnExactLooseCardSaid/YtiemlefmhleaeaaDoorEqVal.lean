/- Two values that read as one tree are equal: laws.eqValue. -/
import Derived.Test.YtiemlefmhleaeaaDoorOwnV
import Derived.Test.YtiemlefmhleaeaaDoorLawAid
import Derived.WalkSpells
import Derived.Lib.Hide
import Derived.Deep.RegionWith
import Derived.StillTailTactics
namespace Go.Proofs.YtiemlefmhleaeaaDoor
set_option linter.unusedVariables false
set_option maxRecDepth 100000
open Go.RowKit
set_option maxHeartbeats 400000 in
theorem eq_value (t : V) (sl sm : Value) (w : World)
    (ih : ∀ (w' : World), Below w.heap.size w w' → Calls Tryd.prog 84 #[sl, sm] w' (LawRet w')) :
    Calls Tryd.prog 18 #[t.agg sl, t.agg sm] w (LawRet w) := by
  have IH := Lib.hid ih; clear ih
  unfold V.agg
  generalize t.k = k at *
  generalize t.n = n at *
  generalize t.e = e at *
  generalize t.s = s at *
  go_enter Tryd.func18, Tryd.ntmps18
  go_wp2_with fail
  refine (IH.out _ (by (repeat' (first | with_reducible exact Below.refl _ _ | with_reducible refine below_alloc ?_ _ ?_ | with_reducible refine Below.setCell ?_ ?_ _ | with_reducible refine Below.drew ?_ | with_reducible refine below_drewN ?_ _ | with_reducible refine below_step ?_ (by assumption) ?_ | with_reducible refine below_mark ?_ (by assumption) ?_)); all_goals (first | omega | (simp; done) | (simp; omega)))).mono ?_
  rintro e1 w1 ⟨rfl, hb⟩
  go_wp2_with fail
  go_ret
  exact ⟨rfl, (by (repeat' (first | with_reducible exact Below.refl _ _ | with_reducible refine below_alloc ?_ _ ?_ | with_reducible refine Below.setCell ?_ ?_ _ | with_reducible refine Below.drew ?_ | with_reducible refine below_drewN ?_ _ | with_reducible refine below_step ?_ (by assumption) ?_ | with_reducible refine below_mark ?_ (by assumption) ?_)); all_goals (first | omega | (simp; done) | (simp; omega)))⟩
set_option maxHeartbeats 400000 in
theorem eq_list (w0 : World) (v : Value) (ts : List V) (h : RepS w0 v ts) : ∀ (u : Value), RepS w0 u ts → ∀ (w : World), Below w0.heap.size w0 w →
    Calls Tryd.prog 84 #[v, u] w (LawRet w) := by
  induction h with
  | mk a b off cap ts sls ha hc hm hbb cells wfs kids ih =>
  intro u hu w hw
  cases hu with
  | mk a2 b2 off2 cap2 ts2 sls2 ha2 hc2 hm2 hbb2 cells2 wfs2 kids2 =>
  have IH := Lib.hid ih; have CC := Lib.hid cells; have HA := Lib.hid ha; have CC2 := Lib.hid cells2; have HA2 := Lib.hid ha2; have KK := Lib.hid kids2
  clear ih cells wfs kids ha cells2 wfs2 kids2 ha2
  go_enter Tryd.func84, Tryd.ntmps84
  go_wp2_with fail
  go_loopw [5] (fun i wr => ∃ k : Nat, k ≤ ts.length ∧ i = .int .i64 k ∧ Below w.heap.size w wr) (fun i _ => ts.length - (intOf i).toNat)
  case atStart => exact ⟨0, by omega, rfl, Below.refl _ _⟩
  case round =>
    obtain ⟨k, hk, rfl, hbl⟩ := hrel
    by_cases hlt : k < ts.length
    · have hne : ts ≠ [] := by intro e; rw [e] at hlt; simp at hlt
      obtain rfl := HA.out hne
      obtain rfl := HA2.out hne
      have hbw := hbb hne
      have hbw2 := hbb2 hne
      have hx : ∀ b, b < w0.heap.size → wr.heap[b]? = w0.heap[b]? := fun b hb => (hbl.block b (Nat.lt_of_lt_of_le hb hw.size)).trans (hw.block b hb)
      obtain ⟨c0, c1, c2, c3, c4⟩ := (CC.out k hlt).keep (hx b hbw)
      obtain ⟨d0, d1, d2, d3, d4⟩ := (CC2.out k hlt).keep (hx b2 hbw2)
      have hwr : Below w0.heap.size w0 wr := hw.trans (hbl.mono hw.size)
      have V1 := Lib.hid (fun w'' (hh : Below wr.heap.size wr w'') => eq_value ts[k] (sls k) (sls2 k) w'' (fun w' hb' => IH.out k hlt (sls2 k) (KK.out k hlt) w' (below_step (below_step hwr hh (Nat.le_refl _)) hb' (Nat.le_refl _))))
      clear hx hwr
      unfold V.agg at V1
      generalize ts[k].k = vk at *
      generalize ts[k].n = vn at *
      generalize ts[k].e = ve at *
      generalize ts[k].s = vs at *
      go_wp2_with fail
      go_region_with (go_at_call 18; refine (V1.out _ (by (repeat' (first | with_reducible exact Below.refl _ _ | with_reducible refine below_alloc ?_ _ ?_ | with_reducible refine Below.setCell ?_ ?_ _ | with_reducible refine Below.drew ?_ | with_reducible refine below_drewN ?_ _ | with_reducible refine below_step ?_ (by assumption) ?_ | with_reducible refine below_mark ?_ (by assumption) ?_)); all_goals (first | omega | (simp; done) | (simp; omega)))).mono ?_; rintro e1 w1 ⟨rfl, hb⟩)
      all_goals go_wp2_with fail
      all_goals go_roundw
      case rel => exact ⟨k + 1, by omega, by go_num, (by (repeat' (first | with_reducible exact Below.refl _ _ | with_reducible refine below_alloc ?_ _ ?_ | with_reducible refine Below.setCell ?_ ?_ _ | with_reducible refine Below.drew ?_ | with_reducible refine below_drewN ?_ _ | with_reducible refine below_step ?_ (by assumption) ?_ | with_reducible refine below_mark ?_ (by assumption) ?_)); all_goals (first | omega | (simp; done) | (simp; omega)))⟩
      case measure => simp [intOf]; omega
      case rel => exact ⟨k + 1, by omega, by go_num, (by (repeat' (first | with_reducible exact Below.refl _ _ | with_reducible refine below_alloc ?_ _ ?_ | with_reducible refine Below.setCell ?_ ?_ _ | with_reducible refine Below.drew ?_ | with_reducible refine below_drewN ?_ _ | with_reducible refine below_step ?_ (by assumption) ?_ | with_reducible refine below_mark ?_ (by assumption) ?_)); all_goals (first | omega | (simp; done) | (simp; omega)))⟩
      case measure => simp [intOf]; omega
    · go_wp2_with fail
      go_ret
      exact ⟨rfl, hbl⟩
theorem eq_any (w0 : World) (a b : Value) (t : V) (ha : Rep w0 a t) (hb : Rep w0 b t) (w : World) (hw : Below w0.heap.size w0 w) : Calls Tryd.prog 18 #[a, b] w (LawRet w) := by
  obtain ⟨sl, rfl, _, hr⟩ := ha
  obtain ⟨sm, rfl, _, hr2⟩ := hb
  exact eq_value t sl sm w (fun w' h => eq_list w0 sl t.kids hr sm hr2 w' (below_step hw h (Nat.le_refl _)))
end Go.Proofs.YtiemlefmhleaeaaDoor
