/- How great a value is: laws.szValue. -/
import Derived.Test.YtiemlefmhleaeaaDoorVal
import Derived.WalkSpells
import Derived.Lib.Hide
namespace Go.Proofs.YtiemlefmhleaeaaDoor
set_option linter.unusedVariables false
set_option maxRecDepth 100000
open Go.RowKit
def szr (l : Int) (n : Nat) : Int := if l < n then -1 else l - n
def SzRet (w : World) (l : Int) (n : Nat) (e : Ending) (w' : World) : Prop := e = .returned (.int .i64 (szr l n)) ∧ Below w.heap.size w w'
theorem szr_lo (l : Int) (n : Nat) : -1 ≤ szr l n := by unfold szr; split <;> omega
theorem szr_hi (l : Int) (n : Nat) (h : 0 ≤ l) : szr l n ≤ l := by unfold szr; split <;> omega
set_option maxHeartbeats 400000 in
theorem sz_value (t : V) (sl : Value) (w : World) (l : Int) (hw : t.wf) (h0 : 0 ≤ l) (h1 : l ≤ 1048576)
    (ih : ∀ (w' : World) (l : Int), 0 ≤ l → l ≤ 1048576 → Below w.heap.size w w' → Calls Tryd.prog 76 #[sl, .int .i64 l] w' (SzRet w' l (szs t.kids))) :
    Calls Tryd.prog 14 #[t.agg sl, .int .i64 l] w (SzRet w l t.sz) := by
  obtain ⟨⟨hk0, hk1⟩, ⟨hn0, hn1⟩, ⟨he0, he1⟩, hs⟩ := hw
  have hz := V.sz_eq t
  unfold V.agg
  generalize t.k = k at *
  generalize t.n = n at *
  generalize t.e = e at *
  generalize t.s = s at *
  generalize t.sz = z at *
  generalize szs t.kids = zk at *
  have IH := Lib.hid ih; clear ih
  by_cases h : l < s.size
  · have H := Lib.hid (show szr l z = -1 by unfold szr; rw [if_pos (by omega)])
    clear hz
    go_enter Tryd.func14, Tryd.ntmps14
    go_wp2_with fail
    go_ret
    exact ⟨by rw [H.out]; rfl, (by (repeat' (first | with_reducible exact Below.refl _ _ | with_reducible refine below_alloc ?_ _ ?_ | with_reducible refine Below.setCell ?_ ?_ _ | with_reducible refine Below.drew ?_ | with_reducible refine below_drewN ?_ _ | with_reducible refine below_step ?_ (by assumption) ?_ | with_reducible refine below_mark ?_ (by assumption) ?_)); all_goals (first | omega | (simp; done) | (simp; omega)))⟩
  · have H := Lib.hid (show szr l z = szr (l - s.size) zk by unfold szr; split <;> split <;> omega)
    have hlo := szr_lo (l - s.size) zk
    clear hz
    go_enter Tryd.func14, Tryd.ntmps14
    go_wp2_with fail
    refine (IH.out _ _ (by omega) (by omega) (by (repeat' (first | with_reducible exact Below.refl _ _ | with_reducible refine below_alloc ?_ _ ?_ | with_reducible refine Below.setCell ?_ ?_ _ | with_reducible refine Below.drew ?_ | with_reducible refine below_drewN ?_ _ | with_reducible refine below_step ?_ (by assumption) ?_ | with_reducible refine below_mark ?_ (by assumption) ?_)); all_goals (first | omega | (simp; done) | (simp; omega)))).mono ?_
    rintro e1 w1 ⟨rfl, hb⟩
    generalize szr (l - s.size) zk = r at *
    by_cases hr : r < 0
    · obtain rfl : r = -1 := by omega
      go_wp2_with fail
      go_ret
      exact ⟨by rw [H.out]; rfl, (by (repeat' (first | with_reducible exact Below.refl _ _ | with_reducible refine below_alloc ?_ _ ?_ | with_reducible refine Below.setCell ?_ ?_ _ | with_reducible refine Below.drew ?_ | with_reducible refine below_drewN ?_ _ | with_reducible refine below_step ?_ (by assumption) ?_ | with_reducible refine below_mark ?_ (by assumption) ?_)); all_goals (first | omega | (simp; done) | (simp; omega)))⟩
    · go_wp2_with fail
      go_ret
      exact ⟨by rw [H.out]; rfl, (by (repeat' (first | with_reducible exact Below.refl _ _ | with_reducible refine below_alloc ?_ _ ?_ | with_reducible refine Below.setCell ?_ ?_ _ | with_reducible refine Below.drew ?_ | with_reducible refine below_drewN ?_ _ | with_reducible refine below_step ?_ (by assumption) ?_ | with_reducible refine below_mark ?_ (by assumption) ?_)); all_goals (first | omega | (simp; done) | (simp; omega)))⟩
theorem szs_take (ts : List V) (k : Nat) (h : k < ts.length) : szs (ts.take (k + 1)) = szs (ts.take k) + 1 + (ts[k]).sz := by
  rw [List.take_succ_eq_append_getElem h, szs_append, szs, szs]; omega
theorem szs_take_le (ts : List V) (k : Nat) : szs (ts.take k) ≤ szs ts := by
  have := szs_append (ts.take k) (ts.drop k)
  rw [List.take_append_drop] at this; omega
set_option maxHeartbeats 400000 in
theorem sz_list (w0 : World) (v : Value) (ts : List V) (h : RepS w0 v ts) : ∀ (w : World) (l : Int), 0 ≤ l → l ≤ 1048576 → Below w0.heap.size w0 w →
    Calls Tryd.prog 76 #[v, .int .i64 l] w (SzRet w l (szs ts)) := by
  induction h with
  | mk a b off cap ts sls ha hc hm hbb cells wfs kids ih =>
  intro w l h0 h1 hw
  have hlen := szs_length ts
  by_cases hl : l < ts.length
  · have H := Lib.hid (show szr l (szs ts) = -1 by unfold szr; rw [if_pos (by omega)])
    clear ih cells wfs kids hlen
    go_enter Tryd.func76, Tryd.ntmps76
    go_wp2_with fail
    go_ret
    exact ⟨by rw [H.out]; rfl, Below.refl _ _⟩
  · have IH := Lib.hid ih; have CC := Lib.hid cells; have WF := Lib.hid wfs; have HA := Lib.hid ha
    clear ih cells wfs kids ha
    go_enter Tryd.func76, Tryd.ntmps76
    go_wp2_with fail
    go_loopw [1, 5] (fun l' i wr => ∃ k : Nat, k ≤ ts.length ∧ i = .int .i64 k ∧ l' = .int .i64 (l - ts.length - (szs (ts.take k) - k)) ∧ 0 ≤ l - ts.length - (szs (ts.take k) - k) ∧ Below w.heap.size w wr) (fun _ i _ => ts.length - (intOf i).toNat)
    case atStart => exact ⟨0, by omega, rfl, by simp [szs], by simp [szs]; omega, Below.refl _ _⟩
    case round =>
      obtain ⟨k, hk, rfl, rfl, hpos, hbl⟩ := hrel
      by_cases hlt : k < ts.length
      · have hne : ts ≠ [] := by intro e; rw [e] at hlt; simp at hlt
        obtain rfl := HA.out hne
        have hbw := hbb hne
        obtain ⟨c0, c1, c2, c3, c4⟩ := (CC.out k hlt).keep ((hw.block b hbw).symm ▸ (hbl.block b (Nat.lt_of_lt_of_le hbw hw.size)))
        have hst := szs_take ts k hlt
        have hsl := szs_take_le ts (k + 1)
        have hsl0 := szs_length (ts.take k)
        rw [List.length_take] at hsl0
        have V0 := Lib.hid (sz_value ts[k] (sls k) wr (l - ts.length - (szs (ts.take k) - k)) (WF.out k hlt) (by omega) (by omega) (fun w' l' g0 g1 g2 => IH.out k hlt w' l' g0 g1 (below_step (below_step hw hbl (by omega)) g2 (by omega))))
        have hge := szr_lo (l - ts.length - (szs (ts.take k) - k)) ts[k].sz
        have HR := Lib.hid (show szr (l - ts.length - (szs (ts.take k) - k)) ts[k].sz = if l - ts.length - (szs (ts.take (k + 1)) - (k + 1 : Nat)) < 0 then -1 else l - ts.length - (szs (ts.take (k + 1)) - (k + 1 : Nat)) by unfold szr; rw [hst]; split <;> split <;> omega)
        have HT := Lib.hid (show l - ts.length - (szs (ts.take (k + 1)) - (k + 1 : Nat)) < 0 → szr l (szs ts) = -1 by
          intro hh; unfold szr; have := szs_length (ts.drop (k + 1)); have h2 := szs_append (ts.take (k + 1)) (ts.drop (k + 1)); rw [List.take_append_drop] at h2; rw [List.length_drop] at this; rw [if_pos (by omega)])
        clear hst hsl hsl0
        unfold V.agg at V0
        generalize l - ts.length - (szs (ts.take k) - k) = q at *
        generalize hq2 : l - ts.length - (szs (ts.take (k + 1)) - (k + 1 : Nat)) = q2 at *
        have HQ2 := Lib.hid hq2; clear hq2
        go_wp2_with fail
        refine V0.out.mono ?_
        rintro e1 w1 ⟨rfl, hb⟩
        have HR2 := HR.out
        generalize szr q ts[k].sz = r at *
        clear HR
        by_cases hr : r < 0
        · have hq2 : q2 < 0 := by by_cases hh : q2 < 0; exact hh; rw [if_neg hh] at HR2; omega
          clear HR2
          go_wp2_with fail
          go_ret
          exact ⟨by rw [HT.out hq2]; rfl, (by (repeat' (first | with_reducible exact Below.refl _ _ | with_reducible refine below_alloc ?_ _ ?_ | with_reducible refine Below.setCell ?_ ?_ _ | with_reducible refine Below.drew ?_ | with_reducible refine below_drewN ?_ _ | with_reducible refine below_step ?_ (by assumption) ?_ | with_reducible refine below_mark ?_ (by assumption) ?_)); all_goals (first | omega | (simp; done) | (simp; omega)))⟩
        · have HQ := Lib.hid (show r = q2 ∧ 0 ≤ q2 by by_cases hh : q2 < 0; (rw [if_pos hh] at HR2; omega); (rw [if_neg hh] at HR2; omega))
          clear HR2
          go_wp2_with fail
          go_roundw
          case rel => exact ⟨k + 1, by omega, by go_num, by rw [HQ2.out, HQ.out.1], by rw [HQ2.out]; exact HQ.out.2, (by (repeat' (first | with_reducible exact Below.refl _ _ | with_reducible refine below_alloc ?_ _ ?_ | with_reducible refine Below.setCell ?_ ?_ _ | with_reducible refine Below.drew ?_ | with_reducible refine below_drewN ?_ _ | with_reducible refine below_step ?_ (by assumption) ?_ | with_reducible refine below_mark ?_ (by assumption) ?_)); all_goals (first | omega | (simp; done) | (simp; omega)))⟩
          case measure => simp [intOf]; omega
      · have H := Lib.hid (show l - ts.length - (szs (ts.take k) - k) = szr l (szs ts) by
          rw [List.take_of_length_le (by omega)] at hpos ⊢; unfold szr; rw [if_neg (by omega)]; omega)
        clear hlen
        generalize l - ts.length - (szs (ts.take k) - k) = q at *
        go_wp2_with fail
        go_ret
        exact ⟨by rw [← H.out]; rfl, hbl⟩
theorem sz_any (w0 : World) (v : Value) (t : V) (h : Rep w0 v t) (w : World) (hw : Below w0.heap.size w0 w) (l : Int) (h0 : 0 ≤ l) (h1 : l ≤ 1048576) :
    Calls Tryd.prog 14 #[v, .int .i64 l] w (SzRet w l t.sz) := by
  obtain ⟨sl, rfl, hwf, hr⟩ := h
  exact sz_value t sl w l hwf h0 h1 (fun w' l' g0 g1 g2 => sz_list w0 sl t.kids hr w' l' g0 g1 (below_step hw g2 (Nat.le_refl _)))
end Go.Proofs.YtiemlefmhleaeaaDoor
