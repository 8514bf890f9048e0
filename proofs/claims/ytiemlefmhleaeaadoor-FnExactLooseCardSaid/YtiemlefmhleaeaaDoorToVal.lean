/- A value made anew: laws.toValue. -/
import Derived.Test.YtiemlefmhleaeaaDoorOwnV
import Derived.Test.YtiemlefmhleaeaaDoorBytes
import Derived.WalkSpells
import Derived.Lib.Hide
import Derived.Deep.RegionWith
namespace Go.Proofs.YtiemlefmhleaeaaDoor
set_option linter.unusedVariables false
set_option maxRecDepth 100000
open Go.RowKit
set_option maxHeartbeats 400000 in
theorem to_value (t : V) (sl : Value) (w : World) (hw : t.wf)
    (ih : ∀ (w' : World), Below w.heap.size w w' → Calls Tryd.prog 80 #[sl] w' (ListRet w' t.kids)) :
    Calls Tryd.prog 16 #[t.agg sl] w (ValRet w t) := by
  have IH := Lib.hid ih; clear ih
  have WF := Lib.hid hw; clear hw
  have HP := Lib.hid (show ∀ e w', (∃ sl, e = .returned (t.agg sl) ∧ OwnS w' (fun x => w.heap.size ≤ x) sl t.kids ∧ Below w.heap.size w w') → ValRet w t e w' from fun e w' ⟨sl, h1, h2, h3⟩ => ⟨sl, h1, WF.out, h2, h3⟩)
  unfold V.agg at HP ⊢
  generalize t.k = k at *
  generalize t.n = n at *
  generalize t.e = e at *
  generalize t.s = s at *
  go_enter Tryd.func16, Tryd.ntmps16
  go_wp2_with fail
  refine (IH.out _ (by (repeat' (first | with_reducible exact Below.refl _ _ | with_reducible refine below_alloc ?_ _ ?_ | with_reducible refine Below.setCell ?_ ?_ _ | with_reducible refine Below.drew ?_ | with_reducible refine below_drewN ?_ _ | with_reducible refine below_step ?_ (by assumption) ?_ | with_reducible refine below_mark ?_ (by assumption) ?_)); all_goals (first | omega | (simp; done) | (simp; omega)))).mono ?_
  rintro e1 w1 ⟨v, rfl, ho, hb⟩
  obtain ⟨a, cap, rfl⟩ := ho.slice
  have hz := hb.size
  simp at hz
  obtain ⟨hc, hf⟩ := bcell hb
  have HO := Lib.hid ho; clear ho
  go_wp2_with fail
  refine bodyPost_ret (v := .agg #[.int .i64 k, .int .i64 n, .int .i64 e, .string s, .slice a t.kids.length cap]) (by simp [results, Tryd.results16, go_sem, hc]) rfl (HP.out _ _ ⟨_, rfl, ?_, (by (repeat' (first | with_reducible exact Below.refl _ _ | with_reducible refine below_alloc ?_ _ ?_ | with_reducible refine Below.setCell ?_ ?_ _ | with_reducible refine Below.drew ?_ | with_reducible refine below_drewN ?_ _ | with_reducible refine below_step ?_ (by assumption) ?_ | with_reducible refine below_mark ?_ (by assumption) ?_)); all_goals (first | omega | (simp; done) | (simp; omega)))⟩)
  refine OwnS.mono (F := fun x => w.heap.size + 1 + 1 + 1 ≤ x) ?_ (fun x hx => by omega)
  repeat refine OwnS.set ?_ _ _ (by first | omega | (simp; done) | (simp; omega))
  simpa using HO.out
theorem info_impl : (Tryd.prog.info? 28).map (fun i => (i.zero, i.size, i.bytes)) = some (some (.agg #[.int .i64 0, .int .i64 0, .int .i64 0, .string ⟨#[]⟩, .slice none 0 0]), 5, 64) := by kernel_rfl
set_option maxHeartbeats 400000 in
theorem to_list (w0 : World) (v : Value) (ts : List V) (h : RepS w0 v ts) : szs ts ≤ 1048576 → ∀ (w : World), Below w0.heap.size w0 w →
    Calls Tryd.prog 80 #[v] w (ListRet w ts) := by
  induction h with
  | mk a b off cap ts sls ha hc hm hbb cells wfs kids ih =>
  intro hsz w hw
  have hlen := szs_length ts
  have IH := Lib.hid ih; have CC := Lib.hid cells; have WF := Lib.hid wfs; have HA := Lib.hid ha
  clear ih cells wfs kids ha
  obtain ⟨i0, hi, hz0, hz1, hz2⟩ := info_parts info_impl
  obtain ⟨wm, hrun, hrow, hg⟩ := run_make_full (P := Tryd.prog) w w.heap.size 26 28 i0 _ 5 Tryd.underlying26 hi hz0 hz1 .i64 .i64 ts.length (by rw [hz2]; omega) (by simp only [maxLen]; omega) (Nat.le_refl _)
  have HR := Lib.hid (VRows.made hrow)
  have hbm : Below w.heap.size w wm := (Below.refl _ _).grown hg (Nat.le_refl _) (by simp)
  clear hi hz0 hz1 hz2 hrow
  generalize hgg : w.heap.size = g at *
  have HG := Lib.hid hgg; clear hgg
  go_enter Tryd.func80, Tryd.ntmps80
  go_wp2_with fail
  clear hrun
  go_loopw [4] (fun i wr => ∃ k : Nat, ∃ G : Nat → Prop, k ≤ ts.length ∧ i = .int .i64 k ∧ VRows wr g 28 G (.slice (some ⟨g, 0, none⟩) ts.length ts.length) (ts.take k ++ List.replicate (ts.length - k) V0) ∧ Below g w wr) (fun i _ => ts.length - (intOf i).toNat)
  case atStart => exact ⟨0, _, by omega, rfl, by simpa using HR.out, hbm⟩
  case round =>
    obtain ⟨k, G, hk, rfl, hrow, hbl⟩ := hrel
    by_cases hlt : k < ts.length
    · have hne : ts ≠ [] := by intro e; rw [e] at hlt; simp at hlt
      obtain rfl := HA.out hne
      have hbw := hbb hne
      have hbg : b < g := by rw [← HG.out]; exact Nat.lt_of_lt_of_le hbw hw.size
      obtain ⟨c0, c1, c2, c3, c4⟩ := (CC.out k hlt).keep ((hw.block b hbw).symm ▸ (hbl.block b hbg))
      have hrl := hrow.lt g rfl
      have hzk : szs ts[k].kids ≤ 1048576 := by
        have h1 := szs_mem (List.getElem_mem hlt); have h2 := V.sz_eq ts[k]; omega
      have hwr : Below w0.heap.size w0 wr := hw.trans (hbl.mono (by rw [← HG.out]; exact hw.size))
      have V1 := Lib.hid (to_value ts[k] (sls k) wr (WF.out k hlt) (fun w' hb' => IH.out k hlt hzk w' (below_step hwr hb' (Nat.le_refl _))))
      have HROW := Lib.hid hrow; clear hrow hwr
      unfold V.agg at V1
      go_wp2_with fail
      refine V1.out.mono ?_
      rintro e1 w1 ⟨sl, rfl, twf, hown, hb⟩
      obtain ⟨a2, cap2, rfl⟩ := hown.slice
      have HO := Lib.hid hown; clear hown
      unfold V.agg
      have hz := hb.size
      have HR1 := Lib.hid (HROW.out.keep hb)
      obtain ⟨slx, ⟨d0, d1, d2, d3, d4⟩, hfz⟩ := HR1.out.cells (i := k) (by simp; omega)
      clear c0 c1 c2 c3 c4
      go_wp2_with fail
      go_roundw
      case rel =>
        have hset := VRows.set HR1.out (i := k) (t := ts[k]) (by simp; omega) twf HO.out.bound (fun x hx => by
          have hh := hx.1
          refine ⟨by omega, hx.2, fun hG => ?_, by omega⟩
          have := (HROW.out.inG x hG).2
          omega)
        refine ⟨k + 1, fun x => G x ∨ (wr.heap.size ≤ x ∧ x < w1.heap.size), by omega, by go_num, ?_, ?_⟩
        · have e := fill_set V0 ts k hlt
          rw [e] at hset
          exact hset
        · repeat refine Below.setCell ?_ (by simp) _
          exact hbl.trans (hb.mono (by omega))
      case measure => simp [intOf]; omega
    · have hkl : k = ts.length := by omega
      subst hkl
      have HROW := Lib.hid hrow; clear hrow
      go_wp2_with fail
      go_ret
      refine ⟨_, rfl, ?_, ?_⟩
      · rw [HG.out]; simpa using HROW.out.own
      · rw [HG.out]; exact hbl
theorem to_any (w0 : World) (v : Value) (t : V) (h : Rep w0 v t) (hsz : t.sz ≤ 1048576) (w : World) (hw : Below w0.heap.size w0 w) :
    Calls Tryd.prog 16 #[v] w (ValRet w t) := by
  obtain ⟨sl, rfl, hwf, hr⟩ := h
  exact to_value t sl w hwf (fun w' hb => to_list w0 sl t.kids hr (by have := V.sz_eq t; omega) w' (below_step hw hb (Nat.le_refl _)))
end Go.Proofs.YtiemlefmhleaeaaDoor
