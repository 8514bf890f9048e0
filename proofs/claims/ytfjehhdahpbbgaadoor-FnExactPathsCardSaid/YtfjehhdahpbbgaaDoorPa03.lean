/- Lemmas for the statement of the last text of this claim: texts joined. -/
import Derived.Test.YtfjehhdahpbbgaaDoorPa01
import Derived.Test.YtfjehhdahpbbgaaDoorPa02
import Derived.WalkSpells
import Derived.Lib.Hide
import Derived.Deep.RegionWith
import Derived.Deep.RegionHeld3
import Derived.OwnWalk
import Derived.Deep.QuietTactic
import Derived.BigQuiet
import Derived.Deep.RegionLaw
import Derived.BigRegion
namespace Go.Proofs.YtfjehhdahpbbgaaDoor
set_option linter.unusedSimpArgs false
set_option linter.unusedVariables false
set_option maxRecDepth 100000
open Go.RowKit
def szr (l : Int) (n : Nat) : Int := if l < n then -1 else l - n
def SzRet (w : World) (l : Int) (n : Nat) (e : Ending) (w' : World) : Prop := e = .returned (.int .i64 (szr l n)) ∧ Below w.heap.size w w'
theorem szr_lo (l : Int) (n : Nat) : -1 ≤ szr l n := by unfold szr; split <;> omega
set_option maxHeartbeats 400000 in
theorem sz_value (t : V) (sl : Value) (w : World) (l : Int) (hw : t.wf) (h0 : 0 ≤ l) (h1 : l ≤ 1048576)
    (ih : ∀ (w' : World) (l : Int), 0 ≤ l → l ≤ 1048576 → Below w.heap.size w w' → Calls Tryd.prog 17 #[sl, .int .i64 l] w' (SzRet w' l (szs t.kids))) :
    Calls Tryd.prog 10 #[t.agg sl, .int .i64 l] w (SzRet w l t.sz) := by
  obtain ⟨⟨hk0, hk1⟩, ⟨hn0, hn1⟩, ⟨he0, he1⟩, hs⟩ := hw
  have hz := V.sz_eq t
  unfold V.agg
  generalize t.k = k at *
  generalize t.n = n at *
  generalize t.e = e at *
  generalize t.s = s at *
  generalize t.sz = z at *
  generalize szs t.kids = zk at *
  have IH := Lib.hid ih; clear ih
  by_cases h : l < s.size
  · have H := Lib.hid (show szr l z = -1 by unfold szr; rw [if_pos (by omega)])
    clear hz
    go_enter Tryd.func10, Tryd.ntmps10
    go_wp2_with fail
    go_ret
    exact ⟨by rw [H.out]; rfl, (by (repeat' (first | with_reducible exact Below.refl _ _ | with_reducible refine below_alloc ?_ _ ?_ | with_reducible refine Below.setCell ?_ ?_ _ | with_reducible refine Below.drew ?_ | with_reducible refine Go.below_drewN ?_ _ | with_reducible refine below_step ?_ (by assumption) ?_ | with_reducible refine below_mark ?_ (by assumption) ?_)); all_goals (first | omega | (simp; done) | (simp; omega)))⟩
  · have H := Lib.hid (show szr l z = szr (l - s.size) zk by unfold szr; split <;> split <;> omega)
    have hlo := szr_lo (l - s.size) zk
    clear hz
    go_enter Tryd.func10, Tryd.ntmps10
    go_wp2_with fail
    refine (IH.out _ _ (by omega) (by omega) (by (repeat' (first | with_reducible exact Below.refl _ _ | with_reducible refine below_alloc ?_ _ ?_ | with_reducible refine Below.setCell ?_ ?_ _ | with_reducible refine Below.drew ?_ | with_reducible refine Go.below_drewN ?_ _ | with_reducible refine below_step ?_ (by assumption) ?_ | with_reducible refine below_mark ?_ (by assumption) ?_)); all_goals (first | omega | (simp; done) | (simp; omega)))).mono ?_
    rintro e1 w1 ⟨rfl, hb⟩
    generalize szr (l - s.size) zk = r at *
    by_cases hr : r < 0
    · obtain rfl : r = -1 := by omega
      go_wp2_with fail
      go_ret
      exact ⟨by rw [H.out]; rfl, (by (repeat' (first | with_reducible exact Below.refl _ _ | with_reducible refine below_alloc ?_ _ ?_ | with_reducible refine Below.setCell ?_ ?_ _ | with_reducible refine Below.drew ?_ | with_reducible refine Go.below_drewN ?_ _ | with_reducible refine below_step ?_ (by assumption) ?_ | with_reducible refine below_mark ?_ (by assumption) ?_)); all_goals (first | omega | (simp; done) | (simp; omega)))⟩
    · go_wp2_with fail
      go_ret
      exact ⟨by rw [H.out]; rfl, (by (repeat' (first | with_reducible exact Below.refl _ _ | with_reducible refine below_alloc ?_ _ ?_ | with_reducible refine Below.setCell ?_ ?_ _ | with_reducible refine Below.drew ?_ | with_reducible refine Go.below_drewN ?_ _ | with_reducible refine below_step ?_ (by assumption) ?_ | with_reducible refine below_mark ?_ (by assumption) ?_)); all_goals (first | omega | (simp; done) | (simp; omega)))⟩
theorem szs_take (ts : List V) (k : Nat) (h : k < ts.length) : szs (ts.take (k + 1)) = szs (ts.take k) + 1 + (ts[k]).sz := by
  rw [List.take_succ_eq_append_getElem h, szs_append, szs, szs]; omega
theorem szs_take_le (ts : List V) (k : Nat) : szs (ts.take k) ≤ szs ts := by
  have := szs_append (ts.take k) (ts.drop k)
  rw [List.take_append_drop] at this; omega
set_option maxHeartbeats 400000 in
theorem sz_list (w0 : World) (v : Value) (ts : List V) (h : RepS w0 v ts) : ∀ (w : World) (l : Int), 0 ≤ l → l ≤ 1048576 → Below w0.heap.size w0 w →
    Calls Tryd.prog 17 #[v, .int .i64 l] w (SzRet w l (szs ts)) := by
  induction h with
  | mk a b off cap ts sls ha hc hm hbb cells wfs kids ih =>
  intro w l h0 h1 hw
  have hlen := szs_length ts
  by_cases hl : l < ts.length
  · have H := Lib.hid (show szr l (szs ts) = -1 by unfold szr; rw [if_pos (by omega)])
    clear ih cells wfs kids hlen
    go_enter Tryd.func17, Tryd.ntmps17
    go_wp2_with fail
    go_ret
    exact ⟨by rw [H.out]; rfl, Below.refl _ _⟩
  · have IH := Lib.hid ih; have CC := Lib.hid cells; have WF := Lib.hid wfs; have HA := Lib.hid ha
    clear ih cells wfs kids ha
    go_enter Tryd.func17, Tryd.ntmps17
    go_wp2_with fail
    go_loopw [1, 5] (fun l' i wr => ∃ k : Nat, k ≤ ts.length ∧ i = .int .i64 k ∧ l' = .int .i64 (l - ts.length - (szs (ts.take k) - k)) ∧ 0 ≤ l - ts.length - (szs (ts.take k) - k) ∧ Below w.heap.size w wr) (fun _ i _ => ts.length - (intOf i).toNat)
    case atStart => exact ⟨0, by omega, rfl, by simp [szs], by simp [szs]; omega, Below.refl _ _⟩
    case round =>
      obtain ⟨k, hk, rfl, rfl, hpos, hbl⟩ := hrel
      by_cases hlt : k < ts.length
      · have hne : ts ≠ [] := by intro e; rw [e] at hlt; simp at hlt
        obtain rfl := HA.out hne
        have hbw := hbb hne
        obtain ⟨c0, c1, c2, c3, c4⟩ := (CC.out k hlt).keep ((hw.block b hbw).symm ▸ (hbl.block b (Nat.lt_of_lt_of_le hbw hw.size)))
        have hst := szs_take ts k hlt
        have hsl := szs_take_le ts (k + 1)
        have hsl0 := szs_length (ts.take k)
        rw [List.length_take] at hsl0
        have V0 := Lib.hid (sz_value ts[k] (sls k) wr (l - ts.length - (szs (ts.take k) - k)) (WF.out k hlt) (by omega) (by omega) (fun w' l' g0 g1 g2 => IH.out k hlt w' l' g0 g1 (below_step (below_step hw hbl (by omega)) g2 (by omega))))
        have hge := szr_lo (l - ts.length - (szs (ts.take k) - k)) ts[k].sz
        have HR := Lib.hid (show szr (l - ts.length - (szs (ts.take k) - k)) ts[k].sz = if l - ts.length - (szs (ts.take (k + 1)) - (k + 1 : Nat)) < 0 then -1 else l - ts.length - (szs (ts.take (k + 1)) - (k + 1 : Nat)) by unfold szr; rw [hst]; split <;> split <;> omega)
        have HT := Lib.hid (show l - ts.length - (szs (ts.take (k + 1)) - (k + 1 : Nat)) < 0 → szr l (szs ts) = -1 by
          intro hh; unfold szr; have := szs_length (ts.drop (k + 1)); have h2 := szs_append (ts.take (k + 1)) (ts.drop (k + 1)); rw [List.take_append_drop] at h2; rw [List.length_drop] at this; rw [if_pos (by omega)])
        clear hst hsl hsl0
        unfold V.agg at V0
        generalize l - ts.length - (szs (ts.take k) - k) = q at *
        generalize hq2 : l - ts.length - (szs (ts.take (k + 1)) - (k + 1 : Nat)) = q2 at *
        have HQ2 := Lib.hid hq2; clear hq2
        go_wp2_with fail
        refine V0.out.mono ?_
        rintro e1 w1 ⟨rfl, hb⟩
        have HR2 := HR.out
        generalize szr q ts[k].sz = r at *
        clear HR
        by_cases hr : r < 0
        · have hq2 : q2 < 0 := by by_cases hh : q2 < 0; exact hh; rw [if_neg hh] at HR2; omega
          clear HR2
          go_wp2_with fail
          go_ret
          exact ⟨by rw [HT.out hq2]; rfl, (by (repeat' (first | with_reducible exact Below.refl _ _ | with_reducible refine below_alloc ?_ _ ?_ | with_reducible refine Below.setCell ?_ ?_ _ | with_reducible refine Below.drew ?_ | with_reducible refine Go.below_drewN ?_ _ | with_reducible refine below_step ?_ (by assumption) ?_ | with_reducible refine below_mark ?_ (by assumption) ?_)); all_goals (first | omega | (simp; done) | (simp; omega)))⟩
        · have HQ := Lib.hid (show r = q2 ∧ 0 ≤ q2 by by_cases hh : q2 < 0; (rw [if_pos hh] at HR2; omega); (rw [if_neg hh] at HR2; omega))
          clear HR2
          go_wp2_with fail
          go_roundw
          case rel => exact ⟨k + 1, by omega, by go_num, by rw [HQ2.out, HQ.out.1], by rw [HQ2.out]; exact HQ.out.2, (by (repeat' (first | with_reducible exact Below.refl _ _ | with_reducible refine below_alloc ?_ _ ?_ | with_reducible refine Below.setCell ?_ ?_ _ | with_reducible refine Below.drew ?_ | with_reducible refine Go.below_drewN ?_ _ | with_reducible refine below_step ?_ (by assumption) ?_ | with_reducible refine below_mark ?_ (by assumption) ?_)); all_goals (first | omega | (simp; done) | (simp; omega)))⟩
          case measure => simp [intOf]; omega
      · have H := Lib.hid (show l - ts.length - (szs (ts.take k) - k) = szr l (szs ts) by
          rw [List.take_of_length_le (by omega)] at hpos ⊢; unfold szr; rw [if_neg (by omega)]; omega)
        clear hlen
        generalize l - ts.length - (szs (ts.take k) - k) = q at *
        go_wp2_with fail
        go_ret
        exact ⟨by rw [← H.out]; rfl, hbl⟩
theorem sz_any (w0 : World) (v : Value) (t : V) (h : Rep w0 v t) (w : World) (hw : Below w0.heap.size w0 w) (l : Int) (h0 : 0 ≤ l) (h1 : l ≤ 1048576) :
    Calls Tryd.prog 10 #[v, .int .i64 l] w (SzRet w l t.sz) := by
  obtain ⟨sl, rfl, hwf, hr⟩ := h
  exact sz_value t sl w l hwf h0 h1 (fun w' l' g0 g1 g2 => sz_list w0 sl t.kids hr w' l' g0 g1 (below_step hw g2 (Nat.le_refl _)))
end Go.Proofs.YtfjehhdahpbbgaaDoor
namespace Go.Proofs.YtfjehhdahpbbgaaDoor
set_option linter.unusedSimpArgs false
set_option linter.unusedVariables false
set_option maxRecDepth 100000
open Go.RowKit
instance memBa2 (s : ByteArray) (l : List ByteArray) : Decidable (s ∈ l) := @List.instDecidableMemOfLawfulBEq _ instBEqOfDecidableEq inferInstance s l
theorem RepSs.take {w : World} {a : Option Addr} {n cap : Nat} {l : List ByteArray} (h : RepSs w (.slice a n cap) l) (i : Nat) (hi : i ≤ l.length) : RepSs w (.slice a i cap) (l.take i) := by
  obtain ⟨a', b, off, cap', hv, ha, hc, hm, hcell⟩ := h
  simp only [Value.slice.injEq] at hv
  obtain ⟨rfl, rfl, rfl⟩ := hv
  have hl : (l.take i).length = i := by rw [List.length_take]; omega
  refine ⟨a, b, off, cap, by rw [hl], fun hne => ha (fun e => hne (by rw [e]; simp)), by rw [hl]; omega, hm, fun j hj => ?_⟩
  rw [hl] at hj
  rw [List.getElem_take]
  exact hcell j (by omega)
end Go.Proofs.YtfjehhdahpbbgaaDoor
namespace Go.Proofs.YtfjehhdahpbbgaaDoor
set_option linter.unusedSimpArgs false
set_option linter.unusedVariables false
set_option maxRecDepth 100000
open Go.RowKit
theorem nodes_mem {t : V} {ts : List V} (h : t ∈ ts) : t.nodes ≤ nodess ts := by
  induction ts with
  | nil => cases h
  | cons u us ih =>
    rw [nodess]
    rcases List.mem_cons.1 h with rfl | h
    · omega
    · have := ih h; omega
theorem rightsB_at {ts : List V} {d : Int} (h : rightsB ts d = true) (j : Nat) (hj : j < ts.length) : rightB ts[j] d = true := by
  rw [rightsB_all, List.all_eq_true] at h
  exact h _ (List.getElem_mem hj)
theorem right_kids {t : V} {d : Int} (h : rightB t d = true) : rightsB t.kids (d - 1) = true := by
  rw [rightB_eq] at h
  simp only [Bool.and_eq_true] at h
  exact h.2
end Go.Proofs.YtfjehhdahpbbgaaDoor
namespace Go.Proofs.YtfjehhdahpbbgaaDoor
set_option linter.unusedSimpArgs false
set_option linter.unusedVariables false
set_option maxRecDepth 100000
open Go.RowKit
set_option maxHeartbeats 400000 in
theorem to_value (t : V) (sl : Value) (w : World) (hw : t.wf)
    (ih : ∀ (w' : World), Below w.heap.size w w' → Calls Tryd.prog 19 #[sl] w' (ListRet w' t.kids)) :
    Calls Tryd.prog 12 #[t.agg sl] w (ValRet w t) := by
  have IH := Lib.hid ih; clear ih
  have WF := Lib.hid hw; clear hw
  have HP := Lib.hid (show ∀ e w', (∃ sl, e = .returned (t.agg sl) ∧ OwnS w' (fun x => w.heap.size ≤ x) sl t.kids ∧ Below w.heap.size w w') → ValRet w t e w' from fun e w' ⟨sl, h1, h2, h3⟩ => ⟨sl, h1, WF.out, h2, h3⟩)
  unfold V.agg at HP ⊢
  generalize t.k = k at *
  generalize t.n = n at *
  generalize t.e = e at *
  generalize t.s = s at *
  go_enter Tryd.func12, Tryd.ntmps12
  go_wp2_with fail
  refine (IH.out _ (by (repeat' (first | with_reducible exact Below.refl _ _ | with_reducible refine below_alloc ?_ _ ?_ | with_reducible refine Below.setCell ?_ ?_ _ | with_reducible refine Below.drew ?_ | with_reducible refine Go.below_drewN ?_ _ | with_reducible refine below_step ?_ (by assumption) ?_ | with_reducible refine below_mark ?_ (by assumption) ?_)); all_goals (first | omega | (simp; done) | (simp; omega)))).mono ?_
  rintro e1 w1 ⟨v, rfl, ho, hb⟩
  obtain ⟨a, cap, rfl⟩ := ho.slice
  have hz := hb.size
  simp at hz
  obtain ⟨hc, hf⟩ := bcell hb
  have HO := Lib.hid ho; clear ho
  go_wp2_with fail
  refine bodyPost_ret (v := .agg #[.int .i64 k, .int .i64 n, .int .i64 e, .string s, .slice a t.kids.length cap]) (by simp [results, Tryd.results12, go_sem, hc]) rfl (HP.out _ _ ⟨_, rfl, ?_, (by (repeat' (first | with_reducible exact Below.refl _ _ | with_reducible refine below_alloc ?_ _ ?_ | with_reducible refine Below.setCell ?_ ?_ _ | with_reducible refine Below.drew ?_ | with_reducible refine Go.below_drewN ?_ _ | with_reducible refine below_step ?_ (by assumption) ?_ | with_reducible refine below_mark ?_ (by assumption) ?_)); all_goals (first | omega | (simp; done) | (simp; omega)))⟩)
  refine OwnS.mono (F := fun x => w.heap.size + 1 + 1 + 1 ≤ x) ?_ (fun x hx => by omega)
  repeat refine OwnS.set ?_ _ _ (by first | omega | (simp; done) | (simp; omega))
  simpa using HO.out
theorem info_impl : (Tryd.prog.info? 29).map (fun i => (i.zero, i.size, i.bytes)) = some (some (.agg #[.int .i64 0, .int .i64 0, .int .i64 0, .string ⟨#[]⟩, .slice none 0 0]), 5, 64) := by kernel_rfl
set_option maxHeartbeats 400000 in
theorem to_list (w0 : World) (v : Value) (ts : List V) (h : RepS w0 v ts) : szs ts ≤ 1048576 → ∀ (w : World), Below w0.heap.size w0 w →
    Calls Tryd.prog 19 #[v] w (ListRet w ts) := by
  induction h with
  | mk a b off cap ts sls ha hc hm hbb cells wfs kids ih =>
  intro hsz w hw
  have hlen := szs_length ts
  have IH := Lib.hid ih; have CC := Lib.hid cells; have WF := Lib.hid wfs; have HA := Lib.hid ha
  clear ih cells wfs kids ha
  obtain ⟨i0, hi, hz0, hz1, hz2⟩ := info_parts info_impl
  obtain ⟨wm, hrun, hrow, hg⟩ := run_make_full (P := Tryd.prog) w w.heap.size 27 29 i0 _ 5 Tryd.underlying27 hi hz0 hz1 .i64 .i64 ts.length (by rw [hz2]; omega) (by simp only [maxLen]; omega) (Nat.le_refl _)
  have HR := Lib.hid (VRows.made hrow)
  have hbm : Below w.heap.size w wm := (Below.refl _ _).grown hg (Nat.le_refl _) (by simp)
  clear hi hz0 hz1 hz2 hrow
  generalize hgg : w.heap.size = g at *
  have HG := Lib.hid hgg; clear hgg
  go_enter Tryd.func19, Tryd.ntmps19
  go_wp2_with fail
  clear hrun
  go_loopw [4] (fun i wr => ∃ k : Nat, ∃ G : Nat → Prop, k ≤ ts.length ∧ i = .int .i64 k ∧ VRows wr g 29 G (.slice (some ⟨g, 0, none⟩) ts.length ts.length) (ts.take k ++ List.replicate (ts.length - k) V0) ∧ Below g w wr) (fun i _ => ts.length - (intOf i).toNat)
  case atStart => exact ⟨0, _, by omega, rfl, by simpa using HR.out, hbm⟩
  case round =>
    obtain ⟨k, G, hk, rfl, hrow, hbl⟩ := hrel
    by_cases hlt : k < ts.length
    · have hne : ts ≠ [] := by intro e; rw [e] at hlt; simp at hlt
      obtain rfl := HA.out hne
      have hbw := hbb hne
      have hbg : b < g := by rw [← HG.out]; exact Nat.lt_of_lt_of_le hbw hw.size
      obtain ⟨c0, c1, c2, c3, c4⟩ := (CC.out k hlt).keep ((hw.block b hbw).symm ▸ (hbl.block b hbg))
      have hrl := hrow.lt g rfl
      have hzk : szs ts[k].kids ≤ 1048576 := by
        have h1 := szs_mem (List.getElem_mem hlt); have h2 := V.sz_eq ts[k]; omega
      have hwr : Below w0.heap.size w0 wr := hw.trans (hbl.mono (by rw [← HG.out]; exact hw.size))
      have V1 := Lib.hid (to_value ts[k] (sls k) wr (WF.out k hlt) (fun w' hb' => IH.out k hlt hzk w' (below_step hwr hb' (Nat.le_refl _))))
      have HROW := Lib.hid hrow; clear hrow hwr
      unfold V.agg at V1
      go_wp2_with fail
      refine V1.out.mono ?_
      rintro e1 w1 ⟨sl, rfl, twf, hown, hb⟩
      obtain ⟨a2, cap2, rfl⟩ := hown.slice
      have HO := Lib.hid hown; clear hown
      unfold V.agg
      have hz := hb.size
      have HR1 := Lib.hid (HROW.out.keep hb)
      obtain ⟨slx, ⟨d0, d1, d2, d3, d4⟩, hfz⟩ := HR1.out.cells (i := k) (by simp; omega)
      clear c0 c1 c2 c3 c4
      go_wp2_with fail
      go_roundw
      case rel =>
        have hset := VRows.set HR1.out (i := k) (t := ts[k]) (by simp; omega) twf HO.out.bound (fun x hx => by
          have hh := hx.1
          refine ⟨by omega, hx.2, fun hG => ?_, by omega⟩
          have := (HROW.out.inG x hG).2
          omega)
        refine ⟨k + 1, fun x => G x ∨ (wr.heap.size ≤ x ∧ x < w1.heap.size), by omega, by go_num, ?_, ?_⟩
        · have e := fill_set V0 ts k hlt
          rw [e] at hset
          exact hset
        · repeat refine Below.setCell ?_ (by simp) _
          exact hbl.trans (hb.mono (by omega))
      case measure => simp [intOf]; omega
    · have hkl : k = ts.length := by omega
      subst hkl
      have HROW := Lib.hid hrow; clear hrow
      go_wp2_with fail
      go_ret
      refine ⟨_, rfl, ?_, ?_⟩
      · rw [HG.out]; simpa using HROW.out.own
      · rw [HG.out]; exact hbl
theorem to_any (w0 : World) (v : Value) (t : V) (h : Rep w0 v t) (hsz : t.sz ≤ 1048576) (w : World) (hw : Below w0.heap.size w0 w) :
    Calls Tryd.prog 12 #[v] w (ValRet w t) := by
  obtain ⟨sl, rfl, hwf, hr⟩ := h
  exact to_value t sl w hwf (fun w' hb => to_list w0 sl t.kids hr (by have := V.sz_eq t; omega) w' (below_step hw hb (Nat.le_refl _)))
end Go.Proofs.YtfjehhdahpbbgaaDoor
namespace Go.Proofs.YtfjehhdahpbbgaaDoor
set_option linter.unusedSimpArgs false
set_option linter.unusedVariables false
set_option maxRecDepth 100000
open Go.RowKit
inductive RepF (w : World) (G : Nat → Prop) : Value → List V → Prop
  | mk (a : Option Addr) (b off cap : Nat) (ts : List V) (sls : Nat → Value) (ha : ts ≠ [] → a = some ⟨b, off, none⟩) (hc : ts.length ≤ cap) (hm : cap ≤ 9223372036854775807)
      (hb : ts ≠ [] → b < w.heap.size ∧ G b) (cells : ∀ i (h : i < ts.length), Cells5 w b (off + i * 5) ts[i] (sls i)) (wfs : ∀ i (h : i < ts.length), ts[i].wf)
      (kids : ∀ i (h : i < ts.length), RepF w G (sls i) ts[i].kids) : RepF w G (.slice a ts.length cap) ts
theorem RepF.rep {w : World} {G : Nat → Prop} {v : Value} {ts : List V} (h : RepF w G v ts) : RepS w v ts := by
  induction h with
  | mk a b off cap ts sls ha hc hm hb cells wfs kids ih => exact .mk a b off cap ts sls ha hc hm (fun hne => (hb hne).1) cells wfs ih
theorem RepF.mono {w : World} {G G' : Nat → Prop} {v : Value} {ts : List V} (h : RepF w G v ts) (hG : ∀ x, G x → x < w.heap.size → G' x) : RepF w G' v ts := by
  induction h with
  | mk a b off cap ts sls ha hc hm hb cells wfs kids ih => exact .mk a b off cap ts sls ha hc hm (fun hne => ⟨(hb hne).1, hG _ (hb hne).2 (hb hne).1⟩) cells wfs ih
theorem RepF.keep {w w' : World} {G : Nat → Prop} {v : Value} {ts : List V} (h : RepF w G v ts) (hz : w.heap.size ≤ w'.heap.size) (hk : ∀ x, G x → x < w.heap.size → w'.heap[x]? = w.heap[x]?) : RepF w' G v ts := by
  induction h with
  | mk a b off cap ts sls ha hc hm hb cells wfs kids ih =>
    refine .mk a b off cap ts sls ha hc hm (fun hne => ⟨Nat.lt_of_lt_of_le (hb hne).1 hz, (hb hne).2⟩) (fun i hi => (cells i hi).keep ?_) wfs ih
    have hne : ts ≠ [] := by intro e; subst e; simp at hi
    exact hk b (hb hne).2 (hb hne).1
theorem RepF.stay {w w' : World} {G : Nat → Prop} {v : Value} {ts : List V} (h : RepF w G v ts) (hb : Below w.heap.size w w') : RepF w' G v ts :=
  h.keep hb.size (fun x _ hx => hb.block x hx)
theorem RepF.bound {w : World} {G : Nat → Prop} {v : Value} {ts : List V} (h : RepF w G v ts) : RepF w (fun x => G x ∧ x < w.heap.size) v ts := h.mono (fun x h1 h2 => ⟨h1, h2⟩)
theorem RepS.toF {w : World} {v : Value} {ts : List V} (h : RepS w v ts) : RepF w (fun x => x < w.heap.size) v ts := by
  induction h with
  | mk a b off cap ts sls ha hc hm hb cells wfs kids ih => exact .mk a b off cap ts sls ha hc hm (fun hne => ⟨hb hne, hb hne⟩) cells wfs ih
theorem OwnS.toF {w : World} {F : Nat → Prop} {v : Value} {ts : List V} (h : OwnS w F v ts) : RepF w F v ts := by
  induction h with
  | mk F a b off cap ts sls Fs ha hc hm hb hF hd cells wfs kids ih =>
    exact .mk a b off cap ts sls ha hc hm (fun hne => by obtain ⟨h1, cur, e, h⟩ := hb hne; exact ⟨lt_of_heap h, h1⟩) cells wfs (fun i hi => (ih i hi).mono (fun x hx _ => (hF i hi x hx).1))
theorem RepF.slice {w : World} {G : Nat → Prop} {v : Value} {ts : List V} (h : RepF w G v ts) : ∃ a cap, v = .slice a ts.length cap := by
  cases h with
  | mk a b off cap ts0 sls ha hc hm hb cells wfs kids => exact ⟨a, cap, rfl⟩
theorem RepF.nil (w : World) (G : Nat → Prop) : RepF w G (.slice none 0 0) [] :=
  .mk none 0 0 0 [] (fun _ => .nilIface) (by simp) (by simp) (by omega) (by simp) (by simp) (by simp) (by simp)
structure PRowS (w : World) (base : Nat) (G : Nat → Prop) (v : Value) (ts : List V) (sls : List Value) : Prop where
  row : w.ownsRow base 29 5 v ts.length (flat ts sls)
  len : sls.length = ts.length
  wfs : ∀ i (h : i < ts.length), ts[i].wf
  kids : ∀ i (h : i < ts.length), RepF w G (sls.getD i undef) ts[i].kids
  own : ∀ g, v.ownBlock = some g → ¬ G g
  inG : ∀ x, G x → x < w.heap.size
def PRow (w : World) (base : Nat) (G : Nat → Prop) (v : Value) (ts : List V) : Prop := ∃ sls, PRowS w base G v ts sls
theorem PRow.lt {w : World} {base : Nat} {G : Nat → Prop} {v : Value} {ts : List V} (h : PRow w base G v ts) : ∀ k, v.ownBlock = some k → base ≤ k ∧ k < w.heap.size := by
  obtain ⟨sls, h⟩ := h; exact h.row.lt
theorem PRow.inG {w : World} {base : Nat} {G : Nat → Prop} {v : Value} {ts : List V} (h : PRow w base G v ts) : ∀ x, G x → x < w.heap.size := by
  obtain ⟨sls, h⟩ := h; exact h.inG
theorem PRow.own {w : World} {base : Nat} {G : Nat → Prop} {v : Value} {ts : List V} (h : PRow w base G v ts) : ∀ x, v.ownBlock = some x → ¬ G x := by
  obtain ⟨sls, h⟩ := h; exact h.own
theorem PRow.slice {w : World} {base : Nat} {G : Nat → Prop} {v : Value} {ts : List V} (h : PRow w base G v ts) : ∃ a cap, v = .slice a ts.length cap := by
  obtain ⟨sls, h⟩ := h
  rcases h.row.2 with ⟨rfl, hn⟩ | ⟨g, cap, cur, hv, _⟩
  · exact ⟨none, 0, by rw [hn]⟩
  · exact ⟨_, _, hv⟩
theorem PRow.slice3 {w : World} {base : Nat} {G : Nat → Prop} {v : Value} {ts : List V} (h : PRow w base G v ts) : ∃ a n cap, v = .slice a n cap := by
  obtain ⟨a, cap, e⟩ := h.slice; exact ⟨a, _, cap, e⟩
theorem PRow.repF {w : World} {base : Nat} {G : Nat → Prop} {v : Value} {ts : List V} (h : PRow w base G v ts) : RepF w (fun x => G x ∨ v.ownBlock = some x) v ts := by
  obtain ⟨sls, h⟩ := h
  rcases h.row.2 with ⟨rfl, hn⟩ | ⟨g, cap, cur, rfl, hbg, hg, hnc, hcm, hcs, htake⟩
  · obtain rfl : ts = [] := List.eq_nil_of_length_eq_zero hn
    exact RepF.nil _ _
  · have hcell : ∀ j u, (flat ts sls)[j]? = some u → w.cell? ⟨g, j, none⟩ = some u := by
      intro j u hu
      have := h.row.cells (g := g) rfl j u hu
      rwa [addr_add _ _ rfl, Nat.zero_add] at this
    refine .mk (some ⟨g, 0, none⟩) g 0 cap ts (fun i => sls.getD i undef) (fun _ => rfl) hnc (by simpa [maxLen] using hcm) (fun _ => ⟨lt_of_heap hg, .inr rfl⟩) ?_ h.wfs (fun i hi => (h.kids i hi).mono (fun x hx _ => .inl hx))
    intro i hi
    have hi2 : i < sls.length := by rw [h.len]; exact hi
    obtain ⟨h0, h1, h2, h3, h4⟩ := flat_get ts sls i hi hi2
    rw [Nat.zero_add, List.getD_eq_getElem?_getD, List.getElem?_eq_getElem hi2]
    exact ⟨hcell _ _ h0, hcell _ _ h1, hcell _ _ h2, hcell _ _ h3, hcell _ _ h4⟩
theorem PRow.rep {w : World} {base : Nat} {G : Nat → Prop} {v : Value} {ts : List V} (h : PRow w base G v ts) : RepS w v ts := h.repF.rep
theorem PRow.keep {w w' : World} {base : Nat} {G : Nat → Prop} {v : Value} {ts : List V} (h : PRow w base G v ts) (hz : w.heap.size ≤ w'.heap.size) (hk : ∀ x, (G x ∨ v.ownBlock = some x) → x < w.heap.size → w'.heap[x]? = w.heap[x]?) : PRow w' base G v ts := by
  obtain ⟨sls, h⟩ := h
  refine ⟨sls, ⟨⟨h.row.1, ?_⟩, h.len, h.wfs, fun i hi => (h.kids i hi).keep hz (fun x hx hs => hk x (.inl hx) hs), h.own, fun x hx => Nat.lt_of_lt_of_le (h.inG x hx) hz⟩⟩
  rcases h.row.2 with h2 | ⟨g, cap, cur, rfl, hbg, hg, r⟩
  · exact .inl h2
  · exact .inr ⟨g, cap, cur, rfl, hbg, by rw [hk g (.inr rfl) (lt_of_heap hg)]; exact hg, r⟩
theorem PRow.stay {w w' : World} {base : Nat} {G : Nat → Prop} {v : Value} {ts : List V} (h : PRow w base G v ts) (hb : Below w.heap.size w w') : PRow w' base G v ts :=
  h.keep hb.size (fun x _ hx => hb.block x hx)
theorem PRow.nil (w : World) (base : Nat) : PRow w base (fun _ => False) (.slice none 0 0) [] :=
  ⟨[], ⟨World.ownsRow_nil w base _ 5, rfl, by simp, by simp, by simp, by simp⟩⟩
theorem PRow.made0 {w : World} {base : Nat} (hb : base ≤ w.heap.size) : PRow (w.alloc (.cells #[] 29)) base (fun _ => False) (.slice (some ⟨w.heap.size, 0, none⟩) 0 0) [] :=
  ⟨[], ⟨World.ownsRow_lit (w := w) #[] 0 hb (by simp [maxLen]) rfl, rfl, by simp, by simp, by simp, by simp⟩⟩
structure VSrc (w : World) (F : Nat → Prop) (xv : Value) (us : List V) (sms : List Value) : Prop where
  src : Src Tryd.prog 5 27 xv us.length (flat us sms) w
  len : sms.length = us.length
  wfs : ∀ i (h : i < us.length), us[i].wf
  kids : ∀ i (h : i < us.length), RepF w F (sms.getD i undef) us[i].kids
section
variable {w : World} {ops : Array Oper} {rest : List Oper} {o : Oper} {a : Act} {Q : Exit → Act → World → Prop}
end
end Go.Proofs.YtfjehhdahpbbgaaDoor
namespace Go.Proofs.YtfjehhdahpbbgaaDoor
set_option linter.unusedSimpArgs false
set_option linter.unusedVariables false
set_option maxRecDepth 100000
open Go.RowKit
mutual
def V.pre : V → List V
  | .mk k n e s ks => .mk k n e s ks :: pres ks
def pres : List V → List V
  | [] => []
  | t :: ts => t.pre ++ pres ts
 end
end Go.Proofs.YtfjehhdahpbbgaaDoor
namespace Go.Proofs.YtfjehhdahpbbgaaDoor
set_option linter.unusedSimpArgs false
set_option linter.unusedVariables false
set_option maxRecDepth 100000
open Go.RowKit
theorem RepS.opened' {w : World} {v : Value} {ts : List V} (h : RepS w v ts) : ∃ a b off cap, v = .slice a ts.length cap ∧ (ts ≠ [] → a = some ⟨b, off, none⟩ ∧ b < w.heap.size) ∧ ts.length ≤ cap ∧ cap ≤ 9223372036854775807 ∧
    ∃ sls : Nat → Value, ∀ i (h : i < ts.length), Cells5 w b (off + i * 5) ts[i] (sls i) ∧ ts[i].wf ∧ RepS w (sls i) ts[i].kids := by
  cases h with
  | mk a b off cap ts0 sls ha hc hm hbb cells wfs kids => exact ⟨a, b, off, cap, rfl, fun hne => ⟨ha hne, hbb hne⟩, hc, hm, sls, fun i hi => ⟨cells i hi, wfs i hi, kids i hi⟩⟩
theorem RepS.take {w : World} {a : Option Addr} {n cap : Nat} {ts : List V} (h : RepS w (.slice a n cap) ts) (i : Nat) (hi : i ≤ ts.length) : RepS w (.slice a i cap) (ts.take i) := by
  obtain ⟨a', b, off, cap', hv, ha, hc, hm, sls, hel⟩ := h.opened'
  simp only [Value.slice.injEq] at hv
  obtain ⟨rfl, rfl, rfl⟩ := hv
  have hl : (ts.take i).length = i := by rw [List.length_take]; omega
  have := RepS.mk (w := w) a b off cap (ts.take i) sls (fun hne => (ha (fun e => hne (by rw [e]; simp))).1) (by rw [hl]; omega) hm (fun hne => (ha (fun e => hne (by rw [e]; simp))).2)
    (fun j hj => by rw [hl] at hj; rw [List.getElem_take]; exact (hel j (by omega)).1) (fun j hj => by rw [hl] at hj; rw [List.getElem_take]; exact (hel j (by omega)).2.1) (fun j hj => by rw [hl] at hj; rw [List.getElem_take]; exact (hel j (by omega)).2.2)
  rw [hl] at this
  exact this
end Go.Proofs.YtfjehhdahpbbgaaDoor
namespace Go.Proofs.YtfjehhdahpbbgaaDoor
set_option linter.unusedSimpArgs false
set_option linter.unusedVariables false
set_option maxRecDepth 100000
open Go.RowKit
theorem Box.grown {w w' : World} {b : Nat} {k n e : Int} {s : ByteArray} {sl : Value} {T : TypeId} (h : Box w b k n e s sl T) {o : Option Nat} (hg : w.grownBy w' o) (hn : o ≠ some b) : Box w' b k n e s sl T :=
  (hg.block b h.lt (fun e => hn e.symm)).trans h
end Go.Proofs.YtfjehhdahpbbgaaDoor
namespace Go.Proofs.YtfjehhdahpbbgaaDoor
set_option linter.unusedSimpArgs false
set_option linter.unusedVariables false
set_option maxRecDepth 100000
open Go.RowKit
def keqB (a b : V) : Bool := decide (keyEq a b)
set_option maxHeartbeats 4000000 in
theorem l02Pairs_any (w0 : World) (v : Value) (ts : List V) (h : RepS w0 v ts) (w : World) (hw : Below w0.heap.size w0 w) (hlen : ts.length ≤ 1048576) :
    Calls Tryd.prog 130 #[v] w (BoolRet (pairsB ts) w) := by
  obtain ⟨b, hb⟩ : ∃ b : Bool, b = pairsB ts := ⟨_, rfl⟩
  rw [← hb]
  have HB := Lib.hid (show b = (keysB keqB (evV ts) && decide (ts.length % 2 = 0) && decide (ts.length ≤ 300)) from hb)
  clear hb
  obtain ⟨a, bb, off, cap, rfl, ha, hc, hm, sls, hel⟩ := h.opened
  have HA := Lib.hid ha; have HE := Lib.hid hel
  clear ha hel h hc hm
  have HW := Lib.hid hw
  go_enter Tryd.func130, Tryd.ntmps130
  go_wp2_with fail
  go_loopw [3, 4] (fun i q wr => ∃ j : Nat, j % 2 = 0 ∧ j ≤ ts.length + 1 ∧ i = .int .i64 j ∧ Hid (keysB keqB (evV (ts.take j)) = true) ∧ Below w.heap.size w wr) (fun i _ _ => ts.length + 2 - (intOf i).toNat)
  case atStart => exact ⟨0, rfl, by omega, rfl, Lib.hid rfl, Below.refl _ _⟩
  case round =>
    obtain ⟨j, hj2, hj, rfl, HN, hbl⟩ := hrel
    by_cases hlt : j < ts.length
    · have hne : ts ≠ [] := by intro e; rw [e] at hlt; simp at hlt
      obtain ⟨rfl, hbw⟩ := HA.out hne
      have HWR := Lib.hid (show Below w0.heap.size w0 wr from HW.out.trans (hbl.mono HW.out.size))
      obtain ⟨c0, c1, c2, c3, c4⟩ := (HE.out j hlt).1.keep (HWR.out.block bb hbw)
      clear c1 c2 c4
      have HS := Lib.hid (show keysB keqB (evV (ts.take (j + 2))) = (keysB keqB (evV (ts.take j)) && isKeyB ts[j] && (evV (ts.take j)).all fun y => !(keqB y ts[j])) by rw [evV_take ts j hj2 hlt, keysB_snoc])
      have HST := Lib.hid (keysB_stuck keqB ts j hj2 hlt)
      cases hkey : isKeyB ts[j]
      · have HX := Lib.hid (show b = false by rw [HB.out, HST.out (.inl hkey)]; rfl)
        have hk' : ¬ (ts[j].k = 5 ∨ ts[j].k = 3) := of_decide_eq_false hkey
        have t1 : (ts[j].k != 5) = true := by simp; omega
        have t2 : (ts[j].k != 3) = true := by simp; omega
        clear hkey hk' HS HST HN
        generalize ts[j].k = xk at *
        go_wp2_with fail
        go_ret
        exact ⟨by rw [HX.out]; rfl, (by (repeat' (first | with_reducible exact Below.refl _ _ | with_reducible refine below_alloc ?_ _ ?_ | with_reducible refine Below.setCell ?_ ?_ _ | with_reducible refine Below.drew ?_ | with_reducible refine Go.below_drewN ?_ _ | with_reducible refine below_step ?_ (by assumption) ?_ | with_reducible refine below_mark ?_ (by assumption) ?_)); all_goals (first | omega | (simp; done) | (simp; omega)))⟩
      · have hk' : ts[j].k = 5 ∨ ts[j].k = 3 := of_decide_eq_true hkey
        rw [hkey] at HS
        clear hkey
        have HKK := Lib.hid hk'
        clear hk'
        have hcase : (ts[j].k != 5) = false ∨ ((ts[j].k != 5) = true ∧ (ts[j].k != 3) = false) := by
          rcases HKK.out with h | h
          · left; simp [h]
          · right; simp [h]
        rcases hcase with t1 | ⟨t1, t2⟩
        · go_wp2_with fail
          go_loopw [4] (fun i w2 => ∃ q : Nat, q % 2 = 0 ∧ q ≤ j + 1 ∧ i = .int .i64 q ∧ Hid (∀ x, (hx : x < q) → (hl : x < ts.length) → x % 2 = 0 → keqB ts[x] ts[j] = false) ∧ Below w.heap.size w w2) (fun i _ => j + 2 - (intOf i).toNat)
          case atStart => exact ⟨0, rfl, by omega, rfl, Lib.hid (by omega), hbl⟩
          case round =>
            clear c0 c3 hbl HWR
            obtain ⟨q, hq2, hqj, rfl, HNE, hbl⟩ := hrel
            have HWR := Lib.hid (show Below w0.heap.size w0 wr from HW.out.trans (hbl.mono HW.out.size))
            by_cases hqlt : q < j
            · have hqts : q < ts.length := by omega
              obtain ⟨c0, c1, c2, c3, c4⟩ := (HE.out q hqts).1.keep (HWR.out.block bb hbw)
              obtain ⟨d0, d1, d2, d3, d4⟩ := (HE.out j hlt).1.keep (HWR.out.block bb hbw)
              clear c2 c4 d2 d4
              have HX1 := Lib.hid (show keqB ts[q] ts[j] = true → b = false from fun e => by rw [HB.out, HST.out (.inr ⟨q, hqts, hqlt, hq2, e⟩)]; rfl)
              have HX2 := Lib.hid (show keqB ts[q] ts[j] = false → ∀ x, (hx : x < q + 2) → (hl : x < ts.length) → x % 2 = 0 → keqB ts[x] ts[j] = false from fun e x hx hl hx2 => by
                by_cases hxq : x < q
                · exact HNE.out x hxq hl hx2
                · have : x = q := by omega
                  subst this; exact e)
              have HKQ := Lib.hid (show keqB ts[q] ts[j] = decide (ts[q].k = ts[j].k ∧ ts[q].n = ts[j].n ∧ ts[q].s = ts[j].s) from rfl)
              clear HNE HS HST
              generalize ts[q].k = qk at *
              generalize ts[q].n = qn at *
              generalize ts[q].s = qs at *
              generalize ts[j].k = jk at *
              generalize ts[j].n = jn at *
              generalize ts[j].s = js at *
              by_cases e1 : qk = jk
              case neg =>
                have s1 : (qk == jk) = false := by simpa using e1
                have HX2 := Lib.hid (HX2.out (by rw [HKQ.out]; exact decide_eq_false (fun h => e1 h.1)))
                clear e1
                go_wp2_with fail
                go_quiet (fail)
                all_goals go_wp2_with fail
                all_goals go_roundw
                all_goals first
                  | (simp [intOf]; omega)
                  | exact ⟨q + 2, by omega, by omega, by go_num, HX2, (by (repeat' (first | with_reducible exact Below.refl _ _ | with_reducible refine below_alloc ?_ _ ?_ | with_reducible refine Below.setCell ?_ ?_ _ | with_reducible refine Below.drew ?_ | with_reducible refine Go.below_drewN ?_ _ | with_reducible refine below_step ?_ (by assumption) ?_ | with_reducible refine below_mark ?_ (by assumption) ?_)); all_goals (first | omega | (simp; done) | (simp; omega)))⟩
              have s1 : (qk == jk) = true := by simpa using e1
              by_cases e2 : qn = jn
              case neg =>
                have s2 : (qn == jn) = false := by simpa using e2
                have HX2 := Lib.hid (HX2.out (by rw [HKQ.out]; exact decide_eq_false (fun h => e2 h.2.1)))
                clear e1 e2
                go_wp2_with fail
                go_quiet (fail)
                all_goals go_wp2_with fail
                all_goals go_roundw
                all_goals first
                  | (simp [intOf]; omega)
                  | exact ⟨q + 2, by omega, by omega, by go_num, HX2, (by (repeat' (first | with_reducible exact Below.refl _ _ | with_reducible refine below_alloc ?_ _ ?_ | with_reducible refine Below.setCell ?_ ?_ _ | with_reducible refine Below.drew ?_ | with_reducible refine Go.below_drewN ?_ _ | with_reducible refine below_step ?_ (by assumption) ?_ | with_reducible refine below_mark ?_ (by assumption) ?_)); all_goals (first | omega | (simp; done) | (simp; omega)))⟩
              have s2 : (qn == jn) = true := by simpa using e2
              by_cases e3 : qs = js
              case neg =>
                have s3 := ba_no e3
                have HX2 := Lib.hid (HX2.out (by rw [HKQ.out]; exact decide_eq_false (fun h => e3 h.2.2)))
                clear e1 e2 e3
                go_wp2_with fail
                go_quiet (fail)
                all_goals go_wp2_with fail
                all_goals go_roundw
                all_goals first
                  | (simp [intOf]; omega)
                  | exact ⟨q + 2, by omega, by omega, by go_num, HX2, (by (repeat' (first | with_reducible exact Below.refl _ _ | with_reducible refine below_alloc ?_ _ ?_ | with_reducible refine Below.setCell ?_ ?_ _ | with_reducible refine Below.drew ?_ | with_reducible refine Go.below_drewN ?_ _ | with_reducible refine below_step ?_ (by assumption) ?_ | with_reducible refine below_mark ?_ (by assumption) ?_)); all_goals (first | omega | (simp; done) | (simp; omega)))⟩
              have s3 := ba_yes e3
              have HX := Lib.hid (HX1.out (by rw [HKQ.out]; exact decide_eq_true ⟨e1, e2, e3⟩))
              clear e1 e2 e3 HX1 HX2
              go_wp2_with fail
              go_quiet (fail)
              all_goals go_wp2_with fail
              all_goals go_ret
              all_goals exact ⟨by rw [HX.out]; rfl, (by (repeat' (first | with_reducible exact Below.refl _ _ | with_reducible refine below_alloc ?_ _ ?_ | with_reducible refine Below.setCell ?_ ?_ _ | with_reducible refine Below.drew ?_ | with_reducible refine Go.below_drewN ?_ _ | with_reducible refine below_step ?_ (by assumption) ?_ | with_reducible refine below_mark ?_ (by assumption) ?_)); all_goals (first | omega | (simp; done) | (simp; omega)))⟩
            · have HX := Lib.hid (show keysB keqB (evV (ts.take (j + 2))) = true by
                rw [HS.out, HN.out, Bool.true_and, Bool.true_and, List.all_eq_true]
                intro y hy
                obtain ⟨x, hx, hxj, hx2, rfl⟩ := (mem_evV_take ts j hj2 y).1 hy
                simp [HNE.out x (by omega) hx hx2])
              clear HST HS HNE
              go_wp2_with fail
              go_roundw
              case rel => exact ⟨j + 2, by omega, by omega, by go_num, HX, hbl⟩
              case measure => simp [intOf]; omega
        · go_wp2_with fail
          go_loopw [4] (fun i w2 => ∃ q : Nat, q % 2 = 0 ∧ q ≤ j + 1 ∧ i = .int .i64 q ∧ Hid (∀ x, (hx : x < q) → (hl : x < ts.length) → x % 2 = 0 → keqB ts[x] ts[j] = false) ∧ Below w.heap.size w w2) (fun i _ => j + 2 - (intOf i).toNat)
          case atStart => exact ⟨0, rfl, by omega, rfl, Lib.hid (by omega), hbl⟩
          case round =>
            clear c0 c3 hbl HWR
            obtain ⟨q, hq2, hqj, rfl, HNE, hbl⟩ := hrel
            have HWR := Lib.hid (show Below w0.heap.size w0 wr from HW.out.trans (hbl.mono HW.out.size))
            by_cases hqlt : q < j
            · have hqts : q < ts.length := by omega
              obtain ⟨c0, c1, c2, c3, c4⟩ := (HE.out q hqts).1.keep (HWR.out.block bb hbw)
              obtain ⟨d0, d1, d2, d3, d4⟩ := (HE.out j hlt).1.keep (HWR.out.block bb hbw)
              clear c2 c4 d2 d4
              have HX1 := Lib.hid (show keqB ts[q] ts[j] = true → b = false from fun e => by rw [HB.out, HST.out (.inr ⟨q, hqts, hqlt, hq2, e⟩)]; rfl)
              have HX2 := Lib.hid (show keqB ts[q] ts[j] = false → ∀ x, (hx : x < q + 2) → (hl : x < ts.length) → x % 2 = 0 → keqB ts[x] ts[j] = false from fun e x hx hl hx2 => by
                by_cases hxq : x < q
                · exact HNE.out x hxq hl hx2
                · have : x = q := by omega
                  subst this; exact e)
              have HKQ := Lib.hid (show keqB ts[q] ts[j] = decide (ts[q].k = ts[j].k ∧ ts[q].n = ts[j].n ∧ ts[q].s = ts[j].s) from rfl)
              clear HNE HS HST
              generalize ts[q].k = qk at *
              generalize ts[q].n = qn at *
              generalize ts[q].s = qs at *
              generalize ts[j].k = jk at *
              generalize ts[j].n = jn at *
              generalize ts[j].s = js at *
              by_cases e1 : qk = jk
              case neg =>
                have s1 : (qk == jk) = false := by simpa using e1
                have HX2 := Lib.hid (HX2.out (by rw [HKQ.out]; exact decide_eq_false (fun h => e1 h.1)))
                clear e1
                go_wp2_with fail
                go_quiet (fail)
                all_goals go_wp2_with fail
                all_goals go_roundw
                all_goals first
                  | (simp [intOf]; omega)
                  | exact ⟨q + 2, by omega, by omega, by go_num, HX2, (by (repeat' (first | with_reducible exact Below.refl _ _ | with_reducible refine below_alloc ?_ _ ?_ | with_reducible refine Below.setCell ?_ ?_ _ | with_reducible refine Below.drew ?_ | with_reducible refine Go.below_drewN ?_ _ | with_reducible refine below_step ?_ (by assumption) ?_ | with_reducible refine below_mark ?_ (by assumption) ?_)); all_goals (first | omega | (simp; done) | (simp; omega)))⟩
              have s1 : (qk == jk) = true := by simpa using e1
              by_cases e2 : qn = jn
              case neg =>
                have s2 : (qn == jn) = false := by simpa using e2
                have HX2 := Lib.hid (HX2.out (by rw [HKQ.out]; exact decide_eq_false (fun h => e2 h.2.1)))
                clear e1 e2
                go_wp2_with fail
                go_quiet (fail)
                all_goals go_wp2_with fail
                all_goals go_roundw
                all_goals first
                  | (simp [intOf]; omega)
                  | exact ⟨q + 2, by omega, by omega, by go_num, HX2, (by (repeat' (first | with_reducible exact Below.refl _ _ | with_reducible refine below_alloc ?_ _ ?_ | with_reducible refine Below.setCell ?_ ?_ _ | with_reducible refine Below.drew ?_ | with_reducible refine Go.below_drewN ?_ _ | with_reducible refine below_step ?_ (by assumption) ?_ | with_reducible refine below_mark ?_ (by assumption) ?_)); all_goals (first | omega | (simp; done) | (simp; omega)))⟩
              have s2 : (qn == jn) = true := by simpa using e2
              by_cases e3 : qs = js
              case neg =>
                have s3 := ba_no e3
                have HX2 := Lib.hid (HX2.out (by rw [HKQ.out]; exact decide_eq_false (fun h => e3 h.2.2)))
                clear e1 e2 e3
                go_wp2_with fail
                go_quiet (fail)
                all_goals go_wp2_with fail
                all_goals go_roundw
                all_goals first
                  | (simp [intOf]; omega)
                  | exact ⟨q + 2, by omega, by omega, by go_num, HX2, (by (repeat' (first | with_reducible exact Below.refl _ _ | with_reducible refine below_alloc ?_ _ ?_ | with_reducible refine Below.setCell ?_ ?_ _ | with_reducible refine Below.drew ?_ | with_reducible refine Go.below_drewN ?_ _ | with_reducible refine below_step ?_ (by assumption) ?_ | with_reducible refine below_mark ?_ (by assumption) ?_)); all_goals (first | omega | (simp; done) | (simp; omega)))⟩
              have s3 := ba_yes e3
              have HX := Lib.hid (HX1.out (by rw [HKQ.out]; exact decide_eq_true ⟨e1, e2, e3⟩))
              clear e1 e2 e3 HX1 HX2
              go_wp2_with fail
              go_quiet (fail)
              all_goals go_wp2_with fail
              all_goals go_ret
              all_goals exact ⟨by rw [HX.out]; rfl, (by (repeat' (first | with_reducible exact Below.refl _ _ | with_reducible refine below_alloc ?_ _ ?_ | with_reducible refine Below.setCell ?_ ?_ _ | with_reducible refine Below.drew ?_ | with_reducible refine Go.below_drewN ?_ _ | with_reducible refine below_step ?_ (by assumption) ?_ | with_reducible refine below_mark ?_ (by assumption) ?_)); all_goals (first | omega | (simp; done) | (simp; omega)))⟩
            · have HX := Lib.hid (show keysB keqB (evV (ts.take (j + 2))) = true by
                rw [HS.out, HN.out, Bool.true_and, Bool.true_and, List.all_eq_true]
                intro y hy
                obtain ⟨x, hx, hxj, hx2, rfl⟩ := (mem_evV_take ts j hj2 y).1 hy
                simp [HNE.out x (by omega) hx hx2])
              clear HST HS HNE
              go_wp2_with fail
              go_roundw
              case rel => exact ⟨j + 2, by omega, by omega, by go_num, HX, hbl⟩
              case measure => simp [intOf]; omega
    · have HX := Lib.hid (show b = (decide (ts.length % 2 = 0) && decide (ts.length ≤ 300)) by
        rw [HB.out]
        have h1 := HN.out
        rw [List.take_of_length_le (by omega)] at h1
        rw [h1]; simp)
      by_cases h2 : ts.length % 2 = 0
      · have t1 : ((ts.length : Int) % 2 == 0) = true := by simp; omega
        have H := Lib.hid (show b = decide ((ts.length : Int) ≤ 300) by rw [HX.out, decide_eq_true h2, Bool.true_and, decide_eq_decide]; omega)
        go_wp2_with fail
        go_ret
        exact ⟨by rw [H.out]; rfl, hbl⟩
      · have t1 : ((ts.length : Int) % 2 == 0) = false := by simp; omega
        have H := Lib.hid (show b = false by rw [HX.out, decide_eq_false h2]; rfl)
        go_wp2_with fail
        go_ret
        exact ⟨by rw [H.out]; rfl, hbl⟩
set_option maxHeartbeats 1000000 in
theorem nodes_any (w0 : World) : ∀ (N : Nat) (v : Value) (ts : List V), szs ts ≤ N → RepS w0 v ts → szs ts ≤ 1048576 → ∀ (u : V), u.kids = ts → ∀ (w : World), Below w0.heap.size w0 w →
    Calls Tryd.prog 74 #[u.agg v] w fun e w' => e = .returned (.int .i64 (u.nodes : Nat)) ∧ Below w.heap.size w w' := by
  intro N
  induction N using Nat.strongRecOn with
  | ind N ih =>
  intro v ts hN hrep hsz u huk w hw
  obtain ⟨a, b, off, cap, rfl, ha, hc, hm, sls, hel⟩ := hrep.opened
  have hlen : ts.length ≤ 1048576 := Nat.le_trans (szs_length ts) hsz
  have HP := Lib.hid (show u.nodes = 1 + nodess ts by rw [V.nodes_eq, huk])
  have IH := Lib.hid (show ∀ i (hi : i < ts.length) (w : World), Below w0.heap.size w0 w → Calls Tryd.prog 74 #[ts[i].agg (sls i)] w fun e w' => e = .returned (.int .i64 (ts[i].nodes : Nat)) ∧ Below w.heap.size w w' from
    fun i hi w h7 => by
      have q1 := szs_mem (List.getElem_mem hi); have q2 := V.sz_eq ts[i]
      exact ih (szs ts[i].kids) (by omega) (sls i) ts[i].kids (Nat.le_refl _) (hel i hi).2.2 (by omega) ts[i] rfl w h7)
  have HA := Lib.hid ha; have HE := Lib.hid hel
  have HSZ := Lib.hid hsz
  clear ih ha hel hc hm hrep hsz huk hN
  unfold V.agg
  generalize u.nodes = un at *
  generalize u.k = vk at *
  generalize u.n = vn at *
  generalize u.e = ve at *
  generalize u.s = vs at *
  have B0 := Lib.hid (Box.new w vk vn ve vs (.slice a ts.length cap) 29)
  go_enter Tryd.func74, Tryd.ntmps74
  go_wp2_with fail
  generalize hW1 : w.alloc (.cells #[.int .i64 vk, .int .i64 vn, .int .i64 ve, .string vs, .slice a ts.length cap] 29) = W1 at *
  have HB1 := Lib.hid (show Below w.heap.size w W1 by rw [← hW1]; exact (Below.refl _ _).alloc (Nat.le_refl _) _)
  have HZ1 := Lib.hid (show w.heap.size + 1 = W1.heap.size by rw [← hW1]; simp)
  clear hW1
  go_loopw [3, 4] (fun c i wr => ∃ (k : Nat) (q : Int), k ≤ ts.length ∧ i = .int .i64 k ∧ c = .int .i64 q ∧ 0 ≤ q ∧ q ≤ 4194304 ∧ Hid (q = (1 + nodess (ts.take k) : Nat)) ∧ Below W1.heap.size W1 wr) (fun _ i _ => ts.length - (intOf i).toNat)
  case atStart => exact ⟨0, 1, by omega, rfl, rfl, by omega, by omega, Lib.hid rfl, Below.refl _ _⟩
  case round =>
    obtain ⟨k, q, hk, rfl, rfl, hq0, hq1, HQ, hbl⟩ := hrel
    obtain ⟨p0, p1, p2, p3, p4⟩ := (B0.out.stay hbl).cells
    by_cases hlt : k < ts.length
    · have hne : ts ≠ [] := by intro e; rw [e] at hlt; simp at hlt
      obtain ⟨rfl, hbw⟩ := HA.out hne
      have HWR := Lib.hid (show Below w0.heap.size w0 wr from hw.trans ((HB1.out.mono hw.size).trans (hbl.mono (by have := hw.size; have := HZ1.out; omega))))
      obtain ⟨c0, c1, c2, c3, c4⟩ := (HE.out k hlt).1.keep (HWR.out.block b hbw)
      obtain ⟨ak, kcap, hks⟩ := (HE.out k hlt).2.2.slice
      have N1 := Lib.hid (fun (W : World) (hW : Below wr.heap.size wr W) => IH.out k hlt W (HWR.out.trans (hW.mono HWR.out.size)))
      rw [hks] at c4 N1
      have HT := Lib.hid (show q + (ts[k].nodes : Nat) = (1 + nodess (ts.take (k + 1)) : Nat) by
        rw [HQ.out, List.take_succ_eq_append_getElem hlt, nodess_append]; simp [nodess]; omega)
      have hqb : q + (ts[k].nodes : Nat) ≤ 4194304 := by
        rw [HT.out]
        have h1 := nodess_sz (ts.take (k + 1)); have h2 := szs_append (ts.take (k + 1)) (ts.drop (k + 1)); rw [List.take_append_drop] at h2; have := HSZ.out; omega
      unfold V.agg at N1
      clear hks
      generalize ts[k].nodes = nn at *
      generalize ts[k].k = xk at *
      generalize ts[k].n = xn at *
      generalize ts[k].e = xe at *
      generalize ts[k].s = xs at *
      go_wp2_with fail
      refine (N1.out _ (by (repeat' (first | with_reducible exact Below.refl _ _ | with_reducible refine below_alloc ?_ _ ?_ | with_reducible refine Below.setCell ?_ ?_ _ | with_reducible refine Below.drew ?_ | with_reducible refine Go.below_drewN ?_ _ | with_reducible refine below_step ?_ (by assumption) ?_ | with_reducible refine below_mark ?_ (by assumption) ?_)); all_goals (first | omega | (simp; done) | (simp; omega)))).mono ?_
      rintro e1 w1 ⟨rfl, hb1⟩
      go_wp2_with fail
      go_roundw
      case rel => exact ⟨k + 1, q + nn, by omega, by go_num, rfl, by omega, hqb, HT, (by (repeat' (first | with_reducible exact Below.refl _ _ | with_reducible refine below_alloc ?_ _ ?_ | with_reducible refine Below.setCell ?_ ?_ _ | with_reducible refine Below.drew ?_ | with_reducible refine Go.below_drewN ?_ _ | with_reducible refine below_step ?_ (by assumption) ?_ | with_reducible refine below_mark ?_ (by assumption) ?_)); all_goals (first | omega | (simp; done) | (simp; omega)))⟩
      case measure => simp [intOf]; omega
    · have H := Lib.hid (show (un : Int) = q by rw [HQ.out, HP.out, List.take_of_length_le (by omega)])
      go_wp2_with fail
      go_ret
      exact ⟨by rw [H.out]; rfl, HB1.out.trans (hbl.mono (by have := HZ1.out; omega))⟩
end Go.Proofs.YtfjehhdahpbbgaaDoor
namespace Go.Proofs.YtfjehhdahpbbgaaDoor
set_option linter.unusedSimpArgs false
set_option linter.unusedVariables false
set_option maxRecDepth 100000
open Go.RowKit
theorem str_ne {s : ByteArray} (h : ¬ s.size = 0) : (s.toList = [] ↔ False) ∧ s.toList.isEmpty = false ∧ (s.toList == []) = false := by
  have h1 : s.toList ≠ [] := fun e => h (by have := congrArg List.length e; rw [ByteArray.toList_eq] at this; simpa using this)
  refine ⟨⟨h1, False.elim⟩, ?_, ?_⟩
  · rcases h2 : s.toList with _ | ⟨x, l⟩
    · exact absurd h2 h1
    · rfl
  · rcases h2 : s.toList with _ | ⟨x, l⟩
    · exact absurd h2 h1
    · rfl
def NodeRet (b : Bool) (w : World) (e : Ending) (w' : World) : Prop := e = .returned (.bool b) ∧ Below w.heap.size w w'

set_option maxHeartbeats 1000000 in
theorem node_a (k n e : Int) (s : ByteArray) (sl : Value) (w : World) (hk : k = 0 ∨ k = 1 ∨ k = 2 ∨ k = 7 ∨ k = 8) : Calls Tryd.prog 106 #[.agg #[.int .i64 k, .int .i64 n, .int .i64 e, .string s, sl]] w (NodeRet (decide (n = 0 ∧ e = 0 ∧ s.size = 0)) w) := by
  by_cases hn : n = 0
  case neg =>
    have t1 : (n == 0) = false := by simpa using hn
    rw [decide_eq_false (fun h => hn h.1)]
    clear hn
    rcases hk with rfl | rfl | rfl | rfl | rfl
    all_goals
      go_enter Tryd.func106, Tryd.ntmps106
      go_wp2_with fail
      go_ret
      exact ⟨rfl, (by (repeat' (first | with_reducible exact Below.refl _ _ | with_reducible refine below_alloc ?_ _ ?_ | with_reducible refine Below.setCell ?_ ?_ _ | with_reducible refine Below.drew ?_ | with_reducible refine Go.below_drewN ?_ _ | with_reducible refine below_step ?_ (by assumption) ?_ | with_reducible refine below_mark ?_ (by assumption) ?_)); all_goals (first | omega | (simp; done) | (simp; omega)))⟩
  by_cases he : e = 0
  case neg =>
    have t2 : (e == 0) = false := by simpa using he
    rw [decide_eq_false (fun h => he h.2.1)]
    clear he
    subst hn
    rcases hk with rfl | rfl | rfl | rfl | rfl
    all_goals
      go_enter Tryd.func106, Tryd.ntmps106
      go_wp2_with fail
      go_ret
      exact ⟨rfl, (by (repeat' (first | with_reducible exact Below.refl _ _ | with_reducible refine below_alloc ?_ _ ?_ | with_reducible refine Below.setCell ?_ ?_ _ | with_reducible refine Below.drew ?_ | with_reducible refine Go.below_drewN ?_ _ | with_reducible refine below_step ?_ (by assumption) ?_ | with_reducible refine below_mark ?_ (by assumption) ?_)); all_goals (first | omega | (simp; done) | (simp; omega)))⟩
  by_cases hs : s.size = 0
  case neg =>
    obtain ⟨s1, s2, s3⟩ := str_ne hs
    rw [decide_eq_false (fun h => hs h.2.2)]
    clear hs
    subst hn
    subst he
    rcases hk with rfl | rfl | rfl | rfl | rfl
    all_goals
      go_enter Tryd.func106, Tryd.ntmps106
      go_wp2_with fail
      go_ret
      exact ⟨rfl, (by (repeat' (first | with_reducible exact Below.refl _ _ | with_reducible refine below_alloc ?_ _ ?_ | with_reducible refine Below.setCell ?_ ?_ _ | with_reducible refine Below.drew ?_ | with_reducible refine Go.below_drewN ?_ _ | with_reducible refine below_step ?_ (by assumption) ?_ | with_reducible refine below_mark ?_ (by assumption) ?_)); all_goals (first | omega | (simp; done) | (simp; omega)))⟩
  obtain rfl := ba_empty hs
  subst hn
  subst he
  rw [decide_eq_true ⟨rfl, rfl, rfl⟩]
  rcases hk with rfl | rfl | rfl | rfl | rfl
  all_goals
    go_enter Tryd.func106, Tryd.ntmps106
    go_wp2_with fail
    go_ret
    exact ⟨rfl, (by (repeat' (first | with_reducible exact Below.refl _ _ | with_reducible refine below_alloc ?_ _ ?_ | with_reducible refine Below.setCell ?_ ?_ _ | with_reducible refine Below.drew ?_ | with_reducible refine Go.below_drewN ?_ _ | with_reducible refine below_step ?_ (by assumption) ?_ | with_reducible refine below_mark ?_ (by assumption) ?_)); all_goals (first | omega | (simp; done) | (simp; omega)))⟩

set_option maxHeartbeats 1000000 in
theorem node_b (k n e : Int) (s : ByteArray) (sl : Value) (w : World) (hk : k = 3) : Calls Tryd.prog 106 #[.agg #[.int .i64 k, .int .i64 n, .int .i64 e, .string s, sl]] w (NodeRet (decide (e = 0 ∧ s.size = 0)) w) := by
  by_cases he : e = 0
  case neg =>
    have t2 : (e == 0) = false := by simpa using he
    rw [decide_eq_false (fun h => he h.1)]
    clear he
    rcases hk with rfl
    all_goals
      go_enter Tryd.func106, Tryd.ntmps106
      go_wp2_with fail
      go_ret
      exact ⟨rfl, (by (repeat' (first | with_reducible exact Below.refl _ _ | with_reducible refine below_alloc ?_ _ ?_ | with_reducible refine Below.setCell ?_ ?_ _ | with_reducible refine Below.drew ?_ | with_reducible refine Go.below_drewN ?_ _ | with_reducible refine below_step ?_ (by assumption) ?_ | with_reducible refine below_mark ?_ (by assumption) ?_)); all_goals (first | omega | (simp; done) | (simp; omega)))⟩
  by_cases hs : s.size = 0
  case neg =>
    obtain ⟨s1, s2, s3⟩ := str_ne hs
    rw [decide_eq_false (fun h => hs h.2)]
    clear hs
    subst he
    rcases hk with rfl
    all_goals
      go_enter Tryd.func106, Tryd.ntmps106
      go_wp2_with fail
      go_ret
      exact ⟨rfl, (by (repeat' (first | with_reducible exact Below.refl _ _ | with_reducible refine below_alloc ?_ _ ?_ | with_reducible refine Below.setCell ?_ ?_ _ | with_reducible refine Below.drew ?_ | with_reducible refine Go.below_drewN ?_ _ | with_reducible refine below_step ?_ (by assumption) ?_ | with_reducible refine below_mark ?_ (by assumption) ?_)); all_goals (first | omega | (simp; done) | (simp; omega)))⟩
  obtain rfl := ba_empty hs
  subst he
  rw [decide_eq_true ⟨rfl, rfl⟩]
  rcases hk with rfl
  all_goals
    go_enter Tryd.func106, Tryd.ntmps106
    go_wp2_with fail
    go_ret
    exact ⟨rfl, (by (repeat' (first | with_reducible exact Below.refl _ _ | with_reducible refine below_alloc ?_ _ ?_ | with_reducible refine Below.setCell ?_ ?_ _ | with_reducible refine Below.drew ?_ | with_reducible refine Go.below_drewN ?_ _ | with_reducible refine below_step ?_ (by assumption) ?_ | with_reducible refine below_mark ?_ (by assumption) ?_)); all_goals (first | omega | (simp; done) | (simp; omega)))⟩

set_option maxHeartbeats 1000000 in
theorem node_c (n e : Int) (s : ByteArray) (sl : Value) (w : World) (hn : In64 n) (he : In64 e) : Calls Tryd.prog 106 #[.agg #[.int .i64 4, .int .i64 n, .int .i64 e, .string s, sl]] w (NodeRet (decOk n e && decide (s.size = 0)) w) := by
  have DC := Lib.hid (fun W => isDec_any 4 n e s sl hn he W)
  have B0 := Lib.hid (Box.new w 4 n e s sl 29)
  cases hd : decOk n e
  case false =>
    rw [hd] at DC
    rw [Bool.false_and]
    clear hd
    go_enter Tryd.func106, Tryd.ntmps106
    go_wp2_with fail
    refine (DC.out _).mono ?_
    rintro x w1 ⟨rfl, hb1⟩
    go_wp2_with fail
    go_ret
    exact ⟨rfl, (by (repeat' (first | with_reducible exact Below.refl _ _ | with_reducible refine below_alloc ?_ _ ?_ | with_reducible refine Below.setCell ?_ ?_ _ | with_reducible refine Below.drew ?_ | with_reducible refine Go.below_drewN ?_ _ | with_reducible refine below_step ?_ (by assumption) ?_ | with_reducible refine below_mark ?_ (by assumption) ?_)); all_goals (first | omega | (simp; done) | (simp; omega)))⟩
  case true =>
    rw [hd] at DC
    rw [Bool.true_and]
    clear hd
    have P0 := Lib.hid (Box.new (w.alloc (.cells #[.int .i64 4, .int .i64 n, .int .i64 e, .string s, sl] 29)) 4 0 0 ⟨#[]⟩ (.slice none 0 0) 29)
    rw [show (w.alloc (.cells #[.int .i64 4, .int .i64 n, .int .i64 e, .string s, sl] 29)).heap.size = w.heap.size + 1 by simp] at P0
    have hss : ∃ b : Bool, b = decide (s.size = 0) := ⟨_, rfl⟩
    obtain ⟨b, hb⟩ := hss
    rw [← hb]
    have HB := Lib.hid hb; clear hb
    have t1 : (n == n) = true := by simp
    have t2 : (e == e) = true := by simp
    by_cases hs : s.size = 0
    case neg =>
      have H := Lib.hid (show b = false by rw [HB.out, decide_eq_false hs])
      obtain ⟨s1, s2, s3⟩ := str_ne hs
      clear hs
      go_enter Tryd.func106, Tryd.ntmps106
      go_wp2_with fail
      refine (DC.out _).mono ?_
      rintro x w1 ⟨rfl, hb1⟩
      have hz1 := hb1.size
      simp at hz1
      obtain ⟨p0, p1, p2, p3, p4⟩ := ((B0.out.alloc _).stay hb1).cells
      have PX := Lib.hid (P0.out.stay hb1)
      obtain ⟨q0, q1, q2, q3, q4⟩ := PX.out.cells
      have f0 : ∀ o, w1.frozen? ⟨w.heap.size + 1, o, none⟩ = false := fun o => frozen_of_row w1 _ o _ _ PX.out
      go_wp2_with fail
      go_region
      all_goals go_wp2_with fail
      all_goals go_ret
      all_goals exact ⟨by rw [H.out]; rfl, (by (repeat' (first | with_reducible exact Below.refl _ _ | with_reducible refine below_alloc ?_ _ ?_ | with_reducible refine Below.setCell ?_ ?_ _ | with_reducible refine Below.drew ?_ | with_reducible refine Go.below_drewN ?_ _ | with_reducible refine below_step ?_ (by assumption) ?_ | with_reducible refine below_mark ?_ (by assumption) ?_)); all_goals (first | omega | (simp; done) | (simp; omega)))⟩
    case pos =>
      have H := Lib.hid (show b = true by rw [HB.out, decide_eq_true hs])
      obtain rfl := ba_empty hs
      clear hs
      go_enter Tryd.func106, Tryd.ntmps106
      go_wp2_with fail
      refine (DC.out _).mono ?_
      rintro x w1 ⟨rfl, hb1⟩
      have hz1 := hb1.size
      simp at hz1
      obtain ⟨p0, p1, p2, p3, p4⟩ := ((B0.out.alloc _).stay hb1).cells
      have PX := Lib.hid (P0.out.stay hb1)
      obtain ⟨q0, q1, q2, q3, q4⟩ := PX.out.cells
      have f0 : ∀ o, w1.frozen? ⟨w.heap.size + 1, o, none⟩ = false := fun o => frozen_of_row w1 _ o _ _ PX.out
      go_wp2_with fail
      go_region
      all_goals go_wp2_with fail
      all_goals go_ret
      all_goals exact ⟨by rw [H.out]; rfl, (by (repeat' (first | with_reducible exact Below.refl _ _ | with_reducible refine below_alloc ?_ _ ?_ | with_reducible refine Below.setCell ?_ ?_ _ | with_reducible refine Below.drew ?_ | with_reducible refine Go.below_drewN ?_ _ | with_reducible refine below_step ?_ (by assumption) ?_ | with_reducible refine below_mark ?_ (by assumption) ?_)); all_goals (first | omega | (simp; done) | (simp; omega)))⟩

set_option maxHeartbeats 2000000 in
theorem node_d (n e : Int) (s : ByteArray) (sl : Value) (w : World) (hsz : s.size ≤ 9223372036854775807) (hE : Env w) : Calls Tryd.prog 106 #[.agg #[.int .i64 5, .int .i64 n, .int .i64 e, .string s, sl]] w (NodeRet (decide (n = 0 ∧ e = 0 ∧ s.size ≤ 2000) && txt s) w) := by
  have TX := Lib.hid (fun W (hW : Below w.heap.size w W) => textOk_impl s W hsz (hE.keep hW))
  clear hE
  have B0 := Lib.hid (Box.new w 5 n e s sl 29)
  have P0 := Lib.hid (Box.new (w.alloc (.cells #[.int .i64 5, .int .i64 n, .int .i64 e, .string s, sl] 29)) 5 0 0 ⟨#[]⟩ (.slice none 0 0) 29)
  rw [show (w.alloc (.cells #[.int .i64 5, .int .i64 n, .int .i64 e, .string s, sl] 29)).heap.size = w.heap.size + 1 by simp] at P0
  have ts := ba_yes (rfl : s = s)
  obtain ⟨b, hb⟩ : ∃ b : Bool, b = (decide (n = 0 ∧ e = 0 ∧ s.size ≤ 2000) && txt s) := ⟨_, rfl⟩
  rw [← hb]
  have HB := Lib.hid hb; clear hb
  by_cases h1 : s.size ≤ 2000
  case neg =>
    have H := Lib.hid (show b = false by rw [HB.out, decide_eq_false (fun h => h1 h.2.2)]; rfl)
    have h2 : (2000 : Int) < s.size := by omega
    clear h1 HB TX
    go_enter Tryd.func106, Tryd.ntmps106
    go_wp2_with fail
    go_ret
    exact ⟨by rw [H.out]; rfl, (by (repeat' (first | with_reducible exact Below.refl _ _ | with_reducible refine below_alloc ?_ _ ?_ | with_reducible refine Below.setCell ?_ ?_ _ | with_reducible refine Below.drew ?_ | with_reducible refine Go.below_drewN ?_ _ | with_reducible refine below_step ?_ (by assumption) ?_ | with_reducible refine below_mark ?_ (by assumption) ?_)); all_goals (first | omega | (simp; done) | (simp; omega)))⟩
  have h2 : ¬ (2000 : Int) < s.size := by omega
  cases ht : txt s
  case false =>
    rw [ht] at TX HB
    have H := Lib.hid (show b = false by rw [HB.out]; simp)
    clear h1 HB ht
    go_enter Tryd.func106, Tryd.ntmps106
    go_wp2_with fail
    refine (TX.out _ (by (repeat' (first | with_reducible exact Below.refl _ _ | with_reducible refine below_alloc ?_ _ ?_ | with_reducible refine Below.setCell ?_ ?_ _ | with_reducible refine Below.drew ?_ | with_reducible refine Go.below_drewN ?_ _ | with_reducible refine below_step ?_ (by assumption) ?_ | with_reducible refine below_mark ?_ (by assumption) ?_)); all_goals (first | omega | (simp; done) | (simp; omega)))).mono ?_
    rintro x0 w1 ⟨rfl, hb1⟩
    have hz1 := hb1.size
    simp at hz1
    obtain ⟨p0, p1, p2, p3, p4⟩ := ((B0.out.alloc _).stay hb1).cells
    have PX := Lib.hid (P0.out.stay hb1)
    obtain ⟨q0, q1, q2, q3, q4⟩ := PX.out.cells
    have f0 : ∀ o, w1.frozen? ⟨w.heap.size + 1, o, none⟩ = false := fun o => frozen_of_row w1 _ o _ _ PX.out
    go_wp2_with fail
    go_ret
    exact ⟨by rw [H.out]; rfl, (by (repeat' (first | with_reducible exact Below.refl _ _ | with_reducible refine below_alloc ?_ _ ?_ | with_reducible refine Below.setCell ?_ ?_ _ | with_reducible refine Below.drew ?_ | with_reducible refine Go.below_drewN ?_ _ | with_reducible refine below_step ?_ (by assumption) ?_ | with_reducible refine below_mark ?_ (by assumption) ?_)); all_goals (first | omega | (simp; done) | (simp; omega)))⟩
  case true =>
    rw [ht] at TX HB
    clear ht
    by_cases hn : n = 0
    case neg =>
      have H := Lib.hid (show b = false by rw [HB.out]; simp [hn])
      have t1 : (n == 0) = false := by simpa using hn
      clear h1 HB hn
      go_enter Tryd.func106, Tryd.ntmps106
      go_wp2_with fail
      refine (TX.out _ (by (repeat' (first | with_reducible exact Below.refl _ _ | with_reducible refine below_alloc ?_ _ ?_ | with_reducible refine Below.setCell ?_ ?_ _ | with_reducible refine Below.drew ?_ | with_reducible refine Go.below_drewN ?_ _ | with_reducible refine below_step ?_ (by assumption) ?_ | with_reducible refine below_mark ?_ (by assumption) ?_)); all_goals (first | omega | (simp; done) | (simp; omega)))).mono ?_
      rintro x0 w1 ⟨rfl, hb1⟩
      have hz1 := hb1.size
      simp at hz1
      obtain ⟨p0, p1, p2, p3, p4⟩ := ((B0.out.alloc _).stay hb1).cells
      have PX := Lib.hid (P0.out.stay hb1)
      obtain ⟨q0, q1, q2, q3, q4⟩ := PX.out.cells
      have f0 : ∀ o, w1.frozen? ⟨w.heap.size + 1, o, none⟩ = false := fun o => frozen_of_row w1 _ o _ _ PX.out
      go_wp2_with fail
      go_ret
      exact ⟨by rw [H.out]; rfl, (by (repeat' (first | with_reducible exact Below.refl _ _ | with_reducible refine below_alloc ?_ _ ?_ | with_reducible refine Below.setCell ?_ ?_ _ | with_reducible refine Below.drew ?_ | with_reducible refine Go.below_drewN ?_ _ | with_reducible refine below_step ?_ (by assumption) ?_ | with_reducible refine below_mark ?_ (by assumption) ?_)); all_goals (first | omega | (simp; done) | (simp; omega)))⟩
    by_cases he : e = 0
    case neg =>
      have H := Lib.hid (show b = false by rw [HB.out]; simp [he])
      have t2 : (e == 0) = false := by simpa using he
      subst hn
      clear h1 HB he
      go_enter Tryd.func106, Tryd.ntmps106
      go_wp2_with fail
      refine (TX.out _ (by (repeat' (first | with_reducible exact Below.refl _ _ | with_reducible refine below_alloc ?_ _ ?_ | with_reducible refine Below.setCell ?_ ?_ _ | with_reducible refine Below.drew ?_ | with_reducible refine Go.below_drewN ?_ _ | with_reducible refine below_step ?_ (by assumption) ?_ | with_reducible refine below_mark ?_ (by assumption) ?_)); all_goals (first | omega | (simp; done) | (simp; omega)))).mono ?_
      rintro x0 w1 ⟨rfl, hb1⟩
      have hz1 := hb1.size
      simp at hz1
      obtain ⟨p0, p1, p2, p3, p4⟩ := ((B0.out.alloc _).stay hb1).cells
      have PX := Lib.hid (P0.out.stay hb1)
      obtain ⟨q0, q1, q2, q3, q4⟩ := PX.out.cells
      have f0 : ∀ o, w1.frozen? ⟨w.heap.size + 1, o, none⟩ = false := fun o => frozen_of_row w1 _ o _ _ PX.out
      go_wp2_with fail
      go_ret
      exact ⟨by rw [H.out]; rfl, (by (repeat' (first | with_reducible exact Below.refl _ _ | with_reducible refine below_alloc ?_ _ ?_ | with_reducible refine Below.setCell ?_ ?_ _ | with_reducible refine Below.drew ?_ | with_reducible refine Go.below_drewN ?_ _ | with_reducible refine below_step ?_ (by assumption) ?_ | with_reducible refine below_mark ?_ (by assumption) ?_)); all_goals (first | omega | (simp; done) | (simp; omega)))⟩
    have H := Lib.hid (show b = true by rw [HB.out]; simp [hn, he, h1])
    subst hn
    subst he
    clear h1 HB
    go_enter Tryd.func106, Tryd.ntmps106
    go_wp2_with fail
    refine (TX.out _ (by (repeat' (first | with_reducible exact Below.refl _ _ | with_reducible refine below_alloc ?_ _ ?_ | with_reducible refine Below.setCell ?_ ?_ _ | with_reducible refine Below.drew ?_ | with_reducible refine Go.below_drewN ?_ _ | with_reducible refine below_step ?_ (by assumption) ?_ | with_reducible refine below_mark ?_ (by assumption) ?_)); all_goals (first | omega | (simp; done) | (simp; omega)))).mono ?_
    rintro x0 w1 ⟨rfl, hb1⟩
    have hz1 := hb1.size
    simp at hz1
    obtain ⟨p0, p1, p2, p3, p4⟩ := ((B0.out.alloc _).stay hb1).cells
    have PX := Lib.hid (P0.out.stay hb1)
    obtain ⟨q0, q1, q2, q3, q4⟩ := PX.out.cells
    have f0 : ∀ o, w1.frozen? ⟨w.heap.size + 1, o, none⟩ = false := fun o => frozen_of_row w1 _ o _ _ PX.out
    go_wp2_with fail
    go_ret
    exact ⟨by rw [H.out]; rfl, (by (repeat' (first | with_reducible exact Below.refl _ _ | with_reducible refine below_alloc ?_ _ ?_ | with_reducible refine Below.setCell ?_ ?_ _ | with_reducible refine Below.drew ?_ | with_reducible refine Go.below_drewN ?_ _ | with_reducible refine below_step ?_ (by assumption) ?_ | with_reducible refine below_mark ?_ (by assumption) ?_)); all_goals (first | omega | (simp; done) | (simp; omega)))⟩

set_option maxHeartbeats 2000000 in
theorem node_e (n e : Int) (s : ByteArray) (sl : Value) (w : World) (hsz : s.size ≤ 9223372036854775807) : Calls Tryd.prog 106 #[.agg #[.int .i64 6, .int .i64 n, .int .i64 e, .string s, sl]] w (NodeRet (decide (n = 0 ∧ e = 0 ∧ s.size ≤ 2000)) w) := by
  have B0 := Lib.hid (Box.new w 6 n e s sl 29)
  have P0 := Lib.hid (Box.new (w.alloc (.cells #[.int .i64 6, .int .i64 n, .int .i64 e, .string s, sl] 29)) 6 0 0 ⟨#[]⟩ (.slice none 0 0) 29)
  rw [show (w.alloc (.cells #[.int .i64 6, .int .i64 n, .int .i64 e, .string s, sl] 29)).heap.size = w.heap.size + 1 by simp] at P0
  have ts := ba_yes (rfl : s = s)
  obtain ⟨b, hb⟩ : ∃ b : Bool, b = decide (n = 0 ∧ e = 0 ∧ s.size ≤ 2000) := ⟨_, rfl⟩
  rw [← hb]
  have HB := Lib.hid hb; clear hb
  by_cases h1 : s.size ≤ 2000
  case neg =>
    have H := Lib.hid (show b = false by rw [HB.out, decide_eq_false (fun h => h1 h.2.2)])
    have h2 : (2000 : Int) < s.size := by omega
    clear h1 HB
    go_enter Tryd.func106, Tryd.ntmps106
    go_wp2_with fail
    go_ret
    exact ⟨by rw [H.out]; rfl, (by (repeat' (first | with_reducible exact Below.refl _ _ | with_reducible refine below_alloc ?_ _ ?_ | with_reducible refine Below.setCell ?_ ?_ _ | with_reducible refine Below.drew ?_ | with_reducible refine Go.below_drewN ?_ _ | with_reducible refine below_step ?_ (by assumption) ?_ | with_reducible refine below_mark ?_ (by assumption) ?_)); all_goals (first | omega | (simp; done) | (simp; omega)))⟩
  have h2 : ¬ (2000 : Int) < s.size := by omega
  by_cases hn : n = 0
  case neg =>
    have H := Lib.hid (show b = false by rw [HB.out]; simp [hn])
    have t1 : (n == 0) = false := by simpa using hn
    clear h1 HB hn
    go_enter Tryd.func106, Tryd.ntmps106
    go_wp2_with fail
    go_ret
    exact ⟨by rw [H.out]; rfl, (by (repeat' (first | with_reducible exact Below.refl _ _ | with_reducible refine below_alloc ?_ _ ?_ | with_reducible refine Below.setCell ?_ ?_ _ | with_reducible refine Below.drew ?_ | with_reducible refine Go.below_drewN ?_ _ | with_reducible refine below_step ?_ (by assumption) ?_ | with_reducible refine below_mark ?_ (by assumption) ?_)); all_goals (first | omega | (simp; done) | (simp; omega)))⟩
  by_cases he : e = 0
  case neg =>
    have H := Lib.hid (show b = false by rw [HB.out]; simp [he])
    have t2 : (e == 0) = false := by simpa using he
    subst hn
    clear h1 HB he
    go_enter Tryd.func106, Tryd.ntmps106
    go_wp2_with fail
    go_ret
    exact ⟨by rw [H.out]; rfl, (by (repeat' (first | with_reducible exact Below.refl _ _ | with_reducible refine below_alloc ?_ _ ?_ | with_reducible refine Below.setCell ?_ ?_ _ | with_reducible refine Below.drew ?_ | with_reducible refine Go.below_drewN ?_ _ | with_reducible refine below_step ?_ (by assumption) ?_ | with_reducible refine below_mark ?_ (by assumption) ?_)); all_goals (first | omega | (simp; done) | (simp; omega)))⟩
  have H := Lib.hid (show b = true by rw [HB.out]; simp [hn, he, h1])
  subst hn
  subst he
  clear h1 HB
  go_enter Tryd.func106, Tryd.ntmps106
  go_wp2_with fail
  go_ret
  exact ⟨by rw [H.out]; rfl, (by (repeat' (first | with_reducible exact Below.refl _ _ | with_reducible refine below_alloc ?_ _ ?_ | with_reducible refine Below.setCell ?_ ?_ _ | with_reducible refine Below.drew ?_ | with_reducible refine Go.below_drewN ?_ _ | with_reducible refine below_step ?_ (by assumption) ?_ | with_reducible refine below_mark ?_ (by assumption) ?_)); all_goals (first | omega | (simp; done) | (simp; omega)))⟩

set_option maxHeartbeats 2000000 in
theorem node_f (n e : Int) (s : ByteArray) (sl : Value) (w : World) : Calls Tryd.prog 106 #[.agg #[.int .i64 9, .int .i64 n, .int .i64 e, .string s, sl]] w (NodeRet (decide (0 ≤ n ∧ n ≤ 1000000 ∧ e = 0 ∧ s.size = 0)) w) := by
  obtain ⟨b, hb⟩ : ∃ b : Bool, b = decide (0 ≤ n ∧ n ≤ 1000000 ∧ e = 0 ∧ s.size = 0) := ⟨_, rfl⟩
  rw [← hb]
  have HB := Lib.hid hb; clear hb
  have tn : (n == n) = true := by simp
  by_cases h1 : 0 ≤ n ∧ n ≤ 1000000
  case neg =>
    have H := Lib.hid (show b = false by rw [HB.out, decide_eq_false (fun h => h1 ⟨h.1, h.2.1⟩)])
    have W1 := Lib.hid (fun W => within_no n 0 1000000 W (by omega))
    clear h1 HB
    go_enter Tryd.func106, Tryd.ntmps106
    go_wp2_with fail
    refine (W1.out _).mono ?_
    rintro x0 w1 ⟨rfl, rfl⟩
    go_wp2_with fail
    go_ret
    exact ⟨by rw [H.out]; rfl, (by (repeat' (first | with_reducible exact Below.refl _ _ | with_reducible refine below_alloc ?_ _ ?_ | with_reducible refine Below.setCell ?_ ?_ _ | with_reducible refine Below.drew ?_ | with_reducible refine Go.below_drewN ?_ _ | with_reducible refine below_step ?_ (by assumption) ?_ | with_reducible refine below_mark ?_ (by assumption) ?_)); all_goals (first | omega | (simp; done) | (simp; omega)))⟩
  have W1 := Lib.hid (fun W => within_yes n 0 1000000 W h1.1 h1.2)
  by_cases he : e = 0
  case neg =>
    have H := Lib.hid (show b = false by rw [HB.out, decide_eq_false (fun h => he h.2.2.1)])
    have t2 : (e == 0) = false := by simpa using he
    clear h1 HB he
    go_enter Tryd.func106, Tryd.ntmps106
    go_wp2_with fail
    refine (W1.out _).mono ?_
    rintro x0 w1 ⟨rfl, rfl⟩
    go_wp2_with fail
    go_ret
    exact ⟨by rw [H.out]; rfl, (by (repeat' (first | with_reducible exact Below.refl _ _ | with_reducible refine below_alloc ?_ _ ?_ | with_reducible refine Below.setCell ?_ ?_ _ | with_reducible refine Below.drew ?_ | with_reducible refine Go.below_drewN ?_ _ | with_reducible refine below_step ?_ (by assumption) ?_ | with_reducible refine below_mark ?_ (by assumption) ?_)); all_goals (first | omega | (simp; done) | (simp; omega)))⟩
  by_cases hs : s.size = 0
  case neg =>
    have H := Lib.hid (show b = false by rw [HB.out, decide_eq_false (fun h => hs h.2.2.2)])
    obtain ⟨s1, s2, s3⟩ := str_ne hs
    subst he
    clear h1 HB hs
    go_enter Tryd.func106, Tryd.ntmps106
    go_wp2_with fail
    refine (W1.out _).mono ?_
    rintro x0 w1 ⟨rfl, rfl⟩
    go_wp2_with fail
    go_ret
    exact ⟨by rw [H.out]; rfl, (by (repeat' (first | with_reducible exact Below.refl _ _ | with_reducible refine below_alloc ?_ _ ?_ | with_reducible refine Below.setCell ?_ ?_ _ | with_reducible refine Below.drew ?_ | with_reducible refine Go.below_drewN ?_ _ | with_reducible refine below_step ?_ (by assumption) ?_ | with_reducible refine below_mark ?_ (by assumption) ?_)); all_goals (first | omega | (simp; done) | (simp; omega)))⟩
  have H := Lib.hid (show b = true by rw [HB.out]; simp [h1, he, hs])
  obtain rfl := ba_empty hs
  subst he
  clear h1 HB hs
  go_enter Tryd.func106, Tryd.ntmps106
  go_wp2_with fail
  refine (W1.out _).mono ?_
  rintro x0 w1 ⟨rfl, rfl⟩
  go_wp2_with fail
  go_ret
  exact ⟨by rw [H.out]; rfl, (by (repeat' (first | with_reducible exact Below.refl _ _ | with_reducible refine below_alloc ?_ _ ?_ | with_reducible refine Below.setCell ?_ ?_ _ | with_reducible refine Below.drew ?_ | with_reducible refine Go.below_drewN ?_ _ | with_reducible refine below_step ?_ (by assumption) ?_ | with_reducible refine below_mark ?_ (by assumption) ?_)); all_goals (first | omega | (simp; done) | (simp; omega)))⟩

set_option maxHeartbeats 2000000 in
theorem node_g (k n e : Int) (s : ByteArray) (sl : Value) (w : World) (hk : k < 0 ∨ 9 < k) : Calls Tryd.prog 106 #[.agg #[.int .i64 k, .int .i64 n, .int .i64 e, .string s, sl]] w (NodeRet false w) := by
  have t0 : (k == 0) = false := by simp; omega
  have t1 : (k == 1) = false := by simp; omega
  have t2 : (k == 2) = false := by simp; omega
  have t3 : (k == 3) = false := by simp; omega
  have t4 : (k == 4) = false := by simp; omega
  have t5 : (k == 5) = false := by simp; omega
  have t6 : (k == 6) = false := by simp; omega
  have t7 : (k == 7) = false := by simp; omega
  have t8 : (k == 8) = false := by simp; omega
  have t9 : (k == 9) = false := by simp; omega
  clear hk
  go_enter Tryd.func106, Tryd.ntmps106
  go_wp2_with fail
  go_ret
  exact ⟨rfl, (by (repeat' (first | with_reducible exact Below.refl _ _ | with_reducible refine below_alloc ?_ _ ?_ | with_reducible refine Below.setCell ?_ ?_ _ | with_reducible refine Below.drew ?_ | with_reducible refine Go.below_drewN ?_ _ | with_reducible refine below_step ?_ (by assumption) ?_ | with_reducible refine below_mark ?_ (by assumption) ?_)); all_goals (first | omega | (simp; done) | (simp; omega)))⟩
theorem isNode_any (t : V) (sl : Value) (w : World) (hw : t.wf) (hE : Env w) : Calls Tryd.prog 106 #[t.agg sl] w (NodeRet (nodeB t) w) := by
  obtain ⟨wk, wn, we, ws⟩ := hw
  unfold nodeB V.agg
  by_cases h1 : t.k = 0 ∨ t.k = 1 ∨ t.k = 2 ∨ t.k = 7 ∨ t.k = 8
  · rw [if_pos h1]; exact node_a t.k t.n t.e t.s sl w h1
  rw [if_neg h1]
  by_cases h2 : t.k = 3
  · rw [if_pos h2]; exact node_b t.k t.n t.e t.s sl w h2
  rw [if_neg h2]
  by_cases h3 : t.k = 4
  · rw [if_pos h3, h3]; exact node_c t.n t.e t.s sl w wn we
  rw [if_neg h3]
  by_cases h4 : t.k = 5
  · rw [if_pos h4, h4]; exact node_d t.n t.e t.s sl w ws hE
  rw [if_neg h4]
  by_cases h5 : t.k = 6
  · rw [if_pos h5, h5]; exact node_e t.n t.e t.s sl w ws
  rw [if_neg h5]
  by_cases h6 : t.k = 9
  · rw [if_pos h6, h6]; exact node_f t.n t.e t.s sl w
  rw [if_neg h6]
  exact node_g t.k t.n t.e t.s sl w (by omega)

end Go.Proofs.YtfjehhdahpbbgaaDoor
