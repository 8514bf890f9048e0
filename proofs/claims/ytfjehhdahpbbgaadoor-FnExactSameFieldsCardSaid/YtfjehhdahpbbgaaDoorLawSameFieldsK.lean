/- For every two values the program's SameFields and the reference's return the same, and leave the arguments as they were: the law returns true. -/
import Derived.Test.YtfjehhdahpbbgaaDoorSo02
import Derived.Test.YtfjehhdahpbbgaaDoorSo11
import Derived.Deep.RegionWith
import Derived.Deep.DeepCutAuto
namespace Go.Proofs.YtfjehhdahpbbgaaDoor
set_option linter.unusedSimpArgs false
set_option linter.unusedVariables false
set_option maxRecDepth 100000
open Go.RowKit
set_option maxHeartbeats 1600000 in
theorem Same_spec0 (w0 : World) (v u : Value) (t x : V) (h : Rep w0 v t) (h2 : Rep w0 u x) (ht : t.sz ≤ 1048576) (hx : x.sz ≤ 1048576) (w : World) (hw : Below w0.heap.size w0 w) : Calls Tryd.prog 42 #[v, u] w (BoolRet (decide (t = x)) w) := by
  have CM := Lib.hid (fun (W : World) (hW : Below w.heap.size w W) => Compare_any w0 _ t x v u (Nat.lt_succ_self _) h h2 ht hx W (hw.trans (hW.mono hw.size)))
  have HZ := Lib.hid (cmpV_zero t x)
  obtain ⟨sl, rfl, hwf, hr⟩ := h
  obtain ⟨sa, sc, rfl⟩ := hr.slice
  obtain ⟨sm, rfl, hwf2, hr2⟩ := h2
  obtain ⟨ma, mc, rfl⟩ := hr2.slice
  clear hr hr2 hwf hwf2
  unfold V.agg at CM ⊢
  generalize cmpV t x = c at *
  generalize t.kids.length = tn at *
  generalize x.kids.length = xn at *
  go_enter Tryd.func42, Tryd.ntmps42
  go_wp2_with fail
  refine (CM.out _ ((by (with_reducible (repeat' (first | exact Below.refl _ _ | refine below_alloc ?_ _ ?_ | refine Below.setCell ?_ ?_ _ | refine Below.drew ?_ | refine below_drewN ?_ _ | refine below_step ?_ (by assumption) ?_ | refine below_mark ?_ (by assumption) ?_))); all_goals (first | omega | (simp; done) | (simp; omega))))).mono ?_
  rintro e w1 ⟨rfl, hb1⟩
  by_cases hc : c = 0
  · have hd : decide (t = x) = true := decide_eq_true (HZ.out.1 hc)
    subst hc
    have HD := Lib.hid hd
    go_wp2_with fail
    go_ret
    exact ⟨by rw [HD.out]; try rfl, (by (with_reducible (repeat' (first | exact Below.refl _ _ | refine below_alloc ?_ _ ?_ | refine Below.setCell ?_ ?_ _ | refine Below.drew ?_ | refine below_drewN ?_ _ | refine below_step ?_ (by assumption) ?_ | refine below_mark ?_ (by assumption) ?_))); all_goals (first | omega | (simp; done) | (simp; omega)))⟩
  · have hd : decide (t = x) = false := decide_eq_false (fun e => hc (HZ.out.2 e))
    have HD := Lib.hid hd
    have hc2 : ((c : Int) == 0) = false := by simpa using hc
    go_wp2_with fail
    go_ret
    exact ⟨by rw [HD.out]; try rfl, (by (with_reducible (repeat' (first | exact Below.refl _ _ | refine below_alloc ?_ _ ?_ | refine Below.setCell ?_ ?_ _ | refine Below.drew ?_ | refine below_drewN ?_ _ | refine below_step ?_ (by assumption) ?_ | refine below_mark ?_ (by assumption) ?_))); all_goals (first | omega | (simp; done) | (simp; omega)))⟩
set_option maxHeartbeats 4000000 in
theorem SameFields_impl0 (w0 : World) (hE : Env w0) (v u : Value) (t x : V) (h : Rep w0 v t) (ht : t.sz ≤ 1048576) (h2 : Rep w0 u x) (hx : x.sz ≤ 1048576) (w : World) (hw : Below w0.heap.size w0 w) : Calls Tryd.prog 13 #[v, u] w (BoolRet (decide (sortedV t = sortedV x)) w) := by
  have SA := Lib.hid (fun (W : World) (hW : Below w.heap.size w W) => Sorted_impl0 w0 hE v t h ht W (hw.trans (hW.mono hw.size)))
  have SB := Lib.hid (fun (W : World) (hW : Below w.heap.size w W) => Sorted_impl0 w0 hE u x h2 hx W (hw.trans (hW.mono hw.size)))
  have SS := Lib.hid (fun (W : World) (a b : Value) (h1 : Rep W a (sortedV t)) (h2 : Rep W b (sortedV x)) => same_any W _ _ _ _ h1 h2 W (Below.refl _ _))
  obtain ⟨sl, rfl, hwf, hr⟩ := h
  obtain ⟨sa, sc, rfl⟩ := hr.slice
  obtain ⟨sm, rfl, hwf2, hr2⟩ := h2
  obtain ⟨ma, mc, rfl⟩ := hr2.slice
  clear hr hr2 hwf hwf2
  unfold V.agg at SA SB ⊢
  generalize sortedV t = st at *
  generalize sortedV x = sx at *
  generalize t.kids.length = tn at *
  generalize x.kids.length = xn at *
  have B1 := Lib.hid ((Box.new w t.k t.n t.e t.s (.slice sa tn sc) 29).alloc (.cells #[.int .i64 x.k, .int .i64 x.n, .int .i64 x.e, .string x.s, .slice ma xn mc] 29))
  have B2 := Lib.hid (Box.new (w.alloc (.cells #[.int .i64 t.k, .int .i64 t.n, .int .i64 t.e, .string t.s, .slice sa tn sc] 29)) x.k x.n x.e x.s (.slice ma xn mc) 29)
  rw [show (w.alloc (.cells #[.int .i64 t.k, .int .i64 t.n, .int .i64 t.e, .string t.s, .slice sa tn sc] 29)).heap.size = w.heap.size + 1 by simp] at B2
  obtain ⟨W0, hW0⟩ : ∃ W0, W0 = (w.alloc (.cells #[.int .i64 t.k, .int .i64 t.n, .int .i64 t.e, .string t.s, .slice sa tn sc] 29)).alloc (.cells #[.int .i64 x.k, .int .i64 x.n, .int .i64 x.e, .string x.s, .slice ma xn mc] 29) := ⟨_, rfl⟩
  have HB0 := Lib.hid (show Below w.heap.size w W0 from by rw [hW0]; exact (by (with_reducible (repeat' (first | exact Below.refl _ _ | refine below_alloc ?_ _ ?_ | refine Below.setCell ?_ ?_ _ | refine Below.drew ?_ | refine below_drewN ?_ _ | refine below_step ?_ (by assumption) ?_ | refine below_mark ?_ (by assumption) ?_))); all_goals (first | omega | (simp; done) | (simp; omega))))
  have hz0 : W0.heap.size = w.heap.size + 2 := by rw [hW0]; simp
  rw [← hW0] at B1 B2
  go_enter Tryd.func13, Tryd.ntmps13
  go_upto_region 1 with fail
  rw [← hW0]
  clear hW0
  have TC := Lib.hid (show ∀ W' : World, Below W0.heap.size W0 W' → W'.cell? ⟨w.heap.size, 0, none⟩ = some (.int .i64 t.k) ∧ W'.cell? ⟨w.heap.size, 1, none⟩ = some (.int .i64 t.n) ∧ W'.cell? ⟨w.heap.size, 2, none⟩ = some (.int .i64 t.e) ∧ W'.cell? ⟨w.heap.size, 3, none⟩ = some (.string t.s) ∧ W'.cell? ⟨w.heap.size, 4, none⟩ = some (.slice sa tn sc) ∧ W'.cell? ⟨w.heap.size + 1, 0, none⟩ = some (.int .i64 x.k) ∧ W'.cell? ⟨w.heap.size + 1, 1, none⟩ = some (.int .i64 x.n) ∧ W'.cell? ⟨w.heap.size + 1, 2, none⟩ = some (.int .i64 x.e) ∧ W'.cell? ⟨w.heap.size + 1, 3, none⟩ = some (.string x.s) ∧ W'.cell? ⟨w.heap.size + 1, 4, none⟩ = some (.slice ma xn mc) from fun W' h => by
    obtain ⟨d0, d1, d2, d3, d4⟩ := (B1.out.stay h).cells
    obtain ⟨f0, f1, f2, f3, f4⟩ := (B2.out.stay h).cells
    exact ⟨d0, d1, d2, d3, d4, f0, f1, f2, f3, f4⟩)
  have HB9 := Lib.hid (show Below W0.heap.size W0 W0.drew from (Below.refl _ _).drew)
  refine wp_region_held_drew (S := fun W' => W'.cell? ⟨w.heap.size, 0, none⟩ = some (.int .i64 t.k) ∧ W'.cell? ⟨w.heap.size, 1, none⟩ = some (.int .i64 t.n) ∧ W'.cell? ⟨w.heap.size, 2, none⟩ = some (.int .i64 t.e) ∧ W'.cell? ⟨w.heap.size, 3, none⟩ = some (.string t.s) ∧ W'.cell? ⟨w.heap.size, 4, none⟩ = some (.slice sa tn sc) ∧ W'.cell? ⟨w.heap.size + 1, 0, none⟩ = some (.int .i64 x.k) ∧ W'.cell? ⟨w.heap.size + 1, 1, none⟩ = some (.int .i64 x.n) ∧ W'.cell? ⟨w.heap.size + 1, 2, none⟩ = some (.int .i64 x.e) ∧ W'.cell? ⟨w.heap.size + 1, 3, none⟩ = some (.string x.s) ∧ W'.cell? ⟨w.heap.size + 1, 4, none⟩ = some (.slice ma xn mc)) (by kernel_rfl) (TC.out _ HB9.out) (fun hHeld => ?_)
  refine wpAnyH_take (i := 0) (v := ?_) rfl (by kernel_rfl) (by kernel_rfl) (by kernel_rfl) (fun _ _ _ h => h) (Or.inl ⟨by rfl, ?_⟩) hHeld ?_
  rotate_left
  · (intro w hSw; (try dsimp only at hSw); (try simp only [List.getElem_toArray, List.getElem_cons_succ, List.getElem_cons_zero]); go_simp <;> with_reducible rfl)
  try simp only [List.getElem_toArray, List.getElem_cons_succ, List.getElem_cons_zero, Act.put, List.setIfInBounds_toArray, List.set_cons_zero, List.set_cons_succ]
  refine wpAnyH_take (i := 2) (v := ?_) rfl (by kernel_rfl) (by kernel_rfl) (by kernel_rfl) (fun _ _ _ h => h) (Or.inl ⟨by rfl, ?_⟩) hHeld ?_
  rotate_left
  · (intro w hSw; (try dsimp only at hSw); (try simp only [List.getElem_toArray, List.getElem_cons_succ, List.getElem_cons_zero]); go_simp <;> with_reducible rfl)
  try simp only [List.getElem_toArray, List.getElem_cons_succ, List.getElem_cons_zero, Act.put, List.setIfInBounds_toArray, List.set_cons_zero, List.set_cons_succ]
  refine wpAnyH_ready (rs := [1]) (by kernel_rfl) (by simp) ?_
  refine AllReadyH.cons rfl (fun K hK => ?_) ?_
  · go_simp
    refine (SA.out _ (HB0.out.trans (HB9.out.mono HB0.out.size))).mono ?_
    rintro e11 w11 hret
    obtain ⟨s11, rfl, hrep, hb11⟩ := SrdRet.ofR hret
    have HR11 := Lib.hid hrep
    have HB11 := Lib.hid (HB9.out.trans (hb11.mono HB9.out.size))
    clear hrep hb11 hret
    refine hK.out _ _ ?_ (fun hHeld => ?_)
    · exact TC.out _ HB11.out
    clear hK K
    try simp only [List.getElem_toArray, List.getElem_cons_succ, List.getElem_cons_zero, Act.put, List.setIfInBounds_toArray, List.set_cons_zero, List.set_cons_succ]
    refine wpAnyH_ready (rs := [3]) (by kernel_rfl) (by simp) ?_
    refine AllReadyH.cons rfl (fun K hK => ?_) ?_
    · go_simp
      refine (SB.out _ (HB0.out.trans (HB11.out.mono HB0.out.size))).mono ?_
      rintro e12 w12 hret
      obtain ⟨s12, rfl, hrep, hb12⟩ := SrdRet.ofR hret
      have HR12 := Lib.hid hrep
      have HB12 := Lib.hid (HB11.out.trans (hb12.mono HB11.out.size))
      have HRA := Lib.hid (HR11.out.keep hb12)
      clear hrep hb12 hret
      refine hK.out _ _ ?_ (fun hHeld => ?_)
      · exact TC.out _ HB12.out
      clear hK K
      try simp only [List.getElem_toArray, List.getElem_cons_succ, List.getElem_cons_zero, Act.put, List.setIfInBounds_toArray, List.set_cons_zero, List.set_cons_succ]
      refine wpAnyH_ready (rs := [4]) (by kernel_rfl) (by simp) ?_
      refine AllReadyH.cons rfl (fun K hK => ?_) ?_
      · go_simp
        refine (SS.out _ _ _ HRA.out HR12.out).mono ?_
        rintro e13 w13 ⟨rfl, hb13⟩
        have HB13 := Lib.hid (HB12.out.trans (hb13.mono HB12.out.size))
        clear hb13
        refine hK.out _ _ ?_ (fun hHeld => ?_)
        · exact TC.out _ HB13.out
        clear hK K
        try simp only [List.getElem_toArray, List.getElem_cons_succ, List.getElem_cons_zero, Act.put, List.setIfInBounds_toArray, List.set_cons_zero, List.set_cons_succ]
        refine wpAnyH_take (i := 5) (v := ?_) rfl (by kernel_rfl) (by kernel_rfl) (by kernel_rfl) (fun _ _ _ h => h) (Or.inl ⟨by rfl, ?_⟩) hHeld ?_
        rotate_left
        · (intro w hSw; (try dsimp only at hSw); (try simp only [List.getElem_toArray, List.getElem_cons_succ, List.getElem_cons_zero]); go_simp <;> with_reducible rfl)
        try simp only [List.getElem_toArray, List.getElem_cons_succ, List.getElem_cons_zero, Act.put, List.setIfInBounds_toArray, List.set_cons_zero, List.set_cons_succ]
        refine wpAnyH_done (by kernel_rfl) ?_ _
        go_wp2_with fail
        go_ret
        exact ⟨rfl, HB0.out.trans (HB13.out.mono HB0.out.size)⟩
      exact AllReadyH.nil
    exact AllReadyH.nil
  exact AllReadyH.nil
set_option maxHeartbeats 4000000 in
theorem SameFields_spec0 (w0 : World) (v u : Value) (t x : V) (h : Rep w0 v t) (ht : t.sz ≤ 1048576) (h2 : Rep w0 u x) (hx : x.sz ≤ 1048576) (w : World) (hw : Below w0.heap.size w0 w) : Calls Tryd.prog 11 #[v, u] w (BoolRet (decide (sortedV t = sortedV x)) w) := by
  have SA := Lib.hid (fun (W : World) (hW : Below w.heap.size w W) => Sorted_spec0 w0 v t h ht W (hw.trans (hW.mono hw.size)))
  have SB := Lib.hid (fun (W : World) (hW : Below w.heap.size w W) => Sorted_spec0 w0 u x h2 hx W (hw.trans (hW.mono hw.size)))
  have SS := Lib.hid (fun (W : World) (a b : Value) (h1 : Rep W a (sortedV t)) (h2 : Rep W b (sortedV x)) => Same_spec0 W _ _ _ _ h1 h2 (sortedV_sz ht) (sortedV_sz hx) W (Below.refl _ _))
  obtain ⟨sl, rfl, hwf, hr⟩ := h
  obtain ⟨sa, sc, rfl⟩ := hr.slice
  obtain ⟨sm, rfl, hwf2, hr2⟩ := h2
  obtain ⟨ma, mc, rfl⟩ := hr2.slice
  clear hr hr2 hwf hwf2
  unfold V.agg at SA SB ⊢
  generalize sortedV t = st at *
  generalize sortedV x = sx at *
  generalize t.kids.length = tn at *
  generalize x.kids.length = xn at *
  have B1 := Lib.hid ((Box.new w t.k t.n t.e t.s (.slice sa tn sc) 29).alloc (.cells #[.int .i64 x.k, .int .i64 x.n, .int .i64 x.e, .string x.s, .slice ma xn mc] 29))
  have B2 := Lib.hid (Box.new (w.alloc (.cells #[.int .i64 t.k, .int .i64 t.n, .int .i64 t.e, .string t.s, .slice sa tn sc] 29)) x.k x.n x.e x.s (.slice ma xn mc) 29)
  rw [show (w.alloc (.cells #[.int .i64 t.k, .int .i64 t.n, .int .i64 t.e, .string t.s, .slice sa tn sc] 29)).heap.size = w.heap.size + 1 by simp] at B2
  obtain ⟨W0, hW0⟩ : ∃ W0, W0 = (w.alloc (.cells #[.int .i64 t.k, .int .i64 t.n, .int .i64 t.e, .string t.s, .slice sa tn sc] 29)).alloc (.cells #[.int .i64 x.k, .int .i64 x.n, .int .i64 x.e, .string x.s, .slice ma xn mc] 29) := ⟨_, rfl⟩
  have HB0 := Lib.hid (show Below w.heap.size w W0 from by rw [hW0]; exact (by (with_reducible (repeat' (first | exact Below.refl _ _ | refine below_alloc ?_ _ ?_ | refine Below.setCell ?_ ?_ _ | refine Below.drew ?_ | refine below_drewN ?_ _ | refine below_step ?_ (by assumption) ?_ | refine below_mark ?_ (by assumption) ?_))); all_goals (first | omega | (simp; done) | (simp; omega))))
  have hz0 : W0.heap.size = w.heap.size + 2 := by rw [hW0]; simp
  rw [← hW0] at B1 B2
  go_enter Tryd.func11, Tryd.ntmps11
  go_upto_region 1 with fail
  rw [← hW0]
  clear hW0
  have TC := Lib.hid (show ∀ W' : World, Below W0.heap.size W0 W' → W'.cell? ⟨w.heap.size, 0, none⟩ = some (.int .i64 t.k) ∧ W'.cell? ⟨w.heap.size, 1, none⟩ = some (.int .i64 t.n) ∧ W'.cell? ⟨w.heap.size, 2, none⟩ = some (.int .i64 t.e) ∧ W'.cell? ⟨w.heap.size, 3, none⟩ = some (.string t.s) ∧ W'.cell? ⟨w.heap.size, 4, none⟩ = some (.slice sa tn sc) ∧ W'.cell? ⟨w.heap.size + 1, 0, none⟩ = some (.int .i64 x.k) ∧ W'.cell? ⟨w.heap.size + 1, 1, none⟩ = some (.int .i64 x.n) ∧ W'.cell? ⟨w.heap.size + 1, 2, none⟩ = some (.int .i64 x.e) ∧ W'.cell? ⟨w.heap.size + 1, 3, none⟩ = some (.string x.s) ∧ W'.cell? ⟨w.heap.size + 1, 4, none⟩ = some (.slice ma xn mc) from fun W' h => by
    obtain ⟨d0, d1, d2, d3, d4⟩ := (B1.out.stay h).cells
    obtain ⟨f0, f1, f2, f3, f4⟩ := (B2.out.stay h).cells
    exact ⟨d0, d1, d2, d3, d4, f0, f1, f2, f3, f4⟩)
  have HB9 := Lib.hid (show Below W0.heap.size W0 W0.drew from (Below.refl _ _).drew)
  refine wp_region_held_drew (S := fun W' => W'.cell? ⟨w.heap.size, 0, none⟩ = some (.int .i64 t.k) ∧ W'.cell? ⟨w.heap.size, 1, none⟩ = some (.int .i64 t.n) ∧ W'.cell? ⟨w.heap.size, 2, none⟩ = some (.int .i64 t.e) ∧ W'.cell? ⟨w.heap.size, 3, none⟩ = some (.string t.s) ∧ W'.cell? ⟨w.heap.size, 4, none⟩ = some (.slice sa tn sc) ∧ W'.cell? ⟨w.heap.size + 1, 0, none⟩ = some (.int .i64 x.k) ∧ W'.cell? ⟨w.heap.size + 1, 1, none⟩ = some (.int .i64 x.n) ∧ W'.cell? ⟨w.heap.size + 1, 2, none⟩ = some (.int .i64 x.e) ∧ W'.cell? ⟨w.heap.size + 1, 3, none⟩ = some (.string x.s) ∧ W'.cell? ⟨w.heap.size + 1, 4, none⟩ = some (.slice ma xn mc)) (by kernel_rfl) (TC.out _ HB9.out) (fun hHeld => ?_)
  refine wpAnyH_take (i := 0) (v := ?_) rfl (by kernel_rfl) (by kernel_rfl) (by kernel_rfl) (fun _ _ _ h => h) (Or.inl ⟨by rfl, ?_⟩) hHeld ?_
  rotate_left
  · (intro w hSw; (try dsimp only at hSw); (try simp only [List.getElem_toArray, List.getElem_cons_succ, List.getElem_cons_zero]); go_simp <;> with_reducible rfl)
  try simp only [List.getElem_toArray, List.getElem_cons_succ, List.getElem_cons_zero, Act.put, List.setIfInBounds_toArray, List.set_cons_zero, List.set_cons_succ]
  refine wpAnyH_take (i := 2) (v := ?_) rfl (by kernel_rfl) (by kernel_rfl) (by kernel_rfl) (fun _ _ _ h => h) (Or.inl ⟨by rfl, ?_⟩) hHeld ?_
  rotate_left
  · (intro w hSw; (try dsimp only at hSw); (try simp only [List.getElem_toArray, List.getElem_cons_succ, List.getElem_cons_zero]); go_simp <;> with_reducible rfl)
  try simp only [List.getElem_toArray, List.getElem_cons_succ, List.getElem_cons_zero, Act.put, List.setIfInBounds_toArray, List.set_cons_zero, List.set_cons_succ]
  refine wpAnyH_ready (rs := [1]) (by kernel_rfl) (by simp) ?_
  refine AllReadyH.cons rfl (fun K hK => ?_) ?_
  · go_simp
    refine (SA.out _ (HB0.out.trans (HB9.out.mono HB0.out.size))).mono ?_
    rintro e14 w14 hret
    obtain ⟨s14, rfl, hrep, hb14⟩ := SrdRet.ofR hret
    have HR14 := Lib.hid hrep
    have HB14 := Lib.hid (HB9.out.trans (hb14.mono HB9.out.size))
    clear hrep hb14 hret
    refine hK.out _ _ ?_ (fun hHeld => ?_)
    · exact TC.out _ HB14.out
    clear hK K
    try simp only [List.getElem_toArray, List.getElem_cons_succ, List.getElem_cons_zero, Act.put, List.setIfInBounds_toArray, List.set_cons_zero, List.set_cons_succ]
    refine wpAnyH_ready (rs := [3]) (by kernel_rfl) (by simp) ?_
    refine AllReadyH.cons rfl (fun K hK => ?_) ?_
    · go_simp
      refine (SB.out _ (HB0.out.trans (HB14.out.mono HB0.out.size))).mono ?_
      rintro e15 w15 hret
      obtain ⟨s15, rfl, hrep, hb15⟩ := SrdRet.ofR hret
      have HR15 := Lib.hid hrep
      have HB15 := Lib.hid (HB14.out.trans (hb15.mono HB14.out.size))
      have HRA := Lib.hid (HR14.out.keep hb15)
      clear hrep hb15 hret
      refine hK.out _ _ ?_ (fun hHeld => ?_)
      · exact TC.out _ HB15.out
      clear hK K
      try simp only [List.getElem_toArray, List.getElem_cons_succ, List.getElem_cons_zero, Act.put, List.setIfInBounds_toArray, List.set_cons_zero, List.set_cons_succ]
      refine wpAnyH_ready (rs := [4]) (by kernel_rfl) (by simp) ?_
      refine AllReadyH.cons rfl (fun K hK => ?_) ?_
      · go_simp
        refine (SS.out _ _ _ HRA.out HR15.out).mono ?_
        rintro e16 w16 ⟨rfl, hb16⟩
        have HB16 := Lib.hid (HB15.out.trans (hb16.mono HB15.out.size))
        clear hb16
        refine hK.out _ _ ?_ (fun hHeld => ?_)
        · exact TC.out _ HB16.out
        clear hK K
        try simp only [List.getElem_toArray, List.getElem_cons_succ, List.getElem_cons_zero, Act.put, List.setIfInBounds_toArray, List.set_cons_zero, List.set_cons_succ]
        refine wpAnyH_take (i := 5) (v := ?_) rfl (by kernel_rfl) (by kernel_rfl) (by kernel_rfl) (fun _ _ _ h => h) (Or.inl ⟨by rfl, ?_⟩) hHeld ?_
        rotate_left
        · (intro w hSw; (try dsimp only at hSw); (try simp only [List.getElem_toArray, List.getElem_cons_succ, List.getElem_cons_zero]); go_simp <;> with_reducible rfl)
        try simp only [List.getElem_toArray, List.getElem_cons_succ, List.getElem_cons_zero, Act.put, List.setIfInBounds_toArray, List.set_cons_zero, List.set_cons_succ]
        refine wpAnyH_done (by kernel_rfl) ?_ _
        go_wp2_with fail
        go_ret
        exact ⟨rfl, HB0.out.trans (HB16.out.mono HB0.out.size)⟩
      exact AllReadyH.nil
    exact AllReadyH.nil
  exact AllReadyH.nil
end Go.Proofs.YtfjehhdahpbbgaaDoor
namespace Go.Proofs.YtfjehhdahpbbgaaDoor
set_option linter.unusedSimpArgs false
set_option linter.unusedVariables false
set_option maxRecDepth 100000
open Go.ChangeShapes Go.WideShapes Go.ChangeAt Go.RowKit Go.Lib
open Go.ChangeMaps (open_string shut_string)
theorem SameFields_spec (w0 : World) (v : Value) (t : V) (h : Rep w0 v t) (ht : t.sz ≤ 1048576) (u : Value) (x : V) (h2 : Rep w0 u x) (hx : x.sz ≤ 1048576) (w : World) (hw : Below w0.heap.size w0 w) :
    Calls Tryd.prog 11 #[v, u] w (BoolRet (decide (sortedV t = sortedV x)) w) := SameFields_spec0 w0 v u t x h ht h2 hx w hw
theorem SameFields_impl (w0 : World) (v : Value) (t : V) (h : Rep w0 v t) (ht : t.sz ≤ 1048576) (u : Value) (x : V) (h2 : Rep w0 u x) (hx : x.sz ≤ 1048576) (w : World) (hw : Below w0.heap.size w0 w) (hE : Env w0) :
    Calls Tryd.prog 13 #[v, u] w (BoolRet (decide (sortedV t = sortedV x)) w) := SameFields_impl0 w0 hE v u t x h ht h2 hx w hw
set_option maxHeartbeats 8000000 in
theorem walk_FnExactSameFields {w00 : World} (v0 : Value) (t0 : V) (hv0 : Rep w00 v0 t0) (v1 : Value) (t1 : V) (hv1 : Rep w00 v1 t1) (w : World) (hww : w = w00) (hE : Env w) : Calls Tryd.prog 3 #[v0, v1] w (LawRet w) := by
  subst hww
  have SZ0 := Lib.hid (fun w' (hh : Below w.heap.size w w') (m : Int) (h0 : 0 ≤ m) (h1 : m ≤ 1048576) => sz_any w v0 t0 hv0 w' hh m h0 h1)
  have TO0 := Lib.hid (fun w' (hh : Below w.heap.size w w') (hz : t0.sz ≤ 1048576) => to_any w v0 t0 hv0 hz w' hh)
  have EQ0 := Lib.hid (fun w1 x y (h1 : Rep w1 x t0) (h2 : Rep w1 y t0) => eq_any w1 x y t0 h1 h2 w1 (Below.refl _ _))
  have SZ1 := Lib.hid (fun w' (hh : Below w.heap.size w w') (m : Int) (h0 : 0 ≤ m) (h1 : m ≤ 1048576) => sz_any w v1 t1 hv1 w' hh m h0 h1)
  have TO1 := Lib.hid (fun w' (hh : Below w.heap.size w w') (hz : t1.sz ≤ 1048576) => to_any w v1 t1 hv1 hz w' hh)
  have EQ1 := Lib.hid (fun w1 x y (h1 : Rep w1 x t1) (h2 : Rep w1 y t1) => eq_any w1 x y t1 h1 h2 w1 (Below.refl _ _))
  have KS := Lib.hid (fun w1 x0 (h0 : Rep w1 x0 t0) (z0 : t0.sz ≤ 1048576) x1 (h1 : Rep w1 x1 t1) (z1 : t1.sz ≤ 1048576) => SameFields_spec w1 x0 t0 h0 z0 x1 t1 h1 z1 w1 (Below.refl _ _))
  have KI := Lib.hid (fun w1 x0 (h0 : Rep w1 x0 t0) (z0 : t0.sz ≤ 1048576) x1 (h1 : Rep w1 x1 t1) (z1 : t1.sz ≤ 1048576) (hh : Below w.heap.size w w1) => SameFields_impl w1 x0 t0 h0 z0 x1 t1 h1 z1 w1 (Below.refl _ _) (Env.keep hE hh))
  clear hE
  have HCN0 := Lib.hid (fun (h : t0.sz ≤ 1048576) => cnts_kids_le h)
  have HCN1 := Lib.hid (fun (h : t1.sz ≤ 1048576) => cnts_kids_le h)
  obtain ⟨sl0, rfl, _, _⟩ := hv0
  obtain ⟨sl1, rfl, _, _⟩ := hv1
  unfold V.agg at SZ0 TO0 SZ1 TO1 ⊢
  generalize decide (sortedV t0 = sortedV t1) = r0 at *
  go_enter Tryd.func3, Tryd.ntmps3
  go_wp2_with fail
  have BA0_0 := Lib.hid (Box.new (w) t0.k t0.n t0.e t0.s sl0 24)
  have BA1_0 := Lib.hid (Box.new (w.alloc (.cells #[.int .i64 t0.k, .int .i64 t0.n, .int .i64 t0.e, .string t0.s, sl0] 24)) t1.k t1.n t1.e t1.s sl1 24)
  rw [show (w.alloc (.cells #[.int .i64 t0.k, .int .i64 t0.n, .int .i64 t0.e, .string t0.s, sl0] 24)).heap.size = w.heap.size + 1 by simp] at BA1_0
  have BA0_11 := Lib.hid (BA0_0.out.alloc (.cells #[.int .i64 t1.k, .int .i64 t1.n, .int .i64 t1.e, .string t1.s, sl1] 24))
  have HOK0 := Lib.hid (fun (h : ¬ szr (1048576) (t0.sz) < 0) => szr_ok h)
  have hlo0 := szr_lo (1048576) (t0.sz)
  refine (SZ0.out _ (by (repeat' (first | with_reducible exact Below.refl _ _ | with_reducible refine below_alloc ?_ _ ?_ | with_reducible refine Below.setCell ?_ ?_ _ | with_reducible refine Below.drew ?_ | with_reducible refine below_drewN ?_ _ | with_reducible refine below_step ?_ (by assumption) ?_ | with_reducible refine below_mark ?_ (by assumption) ?_)); all_goals (first | omega | (simp; done) | (simp; omega))) _ (by omega) (by omega)).mono ?_
  rintro e1 w1 ⟨rfl, hb1⟩
  have hz1 := hb1.size; try simp at hz1
  generalize szr (1048576) (t0.sz) = m0 at *
  have BA1_1 := Lib.hid (Box.stay BA1_0.out (w' := w1) (by (repeat' (first | with_reducible exact Below.refl _ _ | with_reducible refine below_alloc ?_ _ ?_ | with_reducible refine Below.setCell ?_ ?_ _ | with_reducible refine Below.drew ?_ | with_reducible refine below_drewN ?_ _ | with_reducible refine below_step ?_ (by assumption) ?_ | with_reducible refine below_mark ?_ (by assumption) ?_)); all_goals (first | omega | (simp; done) | (simp; omega))))
  obtain ⟨cBA11_0, cBA11_1, cBA11_2, cBA11_3, cBA11_4⟩ := BA1_1.out.cells
  by_cases hm0 : m0 < 0
  · go_wp2_with fail
    go_ret
    exact ⟨rfl, (by (repeat' (first | with_reducible exact Below.refl _ _ | with_reducible refine below_alloc ?_ _ ?_ | with_reducible refine Below.setCell ?_ ?_ _ | with_reducible refine Below.drew ?_ | with_reducible refine below_drewN ?_ _ | with_reducible refine below_step ?_ (by assumption) ?_ | with_reducible refine below_mark ?_ (by assumption) ?_)); all_goals (first | omega | (simp; done) | (simp; omega)))⟩
  obtain ⟨hq0, hr0⟩ := HOK0.out hm0
  have hm0' : ¬ m0 < 0 := hm0
  have hs0 := HCN0.out (by omega)
  go_wp2_with fail
  have HOK1 := Lib.hid (fun (h : ¬ szr (m0) (t1.sz) < 0) => szr_ok h)
  have hlo1 := szr_lo (m0) (t1.sz)
  clear cBA11_0 cBA11_1 cBA11_2 cBA11_3 cBA11_4
  refine (SZ1.out _ (by (repeat' (first | with_reducible exact Below.refl _ _ | with_reducible refine below_alloc ?_ _ ?_ | with_reducible refine Below.setCell ?_ ?_ _ | with_reducible refine Below.drew ?_ | with_reducible refine below_drewN ?_ _ | with_reducible refine below_step ?_ (by assumption) ?_ | with_reducible refine below_mark ?_ (by assumption) ?_)); all_goals (first | omega | (simp; done) | (simp; omega))) _ (by omega) (by omega)).mono ?_
  rintro e2 w2 ⟨rfl, hb2⟩
  have hz2 := hb2.size; try simp at hz2
  generalize szr (m0) (t1.sz) = m1 at *
  have BA0_2 := Lib.hid (Box.stay BA0_11.out (w' := w2) (by (repeat' (first | with_reducible exact Below.refl _ _ | with_reducible refine below_alloc ?_ _ ?_ | with_reducible refine Below.setCell ?_ ?_ _ | with_reducible refine Below.drew ?_ | with_reducible refine below_drewN ?_ _ | with_reducible refine below_step ?_ (by assumption) ?_ | with_reducible refine below_mark ?_ (by assumption) ?_)); all_goals (first | omega | (simp; done) | (simp; omega))))
  obtain ⟨cBA02_0, cBA02_1, cBA02_2, cBA02_3, cBA02_4⟩ := BA0_2.out.cells
  by_cases hm1 : m1 < 0
  · go_wp2_with fail
    go_ret
    exact ⟨rfl, (by (repeat' (first | with_reducible exact Below.refl _ _ | with_reducible refine below_alloc ?_ _ ?_ | with_reducible refine Below.setCell ?_ ?_ _ | with_reducible refine Below.drew ?_ | with_reducible refine below_drewN ?_ _ | with_reducible refine below_step ?_ (by assumption) ?_ | with_reducible refine below_mark ?_ (by assumption) ?_)); all_goals (first | omega | (simp; done) | (simp; omega)))⟩
  obtain ⟨hq1, hr1⟩ := HOK1.out hm1
  have hm1' : ¬ m1 < 0 := hm1
  have hs1 := HCN1.out (by omega)
  go_wp2_with fail
  have BA0_s := Lib.hid (Box.stay BA0_2.out (w' := w2) (by (repeat' (first | with_reducible exact Below.refl _ _ | with_reducible refine below_alloc ?_ _ ?_ | with_reducible refine Below.setCell ?_ ?_ _ | with_reducible refine Below.drew ?_ | with_reducible refine below_drewN ?_ _ | with_reducible refine below_step ?_ (by assumption) ?_ | with_reducible refine below_mark ?_ (by assumption) ?_)); all_goals (first | omega | (simp; done) | (simp; omega))))
  have BA1_s := Lib.hid (Box.stay BA1_1.out (w' := w2) (by (repeat' (first | with_reducible exact Below.refl _ _ | with_reducible refine below_alloc ?_ _ ?_ | with_reducible refine Below.setCell ?_ ?_ _ | with_reducible refine Below.drew ?_ | with_reducible refine below_drewN ?_ _ | with_reducible refine below_step ?_ (by assumption) ?_ | with_reducible refine below_mark ?_ (by assumption) ?_)); all_goals (first | omega | (simp; done) | (simp; omega))))
  have TCS := Lib.hid (show ∀ W' : World, Below w2.heap.size w2 W' → W'.cell? ⟨w.heap.size, 0, none⟩ = some (.int .i64 t0.k) ∧ W'.cell? ⟨w.heap.size, 1, none⟩ = some (.int .i64 t0.n) ∧ W'.cell? ⟨w.heap.size, 2, none⟩ = some (.int .i64 t0.e) ∧ W'.cell? ⟨w.heap.size, 3, none⟩ = some (.string t0.s) ∧ W'.cell? ⟨w.heap.size, 4, none⟩ = some (sl0) ∧ W'.cell? ⟨w.heap.size + 1, 0, none⟩ = some (.int .i64 t1.k) ∧ W'.cell? ⟨w.heap.size + 1, 1, none⟩ = some (.int .i64 t1.n) ∧ W'.cell? ⟨w.heap.size + 1, 2, none⟩ = some (.int .i64 t1.e) ∧ W'.cell? ⟨w.heap.size + 1, 3, none⟩ = some (.string t1.s) ∧ W'.cell? ⟨w.heap.size + 1, 4, none⟩ = some (sl1) from fun W' h => by
    obtain ⟨d0, d1, d2, d3, d4⟩ := (BA0_s.out.stay h).cells
    obtain ⟨f0, f1, f2, f3, f4⟩ := (BA1_s.out.stay h).cells
    exact ⟨d0, d1, d2, d3, d4, f0, f1, f2, f3, f4⟩)
  have HBK := Lib.hid (show Below w.heap.size w w2 from (by (repeat' (first | with_reducible exact Below.refl _ _ | with_reducible refine below_alloc ?_ _ ?_ | with_reducible refine Below.setCell ?_ ?_ _ | with_reducible refine Below.drew ?_ | with_reducible refine below_drewN ?_ _ | with_reducible refine below_step ?_ (by assumption) ?_ | with_reducible refine below_mark ?_ (by assumption) ?_)); all_goals (first | omega | (simp; done) | (simp; omega))))
  go_upto_region 8 with fail
  go_cut [6] (fun s wx => s = .bool r0 ∧ Below w2.heap.size w2 wx)
  case first =>
    have HB9 := Lib.hid (show Below w2.heap.size w2 w2.drew from (Below.refl _ _).drew)
    refine wp_region_held_drew (S := fun W' => W'.cell? ⟨w.heap.size, 0, none⟩ = some (.int .i64 t0.k) ∧ W'.cell? ⟨w.heap.size, 1, none⟩ = some (.int .i64 t0.n) ∧ W'.cell? ⟨w.heap.size, 2, none⟩ = some (.int .i64 t0.e) ∧ W'.cell? ⟨w.heap.size, 3, none⟩ = some (.string t0.s) ∧ W'.cell? ⟨w.heap.size, 4, none⟩ = some (sl0) ∧ W'.cell? ⟨w.heap.size + 1, 0, none⟩ = some (.int .i64 t1.k) ∧ W'.cell? ⟨w.heap.size + 1, 1, none⟩ = some (.int .i64 t1.n) ∧ W'.cell? ⟨w.heap.size + 1, 2, none⟩ = some (.int .i64 t1.e) ∧ W'.cell? ⟨w.heap.size + 1, 3, none⟩ = some (.string t1.s) ∧ W'.cell? ⟨w.heap.size + 1, 4, none⟩ = some (sl1)) (by kernel_rfl) (TCS.out _ HB9.out) (fun hHeld => ?_)
    refine wpAnyH_take (i := 0) (v := ?_) rfl (by kernel_rfl) (by kernel_rfl) (by kernel_rfl) (fun _ _ _ h => h) (Or.inl ⟨by rfl, ?_⟩) hHeld ?_
    rotate_left
    · (intro w hSw; (try dsimp only at hSw); (try simp only [List.getElem_toArray, List.getElem_cons_succ, List.getElem_cons_zero]); go_simp <;> with_reducible rfl)
    try simp only [List.getElem_toArray, List.getElem_cons_succ, List.getElem_cons_zero, Act.put, List.setIfInBounds_toArray, List.set_cons_zero, List.set_cons_succ]
    refine wpAnyH_take (i := 2) (v := ?_) rfl (by kernel_rfl) (by kernel_rfl) (by kernel_rfl) (fun _ _ _ h => h) (Or.inl ⟨by rfl, ?_⟩) hHeld ?_
    rotate_left
    · (intro w hSw; (try dsimp only at hSw); (try simp only [List.getElem_toArray, List.getElem_cons_succ, List.getElem_cons_zero]); go_simp <;> with_reducible rfl)
    try simp only [List.getElem_toArray, List.getElem_cons_succ, List.getElem_cons_zero, Act.put, List.setIfInBounds_toArray, List.set_cons_zero, List.set_cons_succ]
    refine wpAnyH_ready (rs := [1]) (by kernel_rfl) (by simp) ?_
    refine AllReadyH.cons rfl (fun K hK => ?_) ?_
    · go_simp
      refine (TO0.out _ (HBK.out.trans (HB9.out.mono HBK.out.size)) (by omega)).mono ?_
      rintro e91 w91 ⟨ps0, rfl, pf0, po0, hb91⟩
      obtain ⟨pa0, pc0, rfl⟩ := po0.slice
      have pR0 := Lib.hid (po0.repV pf0)
      have HB91 := Lib.hid (HB9.out.trans (hb91.mono HB9.out.size))
      clear po0 hb91
      unfold V.agg
      refine hK.out _ _ ?_ (fun hHeld => ?_)
      · exact TCS.out _ HB91.out
      clear hK K
      try simp only [List.getElem_toArray, List.getElem_cons_succ, List.getElem_cons_zero, Act.put, List.setIfInBounds_toArray, List.set_cons_zero, List.set_cons_succ]
      refine wpAnyH_ready (rs := [3]) (by kernel_rfl) (by simp) ?_
      refine AllReadyH.cons rfl (fun K hK => ?_) ?_
      · go_simp
        refine (TO1.out _ (HBK.out.trans (HB91.out.mono HBK.out.size)) (by omega)).mono ?_
        rintro e92 w92 ⟨ps1, rfl, pf1, po1, hb92⟩
        obtain ⟨pa1, pc1, rfl⟩ := po1.slice
        have pR1 := Lib.hid (po1.repV pf1)
        have HB92 := Lib.hid (HB91.out.trans (hb92.mono HB91.out.size))
        have pR0 := Lib.hid (pR0.out.keep hb92)
        clear po1 hb92
        unfold V.agg
        refine hK.out _ _ ?_ (fun hHeld => ?_)
        · exact TCS.out _ HB92.out
        clear hK K
        try simp only [List.getElem_toArray, List.getElem_cons_succ, List.getElem_cons_zero, Act.put, List.setIfInBounds_toArray, List.set_cons_zero, List.set_cons_succ]
        refine wpAnyH_ready (rs := [4]) (by kernel_rfl) (by simp) ?_
        refine AllReadyH.cons rfl (fun K hK => ?_) ?_
        · go_simp
          refine (KS.out _ _ pR0.out (by omega) _ pR1.out (by omega)).mono ?_
          rintro e93 w93 ⟨rfl, hb93⟩
          have HB93 := Lib.hid (HB92.out.trans (hb93.mono HB92.out.size))
          clear hb93
          refine hK.out _ _ ?_ (fun hHeld => ?_)
          · exact TCS.out _ HB93.out
          clear hK K
          try simp only [List.getElem_toArray, List.getElem_cons_succ, List.getElem_cons_zero, Act.put, List.setIfInBounds_toArray, List.set_cons_zero, List.set_cons_succ]
          refine wpAnyH_take (i := 5) (v := ?_) rfl (by kernel_rfl) (by kernel_rfl) (by kernel_rfl) (fun _ _ _ h => h) (Or.inl ⟨by rfl, ?_⟩) hHeld ?_
          rotate_left
          · (intro w hSw; (try dsimp only at hSw); (try simp only [List.getElem_toArray, List.getElem_cons_succ, List.getElem_cons_zero]); go_simp <;> with_reducible rfl)
          try simp only [List.getElem_toArray, List.getElem_cons_succ, List.getElem_cons_zero, Act.put, List.setIfInBounds_toArray, List.set_cons_zero, List.set_cons_succ]
          refine wpAnyH_done (by kernel_rfl) ?_ _
          go_wp2_with fail
          go_meet
          exact ⟨rfl, HB93.out⟩
        exact AllReadyH.nil
      exact AllReadyH.nil
    exact AllReadyH.nil
  case rest =>
    obtain ⟨rfl, hb3⟩ := hcut
    obtain ⟨w3, rfl⟩ : ∃ W : World, W = wc := ⟨_, rfl⟩
    have hz3 := hb3.size; try simp at hz3
    clear cBA02_0 cBA02_1 cBA02_2 cBA02_3 cBA02_4
    have BA0_3 := Lib.hid (Box.stay BA0_s.out (w' := w3) (by (repeat' (first | with_reducible exact Below.refl _ _ | with_reducible refine below_alloc ?_ _ ?_ | with_reducible refine Below.setCell ?_ ?_ _ | with_reducible refine Below.drew ?_ | with_reducible refine below_drewN ?_ _ | with_reducible refine below_step ?_ (by assumption) ?_ | with_reducible refine below_mark ?_ (by assumption) ?_)); all_goals (first | omega | (simp; done) | (simp; omega))))
    obtain ⟨cBA03_0, cBA03_1, cBA03_2, cBA03_3, cBA03_4⟩ := BA0_3.out.cells
    go_wp2_with fail
    clear cBA03_0 cBA03_1 cBA03_2 cBA03_3 cBA03_4
    refine (TO0.out _ (by (repeat' (first | with_reducible exact Below.refl _ _ | with_reducible refine below_alloc ?_ _ ?_ | with_reducible refine Below.setCell ?_ ?_ _ | with_reducible refine Below.drew ?_ | with_reducible refine below_drewN ?_ _ | with_reducible refine below_step ?_ (by assumption) ?_ | with_reducible refine below_mark ?_ (by assumption) ?_)); all_goals (first | omega | (simp; done) | (simp; omega))) (by omega)).mono ?_
    rintro e4 w4 ⟨xs0, rfl, xf0, xo0, hb4⟩
    have hz4 := hb4.size; try simp at hz4
    obtain ⟨xa0, xc0, rfl⟩ := xo0.slice
    have xO0 := Lib.hid xo0.bound
    have xR0 := Lib.hid (xo0.repV xf0)
    clear xo0
    unfold V.agg at xR0 ⊢
    have BX0_n := Lib.hid (Box.new w4 t0.k t0.n t0.e t0.s (.slice xa0 t0.kids.length xc0) 29)
    have BA1_4 := Lib.hid (Box.stay BA1_s.out (w' := w4) (by (repeat' (first | with_reducible exact Below.refl _ _ | with_reducible refine below_alloc ?_ _ ?_ | with_reducible refine Below.setCell ?_ ?_ _ | with_reducible refine Below.drew ?_ | with_reducible refine below_drewN ?_ _ | with_reducible refine below_step ?_ (by assumption) ?_ | with_reducible refine below_mark ?_ (by assumption) ?_)); all_goals (first | omega | (simp; done) | (simp; omega))))
    obtain ⟨cBA14_0, cBA14_1, cBA14_2, cBA14_3, cBA14_4⟩ := BA1_4.out.cells
    have hn4_0 : w.heap.size + 0 < w4.heap.size := by omega
    have hn4_1 : w.heap.size + 1 < w4.heap.size := by omega
    go_wp2_with fail
    clear cBA14_0 cBA14_1 cBA14_2 cBA14_3 cBA14_4
    refine (TO1.out _ (by (repeat' (first | with_reducible exact Below.refl _ _ | with_reducible refine below_alloc ?_ _ ?_ | with_reducible refine Below.setCell ?_ ?_ _ | with_reducible refine Below.drew ?_ | with_reducible refine below_drewN ?_ _ | with_reducible refine below_step ?_ (by assumption) ?_ | with_reducible refine below_mark ?_ (by assumption) ?_)); all_goals (first | omega | (simp; done) | (simp; omega))) (by omega)).mono ?_
    rintro e5 w5 ⟨xs1, rfl, xf1, xo1, hb5⟩
    have hz5 := hb5.size; try simp at hz5
    obtain ⟨xa1, xc1, rfl⟩ := xo1.slice
    have xO1 := Lib.hid xo1.bound
    have xR1 := Lib.hid (xo1.repV xf1)
    clear xo1
    unfold V.agg at xR1 ⊢
    have BX1_n := Lib.hid (Box.new w5 t1.k t1.n t1.e t1.s (.slice xa1 t1.kids.length xc1) 29)
    have BX0_5 := Lib.hid (Box.stay BX0_n.out (w' := w5) (by (repeat' (first | with_reducible exact Below.refl _ _ | with_reducible refine below_alloc ?_ _ ?_ | with_reducible refine Below.setCell ?_ ?_ _ | with_reducible refine Below.drew ?_ | with_reducible refine below_drewN ?_ _ | with_reducible refine below_step ?_ (by assumption) ?_ | with_reducible refine below_mark ?_ (by assumption) ?_)); all_goals (first | omega | (simp; done) | (simp; omega))))
    obtain ⟨cBX05_0, cBX05_1, cBX05_2, cBX05_3, cBX05_4⟩ := BX0_5.out.cells
    have hxl0 : w4.heap.size < w5.heap.size := by omega
    have hxn0 : w4.heap.size ≠ w5.heap.size := by omega
    have hxm0 : w5.heap.size ≠ w4.heap.size := by omega
    go_wp2_with fail
    clear cBX05_0 cBX05_1 cBX05_2 cBX05_3 cBX05_4
    refine (KI.out _ _ (xR0.out.keep (by (repeat' (first | with_reducible exact Below.refl _ _ | with_reducible refine below_alloc ?_ _ ?_ | with_reducible refine Below.setCell ?_ ?_ _ | with_reducible refine Below.drew ?_ | with_reducible refine below_drewN ?_ _ | with_reducible refine below_step ?_ (by assumption) ?_ | with_reducible refine below_mark ?_ (by assumption) ?_)); all_goals (first | omega | (simp; done) | (simp; omega)))) (by omega) _ (xR1.out.keep (by (repeat' (first | with_reducible exact Below.refl _ _ | with_reducible refine below_alloc ?_ _ ?_ | with_reducible refine Below.setCell ?_ ?_ _ | with_reducible refine Below.drew ?_ | with_reducible refine below_drewN ?_ _ | with_reducible refine below_step ?_ (by assumption) ?_ | with_reducible refine below_mark ?_ (by assumption) ?_)); all_goals (first | omega | (simp; done) | (simp; omega)))) (by omega) (by (repeat' (first | with_reducible exact Below.refl _ _ | with_reducible refine below_alloc ?_ _ ?_ | with_reducible refine Below.setCell ?_ ?_ _ | with_reducible refine Below.drew ?_ | with_reducible refine below_drewN ?_ _ | with_reducible refine below_step ?_ (by assumption) ?_ | with_reducible refine below_mark ?_ (by assumption) ?_)); all_goals (first | omega | (simp; done) | (simp; omega)))).mono ?_
    rintro e6 w6 ⟨rfl, hb6⟩
    have hz6 := hb6.size; try simp at hz6
    have tn0 : (r0 != r0) = false := by simp
    have BX0_6 := Lib.hid (Box.stay BX0_5.out (w' := w6) (by (repeat' (first | with_reducible exact Below.refl _ _ | with_reducible refine below_alloc ?_ _ ?_ | with_reducible refine Below.setCell ?_ ?_ _ | with_reducible refine Below.drew ?_ | with_reducible refine below_drewN ?_ _ | with_reducible refine below_step ?_ (by assumption) ?_ | with_reducible refine below_mark ?_ (by assumption) ?_)); all_goals (first | omega | (simp; done) | (simp; omega))))
    obtain ⟨cBX06_0, cBX06_1, cBX06_2, cBX06_3, cBX06_4⟩ := BX0_6.out.cells
    have BA0_6 := Lib.hid (Box.stay BA0_3.out (w' := w6) (by (repeat' (first | with_reducible exact Below.refl _ _ | with_reducible refine below_alloc ?_ _ ?_ | with_reducible refine Below.setCell ?_ ?_ _ | with_reducible refine Below.drew ?_ | with_reducible refine below_drewN ?_ _ | with_reducible refine below_step ?_ (by assumption) ?_ | with_reducible refine below_mark ?_ (by assumption) ?_)); all_goals (first | omega | (simp; done) | (simp; omega))))
    obtain ⟨cBA06_0, cBA06_1, cBA06_2, cBA06_3, cBA06_4⟩ := BA0_6.out.cells
    go_upto_region 14 with fail
    go_cut [39] (fun s wx => s = .bool false ∧ Below w6.heap.size w6 wx)
    case first =>
      go_region_with (first | (go_at_call 12; refine (TO0.out _ (by (repeat' (first | with_reducible exact Below.refl _ _ | with_reducible refine below_alloc ?_ _ ?_ | with_reducible refine Below.setCell ?_ ?_ _ | with_reducible refine Below.drew ?_ | with_reducible refine below_drewN ?_ _ | with_reducible refine below_step ?_ (by assumption) ?_ | with_reducible refine below_mark ?_ (by assumption) ?_)); all_goals (first | omega | (simp; done) | (simp; omega))) (by omega)).mono ?_; rintro e0 wa0 ⟨ys0, rfl, yf0, yo0, yb0⟩; have yR0 := Lib.hid (yo0.repV yf0); obtain ⟨y0, y1, y2, y3, y4⟩ := (Box.keep BX0_6.out (Below.trans (Below.drew (Below.refl _ _)) yb0) (Nat.le_refl _)).cells; clear yo0) | (go_at_call 14; refine (EQ0.out _ _ _ (xR0.out.keep (by (repeat' (first | with_reducible exact Below.refl _ _ | with_reducible refine below_alloc ?_ _ ?_ | with_reducible refine Below.setCell ?_ ?_ _ | with_reducible refine Below.drew ?_ | with_reducible refine below_drewN ?_ _ | with_reducible refine below_step ?_ (by assumption) ?_ | with_reducible refine below_mark ?_ (by assumption) ?_)); all_goals (first | omega | (simp; done) | (simp; omega)))) yR0.out).mono ?_; rintro e0 wb0 ⟨rfl, zb0⟩))
      all_goals (go_wp2_with fail; go_meet; exact ⟨rfl, (by (repeat' (first | with_reducible exact Below.refl _ _ | with_reducible refine below_alloc ?_ _ ?_ | with_reducible refine Below.setCell ?_ ?_ _ | with_reducible refine Below.drew ?_ | with_reducible refine below_drewN ?_ _ | with_reducible refine below_step ?_ (by assumption) ?_ | with_reducible refine below_mark ?_ (by assumption) ?_)); all_goals (first | omega | (simp; done) | (simp; omega)))⟩)
    case rest =>
      obtain ⟨rfl, hb7⟩ := hcut
      obtain ⟨w7, rfl⟩ : ∃ W : World, W = wc := ⟨_, rfl⟩
      have hz7 := hb7.size; try simp at hz7
      clear cBX06_0 cBX06_1 cBX06_2 cBX06_3 cBX06_4 cBA06_0 cBA06_1 cBA06_2 cBA06_3 cBA06_4
      have BX1_7 := Lib.hid (Box.stay BX1_n.out (w' := w7) (by (repeat' (first | with_reducible exact Below.refl _ _ | with_reducible refine below_alloc ?_ _ ?_ | with_reducible refine Below.setCell ?_ ?_ _ | with_reducible refine Below.drew ?_ | with_reducible refine below_drewN ?_ _ | with_reducible refine below_step ?_ (by assumption) ?_ | with_reducible refine below_mark ?_ (by assumption) ?_)); all_goals (first | omega | (simp; done) | (simp; omega))))
      obtain ⟨cBX17_0, cBX17_1, cBX17_2, cBX17_3, cBX17_4⟩ := BX1_7.out.cells
      have BA1_7 := Lib.hid (Box.stay BA1_4.out (w' := w7) (by (repeat' (first | with_reducible exact Below.refl _ _ | with_reducible refine below_alloc ?_ _ ?_ | with_reducible refine Below.setCell ?_ ?_ _ | with_reducible refine Below.drew ?_ | with_reducible refine below_drewN ?_ _ | with_reducible refine below_step ?_ (by assumption) ?_ | with_reducible refine below_mark ?_ (by assumption) ?_)); all_goals (first | omega | (simp; done) | (simp; omega))))
      obtain ⟨cBA17_0, cBA17_1, cBA17_2, cBA17_3, cBA17_4⟩ := BA1_7.out.cells
      go_upto_region 16 with fail
      go_cut [44] (fun s wx => s = .bool false ∧ Below w7.heap.size w7 wx)
      case first =>
        go_region_with (first | (go_at_call 12; refine (TO1.out _ (by (repeat' (first | with_reducible exact Below.refl _ _ | with_reducible refine below_alloc ?_ _ ?_ | with_reducible refine Below.setCell ?_ ?_ _ | with_reducible refine Below.drew ?_ | with_reducible refine below_drewN ?_ _ | with_reducible refine below_step ?_ (by assumption) ?_ | with_reducible refine below_mark ?_ (by assumption) ?_)); all_goals (first | omega | (simp; done) | (simp; omega))) (by omega)).mono ?_; rintro e0 wa1 ⟨ys1, rfl, yf1, yo1, yb1⟩; have yR1 := Lib.hid (yo1.repV yf1); obtain ⟨y0, y1, y2, y3, y4⟩ := (Box.keep BX1_7.out (Below.trans (Below.drew (Below.refl _ _)) yb1) (Nat.le_refl _)).cells; clear yo1) | (go_at_call 14; refine (EQ1.out _ _ _ (xR1.out.keep (by (repeat' (first | with_reducible exact Below.refl _ _ | with_reducible refine below_alloc ?_ _ ?_ | with_reducible refine Below.setCell ?_ ?_ _ | with_reducible refine Below.drew ?_ | with_reducible refine below_drewN ?_ _ | with_reducible refine below_step ?_ (by assumption) ?_ | with_reducible refine below_mark ?_ (by assumption) ?_)); all_goals (first | omega | (simp; done) | (simp; omega)))) yR1.out).mono ?_; rintro e0 wb1 ⟨rfl, zb1⟩))
        all_goals (go_wp2_with fail; go_meet; exact ⟨rfl, (by (repeat' (first | with_reducible exact Below.refl _ _ | with_reducible refine below_alloc ?_ _ ?_ | with_reducible refine Below.setCell ?_ ?_ _ | with_reducible refine Below.drew ?_ | with_reducible refine below_drewN ?_ _ | with_reducible refine below_step ?_ (by assumption) ?_ | with_reducible refine below_mark ?_ (by assumption) ?_)); all_goals (first | omega | (simp; done) | (simp; omega)))⟩)
      case rest =>
        obtain ⟨rfl, hb8⟩ := hcut
        obtain ⟨w8, rfl⟩ : ∃ W : World, W = wc := ⟨_, rfl⟩
        have hz8 := hb8.size; try simp at hz8
        clear cBX17_0 cBX17_1 cBX17_2 cBX17_3 cBX17_4 cBA17_0 cBA17_1 cBA17_2 cBA17_3 cBA17_4
        go_wp2_with fail
        go_ret
        exact ⟨rfl, (by (repeat' (first | with_reducible exact Below.refl _ _ | with_reducible refine below_alloc ?_ _ ?_ | with_reducible refine Below.setCell ?_ ?_ _ | with_reducible refine Below.drew ?_ | with_reducible refine below_drewN ?_ _ | with_reducible refine below_step ?_ (by assumption) ?_ | with_reducible refine below_mark ?_ (by assumption) ?_)); all_goals (first | omega | (simp; done) | (simp; omega)))⟩
set_option maxRecDepth 100000 in
set_option maxHeartbeats 2000000 in
theorem lifted_FnExactSameFields (os : Os) (started : os.Started) (H : Type) (enc : TypeId × Value → H) :
    ReturnsInHanded {} Tryd.checked os 3 .any (fun w args => (Rows.fnExactSameFieldsSpec.pre enc Tryd.prog Tryd.f3 [] false w args ∧ laidMetH Tryd.prog Rows.fnExactSameFieldsRow.laid w) ∧ sizedMet enc Tryd.prog Tryd.f3 (OpenSpec.ofChange Rows.fnExactSameFieldsSpec) false w args)
      (Rows.fnExactSameFieldsSpec.post enc Tryd.prog Tryd.f3 false true false false) := by
  refine returnsInHanded_of_change_and (C := Tryd.checked) (X := fun w _ => laidMetH Tryd.prog Rows.fnExactSameFieldsRow.laid w) (fun _ _ _ hh h => h.of_heap hh) lawOwn started (by kernel_rfl) Tryd.func3
    (ChangeSpec.witness_shaped (enc := enc) (C := Tryd.checked) (os := os) (X := fun w _ => laidMetH Tryd.prog Rows.fnExactSameFieldsRow.laid w) false (World.laidAll Tryd.prog os Rows.fnExactSameFieldsRow.laid) #[.agg #[.int .i64 0, .int .i64 0, .int .i64 0, .string ByteArray.empty, .slice none 0 0], .agg #[.int .i64 0, .int .i64 0, .int .i64 0, .string ByteArray.empty, .slice none 0 0]] 8 (World.laidAll_os _ _ _)
      (World.shaped_of_ZipB (by kernel_rfl) (by kernel_rfl)) (by kernel_rfl) (by kernel_rfl) (by kernel_rfl)
      (by rw [MakeChecks.laidMetH_plain _ _ _ (by kernel_rfl)]; exact laidMet_laidAll _ (by kernel_rfl) (by kernel_rfl))) ?_
  intro W base args ds gs before hval0 hW _ _ hL _
  have hval : ∀ (j : Nat) t v, Tryd.f3.params[j]? = some t → args[j]? = some v → Value.okWide Tryd.prog W .any base t v := hval0
  have hW' := hW
  obtain ⟨p, q, hA0, hV, hpq, hfz, hnd⟩ := hW
  have hA : DataW.TrodAll enc Tryd.prog W 0 (fun _ => true) true Tryd.f3.params.toList args.toList ds p := hA0
  rw [Tryd.params3] at hA hval
  rw [MakeChecks.laidMetH_plain _ _ _ (by kernel_rfl)] at hL
  have hE : Env W := env_of (Lib.laidMet.reads hL (.tail _ (.head _))) (Lib.laidMet.reads hL (.head _))
  obtain ⟨v0, vs0, d0, ds0, p0, q0, hargs, rfl, hp, h0, r0⟩ := trodAll_cons hA
  obtain ⟨v1, vs1, d1, ds1, p1, q1, rfl, rfl, rfl, h1, r1⟩ := trodAll_cons r0
  obtain ⟨rfl, rfl, rfl⟩ := trodAll_nil r1
  obtain rfl : args = #[v0, v1] := by cases args; simp_all
  obtain ⟨a0, w0⟩ := open_V (okV (hval 0 24 v0 rfl rfl)) h0
  obtain ⟨a1, w1⟩ := open_V (okV (hval 1 24 v1 rfl rfl)) h1
  refine (walk_FnExactSameFields v0 a0 w0 v1 a1 w1 W rfl hE).mono fun e W' ⟨he, hb⟩ => ?_
  subst he
  refine ⟨_, rfl, law_post rfl rfl rfl ?_ hW' hb⟩
  rw [Tryd.params3]
  intro t ht
  simp only [List.mem_cons, List.not_mem_nil, or_false] at ht
  rcases ht with rfl | rfl
  all_goals exact ⟨by kernel_rfl, of_decide_eq_true (by kernel_rfl)⟩
set_option maxHeartbeats 4000000 in
theorem row_FnExactSameFields : Rows.FnExactSameFieldsSaid :=
  OpenClaim.holds_of_wide 3 Tryd.f3 rfl rfl rfl rfl rfl rfl rfl ⟨rfl, rfl, rfl, rfl, rfl⟩ rfl rfl rfl rfl rfl (by as_aux_lemma => kernel_rfl) Tryd.func3 (by as_aux_lemma => kernel_rfl)
    (of_decide_eq_true (by as_aux_lemma => kernel_rfl)) (by unfold Func.isWrapper; first | (rw [if_pos (by decide +kernel)]; kernel_rfl) | (rw [if_neg (by decide +kernel)]; exact ⟨rfl, rfl⟩))
    (fun os started H enc _ => lifted_FnExactSameFields os started H enc)
set_option maxHeartbeats 4000000 in
theorem holds_FnExactSameFieldsCard : Rows.FnExactSameFieldsCardSaid :=
  Claim7.holds_tied_plain_at .later [] [.data, .pinned] true (true, "c7085f3e2e44c065c9c42405b29ce271b32a0d9a161dc24b364064584e701bba") true row_FnExactSameFields (fun _ h => by cases h) (by as_aux_lemma => kernel_rfl) (fun _ h => by cases h) fnExactSameFields_row_tie rfl ⟨rfl, rfl⟩ (by as_aux_lemma => kernel_rfl) rfl
    (fun f fn hf hfn => by
      obtain rfl : f = 3 := Option.some.inj ((show Tryd.prog.funcNamed "loop.example/g00421/laws.FnExactSameFields" = some 3 by as_aux_lemma => kernel_rfl).symm.trans hf) |>.symm
      obtain rfl : fn = Tryd.f3 := (Option.some.inj (Tryd.func3.symm.trans hfn)).symm
      exact ⟨by as_aux_lemma => kernel_rfl, fun j t ht => by
        have hm : t ∈ Tryd.f3.params.toList := by simpa using Array.mem_of_getElem? ht
        have hall : (Tryd.f3.params.toList.all fun u => !Tryd.prog.wantsStandIn u) = true := by as_aux_lemma => kernel_rfl
        exact (show Tryd.prog.wantsStandIn t = false by simpa using List.all_eq_true.1 hall t hm)⟩)
    (by as_aux_lemma => kernel_rfl)
#print axioms holds_FnExactSameFieldsCard
end Go.Proofs.YtfjehhdahpbbgaaDoor
