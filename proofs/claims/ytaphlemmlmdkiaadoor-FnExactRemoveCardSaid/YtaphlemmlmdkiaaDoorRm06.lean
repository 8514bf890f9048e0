/- Lemmas for the statement of the last text of this claim: texts joined. -/
import Derived.Test.YtaphlemmlmdkiaaDoorRm01
import Derived.Test.YtaphlemmlmdkiaaDoorRm02
import Derived.Test.YtaphlemmlmdkiaaDoorRm03
import Derived.Test.YtaphlemmlmdkiaaDoorRm05
import Derived.WalkSpells
import Derived.Lib.Hide
import Derived.Deep.RegionWith
import Derived.Deep.DeepCutAuto
namespace Go.Proofs.YtaphlemmlmdkiaaDoor
set_option linter.unusedSimpArgs false
set_option linter.unusedVariables false
set_option maxRecDepth 100000
open Go.RowKit Go.Shelf
set_option maxHeartbeats 16000000 in
theorem turn_any (w0 : World) (hE0 : EnvD w0) (g : Nat) (cb : Array Value) (f : V → ByteArray → Option V) (CB : CBy w0 g cb f) : ∀ (r : List ByteArray) (s : ByteArray) (t : V) (sl vs : Value) (w : World), (∀ x ∈ s :: r, x.size ≤ 1048576) → r.length ≤ 1048576 → t.wf → t.sz ≤ 1048576 → RepS w0 sl t.kids → RepSs w0 vs (s :: r) → Below w0.heap.size w0 w →
    Calls Tryd.prog 37 #[t.agg sl, vs, .func (.func g) #[] cb] w (OptRet w0.heap.size (turnV f t (s :: r)) w) := by
  intro r
  induction r with
  | nil =>
    intro s t sl vs w hs _ hwf hz hr hv hw
    exact turn_one w0 g cb f CB s (hs s (by simp)) t sl vs w hwf hz hr hv hw
  | cons s2 r ih =>
  intro s t sl vs w hs hrl hwf hz hr hv hw
  have hl : t.kids.length ≤ 1048576 := by have := szs_length t.kids; have := V.sz_eq t; omega
  obtain ⟨a, b, off, cap, rfl, ha, hc, hm, sls, hel⟩ := hr.opened
  obtain ⟨sa, sb, so, sc, rfl, hsa, hsc, hsm, hcell⟩ := id hv
  obtain ⟨rfl, hsb⟩ := hsa (by simp)
  have hc0 := (hcell 0 (by simp)).1
  have HV2 := Lib.hid (show RepSs w0 (.slice (some ⟨sb, so + 1, none⟩) (s2 :: r).length (sc - 1)) (s2 :: r) from ⟨_, sb, so + 1, sc - 1, rfl, fun _ => ⟨rfl, hsb⟩, by simp at hsc ⊢; omega, by omega, fun i hi => by
    have := hcell (i + 1) (by simp at hi ⊢; omega)
    rw [show so + (i + 1) = so + 1 + i by omega] at this
    exact this⟩)
  have HA := Lib.hid ha; have HEL := Lib.hid hel
  have KA := Lib.hid (fun (W : World) (hW : Below w.heap.size w W) => kidAt_any w0 _ t hwf hr hl s (hs s (by simp)) W (hw.trans (hW.mono hw.size)) ((hE0.keep hw).keep hW))
  have IH := Lib.hid (fun (j : Nat) (hj : j < t.kids.length) (s1 : Value) (W : World) (h1 : t.kids[j].wf) (h2 : RepS w0 s1 t.kids[j].kids) (hW : Below w0.heap.size w0 W) => ih s2 t.kids[j] s1 _ W (fun x hx => hs x (List.mem_cons_of_mem _ hx)) (by simp at hrl; omega) h1 (by have := szs_mem (List.getElem_mem hj); have := V.sz_eq t; omega) h2 HV2.out hW)
  have hkr := kidI_range t s
  have HNO := Lib.hid (show kidI t s < 0 → turnV f t (s :: s2 :: r) = none from fun h => by rw [turnV, if_pos h])
  have HYES := Lib.hid (show 0 ≤ kidI t s → turnV f (t.kids.getD (kidI t s).toNat V0) (s2 :: r) = none → turnV f t (s :: s2 :: r) = none from fun h h2 => by rw [turnV, if_neg (by omega), h2])
  have HY2 := Lib.hid (show ∀ y, 0 ≤ kidI t s → turnV f (t.kids.getD (kidI t s).toNat V0) (s2 :: r) = some y → turnV f t (s :: s2 :: r) = some (.mk t.k t.n t.e t.s (t.kids.set (kidI t s).toNat y)) from fun y h h2 => by rw [turnV, if_neg (by omega), h2]; rfl)
  have HWF := Lib.hid (show ∀ ks, (V.mk t.k t.n t.e t.s ks).wf from fun ks => hwf)
  have HRP := Lib.hid hr.toF
  have BV := Lib.hid ((Box.new w t.k t.n t.e t.s (.slice a t.kids.length cap) 30).alloc (.cells #[.int .i64 0, .int .i64 0, .int .i64 0, .string ⟨#[]⟩, .slice none 0 0] 30))
  have BZ := Lib.hid (Box.new (w.alloc (.cells #[.int .i64 t.k, .int .i64 t.n, .int .i64 t.e, .string t.s, .slice a t.kids.length cap] 30)) 0 0 0 ⟨#[]⟩ (.slice none 0 0) 30)
  obtain ⟨W0, hW0⟩ : ∃ W0, W0 = (w.alloc (.cells #[.int .i64 t.k, .int .i64 t.n, .int .i64 t.e, .string t.s, .slice a t.kids.length cap] 30)).alloc (.cells #[.int .i64 0, .int .i64 0, .int .i64 0, .string ⟨#[]⟩, .slice none 0 0] 30) := ⟨_, rfl⟩
  have hz0 : W0.heap.size = w.heap.size + 2 := by rw [hW0]; simp
  have HB0 := Lib.hid (show Below w.heap.size w W0 from by rw [hW0]; exact (by (with_reducible (repeat' (first | exact Below.refl _ _ | refine below_alloc ?_ _ ?_ | refine Below.setCell ?_ ?_ _ | refine Below.drew ?_ | refine Go.below_drewN ?_ _ | refine below_step ?_ (by assumption) ?_ | refine below_mark ?_ (by assumption) ?_))); all_goals (first | omega | (simp; done) | (simp; omega))))
  rw [← hW0] at BV BZ
  rw [show (w.alloc (.cells #[.int .i64 t.k, .int .i64 t.n, .int .i64 t.e, .string t.s, .slice a t.kids.length cap] 30)).heap.size = w.heap.size + 1 by simp] at BZ
  have HW := Lib.hid hw
  have HWW := Lib.hid (hw.trans (HB0.out.mono hw.size))
  have hsbw : sb < w.heap.size := Nat.lt_of_lt_of_le hsb hw.size
  have SC0 := Lib.hid (show W0.cell? ⟨sb, so, none⟩ = some (.string s) from by
    have h := (HWW.out.cell (p := ⟨sb, so, none⟩) hsb).trans hc0
    exact h)
  have hL2 : 2 ≤ (s :: s2 :: r).length := by simp
  have hLs : (s2 :: r).length = (s :: s2 :: r).length - 1 := by simp
  rw [hLs] at IH
  clear hcell hc0 hr hwf hw hsa ih ha hel hE0 hv HV2 hs hrl hz hLs CB
  generalize (s :: s2 :: r).length = L at *
  have hL0 : 0 < L := by omega
  have hL1 : (1 : Int) ≤ (L : Int) := by omega
  have hsc1 : ¬ sc = 1 := by omega
  have tL : ((L : Int) == 1) = false := by rw [beq_eq_false_iff_ne]; omega
  generalize turnV f t (s :: s2 :: r) = R at *
  generalize kidI t s = Q at *
  unfold V.agg at *
  generalize t.kids = ts at *
  generalize t.k = k at *
  generalize t.n = n at *
  generalize t.e = ee at *
  generalize t.s = st at *
  go_enter Tryd.func37, Tryd.ntmps37
  go_upto_region 1 with fail
  rw [← hW0]
  clear hW0
  go_upto_region 3 with fail
  have BVQ := BV
  have SC := SC0
  have hsbq : sb < W0.heap.size := by omega
  have TCB := Lib.hid (show ∀ W' : World, W'.heap[w.heap.size]? = W0.heap[w.heap.size]? → W'.heap[sb]? = W0.heap[sb]? → W'.cell? ⟨w.heap.size, 0, none⟩ = some (.int .i64 k) ∧ W'.cell? ⟨w.heap.size, 1, none⟩ = some (.int .i64 n) ∧ W'.cell? ⟨w.heap.size, 2, none⟩ = some (.int .i64 ee) ∧ W'.cell? ⟨w.heap.size, 3, none⟩ = some (.string st) ∧ W'.cell? ⟨w.heap.size, 4, none⟩ = some (.slice a ts.length cap) ∧ W'.cell? ⟨sb, so, none⟩ = some (.string s) from fun W' h1 h2 => by
    obtain ⟨q0, q1, q2, q3, q4⟩ := Box.cells (show Box W' w.heap.size k n ee st (.slice a ts.length cap) 30 from h1.trans BVQ.out)
    exact ⟨q0, q1, q2, q3, q4, by rw [show W'.cell? ⟨sb, so, none⟩ = W0.cell? ⟨sb, so, none⟩ from World.cell?_of_block h2]; exact SC.out⟩)
  have TC := Lib.hid (fun (W' : World) (h : Below W0.heap.size W0 W') => TCB.out W' (h.block w.heap.size BVQ.out.lt) (h.block sb hsbq))
  have HB9 := Lib.hid (show Below W0.heap.size W0 W0.drew from (Below.refl _ _).drew)
  refine wp_region_held_drew (S := fun W' => W'.cell? ⟨w.heap.size, 0, none⟩ = some (.int .i64 k) ∧ W'.cell? ⟨w.heap.size, 1, none⟩ = some (.int .i64 n) ∧ W'.cell? ⟨w.heap.size, 2, none⟩ = some (.int .i64 ee) ∧ W'.cell? ⟨w.heap.size, 3, none⟩ = some (.string st) ∧ W'.cell? ⟨w.heap.size, 4, none⟩ = some (.slice a ts.length cap) ∧ W'.cell? ⟨sb, so, none⟩ = some (.string s)) (by kernel_rfl) (TC.out _ HB9.out) (fun hHeld => ?_)
  refine wpAnyH_take (i := 0) (v := ?_) rfl (by kernel_rfl) (by kernel_rfl) (by kernel_rfl) (fun _ _ _ h => h) (Or.inl ⟨by rfl, ?_⟩) hHeld ?_
  rotate_left
  · (intro w hSw; (try dsimp only at hSw); (try simp only [List.getElem_toArray, List.getElem_cons_succ, List.getElem_cons_zero]); go_simp <;> with_reducible rfl)
  try simp only [List.getElem_toArray, List.getElem_cons_succ, List.getElem_cons_zero, Act.put, List.setIfInBounds_toArray, List.set_cons_zero, List.set_cons_succ]
  refine wpAnyH_take (i := 1) (v := ?_) rfl (by kernel_rfl) (by kernel_rfl) (by kernel_rfl) (fun _ _ _ h => h) (Or.inl ⟨by rfl, ?_⟩) hHeld ?_
  rotate_left
  · (intro w hSw; (try dsimp only at hSw); (try simp only [List.getElem_toArray, List.getElem_cons_succ, List.getElem_cons_zero]); go_simp <;> with_reducible rfl)
  try simp only [List.getElem_toArray, List.getElem_cons_succ, List.getElem_cons_zero, Act.put, List.setIfInBounds_toArray, List.set_cons_zero, List.set_cons_succ]
  refine wpAnyH_take (i := 2) (v := ?_) rfl (by kernel_rfl) (by kernel_rfl) (by kernel_rfl) (fun _ _ _ h => h) (Or.inl ⟨by rfl, ?_⟩) hHeld ?_
  rotate_left
  · (intro w hSw; (try dsimp only at hSw); (try simp only [List.getElem_toArray, List.getElem_cons_succ, List.getElem_cons_zero]); go_simp <;> with_reducible rfl)
  try simp only [List.getElem_toArray, List.getElem_cons_succ, List.getElem_cons_zero, Act.put, List.setIfInBounds_toArray, List.set_cons_zero, List.set_cons_succ]
  refine wpAnyH_take (i := 3) (v := ?_) rfl (by kernel_rfl) (by kernel_rfl) (by kernel_rfl) (fun _ _ _ h => h) (Or.inl ⟨by rfl, ?_⟩) hHeld ?_
  rotate_left
  · (intro w hSw; (try dsimp only at hSw); (try simp only [List.getElem_toArray, List.getElem_cons_succ, List.getElem_cons_zero]); go_simp <;> with_reducible rfl)
  try simp only [List.getElem_toArray, List.getElem_cons_succ, List.getElem_cons_zero, Act.put, List.setIfInBounds_toArray, List.set_cons_zero, List.set_cons_succ]
  refine wpAnyH_ready (rs := [4]) (by kernel_rfl) (by simp) ?_
  refine AllReadyH.cons rfl (fun K hK => ?_) ?_
  · have CL := Lib.hid (KA.out W0.drew (HB0.out.trans (HB9.out.mono HB0.out.size)))
    go_simp
    refine CL.out.mono ?_
    rintro e1 w1 ⟨rfl, hb1⟩
    have HB1 := Lib.hid (HB9.out.trans (hb1.mono HB9.out.size))
    clear CL hb1
    refine hK.out _ _ ?_ (fun hHeld => ?_)
    · exact TC.out _ HB1.out
    clear hK K
    try simp only [List.getElem_toArray, List.getElem_cons_succ, List.getElem_cons_zero, Act.put, List.setIfInBounds_toArray, List.set_cons_zero, List.set_cons_succ]
    refine wpAnyH_take (i := 5) (v := ?_) rfl (by kernel_rfl) (by kernel_rfl) (by kernel_rfl) (fun _ _ _ h => h) (Or.inl ⟨by rfl, ?_⟩) hHeld ?_
    rotate_left
    · (intro w hSw; (try dsimp only at hSw); (try simp only [List.getElem_toArray, List.getElem_cons_succ, List.getElem_cons_zero]); go_simp <;> with_reducible rfl)
    try simp only [List.getElem_toArray, List.getElem_cons_succ, List.getElem_cons_zero, Act.put, List.setIfInBounds_toArray, List.set_cons_zero, List.set_cons_succ]
    refine wpAnyH_done (by kernel_rfl) ?_ _
    clear hHeld TC TCB HB9
    skip
    have BV1 := Lib.hid ((HB1.out.block w.heap.size BV.out.lt).trans BV.out)
    have BZ1 := Lib.hid ((HB1.out.block (w.heap.size + 1) BZ.out.lt).trans BZ.out)
    have hzz := HB1.out.size
    have HW1 := Lib.hid (HWW.out.trans (HB1.out.mono HWW.out.size))
    by_cases hq : Q < 0
    · have HRN := Lib.hid (HNO.out hq)
      clear HNO HYES HY2 IH KA
      obtain ⟨z0, z1, z2, z3, z4⟩ := Box.cells BZ1.out
      have zf0 := Box.free (i := 0) BZ1.out; have zf1 := Box.free (i := 1) BZ1.out; have zf2 := Box.free (i := 2) BZ1.out; have zf3 := Box.free (i := 3) BZ1.out; have zf4 := Box.free (i := 4) BZ1.out
      have HF := Lib.hid (show ∀ v0 v1 v2 v3 v4, OptRet w0.heap.size R w (.returned (.tuple #[.agg #[.int .i64 0, .int .i64 0, .int .i64 0, .string ⟨#[]⟩, .slice none 0 0], .bool false])) (set5 w1 (w.heap.size + 1) v0 v1 v2 v3 v4) from fun v0 v1 v2 v3 v4 => by
        rw [HRN.out]; exact OptRet.none (HB0.out.trans (HB1.out.mono (by omega))) v0 v1 v2 v3 v4)
      go_wp2_with fail
      exact bodyPost_ret (v := .tuple #[.agg #[.int .i64 0, .int .i64 0, .int .i64 0, .string ⟨#[]⟩, .slice none 0 0], .bool false]) (by simp [results, Tryd.results37, go_sem, z0, z1, z2, z3, z4]) rfl (HF.out _ _ _ _ _)
    have hq0 : 0 ≤ Q := by omega
    obtain ⟨j, rfl⟩ := Int.eq_ofNat_of_zero_le hq0
    have hj : j < ts.length := by omega
    clear hq
    obtain ⟨rfl, hbb⟩ := HA.out (by intro e; rw [e] at hj; simp at hj)
    have hbw : b < w1.heap.size := Nat.lt_of_lt_of_le hbb HW1.out.size
    have HK5 := Lib.hid ((HEL.out j hj).1.keep (HW1.out.block b hbb))
    obtain ⟨kr1, kr2⟩ := (HEL.out j hj).2
    obtain ⟨ka, kc, hks⟩ := kr2.slice
    rw [hks] at HK5 kr2
    have HY := Lib.hid (HYES.out hq0)
    have HYS := Lib.hid (fun y => HY2.out y hq0)
    have IHJ := Lib.hid (fun (W : World) (hW : Below w0.heap.size w0 W) => IH.out j hj (.slice ka (ts[j]'hj).kids.length kc) W kr1 kr2 hW)
    clear HNO HYES HY2 IH KA hks kr1 kr2 HEL
    have hg : ts.getD j V0 = ts[j] := by rw [List.getD_eq_getElem?_getD, List.getElem?_eq_getElem hj]; rfl
    rw [Int.toNat_natCast, hg] at HY HYS
    clear hg
    generalize hkid : ts[j] = kid at *
    clear hkid
    generalize turnV f kid (s2 :: r) = RK at *
    go_upto_region 6 with fail
    have TCB := Lib.hid (show ∀ W' : World, W'.heap[w.heap.size]? = w1.heap[w.heap.size]? → W'.heap[b]? = w1.heap[b]? → W'.cell? ⟨w.heap.size, 4, none⟩ = some (.slice (some ⟨b, off, none⟩) ts.length cap) ∧ W'.cell? ⟨b, off + j * 5, none⟩ = some (.int .i64 kid.k) ∧ W'.cell? ⟨b, off + j * 5 + 1, none⟩ = some (.int .i64 kid.n) ∧ W'.cell? ⟨b, off + j * 5 + 2, none⟩ = some (.int .i64 kid.e) ∧ W'.cell? ⟨b, off + j * 5 + 3, none⟩ = some (.string kid.s) ∧ W'.cell? ⟨b, off + j * 5 + 4, none⟩ = some (.slice ka kid.kids.length kc) from fun W' h1 h2 => by
      obtain ⟨-, -, -, -, q4⟩ := Box.cells (show Box W' w.heap.size k n ee st (.slice (some ⟨b, off, none⟩) ts.length cap) 30 from h1.trans BV1.out)
      obtain ⟨c0, c1, c2, c3, c4⟩ := HK5.out.keep h2
      exact ⟨q4, c0, c1, c2, c3, c4⟩)
    have TC := Lib.hid (fun (W' : World) (h : Below w1.heap.size w1 W') => TCB.out W' (h.block w.heap.size (Box.lt BV1.out)) (h.block b hbw))
    have HB9 := Lib.hid (show Below w1.heap.size w1 w1.drew from (Below.refl _ _).drew)
    refine wp_region_held_drew (S := fun W' => W'.cell? ⟨w.heap.size, 4, none⟩ = some (.slice (some ⟨b, off, none⟩) ts.length cap) ∧ W'.cell? ⟨b, off + j * 5, none⟩ = some (.int .i64 kid.k) ∧ W'.cell? ⟨b, off + j * 5 + 1, none⟩ = some (.int .i64 kid.n) ∧ W'.cell? ⟨b, off + j * 5 + 2, none⟩ = some (.int .i64 kid.e) ∧ W'.cell? ⟨b, off + j * 5 + 3, none⟩ = some (.string kid.s) ∧ W'.cell? ⟨b, off + j * 5 + 4, none⟩ = some (.slice ka kid.kids.length kc)) (by kernel_rfl) (TC.out _ HB9.out) (fun hHeld => ?_)
    refine wpAnyH_take (i := 0) (v := ?_) rfl (by kernel_rfl) (by kernel_rfl) (by kernel_rfl) (fun _ _ _ h => h) (Or.inl ⟨by rfl, ?_⟩) hHeld ?_
    rotate_left
    · (intro w hSw; (try dsimp only at hSw); (try simp only [List.getElem_toArray, List.getElem_cons_succ, List.getElem_cons_zero]); go_simp <;> with_reducible rfl)
    try simp only [List.getElem_toArray, List.getElem_cons_succ, List.getElem_cons_zero, Act.put, List.setIfInBounds_toArray, List.set_cons_zero, List.set_cons_succ]
    refine wpAnyH_take (i := 1) (v := ?_) rfl (by kernel_rfl) (by kernel_rfl) (by kernel_rfl) (fun _ _ _ h => h) (Or.inl ⟨by rfl, ?_⟩) hHeld ?_
    rotate_left
    · (intro w hSw; (try dsimp only at hSw); (try simp only [List.getElem_toArray, List.getElem_cons_succ, List.getElem_cons_zero]); go_simp <;> with_reducible rfl)
    try simp only [List.getElem_toArray, List.getElem_cons_succ, List.getElem_cons_zero, Act.put, List.setIfInBounds_toArray, List.set_cons_zero, List.set_cons_succ]
    refine wpAnyH_take (i := 2) (v := ?_) rfl (by kernel_rfl) (by kernel_rfl) (by kernel_rfl) (fun _ _ _ h => h) (Or.inl ⟨by rfl, ?_⟩) hHeld ?_
    rotate_left
    · (intro w hSw; (try dsimp only at hSw); (try simp only [List.getElem_toArray, List.getElem_cons_succ, List.getElem_cons_zero]); go_simp <;> with_reducible rfl)
    try simp only [List.getElem_toArray, List.getElem_cons_succ, List.getElem_cons_zero, Act.put, List.setIfInBounds_toArray, List.set_cons_zero, List.set_cons_succ]
    refine wpAnyH_take (i := 3) (v := ?_) rfl (by kernel_rfl) (by kernel_rfl) (by kernel_rfl) (fun _ _ _ h => h) (Or.inl ⟨by rfl, ?_⟩) hHeld ?_
    rotate_left
    · (intro w hSw; (try dsimp only at hSw); (try simp only [List.getElem_toArray, List.getElem_cons_succ, List.getElem_cons_zero]); go_simp <;> with_reducible rfl)
    try simp only [List.getElem_toArray, List.getElem_cons_succ, List.getElem_cons_zero, Act.put, List.setIfInBounds_toArray, List.set_cons_zero, List.set_cons_succ]
    refine wpAnyH_take (i := 4) (v := ?_) rfl (by kernel_rfl) (by kernel_rfl) (by kernel_rfl) (fun _ _ _ h => h) (Or.inl ⟨by rfl, ?_⟩) hHeld ?_
    rotate_left
    · (intro w hSw; (try dsimp only at hSw); (try simp only [List.getElem_toArray, List.getElem_cons_succ, List.getElem_cons_zero]); go_simp <;> with_reducible rfl)
    try simp only [List.getElem_toArray, List.getElem_cons_succ, List.getElem_cons_zero, Act.put, List.setIfInBounds_toArray, List.set_cons_zero, List.set_cons_succ]
    refine wpAnyH_take (i := 5) (v := ?_) rfl (by kernel_rfl) (by kernel_rfl) (by kernel_rfl) (fun _ _ _ h => h) (Or.inl ⟨by rfl, ?_⟩) hHeld ?_
    rotate_left
    · (intro w hSw; (try dsimp only at hSw); (try simp only [List.getElem_toArray, List.getElem_cons_succ, List.getElem_cons_zero]); go_simp <;> with_reducible rfl)
    try simp only [List.getElem_toArray, List.getElem_cons_succ, List.getElem_cons_zero, Act.put, List.setIfInBounds_toArray, List.set_cons_zero, List.set_cons_succ]
    refine wpAnyH_take (i := 6) (v := ?_) rfl (by kernel_rfl) (by kernel_rfl) (by kernel_rfl) (fun _ _ _ h => h) (Or.inl ⟨by rfl, ?_⟩) hHeld ?_
    rotate_left
    · (intro w hSw; (try dsimp only at hSw); (try simp only [List.getElem_toArray, List.getElem_cons_succ, List.getElem_cons_zero]); go_simp <;> with_reducible rfl)
    try simp only [List.getElem_toArray, List.getElem_cons_succ, List.getElem_cons_zero, Act.put, List.setIfInBounds_toArray, List.set_cons_zero, List.set_cons_succ]
    refine wpAnyH_take (i := 7) (v := ?_) rfl (by kernel_rfl) (by kernel_rfl) (by kernel_rfl) (fun _ _ _ h => h) (Or.inl ⟨by rfl, ?_⟩) hHeld ?_
    rotate_left
    · (intro w hSw; (try dsimp only at hSw); (try simp only [List.getElem_toArray, List.getElem_cons_succ, List.getElem_cons_zero]); go_simp <;> with_reducible rfl)
    try simp only [List.getElem_toArray, List.getElem_cons_succ, List.getElem_cons_zero, Act.put, List.setIfInBounds_toArray, List.set_cons_zero, List.set_cons_succ]
    cases RK with
    | none =>
      refine wpAnyH_ready (rs := [8, 12]) (by kernel_rfl) (by simp) ?_
      refine AllReadyH.cons rfl (fun K hK => ?_) ?_
      · have CL := Lib.hid (IHJ.out w1.drew (HW1.out.trans (HB9.out.mono HW1.out.size)))
        unfold OptRet at CL
        dsimp only at CL
        try unfold V.agg at CL
        go_simp
        refine CL.out.mono ?_
        rintro e5 w5 ⟨rfl, hb5⟩
        skip
        have HD1 := Lib.hid (HB9.out.trans (hb5.mono HB9.out.size))
        skip
        have HSZ1 := Lib.hid (show w1.drew.heap.size ≤ w5.heap.size from hb5.size)
        clear CL hb5
        refine hK.out _ _ ?_ (fun hHeld => ?_)
        · exact TC.out _ HD1.out
        clear hK K
        try simp only [List.getElem_toArray, List.getElem_cons_succ, List.getElem_cons_zero, Act.put, List.setIfInBounds_toArray, List.set_cons_zero, List.set_cons_succ]
        refine wpAnyH_take (i := 9) (v := ?_) rfl (by kernel_rfl) (by kernel_rfl) (by kernel_rfl) (fun _ _ _ h => h) (Or.inl ⟨by rfl, ?_⟩) hHeld ?_
        rotate_left
        · (intro w hSw; (try dsimp only at hSw); (try simp only [List.getElem_toArray, List.getElem_cons_succ, List.getElem_cons_zero]); go_simp <;> with_reducible rfl)
        try simp only [List.getElem_toArray, List.getElem_cons_succ, List.getElem_cons_zero, Act.put, List.setIfInBounds_toArray, List.set_cons_zero, List.set_cons_succ]
        refine wpAnyH_take (i := 10) (v := ?_) rfl (by kernel_rfl) (by kernel_rfl) (by kernel_rfl) (fun _ _ _ h => h) (Or.inl ⟨by rfl, ?_⟩) hHeld ?_
        rotate_left
        · (intro w hSw; (try dsimp only at hSw); (try simp only [List.getElem_toArray, List.getElem_cons_succ, List.getElem_cons_zero]); go_simp <;> with_reducible rfl)
        try simp only [List.getElem_toArray, List.getElem_cons_succ, List.getElem_cons_zero, Act.put, List.setIfInBounds_toArray, List.set_cons_zero, List.set_cons_succ]
        refine wpAnyH_take (i := 11) (v := ?_) rfl (by kernel_rfl) (by kernel_rfl) (by kernel_rfl) (fun _ _ _ h => h) (Or.inl ⟨by rfl, ?_⟩) hHeld ?_
        rotate_left
        · (intro w hSw; (try dsimp only at hSw); (try simp only [List.getElem_toArray, List.getElem_cons_succ, List.getElem_cons_zero]); go_simp <;> with_reducible rfl)
        try simp only [List.getElem_toArray, List.getElem_cons_succ, List.getElem_cons_zero, Act.put, List.setIfInBounds_toArray, List.set_cons_zero, List.set_cons_succ]
        refine wpAnyH_ready (rs := [12]) (by kernel_rfl) (by simp) ?_
        refine AllReadyH.cons rfl (fun K hK => ?_) ?_
        · have HD2 := Lib.hid (show Below w1.heap.size w1 (w5.alloc (.cells #[.int .i64 0, .int .i64 0, .int .i64 0, .string ⟨#[]⟩, .slice none 0 0] 30)) from HD1.out.alloc HD1.out.size _)
          have HC2 := Lib.hid (Box.new w5 0 0 0 ⟨#[]⟩ (.slice none 0 0) 30)
          go_simp
          refine hK.out _ _ ?_ (fun hHeld => ?_)
          · exact TC.out _ HD2.out
          clear hK K
          try simp only [List.getElem_toArray, List.getElem_cons_succ, List.getElem_cons_zero, Act.put, List.setIfInBounds_toArray, List.set_cons_zero, List.set_cons_succ]
          refine wpAnyH_ready (rs := [13]) (by kernel_rfl) (by simp) ?_
          refine AllReadyH.cons rfl (fun K hK => ?_) ?_
          · have hcb : w1.heap.size ≤ w5.heap.size := by have := HD1.out.size; exact this
            obtain ⟨z0, z1, z2, z3, z4⟩ := Box.cells HC2.out
            have zf0 := Box.free (i := 0) HC2.out; have zf1 := Box.free (i := 1) HC2.out; have zf2 := Box.free (i := 2) HC2.out; have zf3 := Box.free (i := 3) HC2.out; have zf4 := Box.free (i := 4) HC2.out
            go_simp
            obtain ⟨W6, hW6⟩ : ∃ W6, W6 = w5.alloc (.cells #[.int .i64 0, .int .i64 0, .int .i64 0, .string ⟨#[]⟩, .slice none 0 0] 30) := ⟨_, rfl⟩
            have HB6 := Lib.hid (show Below w1.heap.size w1 W6 from by rw [hW6]; exact HD1.out.alloc HD1.out.size _)
            have HC6 := Lib.hid (show Box W6 w5.heap.size 0 0 0 ⟨#[]⟩ (.slice none 0 0) 30 from by rw [hW6]; exact Box.new w5 _ _ _ _ _ _)
            rw [← hW6]
            clear hW6
            refine hK.out _ _ ?_ (fun hHeld => ?_)
            · exact TC.out _ HB6.out
            clear hK K
            try simp only [List.getElem_toArray, List.getElem_cons_succ, List.getElem_cons_zero, Act.put, List.setIfInBounds_toArray, List.set_cons_zero, List.set_cons_succ]
            refine wpAnyH_take (i := 14) (v := ?_) rfl (by kernel_rfl) (by kernel_rfl) (by kernel_rfl) (fun _ _ _ h => h) (Or.inl ⟨by rfl, ?_⟩) hHeld ?_
            rotate_left
            · (intro w hSw; (try dsimp only at hSw); (try simp only [List.getElem_toArray, List.getElem_cons_succ, List.getElem_cons_zero]); go_simp <;> with_reducible rfl)
            try simp only [List.getElem_toArray, List.getElem_cons_succ, List.getElem_cons_zero, Act.put, List.setIfInBounds_toArray, List.set_cons_zero, List.set_cons_succ]
            refine wpAnyH_done (by kernel_rfl) ?_ _
            have BV6 := Lib.hid ((HB6.out.block w.heap.size (Box.lt BV1.out)).trans BV1.out)
            have BZ6 := Lib.hid ((HB6.out.block (w.heap.size + 1) (Box.lt BZ1.out)).trans BZ1.out)
            have hz6 := HB6.out.size
            have HB16 := Lib.hid (show Below w.heap.size w W6 from HB0.out.trans ((show Below w.heap.size W0 w1 from HB1.out.mono (by omega)).trans (show Below w.heap.size w1 W6 from HB6.out.mono (by omega))))
            clear hHeld TC TCB HB9 z0 z1 z2 z3 z4 zf0 zf1 zf2 zf3 zf4
            have HRN := Lib.hid (HY.out rfl)
            obtain ⟨z0, z1, z2, z3, z4⟩ := Box.cells BZ6.out
            have zf0 := Box.free (i := 0) BZ6.out; have zf1 := Box.free (i := 1) BZ6.out; have zf2 := Box.free (i := 2) BZ6.out; have zf3 := Box.free (i := 3) BZ6.out; have zf4 := Box.free (i := 4) BZ6.out
            have HF := Lib.hid (show ∀ v0 v1 v2 v3 v4, OptRet w0.heap.size R w (.returned (.tuple #[.agg #[.int .i64 0, .int .i64 0, .int .i64 0, .string ⟨#[]⟩, .slice none 0 0], .bool false])) (set5 W6 (w.heap.size + 1) v0 v1 v2 v3 v4) from fun v0 v1 v2 v3 v4 => by
              rw [HRN.out]; exact OptRet.none (HB16.out) v0 v1 v2 v3 v4)
            go_wp2_with fail
            exact bodyPost_ret (v := .tuple #[.agg #[.int .i64 0, .int .i64 0, .int .i64 0, .string ⟨#[]⟩, .slice none 0 0], .bool false]) (by simp [results, Tryd.results37, go_sem, z0, z1, z2, z3, z4]) rfl (HF.out _ _ _ _ _)
          exact AllReadyH.nil
        exact AllReadyH.nil
      refine AllReadyH.cons rfl (fun K hK => ?_) ?_
      · have HD3 := Lib.hid (show Below w1.heap.size w1 (w1.drew.alloc (.cells #[.int .i64 0, .int .i64 0, .int .i64 0, .string ⟨#[]⟩, .slice none 0 0] 30)) from HB9.out.alloc HB9.out.size _)
        have HC3 := Lib.hid (Box.new w1.drew 0 0 0 ⟨#[]⟩ (.slice none 0 0) 30)
        go_simp
        refine hK.out _ _ ?_ (fun hHeld => ?_)
        · exact TC.out _ HD3.out
        clear hK K
        try simp only [List.getElem_toArray, List.getElem_cons_succ, List.getElem_cons_zero, Act.put, List.setIfInBounds_toArray, List.set_cons_zero, List.set_cons_succ]
        refine wpAnyH_ready (rs := [8]) (by kernel_rfl) (by simp) ?_
        refine AllReadyH.cons rfl (fun K hK => ?_) ?_
        · have CL := Lib.hid (IHJ.out (w1.drew.alloc (.cells #[.int .i64 0, .int .i64 0, .int .i64 0, .string ⟨#[]⟩, .slice none 0 0] 30)) (HW1.out.trans (HD3.out.mono HW1.out.size)))
          unfold OptRet at CL
          dsimp only at CL
          try unfold V.agg at CL
          go_simp
          refine CL.out.mono ?_
          rintro e5 w5 ⟨rfl, hb5⟩
          skip
          have HD4 := Lib.hid (HD3.out.trans (hb5.mono HD3.out.size))
          skip
          have HSZ4 := Lib.hid (show (w1.drew.alloc (.cells #[.int .i64 0, .int .i64 0, .int .i64 0, .string ⟨#[]⟩, .slice none 0 0] 30)).heap.size ≤ w5.heap.size from hb5.size)
          have HC4 := Lib.hid ((hb5.block w1.heap.size (Box.lt HC3.out)).trans HC3.out)
          clear CL hb5
          refine hK.out _ _ ?_ (fun hHeld => ?_)
          · exact TC.out _ HD4.out
          clear hK K
          try simp only [List.getElem_toArray, List.getElem_cons_succ, List.getElem_cons_zero, Act.put, List.setIfInBounds_toArray, List.set_cons_zero, List.set_cons_succ]
          refine wpAnyH_take (i := 9) (v := ?_) rfl (by kernel_rfl) (by kernel_rfl) (by kernel_rfl) (fun _ _ _ h => h) (Or.inl ⟨by rfl, ?_⟩) hHeld ?_
          rotate_left
          · (intro w hSw; (try dsimp only at hSw); (try simp only [List.getElem_toArray, List.getElem_cons_succ, List.getElem_cons_zero]); go_simp <;> with_reducible rfl)
          try simp only [List.getElem_toArray, List.getElem_cons_succ, List.getElem_cons_zero, Act.put, List.setIfInBounds_toArray, List.set_cons_zero, List.set_cons_succ]
          refine wpAnyH_take (i := 10) (v := ?_) rfl (by kernel_rfl) (by kernel_rfl) (by kernel_rfl) (fun _ _ _ h => h) (Or.inl ⟨by rfl, ?_⟩) hHeld ?_
          rotate_left
          · (intro w hSw; (try dsimp only at hSw); (try simp only [List.getElem_toArray, List.getElem_cons_succ, List.getElem_cons_zero]); go_simp <;> with_reducible rfl)
          try simp only [List.getElem_toArray, List.getElem_cons_succ, List.getElem_cons_zero, Act.put, List.setIfInBounds_toArray, List.set_cons_zero, List.set_cons_succ]
          refine wpAnyH_take (i := 11) (v := ?_) rfl (by kernel_rfl) (by kernel_rfl) (by kernel_rfl) (fun _ _ _ h => h) (Or.inl ⟨by rfl, ?_⟩) hHeld ?_
          rotate_left
          · (intro w hSw; (try dsimp only at hSw); (try simp only [List.getElem_toArray, List.getElem_cons_succ, List.getElem_cons_zero]); go_simp <;> with_reducible rfl)
          try simp only [List.getElem_toArray, List.getElem_cons_succ, List.getElem_cons_zero, Act.put, List.setIfInBounds_toArray, List.set_cons_zero, List.set_cons_succ]
          refine wpAnyH_ready (rs := [13]) (by kernel_rfl) (by simp) ?_
          refine AllReadyH.cons rfl (fun K hK => ?_) ?_
          · have hcb : w1.heap.size ≤ w1.heap.size := by exact Nat.le_refl _
            obtain ⟨z0, z1, z2, z3, z4⟩ := Box.cells HC4.out
            have zf0 := Box.free (i := 0) HC4.out; have zf1 := Box.free (i := 1) HC4.out; have zf2 := Box.free (i := 2) HC4.out; have zf3 := Box.free (i := 3) HC4.out; have zf4 := Box.free (i := 4) HC4.out
            go_simp
            obtain ⟨W6, hW6⟩ : ∃ W6, W6 = set5 w5 w1.heap.size (.int .i64 0) (.int .i64 0) (.int .i64 0) (.string ⟨#[]⟩) (.slice none 0 0) := ⟨_, rfl⟩
            have HB6 := Lib.hid (show Below w1.heap.size w1 W6 from by rw [hW6]; exact HD4.out.trans ((below_set5 _ _ _ _ _ _ _).mono (Nat.le_refl _)))
            have HC6 := Lib.hid (show Box W6 w1.heap.size 0 0 0 ⟨#[]⟩ (.slice none 0 0) 30 from by rw [hW6]; exact box_set5T HC4.out _ _ _ _ _)
            unfold set5 at hW6
            rw [← hW6]
            clear hW6
            refine hK.out _ _ ?_ (fun hHeld => ?_)
            · exact TC.out _ HB6.out
            clear hK K
            try simp only [List.getElem_toArray, List.getElem_cons_succ, List.getElem_cons_zero, Act.put, List.setIfInBounds_toArray, List.set_cons_zero, List.set_cons_succ]
            refine wpAnyH_take (i := 14) (v := ?_) rfl (by kernel_rfl) (by kernel_rfl) (by kernel_rfl) (fun _ _ _ h => h) (Or.inl ⟨by rfl, ?_⟩) hHeld ?_
            rotate_left
            · (intro w hSw; (try dsimp only at hSw); (try simp only [List.getElem_toArray, List.getElem_cons_succ, List.getElem_cons_zero]); go_simp <;> with_reducible rfl)
            try simp only [List.getElem_toArray, List.getElem_cons_succ, List.getElem_cons_zero, Act.put, List.setIfInBounds_toArray, List.set_cons_zero, List.set_cons_succ]
            refine wpAnyH_done (by kernel_rfl) ?_ _
            have BV6 := Lib.hid ((HB6.out.block w.heap.size (Box.lt BV1.out)).trans BV1.out)
            have BZ6 := Lib.hid ((HB6.out.block (w.heap.size + 1) (Box.lt BZ1.out)).trans BZ1.out)
            have hz6 := HB6.out.size
            have HB16 := Lib.hid (show Below w.heap.size w W6 from HB0.out.trans ((show Below w.heap.size W0 w1 from HB1.out.mono (by omega)).trans (show Below w.heap.size w1 W6 from HB6.out.mono (by omega))))
            clear hHeld TC TCB HB9 z0 z1 z2 z3 z4 zf0 zf1 zf2 zf3 zf4
            have HRN := Lib.hid (HY.out rfl)
            obtain ⟨z0, z1, z2, z3, z4⟩ := Box.cells BZ6.out
            have zf0 := Box.free (i := 0) BZ6.out; have zf1 := Box.free (i := 1) BZ6.out; have zf2 := Box.free (i := 2) BZ6.out; have zf3 := Box.free (i := 3) BZ6.out; have zf4 := Box.free (i := 4) BZ6.out
            have HF := Lib.hid (show ∀ v0 v1 v2 v3 v4, OptRet w0.heap.size R w (.returned (.tuple #[.agg #[.int .i64 0, .int .i64 0, .int .i64 0, .string ⟨#[]⟩, .slice none 0 0], .bool false])) (set5 W6 (w.heap.size + 1) v0 v1 v2 v3 v4) from fun v0 v1 v2 v3 v4 => by
              rw [HRN.out]; exact OptRet.none (HB16.out) v0 v1 v2 v3 v4)
            go_wp2_with fail
            exact bodyPost_ret (v := .tuple #[.agg #[.int .i64 0, .int .i64 0, .int .i64 0, .string ⟨#[]⟩, .slice none 0 0], .bool false]) (by simp [results, Tryd.results37, go_sem, z0, z1, z2, z3, z4]) rfl (HF.out _ _ _ _ _)
          exact AllReadyH.nil
        exact AllReadyH.nil
      exact AllReadyH.nil
    | some y =>
      refine wpAnyH_ready (rs := [8, 12]) (by kernel_rfl) (by simp) ?_
      refine AllReadyH.cons rfl (fun K hK => ?_) ?_
      · have CL := Lib.hid (IHJ.out w1.drew (HW1.out.trans (HB9.out.mono HW1.out.size)))
        unfold OptRet at CL
        dsimp only at CL
        try unfold V.agg at CL
        go_simp
        refine CL.out.mono ?_
        rintro e5 w5 ⟨sl5, rfl, ywf, hrep, hb5⟩
        obtain ⟨oa5, oc5, rfl⟩ := hrep.slice
        have HD5 := Lib.hid (HB9.out.trans (hb5.mono HB9.out.size))
        have HRP5 := Lib.hid hrep.bound
        have HSZ5 := Lib.hid (show w1.drew.heap.size ≤ w5.heap.size from hb5.size)
        clear CL hb5 hrep
        refine hK.out _ _ ?_ (fun hHeld => ?_)
        · exact TC.out _ HD5.out
        clear hK K
        try simp only [List.getElem_toArray, List.getElem_cons_succ, List.getElem_cons_zero, Act.put, List.setIfInBounds_toArray, List.set_cons_zero, List.set_cons_succ]
        refine wpAnyH_take (i := 9) (v := ?_) rfl (by kernel_rfl) (by kernel_rfl) (by kernel_rfl) (fun _ _ _ h => h) (Or.inl ⟨by rfl, ?_⟩) hHeld ?_
        rotate_left
        · (intro w hSw; (try dsimp only at hSw); (try simp only [List.getElem_toArray, List.getElem_cons_succ, List.getElem_cons_zero]); go_simp <;> with_reducible rfl)
        try simp only [List.getElem_toArray, List.getElem_cons_succ, List.getElem_cons_zero, Act.put, List.setIfInBounds_toArray, List.set_cons_zero, List.set_cons_succ]
        refine wpAnyH_take (i := 10) (v := ?_) rfl (by kernel_rfl) (by kernel_rfl) (by kernel_rfl) (fun _ _ _ h => h) (Or.inl ⟨by rfl, ?_⟩) hHeld ?_
        rotate_left
        · (intro w hSw; (try dsimp only at hSw); (try simp only [List.getElem_toArray, List.getElem_cons_succ, List.getElem_cons_zero]); go_simp <;> with_reducible rfl)
        try simp only [List.getElem_toArray, List.getElem_cons_succ, List.getElem_cons_zero, Act.put, List.setIfInBounds_toArray, List.set_cons_zero, List.set_cons_succ]
        refine wpAnyH_take (i := 11) (v := ?_) rfl (by kernel_rfl) (by kernel_rfl) (by kernel_rfl) (fun _ _ _ h => h) (Or.inl ⟨by rfl, ?_⟩) hHeld ?_
        rotate_left
        · (intro w hSw; (try dsimp only at hSw); (try simp only [List.getElem_toArray, List.getElem_cons_succ, List.getElem_cons_zero]); go_simp <;> with_reducible rfl)
        try simp only [List.getElem_toArray, List.getElem_cons_succ, List.getElem_cons_zero, Act.put, List.setIfInBounds_toArray, List.set_cons_zero, List.set_cons_succ]
        refine wpAnyH_ready (rs := [12]) (by kernel_rfl) (by simp) ?_
        refine AllReadyH.cons rfl (fun K hK => ?_) ?_
        · have HD6 := Lib.hid (show Below w1.heap.size w1 (w5.alloc (.cells #[.int .i64 0, .int .i64 0, .int .i64 0, .string ⟨#[]⟩, .slice none 0 0] 30)) from HD5.out.alloc HD5.out.size _)
          have HC6 := Lib.hid (Box.new w5 0 0 0 ⟨#[]⟩ (.slice none 0 0) 30)
          have HRP6 := Lib.hid (HRP5.out.stay (show Below w5.heap.size w5 (w5.alloc (.cells #[.int .i64 0, .int .i64 0, .int .i64 0, .string ⟨#[]⟩, .slice none 0 0] 30)) from (Below.refl _ _).alloc (Nat.le_refl _) _))
          go_simp
          refine hK.out _ _ ?_ (fun hHeld => ?_)
          · exact TC.out _ HD6.out
          clear hK K
          try simp only [List.getElem_toArray, List.getElem_cons_succ, List.getElem_cons_zero, Act.put, List.setIfInBounds_toArray, List.set_cons_zero, List.set_cons_succ]
          refine wpAnyH_ready (rs := [13]) (by kernel_rfl) (by simp) ?_
          refine AllReadyH.cons rfl (fun K hK => ?_) ?_
          · have hcb : w1.heap.size ≤ w5.heap.size := by have := HD5.out.size; exact this
            obtain ⟨z0, z1, z2, z3, z4⟩ := Box.cells HC6.out
            have zf0 := Box.free (i := 0) HC6.out; have zf1 := Box.free (i := 1) HC6.out; have zf2 := Box.free (i := 2) HC6.out; have zf3 := Box.free (i := 3) HC6.out; have zf4 := Box.free (i := 4) HC6.out
            go_simp
            obtain ⟨W6, hW6⟩ : ∃ W6, W6 = w5.alloc (.cells #[.int .i64 y.k, .int .i64 y.n, .int .i64 y.e, .string y.s, .slice oa5 y.kids.length oc5] 30) := ⟨_, rfl⟩
            have HB6 := Lib.hid (show Below w1.heap.size w1 W6 from by rw [hW6]; exact HD5.out.alloc HD5.out.size _)
            have HC6 := Lib.hid (show Box W6 w5.heap.size y.k y.n y.e y.s (.slice oa5 y.kids.length oc5) 30 from by rw [hW6]; exact Box.new w5 _ _ _ _ _ _)
            have HR6 := Lib.hid (show RepF W6 (fun x => ((x < w0.heap.size ∨ w1.heap.size ≤ x) ∧ x ≠ w5.heap.size) ∧ x < W6.heap.size) (.slice oa5 y.kids.length oc5) y.kids from by
              rw [hW6]
              exact ((HRP5.out.stay ((Below.refl _ _).alloc (Nat.le_refl _) _)).mono (fun x hx _ => ⟨hx.1.imp id (fun h => by simpa using h), by have := hx.2; omega⟩)).bound)
            rw [← hW6]
            clear hW6
            refine hK.out _ _ ?_ (fun hHeld => ?_)
            · exact TC.out _ HB6.out
            clear hK K
            try simp only [List.getElem_toArray, List.getElem_cons_succ, List.getElem_cons_zero, Act.put, List.setIfInBounds_toArray, List.set_cons_zero, List.set_cons_succ]
            refine wpAnyH_take (i := 14) (v := ?_) rfl (by kernel_rfl) (by kernel_rfl) (by kernel_rfl) (fun _ _ _ h => h) (Or.inl ⟨by rfl, ?_⟩) hHeld ?_
            rotate_left
            · (intro w hSw; (try dsimp only at hSw); (try simp only [List.getElem_toArray, List.getElem_cons_succ, List.getElem_cons_zero]); go_simp <;> with_reducible rfl)
            try simp only [List.getElem_toArray, List.getElem_cons_succ, List.getElem_cons_zero, Act.put, List.setIfInBounds_toArray, List.set_cons_zero, List.set_cons_succ]
            refine wpAnyH_done (by kernel_rfl) ?_ _
            have BV6 := Lib.hid ((HB6.out.block w.heap.size (Box.lt BV1.out)).trans BV1.out)
            have BZ6 := Lib.hid ((HB6.out.block (w.heap.size + 1) (Box.lt BZ1.out)).trans BZ1.out)
            have hz6 := HB6.out.size
            have HB16 := Lib.hid (show Below w.heap.size w W6 from HB0.out.trans ((show Below w.heap.size W0 w1 from HB1.out.mono (by omega)).trans (show Below w.heap.size w1 W6 from HB6.out.mono (by omega))))
            clear hHeld TC TCB HB9 z0 z1 z2 z3 z4 zf0 zf1 zf2 zf3 zf4
            have HRS := Lib.hid (HYS.out y rfl)
            have HW6 := Lib.hid (show Below w0.heap.size w0 W6 from HW1.out.trans (HB6.out.mono HW1.out.size))
            have CV := Lib.hid (Clone_any (fun x => x < w0.heap.size) _ ts W6 (HRP.out.stay HW6.out) (by omega))
            obtain ⟨y0, y1, y2, y3, y4⟩ := Box.cells BV6.out
            clear HY HYS HRP IHJ HK5
            go_wp2_with fail
            refine CV.out.mono ?_
            rintro e7 w7 ⟨v7, rfl, hrow, hb7⟩
            obtain ⟨g7, c7, rfl⟩ := hrow.some0 (by intro e; rw [e] at hj; simp at hj)
            clear CV y0 y1 y2 y3 y4
            obtain ⟨-, -, -, -, y4⟩ := Box.cells (hb7.block w.heap.size (Box.lt BV6.out) |>.trans BV6.out)
            have yf4 := Box.free (i := 4) (show Box w7 w.heap.size k n ee st _ 30 from (hb7.block w.heap.size (Box.lt BV6.out)).trans BV6.out)
            have hg7 := hrow.lt g7 rfl
            have hw6 : w.heap.size < W6.heap.size := by omega
            have hc6 : w5.heap.size < W6.heap.size := Box.lt HC6.out
            go_upto_region 10 with fail
            obtain ⟨W8, hW8⟩ : ∃ W8, W8 = w7.setCell ⟨w.heap.size, 4, none⟩ (.slice (some ⟨g7, 0, none⟩) ts.length c7) := ⟨_, rfl⟩
            have hz8 : W8.heap.size = w7.heap.size := by rw [hW8]; simp
            have hz7 := hb7.size
            have hk8 : ∀ x, x ≠ w.heap.size → W8.heap[x]? = w7.heap[x]? := fun x hx => by rw [hW8]; exact heap_setCell_other _ _ _ _ (show ¬ x = w.heap.size from hx)
            have BV8 := Lib.hid (show Box W8 w.heap.size k n ee st (.slice (some ⟨g7, 0, none⟩) ts.length c7) 30 from by rw [hW8]; exact Box.set4 (show Box w7 w.heap.size k n ee st _ 30 from (hb7.block w.heap.size (Box.lt BV6.out)).trans BV6.out))
            have BZ8 := Lib.hid (((hk8 (w.heap.size + 1) (by omega)).trans (hb7.block (w.heap.size + 1) (Box.lt BZ6.out))).trans BZ6.out)
            have BK8 := Lib.hid (((hk8 w5.heap.size (by omega)).trans (hb7.block w5.heap.size (Box.lt HC6.out))).trans HC6.out)
            have HROW8 := Lib.hid ((hrow.keep (w' := W8) (by omega) (fun x hx hxs => hk8 x (by
              have := HW.out.size
              rcases hx with h | h
              · have := h.1; omega
              · have := (hrow.lt x h).1; omega))))
            have HR8 := Lib.hid (show RepF W8 (fun x => (x < w0.heap.size ∨ w1.heap.size ≤ x) ∧ x < W6.heap.size) (.slice oa5 y.kids.length oc5) y.kids from (HR6.out.keep (w' := W8) (by omega) (fun x hx hxs => (hk8 x (by
              have := HW.out.size
              rcases hx.1.1 with h | h <;> omega)).trans (hb7.block x hxs))).mono (fun x hx _ => ⟨hx.1.1, hx.2⟩))
            have HB8 := Lib.hid (show Below w.heap.size w W8 from by rw [hW8]; exact (HB16.out.trans (hb7.mono (by omega))).setCell (by exact Nat.le_refl _) _)
            rw [← hW8]
            clear hW8 hk8 y4 yf4 hb7 HC6 HR6 BV6 BZ6
            obtain ⟨-, hle, hcm, cur, hcur, hcs, hone⟩ := HROW8.out.open
            obtain ⟨ae, ce, hel8, -, -⟩ := HROW8.out.elem j hj
            obtain ⟨e0, e1, e2, e3, e4⟩ := hel8
            have ef := fun i => frozen_of_row W8 g7 i _ _ hcur
            have ef0 := ef (j * 5); have ef1 := ef (j * 5 + 1); have ef2 := ef (j * 5 + 2); have ef3 := ef (j * 5 + 3); have ef4 := ef (j * 5 + 4)
            clear ef hcur hcs hone
            obtain ⟨-, -, -, -, y4⟩ := Box.cells BV8.out
            obtain ⟨q0, q1, q2, q3, q4⟩ := Box.cells BK8.out
            have HWX := Lib.hid (show (V.mk k n ee st (ts.set j y)).wf from HWF.out _)
            have HYW := Lib.hid ywf
            have HWD := Lib.hid (HROW8.out.widen (F := fun x => (x < w0.heap.size ∨ w1.heap.size ≤ x) ∧ x < W6.heap.size) (fun x hx => ⟨by have := hx.2; omega, fun e => by have h3 : g7 = x := Option.some.inj e; have h4 := hx.2; omega⟩))
            have HPT := Lib.hid (HWD.out.set1 hj HYW.out (HR8.out.mono (fun x hx _ => .inr hx)))
            have HGR := Lib.hid (grownBy_put5 W8 g7 (j * 5) y (.slice oa5 y.kids.length oc5))
            clear HROW8 HWD ywf
            go_upto_region 11 with fail
            obtain ⟨W9, hW9⟩ : ∃ W9, W9 = put5 W8 g7 (j * 5) y (.slice oa5 y.kids.length oc5) := ⟨_, rfl⟩
            rw [← hW9] at HPT HGR
            unfold put5 at hW9
            rw [← hW9]
            clear hW9 y4 q0 q1 q2 q3 q4 e0 e1 e2 e3 e4 ef0 ef1 ef2 ef3 ef4
            have hg8 : w.heap.size + 1 < g7 := by omega
            have BV9 := Lib.hid ((HGR.out.block w.heap.size (Box.lt BV8.out) (fun e => by have h3 : w.heap.size = g7 := Option.some.inj e; omega)).trans BV8.out)
            have BZ9 := Lib.hid ((HGR.out.block (w.heap.size + 1) (Box.lt BZ8.out) (fun e => by have h3 : w.heap.size + 1 = g7 := Option.some.inj e; omega)).trans BZ8.out)
            have HB9 := Lib.hid (show Below w.heap.size w W9 from HB8.out.grown HGR.out HB8.out.size (fun x hx => by have h3 : g7 = x := Option.some.inj hx; omega))
            have HF := Lib.hid (show ∀ v0 v1 v2 v3 v4, OptRet w0.heap.size R w (.returned (.tuple #[(V.mk k n ee st (ts.set j y)).agg (.slice (some ⟨g7, 0, none⟩) ts.length c7), .bool true])) (set5 W9 (w.heap.size + 1) v0 v1 v2 v3 v4) from fun v0 v1 v2 v3 v4 => by
              rw [HRS.out]
              exact OptRet.set (w2 := W0) HB9.out (by omega) HWX.out (HPT.out.repF.mono (fun x hx _ => by
                rcases hx with ((h | h) | h)
                · exact .inl h.1
                · exact h.1.imp id (fun h => by omega)
                · have h3 : g7 = x := Option.some.inj h
                  exact .inr (by omega))) HW.out.size v0 v1 v2 v3 v4)
            unfold V.agg at HF
            obtain ⟨y0, y1, y2, y3, y4⟩ := Box.cells BV9.out
            obtain ⟨z0, z1, z2, z3, z4⟩ := Box.cells BZ9.out
            have zf0 := Box.free (i := 0) BZ9.out; have zf1 := Box.free (i := 1) BZ9.out; have zf2 := Box.free (i := 2) BZ9.out; have zf3 := Box.free (i := 3) BZ9.out; have zf4 := Box.free (i := 4) BZ9.out
            clear HPT HGR HRS HWX HYW HB8 HR8 BV8 BZ8 BK8
            go_wp2_with fail
            exact bodyPost_ret (v := .tuple #[.agg #[.int .i64 k, .int .i64 n, .int .i64 ee, .string st, .slice (some ⟨g7, 0, none⟩) ts.length c7], .bool true]) (by simp [results, Tryd.results37, go_sem, z0, z1, z2, z3, z4]) rfl (HF.out _ _ _ _ _)
          exact AllReadyH.nil
        exact AllReadyH.nil
      refine AllReadyH.cons rfl (fun K hK => ?_) ?_
      · have HD7 := Lib.hid (show Below w1.heap.size w1 (w1.drew.alloc (.cells #[.int .i64 0, .int .i64 0, .int .i64 0, .string ⟨#[]⟩, .slice none 0 0] 30)) from HB9.out.alloc HB9.out.size _)
        have HC7 := Lib.hid (Box.new w1.drew 0 0 0 ⟨#[]⟩ (.slice none 0 0) 30)
        go_simp
        refine hK.out _ _ ?_ (fun hHeld => ?_)
        · exact TC.out _ HD7.out
        clear hK K
        try simp only [List.getElem_toArray, List.getElem_cons_succ, List.getElem_cons_zero, Act.put, List.setIfInBounds_toArray, List.set_cons_zero, List.set_cons_succ]
        refine wpAnyH_ready (rs := [8]) (by kernel_rfl) (by simp) ?_
        refine AllReadyH.cons rfl (fun K hK => ?_) ?_
        · have CL := Lib.hid (IHJ.out (w1.drew.alloc (.cells #[.int .i64 0, .int .i64 0, .int .i64 0, .string ⟨#[]⟩, .slice none 0 0] 30)) (HW1.out.trans (HD7.out.mono HW1.out.size)))
          unfold OptRet at CL
          dsimp only at CL
          try unfold V.agg at CL
          go_simp
          refine CL.out.mono ?_
          rintro e5 w5 ⟨sl5, rfl, ywf, hrep, hb5⟩
          obtain ⟨oa5, oc5, rfl⟩ := hrep.slice
          have HD8 := Lib.hid (HD7.out.trans (hb5.mono HD7.out.size))
          have HRP8 := Lib.hid hrep.bound
          have HSZ8 := Lib.hid (show (w1.drew.alloc (.cells #[.int .i64 0, .int .i64 0, .int .i64 0, .string ⟨#[]⟩, .slice none 0 0] 30)).heap.size ≤ w5.heap.size from hb5.size)
          have HC8 := Lib.hid ((hb5.block w1.heap.size (Box.lt HC7.out)).trans HC7.out)
          clear CL hb5 hrep
          refine hK.out _ _ ?_ (fun hHeld => ?_)
          · exact TC.out _ HD8.out
          clear hK K
          try simp only [List.getElem_toArray, List.getElem_cons_succ, List.getElem_cons_zero, Act.put, List.setIfInBounds_toArray, List.set_cons_zero, List.set_cons_succ]
          refine wpAnyH_take (i := 9) (v := ?_) rfl (by kernel_rfl) (by kernel_rfl) (by kernel_rfl) (fun _ _ _ h => h) (Or.inl ⟨by rfl, ?_⟩) hHeld ?_
          rotate_left
          · (intro w hSw; (try dsimp only at hSw); (try simp only [List.getElem_toArray, List.getElem_cons_succ, List.getElem_cons_zero]); go_simp <;> with_reducible rfl)
          try simp only [List.getElem_toArray, List.getElem_cons_succ, List.getElem_cons_zero, Act.put, List.setIfInBounds_toArray, List.set_cons_zero, List.set_cons_succ]
          refine wpAnyH_take (i := 10) (v := ?_) rfl (by kernel_rfl) (by kernel_rfl) (by kernel_rfl) (fun _ _ _ h => h) (Or.inl ⟨by rfl, ?_⟩) hHeld ?_
          rotate_left
          · (intro w hSw; (try dsimp only at hSw); (try simp only [List.getElem_toArray, List.getElem_cons_succ, List.getElem_cons_zero]); go_simp <;> with_reducible rfl)
          try simp only [List.getElem_toArray, List.getElem_cons_succ, List.getElem_cons_zero, Act.put, List.setIfInBounds_toArray, List.set_cons_zero, List.set_cons_succ]
          refine wpAnyH_take (i := 11) (v := ?_) rfl (by kernel_rfl) (by kernel_rfl) (by kernel_rfl) (fun _ _ _ h => h) (Or.inl ⟨by rfl, ?_⟩) hHeld ?_
          rotate_left
          · (intro w hSw; (try dsimp only at hSw); (try simp only [List.getElem_toArray, List.getElem_cons_succ, List.getElem_cons_zero]); go_simp <;> with_reducible rfl)
          try simp only [List.getElem_toArray, List.getElem_cons_succ, List.getElem_cons_zero, Act.put, List.setIfInBounds_toArray, List.set_cons_zero, List.set_cons_succ]
          refine wpAnyH_ready (rs := [13]) (by kernel_rfl) (by simp) ?_
          refine AllReadyH.cons rfl (fun K hK => ?_) ?_
          · have hcb : w1.heap.size ≤ w1.heap.size := by exact Nat.le_refl _
            obtain ⟨z0, z1, z2, z3, z4⟩ := Box.cells HC8.out
            have zf0 := Box.free (i := 0) HC8.out; have zf1 := Box.free (i := 1) HC8.out; have zf2 := Box.free (i := 2) HC8.out; have zf3 := Box.free (i := 3) HC8.out; have zf4 := Box.free (i := 4) HC8.out
            go_simp
            obtain ⟨W6, hW6⟩ : ∃ W6, W6 = set5 w5 w1.heap.size (.int .i64 y.k) (.int .i64 y.n) (.int .i64 y.e) (.string y.s) (.slice oa5 y.kids.length oc5) := ⟨_, rfl⟩
            have HB6 := Lib.hid (show Below w1.heap.size w1 W6 from by rw [hW6]; exact HD8.out.trans ((below_set5 _ _ _ _ _ _ _).mono (Nat.le_refl _)))
            have HC6 := Lib.hid (show Box W6 w1.heap.size y.k y.n y.e y.s (.slice oa5 y.kids.length oc5) 30 from by rw [hW6]; exact box_set5T HC8.out _ _ _ _ _)
            have HR6 := Lib.hid (show RepF W6 (fun x => ((x < w0.heap.size ∨ w1.heap.size ≤ x) ∧ x ≠ w1.heap.size) ∧ x < W6.heap.size) (.slice oa5 y.kids.length oc5) y.kids from by
              rw [hW6]
              exact (repF_set5T (HRP8.out.mono (G' := fun x => (x < w0.heap.size ∨ w1.heap.size ≤ x) ∧ x ≠ w1.heap.size) (fun x hx _ => by
                have h := hx.1
                simp at h
                have := HW1.out.size
                exact ⟨h.imp id (fun h => by omega), by rcases h with h | h <;> omega⟩)) w1.heap.size (fun x h => h.2) _ _ _ _ _).bound)
            unfold set5 at hW6
            rw [← hW6]
            clear hW6
            refine hK.out _ _ ?_ (fun hHeld => ?_)
            · exact TC.out _ HB6.out
            clear hK K
            try simp only [List.getElem_toArray, List.getElem_cons_succ, List.getElem_cons_zero, Act.put, List.setIfInBounds_toArray, List.set_cons_zero, List.set_cons_succ]
            refine wpAnyH_take (i := 14) (v := ?_) rfl (by kernel_rfl) (by kernel_rfl) (by kernel_rfl) (fun _ _ _ h => h) (Or.inl ⟨by rfl, ?_⟩) hHeld ?_
            rotate_left
            · (intro w hSw; (try dsimp only at hSw); (try simp only [List.getElem_toArray, List.getElem_cons_succ, List.getElem_cons_zero]); go_simp <;> with_reducible rfl)
            try simp only [List.getElem_toArray, List.getElem_cons_succ, List.getElem_cons_zero, Act.put, List.setIfInBounds_toArray, List.set_cons_zero, List.set_cons_succ]
            refine wpAnyH_done (by kernel_rfl) ?_ _
            have BV6 := Lib.hid ((HB6.out.block w.heap.size (Box.lt BV1.out)).trans BV1.out)
            have BZ6 := Lib.hid ((HB6.out.block (w.heap.size + 1) (Box.lt BZ1.out)).trans BZ1.out)
            have hz6 := HB6.out.size
            have HB16 := Lib.hid (show Below w.heap.size w W6 from HB0.out.trans ((show Below w.heap.size W0 w1 from HB1.out.mono (by omega)).trans (show Below w.heap.size w1 W6 from HB6.out.mono (by omega))))
            clear hHeld TC TCB HB9 z0 z1 z2 z3 z4 zf0 zf1 zf2 zf3 zf4
            have HRS := Lib.hid (HYS.out y rfl)
            have HW6 := Lib.hid (show Below w0.heap.size w0 W6 from HW1.out.trans (HB6.out.mono HW1.out.size))
            have CV := Lib.hid (Clone_any (fun x => x < w0.heap.size) _ ts W6 (HRP.out.stay HW6.out) (by omega))
            obtain ⟨y0, y1, y2, y3, y4⟩ := Box.cells BV6.out
            clear HY HYS HRP IHJ HK5
            go_wp2_with fail
            refine CV.out.mono ?_
            rintro e7 w7 ⟨v7, rfl, hrow, hb7⟩
            obtain ⟨g7, c7, rfl⟩ := hrow.some0 (by intro e; rw [e] at hj; simp at hj)
            clear CV y0 y1 y2 y3 y4
            obtain ⟨-, -, -, -, y4⟩ := Box.cells (hb7.block w.heap.size (Box.lt BV6.out) |>.trans BV6.out)
            have yf4 := Box.free (i := 4) (show Box w7 w.heap.size k n ee st _ 30 from (hb7.block w.heap.size (Box.lt BV6.out)).trans BV6.out)
            have hg7 := hrow.lt g7 rfl
            have hw6 : w.heap.size < W6.heap.size := by omega
            have hc6 : w1.heap.size < W6.heap.size := Box.lt HC6.out
            go_upto_region 10 with fail
            obtain ⟨W8, hW8⟩ : ∃ W8, W8 = w7.setCell ⟨w.heap.size, 4, none⟩ (.slice (some ⟨g7, 0, none⟩) ts.length c7) := ⟨_, rfl⟩
            have hz8 : W8.heap.size = w7.heap.size := by rw [hW8]; simp
            have hz7 := hb7.size
            have hk8 : ∀ x, x ≠ w.heap.size → W8.heap[x]? = w7.heap[x]? := fun x hx => by rw [hW8]; exact heap_setCell_other _ _ _ _ (show ¬ x = w.heap.size from hx)
            have BV8 := Lib.hid (show Box W8 w.heap.size k n ee st (.slice (some ⟨g7, 0, none⟩) ts.length c7) 30 from by rw [hW8]; exact Box.set4 (show Box w7 w.heap.size k n ee st _ 30 from (hb7.block w.heap.size (Box.lt BV6.out)).trans BV6.out))
            have BZ8 := Lib.hid (((hk8 (w.heap.size + 1) (by omega)).trans (hb7.block (w.heap.size + 1) (Box.lt BZ6.out))).trans BZ6.out)
            have BK8 := Lib.hid (((hk8 w1.heap.size (by omega)).trans (hb7.block w1.heap.size (Box.lt HC6.out))).trans HC6.out)
            have HROW8 := Lib.hid ((hrow.keep (w' := W8) (by omega) (fun x hx hxs => hk8 x (by
              have := HW.out.size
              rcases hx with h | h
              · have := h.1; omega
              · have := (hrow.lt x h).1; omega))))
            have HR8 := Lib.hid (show RepF W8 (fun x => (x < w0.heap.size ∨ w1.heap.size ≤ x) ∧ x < W6.heap.size) (.slice oa5 y.kids.length oc5) y.kids from (HR6.out.keep (w' := W8) (by omega) (fun x hx hxs => (hk8 x (by
              have := HW.out.size
              rcases hx.1.1 with h | h <;> omega)).trans (hb7.block x hxs))).mono (fun x hx _ => ⟨hx.1.1, hx.2⟩))
            have HB8 := Lib.hid (show Below w.heap.size w W8 from by rw [hW8]; exact (HB16.out.trans (hb7.mono (by omega))).setCell (by exact Nat.le_refl _) _)
            rw [← hW8]
            clear hW8 hk8 y4 yf4 hb7 HC6 HR6 BV6 BZ6
            obtain ⟨-, hle, hcm, cur, hcur, hcs, hone⟩ := HROW8.out.open
            obtain ⟨ae, ce, hel8, -, -⟩ := HROW8.out.elem j hj
            obtain ⟨e0, e1, e2, e3, e4⟩ := hel8
            have ef := fun i => frozen_of_row W8 g7 i _ _ hcur
            have ef0 := ef (j * 5); have ef1 := ef (j * 5 + 1); have ef2 := ef (j * 5 + 2); have ef3 := ef (j * 5 + 3); have ef4 := ef (j * 5 + 4)
            clear ef hcur hcs hone
            obtain ⟨-, -, -, -, y4⟩ := Box.cells BV8.out
            obtain ⟨q0, q1, q2, q3, q4⟩ := Box.cells BK8.out
            have HWX := Lib.hid (show (V.mk k n ee st (ts.set j y)).wf from HWF.out _)
            have HYW := Lib.hid ywf
            have HWD := Lib.hid (HROW8.out.widen (F := fun x => (x < w0.heap.size ∨ w1.heap.size ≤ x) ∧ x < W6.heap.size) (fun x hx => ⟨by have := hx.2; omega, fun e => by have h3 : g7 = x := Option.some.inj e; have h4 := hx.2; omega⟩))
            have HPT := Lib.hid (HWD.out.set1 hj HYW.out (HR8.out.mono (fun x hx _ => .inr hx)))
            have HGR := Lib.hid (grownBy_put5 W8 g7 (j * 5) y (.slice oa5 y.kids.length oc5))
            clear HROW8 HWD ywf
            go_upto_region 11 with fail
            obtain ⟨W9, hW9⟩ : ∃ W9, W9 = put5 W8 g7 (j * 5) y (.slice oa5 y.kids.length oc5) := ⟨_, rfl⟩
            rw [← hW9] at HPT HGR
            unfold put5 at hW9
            rw [← hW9]
            clear hW9 y4 q0 q1 q2 q3 q4 e0 e1 e2 e3 e4 ef0 ef1 ef2 ef3 ef4
            have hg8 : w.heap.size + 1 < g7 := by omega
            have BV9 := Lib.hid ((HGR.out.block w.heap.size (Box.lt BV8.out) (fun e => by have h3 : w.heap.size = g7 := Option.some.inj e; omega)).trans BV8.out)
            have BZ9 := Lib.hid ((HGR.out.block (w.heap.size + 1) (Box.lt BZ8.out) (fun e => by have h3 : w.heap.size + 1 = g7 := Option.some.inj e; omega)).trans BZ8.out)
            have HB9 := Lib.hid (show Below w.heap.size w W9 from HB8.out.grown HGR.out HB8.out.size (fun x hx => by have h3 : g7 = x := Option.some.inj hx; omega))
            have HF := Lib.hid (show ∀ v0 v1 v2 v3 v4, OptRet w0.heap.size R w (.returned (.tuple #[(V.mk k n ee st (ts.set j y)).agg (.slice (some ⟨g7, 0, none⟩) ts.length c7), .bool true])) (set5 W9 (w.heap.size + 1) v0 v1 v2 v3 v4) from fun v0 v1 v2 v3 v4 => by
              rw [HRS.out]
              exact OptRet.set (w2 := W0) HB9.out (by omega) HWX.out (HPT.out.repF.mono (fun x hx _ => by
                rcases hx with ((h | h) | h)
                · exact .inl h.1
                · exact h.1.imp id (fun h => by omega)
                · have h3 : g7 = x := Option.some.inj h
                  exact .inr (by omega))) HW.out.size v0 v1 v2 v3 v4)
            unfold V.agg at HF
            obtain ⟨y0, y1, y2, y3, y4⟩ := Box.cells BV9.out
            obtain ⟨z0, z1, z2, z3, z4⟩ := Box.cells BZ9.out
            have zf0 := Box.free (i := 0) BZ9.out; have zf1 := Box.free (i := 1) BZ9.out; have zf2 := Box.free (i := 2) BZ9.out; have zf3 := Box.free (i := 3) BZ9.out; have zf4 := Box.free (i := 4) BZ9.out
            clear HPT HGR HRS HWX HYW HB8 HR8 BV8 BZ8 BK8
            go_wp2_with fail
            exact bodyPost_ret (v := .tuple #[.agg #[.int .i64 k, .int .i64 n, .int .i64 ee, .string st, .slice (some ⟨g7, 0, none⟩) ts.length c7], .bool true]) (by simp [results, Tryd.results37, go_sem, z0, z1, z2, z3, z4]) rfl (HF.out _ _ _ _ _)
          exact AllReadyH.nil
        exact AllReadyH.nil
      exact AllReadyH.nil
  exact AllReadyH.nil
end Go.Proofs.YtaphlemmlmdkiaaDoor
namespace Go.Proofs.YtaphlemmlmdkiaaDoor
set_option linter.unusedSimpArgs false
set_option linter.unusedVariables false
set_option maxRecDepth 100000
open Go.RowKit
def PredRet (I J : World → Prop) (e : Ending) (w' : World) : Prop := (e = .returned (.bool false) ∧ I w') ∨ (e = .returned (.bool true) ∧ J w')
def IdxRet (I J : Nat → World → Prop) (n : Nat) (e : Ending) (w' : World) : Prop := (e = .returned (.int .i64 (-1)) ∧ I n w') ∨ ∃ i, i < n ∧ e = .returned (.int .i64 (i : Nat)) ∧ J i w'
def HasRet (I J : Nat → World → Prop) (n : Nat) (e : Ending) (w' : World) : Prop := (e = .returned (.bool false) ∧ I n w') ∨ ∃ i, i < n ∧ e = .returned (.bool true) ∧ J i w'
set_option maxHeartbeats 1000000 in
theorem index2_any (w0 : World) (F : FuncId) (c1 c2 : Value) (hF : ∀ (args : Array Value) (w : World), (callFunc F args).run Tryd.prog w = .ok (.enter F args) w) (v : Value) (ts : List V) (h : RepS w0 v ts) (I J : Nat → World → Prop)
    (hI0 : ∀ i w, I i w → Below w0.heap.size w0 w)
    (hY : ∀ i (hi : i < ts.length) (sl : Value) (w : World), RepS w0 sl ts[i].kids → ts[i].wf → I i w → Calls Tryd.prog F #[ts[i].agg sl, c1, c2] w (PredRet (I (i + 1)) (J i))) (w : World) (hw : I 0 w) :
    Calls Tryd.prog 93 #[v, .func (.func F) #[] #[c1, c2]] w (IdxRet I J ts.length) := by
  obtain ⟨a, b, off, cap, rfl, ha, hc, hm, sls, hel⟩ := h.opened
  have HA := Lib.hid ha; have HE := Lib.hid hel; have HY := Lib.hid hY; have HI := Lib.hid hI0; have HW := Lib.hid hw
  have hl63 : ts.length ≤ 9223372036854775807 := by omega
  have HP1 := Lib.hid (show ∀ w', I ts.length w' → IdxRet I J ts.length (.returned (.int .i64 (-1))) w' from fun w' h => .inl ⟨rfl, h⟩)
  have HP2 := Lib.hid (show ∀ i w', i < ts.length → J i w' → IdxRet I J ts.length (.returned (.int .i64 (i : Nat))) w' from fun i w' h1 h2 => .inr ⟨i, h1, rfl, h2⟩)
  clear ha hel hY hI0 hw hc hm h
  go_enter Tryd.func93, Tryd.ntmps93
  go_wp2_with fail
  go_loopw [8] (fun i wr => ∃ k : Nat, k ≤ ts.length ∧ i = .int .i64 k ∧ Hid (I k wr)) (fun i _ => ts.length - (intOf i).toNat)
  case atStart => exact ⟨0, by omega, rfl, HW⟩
  case round =>
    obtain ⟨k, hk, rfl, HK⟩ := hrel
    by_cases hlt : k < ts.length
    · have hne : ts ≠ [] := by intro e; rw [e] at hlt; simp at hlt
      obtain ⟨rfl, hbw⟩ := HA.out hne
      have HWR := Lib.hid (HI.out k wr HK.out)
      obtain ⟨c0, c1', c2', c3, c4⟩ := (HE.out k hlt).1.keep (HWR.out.block b hbw)
      have Y1 := Lib.hid (HY.out k hlt (sls k) wr (HE.out k hlt).2.2 (HE.out k hlt).2.1 HK.out)
      obtain ⟨a3, cap3, hs3⟩ := (HE.out k hlt).2.2.slice
      rw [hs3] at c4 Y1
      unfold V.agg at Y1
      clear hs3
      generalize ts[k].k = xk at *
      generalize ts[k].n = xn at *
      generalize ts[k].e = xe at *
      generalize ts[k].s = xs at *
      go_wp2_with fail
      refine Y1.out.mono ?_
      rintro e1 w1 hpost
      rcases hpost with ⟨rfl, hi1⟩ | ⟨rfl, hj1⟩
      · have HI1 := Lib.hid hi1; clear hi1
        go_wp2_with fail
        go_roundw
        case rel => exact ⟨k + 1, by omega, by go_num, HI1⟩
        case measure => simp [intOf]; omega
      · have HP := Lib.hid (HP2.out k w1 hlt hj1); clear hj1
        go_wp2_with fail
        go_ret
        exact HP.out
    · have hkl : k = ts.length := by omega
      subst hkl
      have HP := Lib.hid (HP1.out wr HK.out)
      go_wp2_with fail
      go_ret
      exact HP.out
set_option maxHeartbeats 400000 in
theorem has2_any (w0 : World) (F : FuncId) (c1 c2 : Value) (hF : ∀ (args : Array Value) (w : World), (callFunc F args).run Tryd.prog w = .ok (.enter F args) w) (v : Value) (ts : List V) (h : RepS w0 v ts) (I J : Nat → World → Prop)
    (hI0 : ∀ i w, I i w → Below w0.heap.size w0 w)
    (hY : ∀ i (hi : i < ts.length) (sl : Value) (w : World), RepS w0 sl ts[i].kids → ts[i].wf → I i w → Calls Tryd.prog F #[ts[i].agg sl, c1, c2] w (PredRet (I (i + 1)) (J i))) (w : World) (hw : I 0 w) :
    Calls Tryd.prog 70 #[v, .func (.func F) #[] #[c1, c2]] w (HasRet I J ts.length) := by
  have IX := Lib.hid (index2_any w0 F c1 c2 hF v ts h I J hI0 hY w hw)
  obtain ⟨a, b, off, cap, rfl, _⟩ := h.opened
  have HP1 := Lib.hid (show ∀ w', I ts.length w' → HasRet I J ts.length (.returned (.bool false)) w' from fun w' h => .inl ⟨rfl, h⟩)
  have HP2 := Lib.hid (show ∀ i w', i < ts.length → J i w' → HasRet I J ts.length (.returned (.bool true)) w' from fun i w' h1 h2 => .inr ⟨i, h1, rfl, h2⟩)
  clear hI0 hY hw h
  go_enter Tryd.func70, Tryd.ntmps70
  go_wp2_with fail
  refine IX.out.mono ?_
  rintro e1 w1 hpost
  rcases hpost with ⟨rfl, hi1⟩ | ⟨i, hi, rfl, hj1⟩
  · have HP := Lib.hid (HP1.out w1 hi1); clear hi1
    go_wp2_with fail
    go_ret
    exact HP.out
  · have HP := Lib.hid (HP2.out i w1 hi hj1); clear hj1
    have h0 : (0 : Int) ≤ (i : Int) := by omega
    go_wp2_with fail
    go_ret
    exact HP.out
end Go.Proofs.YtaphlemmlmdkiaaDoor
namespace Go.Proofs.YtaphlemmlmdkiaaDoor
set_option linter.unusedSimpArgs false
set_option linter.unusedVariables false
set_option maxRecDepth 100000
open Go.RowKit
theorem Box.overB {w w' : World} {B b : Nat} {k n e : Int} {s : ByteArray} {sl : Value} {T : TypeId} (h : Box w b k n e s sl T) (hb : Below B w w') (hB : b < B) : Box w' b k n e s sl T := (hb.block b hB).trans h
def Cell1 (w : World) (c : Nat) (v : Value) (T : TypeId) : Prop := w.heap[c]? = some (.cells #[v] T (0, 0))
theorem Cell1.over {w w' : World} {c : Nat} {v : Value} {T : TypeId} (h : Cell1 w c v T) (hb : w'.heap[c]? = w.heap[c]?) : Cell1 w' c v T := hb.trans h
def oneC (c : Nat) : Nat → Prop := fun x => x = c
def LeftIs (c : Nat) (w w' : World) (L : Int) : Prop := Cell1 w' c (.int .i64 L) 3 ∧ -1 ≤ L ∧ L ≤ 300 ∧ Touch (oneC c) (oneC c) w w'
def IVRet (o : Option Int) (c : Nat) (w : World) (e : Ending) (w' : World) : Prop := e = .returned (.bool o.isSome) ∧ ∃ L', LeftIs c w w' L' ∧ ∀ r, o = some r → L' = r
def IV1Ret (o : Option Int) (c : Nat) (w : World) (e : Ending) (w' : World) : Prop := e = .returned (.bool (!o.isSome)) ∧ ∃ L', LeftIs c w w' L' ∧ ∀ r, o = some r → L' = r
set_option maxHeartbeats 400000 in
theorem isValue1_any (k n e : Int) (s : ByteArray) (sl : Value) (p1 p2 c : Nat) (d : Int) (o : Option Int) (hd0 : 0 ≤ d) (hd1 : d ≤ 20) (w : World) (h1 : Cell1 w p1 (.int .i64 d) 3) (h2 : Cell1 w p2 (.pointer (some ⟨c, 0, none⟩)) 66)
    (hc : c < w.heap.size) (IVH : ∀ W, Below w.heap.size w W → Calls Tryd.prog 47 #[.agg #[.int .i64 k, .int .i64 n, .int .i64 e, .string s, sl], .int .i64 (d + 1), .pointer (some ⟨c, 0, none⟩)] W (IVRet o c W)) :
    Calls Tryd.prog 71 #[.agg #[.int .i64 k, .int .i64 n, .int .i64 e, .string s, sl], .pointer (some ⟨p1, 0, none⟩), .pointer (some ⟨p2, 0, none⟩)] w (IV1Ret o c w) := by
  have d1 := cell_of_one h1
  have d2 := cell_of_one h2
  have l1 := lt_of_heap h1
  have l2 := lt_of_heap h2
  have IV := Lib.hid IVH
  clear h1 h2 IVH
  go_enter Tryd.func71, Tryd.ntmps71
  go_wp2_with fail
  refine (IV.out _ (by (repeat' (first | with_reducible exact Below.refl _ _ | with_reducible refine below_alloc ?_ _ ?_ | with_reducible refine Below.setCell ?_ ?_ _ | with_reducible refine Below.drew ?_ | with_reducible refine Go.below_drewN ?_ _ | with_reducible refine below_step ?_ (by assumption) ?_ | with_reducible refine below_mark ?_ (by assumption) ?_)); all_goals (first | omega | (simp; done) | (simp; omega)))).mono ?_
  rintro x w1 ⟨rfl, L', ⟨hL1, hL2, hL3, hL4⟩, hL5⟩
  have HL := Lib.hid (show ∃ L', LeftIs c w w1 L' ∧ ∀ r, o = some r → L' = r from ⟨L', ⟨hL1, hL2, hL3, Touch.trans (Touch.of_below (A := oneC c) ((by (repeat' (first | with_reducible exact Below.refl _ _ | with_reducible refine below_alloc ?_ _ ?_ | with_reducible refine Below.setCell ?_ ?_ _ | with_reducible refine Below.drew ?_ | with_reducible refine Go.below_drewN ?_ _ | with_reducible refine below_step ?_ (by assumption) ?_ | with_reducible refine below_mark ?_ (by assumption) ?_)); all_goals (first | omega | (simp; done) | (simp; omega))))) hL4⟩, hL5⟩)
  clear hL1 hL2 hL3 hL4 hL5
  go_wp2_with fail
  go_ret
  exact ⟨by cases o <;> rfl, HL.out⟩
theorem enters_isValue1 : ∀ (args : Array Value) (w : World), (callFunc 71 args).run Tryd.prog w = .ok (.enter 71 args) w := by
  intro args w
  have h1 : (Tryd.f71.name == "runtime.NumGoroutine") = false := by kernel_rfl
  have h2 : Tryd.f71.body.isNone = false := by kernel_rfl
  have h1' : ¬ Tryd.f71.name = "runtime.NumGoroutine" := by simpa using h1
  have h2' : ¬ Tryd.f71.body = none := by intro e; rw [e] at h2; cases h2
  simp [callFunc, Tryd.func71, go_sem, h1', h2']
theorem imps_take (ts : List V) (d L : Int) (i : Nat) (h : i < ts.length) : imps (ts.take (i + 1)) d L = (imps (ts.take i) d L).bind fun x => imp ts[i] d x := by
  have app : ∀ (a b : List V) (L : Int), imps (a ++ b) d L = (imps a d L).bind fun x => imps b d x := by
    intro a
    induction a with
    | nil => intro b L; simp [imps]
    | cons t a ih => intro b L; simp only [List.cons_append, imps]; cases imp t d L <;> simp [ih]
  rw [List.take_succ_eq_append_getElem h, app]
  congr 1
  funext x
  simp only [imps]
  cases imp ts[i] d x <;> rfl
theorem imps_none (ts : List V) (d L : Int) (i : Nat) (h : imps (ts.take i) d L = none) : imps ts d L = none := by
  have app : ∀ (a b : List V) (L : Int), imps (a ++ b) d L = (imps a d L).bind fun x => imps b d x := by
    intro a
    induction a with
    | nil => intro b L; simp [imps]
    | cons t a ih => intro b L; simp only [List.cons_append, imps]; cases imp t d L <;> simp [ih]
  have := app (ts.take i) (ts.drop i) L
  rw [List.take_append_drop, h] at this
  exact this
theorem imp_bounds (t : V) (d L r : Int) (hd : 0 ≤ d) (h0 : 0 ≤ L) (h1 : L ≤ 300) (h : imp t d L = some r) : 0 ≤ r ∧ r ≤ 300 := by
  rw [imp_is t d L hd h0 h1] at h
  split at h
  · injection h with h; omega
  · cases h
set_option maxHeartbeats 4000000 in
theorem isValue_all (w0 : World) (hE : Env w0) : ∀ (N : Nat) (v : Value) (ts : List V), szs ts ≤ N → RepS w0 v ts → szs ts ≤ 1048576 → ∀ (u : V), u.kids = ts → u.wf → ∀ (d L : Int) (c : Nat) (w : World), 0 ≤ d → d ≤ 13 → 0 ≤ L → L ≤ 300 → w0.heap.size ≤ c →
    Cell1 w c (.int .i64 L) 3 → Below w0.heap.size w0 w → Calls Tryd.prog 47 #[u.agg v, .int .i64 d, .pointer (some ⟨c, 0, none⟩)] w (IVRet (imp u d L) c w) := by
  intro N
  induction N using Nat.strongRecOn with
  | ind N ih =>
  intro v ts hN hrep hsz u huk uwf d L c w hd0 hd1 hL0 hL1 hc0 hcell hw
  obtain ⟨a, cap, rfl⟩ := hrep.slice
  have hcw := lt_of_heap hcell
  have hlen : ts.length ≤ 1048576 := Nat.le_trans (szs_length ts) hsz
  have HO := Lib.hid (show imp u d L = if impStep u d L then imps ts (d + 1) (L - 1) else none by rw [imp_eq, huk])
  have HS := Lib.hid (show impStep u d L = (decide (0 ≤ L - 1 ∧ d ≤ 12 ∧ (ts.length : Int) ≤ L - 1) && nodeB u && areB u) by unfold impStep; rw [huk])
  have ND := Lib.hid (fun (W : World) (hW : Below w0.heap.size w0 W) => isNode_any u (.slice a ts.length cap) W uwf (hE.keep hW))
  have AK := Lib.hid (fun (W : World) (hW : Below w0.heap.size w0 W) => areKids_any w0 u (.slice a ts.length cap) (by rw [huk]; exact hrep) uwf W hW (by rw [huk]; exact hlen))
  have IH := Lib.hid (show ∀ i (hi : i < ts.length) (sl : Value), RepS w0 sl ts[i].kids → ∀ (d L : Int) (c : Nat) (w : World), 0 ≤ d → d ≤ 13 → 0 ≤ L → L ≤ 300 → w0.heap.size ≤ c → Cell1 w c (.int .i64 L) 3 → Below w0.heap.size w0 w → ts[i].wf → Calls Tryd.prog 47 #[ts[i].agg sl, .int .i64 d, .pointer (some ⟨c, 0, none⟩)] w (IVRet (imp ts[i] d L) c w) from
    fun i hi sl hrs d L c w h1 h2 h3 h4 h5 h6 h7 h8 => by
      have q1 := szs_mem (List.getElem_mem hi); have q2 := V.sz_eq ts[i]
      exact ih (szs ts[i].kids) (by omega) sl ts[i].kids (Nat.le_refl _) hrs (by omega) ts[i] rfl h8 d L c w h1 h2 h3 h4 h5 h6 h7)
  have HREP := Lib.hid hrep; have HSZ := Lib.hid hsz
  clear ih hsz hrep hE
  have HW := Lib.hid hw
  have hws := hw.size
  obtain ⟨o, ho⟩ : ∃ o, o = imp u d L := ⟨_, rfl⟩
  rw [← ho] at HO ⊢
  have HCELL := Lib.hid hcell
  clear ho hw hcell
  unfold V.agg at ND AK ⊢
  generalize nodeB u = nb at *
  generalize areB u = ab at *
  generalize u.k = vk at *
  generalize u.n = vn at *
  generalize u.e = ve at *
  generalize u.s = vs at *
  generalize hW3 : ((w.alloc (.cells #[.int .i64 vk, .int .i64 vn, .int .i64 ve, .string vs, .slice a ts.length cap] 30)).alloc (.cells #[.int .i64 d] 3)).alloc (.cells #[.pointer (some ⟨c, 0, none⟩)] 66) = W3
  have HB3 := Lib.hid (show Below w.heap.size w W3 by rw [← hW3]; exact (by (repeat' (first | with_reducible exact Below.refl _ _ | with_reducible refine below_alloc ?_ _ ?_ | with_reducible refine Below.setCell ?_ ?_ _ | with_reducible refine Below.drew ?_ | with_reducible refine Go.below_drewN ?_ _ | with_reducible refine below_step ?_ (by assumption) ?_ | with_reducible refine below_mark ?_ (by assumption) ?_)); all_goals (first | omega | (simp; done) | (simp; omega))))
  have HX3 := Lib.hid (show Box W3 w.heap.size vk vn ve vs (.slice a ts.length cap) 30 ∧ Cell1 W3 (w.heap.size + 1) (.int .i64 d) 3 ∧ Cell1 W3 (w.heap.size + 1 + 1) (.pointer (some ⟨c, 0, none⟩)) 66 by
    have z1 : (w.alloc (.cells #[.int .i64 vk, .int .i64 vn, .int .i64 ve, .string vs, .slice a ts.length cap] 30)).heap.size = w.heap.size + 1 := by simp
    have z2 : ((w.alloc (.cells #[.int .i64 vk, .int .i64 vn, .int .i64 ve, .string vs, .slice a ts.length cap] 30)).alloc (.cells #[.int .i64 d] 3)).heap.size = w.heap.size + 1 + 1 := by simp
    rw [← hW3]
    refine ⟨((Box.new w vk vn ve vs _ _).alloc _).alloc _, ?_, ?_⟩
    · refine Cell1.over ?_ (heap_alloc_old _ _ (by rw [z2]; omega))
      have := heap_alloc_new (w.alloc (.cells #[.int .i64 vk, .int .i64 vn, .int .i64 ve, .string vs, .slice a ts.length cap] 30)) (.cells #[.int .i64 d] 3)
      rw [z1] at this; exact this
    · have := heap_alloc_new ((w.alloc (.cells #[.int .i64 vk, .int .i64 vn, .int .i64 ve, .string vs, .slice a ts.length cap] 30)).alloc (.cells #[.int .i64 d] 3)) (.cells #[.pointer (some ⟨c, 0, none⟩)] 66)
      rw [z2] at this; exact this)
  have hz3 : W3.heap.size = w.heap.size + 1 + 1 + 1 := by rw [← hW3]; simp
  have HZ3 := Lib.hid hz3
  have dc : (((w.alloc (.cells #[.int .i64 vk, .int .i64 vn, .int .i64 ve, .string vs, .slice a ts.length cap] 30)).alloc (.cells #[.int .i64 d] 3)).alloc (.cells #[.pointer (some ⟨c, 0, none⟩)] 66)).cell? ⟨c, 0, none⟩ = some (.int .i64 L) := by rw [hW3]; exact cell_of_one ((HB3.out.block c hcw).trans HCELL.out)
  have fc : (((w.alloc (.cells #[.int .i64 vk, .int .i64 vn, .int .i64 ve, .string vs, .slice a ts.length cap] 30)).alloc (.cells #[.int .i64 d] 3)).alloc (.cells #[.pointer (some ⟨c, 0, none⟩)] 66)).frozen? ⟨c, 0, none⟩ = false := by rw [hW3]; exact free_of_one ((HB3.out.block c hcw).trans HCELL.out)
  have HW3 := Lib.hid hW3
  clear hW3 hz3
  go_enter Tryd.func47, Tryd.ntmps47
  go_wp2_with fail
  rw [HW3.out]
  clear dc fc
  generalize hW4 : W3.setCell ⟨c, 0, none⟩ (.int .i64 (L - 1)) = W4
  have HC4 := Lib.hid (show Cell1 W4 c (.int .i64 (L - 1)) 3 by
    rw [← hW4]; have := heap_setCell_same W3 c 0 #[.int .i64 L] _ (.int .i64 (L - 1)) ((HB3.out.block c hcw).trans HCELL.out); exact this)
  have ho4 : ∀ x, x ≠ c → W4.heap[x]? = W3.heap[x]? := fun x hx => by rw [← hW4]; exact heap_setCell_other _ _ _ _ hx
  have HX4 := Lib.hid (show Box W4 w.heap.size vk vn ve vs (.slice a ts.length cap) 30 ∧ Cell1 W4 (w.heap.size + 1) (.int .i64 d) 3 ∧ Cell1 W4 (w.heap.size + 1 + 1) (.pointer (some ⟨c, 0, none⟩)) 66 from
    ⟨(ho4 _ (by omega)).trans HX3.out.1, HX3.out.2.1.over (ho4 _ (by omega)), HX3.out.2.2.over (ho4 _ (by omega))⟩)
  have HT4 := Lib.hid (show Touch (oneC c) (oneC c) w W4 from (Touch.of_below HB3.out).trans (by rw [← hW4]; exact touch_cell W3 c 0 _ rfl))
  have HB4 := Lib.hid (show Below w0.heap.size w0 W4 from HW.out.trans ((HT4.out.below (fun x hx => by have h1 : x = c := hx; omega) hws)))
  have hz4 : W4.heap.size = w.heap.size + 1 + 1 + 1 := by rw [← hW4]; simpa using HZ3.out
  clear hW4 ho4 HX3 HB3 HZ3 HW3 HCELL
  -- what is handed back
  have HNO := Lib.hid (show ∀ (W : World), Below W4.heap.size W4 W → o = none → IVRet o c w (.returned (.bool false)) W from fun W hW h => by
    subst h
    exact ⟨rfl, L - 1, ⟨HC4.out.over (hW.block c (by omega)), by omega, by omega, HT4.out.trans (Touch.of_below hW)⟩, fun r h => by cases h⟩)
  obtain ⟨b0, b1, b2, b3, b4⟩ := HX4.out.1.cells
  have e1 := cell_of_one HX4.out.2.1
  have e2 := cell_of_one HX4.out.2.2
  have e3 := cell_of_one HC4.out
  by_cases c1 : L - 1 < 0
  · have H := Lib.hid (HNO.out · · (show o = none by rw [HO.out, HS.out, decide_eq_false (by omega)]; rfl))
    clear HO HS ND AK IH
    go_quiet (fail)
    all_goals go_wp2_with fail
    all_goals go_ret
    all_goals exact H.out _ (by (repeat' (first | with_reducible exact Below.refl _ _ | with_reducible refine below_alloc ?_ _ ?_ | with_reducible refine Below.setCell ?_ ?_ _ | with_reducible refine Below.drew ?_ | with_reducible refine Go.below_drewN ?_ _ | with_reducible refine below_step ?_ (by assumption) ?_ | with_reducible refine below_mark ?_ (by assumption) ?_)); all_goals (first | omega | (simp; done) | (simp; omega)))
  by_cases c2 : 12 < d
  · have H := Lib.hid (HNO.out · · (show o = none by rw [HO.out, HS.out, decide_eq_false (by omega)]; rfl))
    clear HO HS ND AK IH
    go_quiet (fail)
    all_goals go_wp2_with fail
    all_goals go_ret
    all_goals exact H.out _ (by (repeat' (first | with_reducible exact Below.refl _ _ | with_reducible refine below_alloc ?_ _ ?_ | with_reducible refine Below.setCell ?_ ?_ _ | with_reducible refine Below.drew ?_ | with_reducible refine Go.below_drewN ?_ _ | with_reducible refine below_step ?_ (by assumption) ?_ | with_reducible refine below_mark ?_ (by assumption) ?_)); all_goals (first | omega | (simp; done) | (simp; omega)))
  by_cases c3 : L - 1 < ts.length
  · have H := Lib.hid (HNO.out · · (show o = none by rw [HO.out, HS.out, decide_eq_false (by omega)]; rfl))
    clear HO HS ND AK IH
    go_quiet (fail)
    all_goals go_wp2_with fail
    all_goals go_ret
    all_goals exact H.out _ (by (repeat' (first | with_reducible exact Below.refl _ _ | with_reducible refine below_alloc ?_ _ ?_ | with_reducible refine Below.setCell ?_ ?_ _ | with_reducible refine Below.drew ?_ | with_reducible refine Go.below_drewN ?_ _ | with_reducible refine below_step ?_ (by assumption) ?_ | with_reducible refine below_mark ?_ (by assumption) ?_)); all_goals (first | omega | (simp; done) | (simp; omega)))
  cases nb
  case false =>
    have H := Lib.hid (HNO.out · · (show o = none by rw [HO.out, HS.out]; simp))
    clear HO HS AK IH
    go_region_with (go_at_call 68; refine (ND.out _ (below_mark HB4.out (show Below W4.heap.size W4 _ by exact (by (repeat' (first | with_reducible exact Below.refl _ _ | with_reducible refine below_alloc ?_ _ ?_ | with_reducible refine Below.setCell ?_ ?_ _ | with_reducible refine Below.drew ?_ | with_reducible refine Go.below_drewN ?_ _ | with_reducible refine below_step ?_ (by assumption) ?_ | with_reducible refine below_mark ?_ (by assumption) ?_)); all_goals (first | omega | (simp; done) | (simp; omega)))) (by have := HB4.out.size; omega))).mono ?_; rintro x5 w5 ⟨rfl, hb5⟩)
    all_goals go_wp2_with fail
    all_goals go_ret
    all_goals exact H.out _ (by (repeat' (first | with_reducible exact Below.refl _ _ | with_reducible refine below_alloc ?_ _ ?_ | with_reducible refine Below.setCell ?_ ?_ _ | with_reducible refine Below.drew ?_ | with_reducible refine Go.below_drewN ?_ _ | with_reducible refine below_step ?_ (by assumption) ?_ | with_reducible refine below_mark ?_ (by assumption) ?_)); all_goals (first | omega | (simp; done) | (simp; omega)))
  case true =>
    go_cut [38] (fun s wx => s = .bool (!ab) ∧ Below W4.heap.size W4 wx)
    case first =>
      go_region_with (first | (go_at_call 68; refine (ND.out _ (below_mark HB4.out (show Below W4.heap.size W4 _ by exact (by (repeat' (first | with_reducible exact Below.refl _ _ | with_reducible refine below_alloc ?_ _ ?_ | with_reducible refine Below.setCell ?_ ?_ _ | with_reducible refine Below.drew ?_ | with_reducible refine Go.below_drewN ?_ _ | with_reducible refine below_step ?_ (by assumption) ?_ | with_reducible refine below_mark ?_ (by assumption) ?_)); all_goals (first | omega | (simp; done) | (simp; omega)))) (by have := HB4.out.size; omega))).mono ?_; rintro x5 w5 ⟨rfl, hb5⟩; obtain ⟨y0, y1, y2, y3, y4⟩ := (HX4.out.1.overB (show Below W4.heap.size W4 w5 by exact (by (repeat' (first | with_reducible exact Below.refl _ _ | with_reducible refine below_alloc ?_ _ ?_ | with_reducible refine Below.setCell ?_ ?_ _ | with_reducible refine Below.drew ?_ | with_reducible refine Go.below_drewN ?_ _ | with_reducible refine below_step ?_ (by assumption) ?_ | with_reducible refine below_mark ?_ (by assumption) ?_)); all_goals (first | omega | (simp; done) | (simp; omega)))) (by omega)).cells) | (go_at_call 69; refine (AK.out _ (below_mark HB4.out (show Below W4.heap.size W4 _ by exact (by (repeat' (first | with_reducible exact Below.refl _ _ | with_reducible refine below_alloc ?_ _ ?_ | with_reducible refine Below.setCell ?_ ?_ _ | with_reducible refine Below.drew ?_ | with_reducible refine Go.below_drewN ?_ _ | with_reducible refine below_step ?_ (by assumption) ?_ | with_reducible refine below_mark ?_ (by assumption) ?_)); all_goals (first | omega | (simp; done) | (simp; omega)))) (by have := HB4.out.size; omega))).mono ?_; rintro x6 w6 ⟨rfl, hb6⟩))
      all_goals (go_wp2_with fail; go_meet; exact ⟨rfl, (by (repeat' (first | with_reducible exact Below.refl _ _ | with_reducible refine below_alloc ?_ _ ?_ | with_reducible refine Below.setCell ?_ ?_ _ | with_reducible refine Below.drew ?_ | with_reducible refine Go.below_drewN ?_ _ | with_reducible refine below_step ?_ (by assumption) ?_ | with_reducible refine below_mark ?_ (by assumption) ?_)); all_goals (first | omega | (simp; done) | (simp; omega)))⟩)
    case rest =>
      obtain ⟨rfl, hbc⟩ := hcut
      cases ab
      case false =>
        have H := Lib.hid (HNO.out · · (show o = none by rw [HO.out, HS.out]; simp))
        clear HO HS IH
        go_wp2_with fail
        go_ret
        exact H.out _ hbc
      case true =>
        have HO2 := Lib.hid (show o = imps ts (d + 1) (L - 1) by rw [HO.out, HS.out, decide_eq_true (by omega)]; rfl)
        clear HO HS HNO b0 b1 b2 b3 b4 e1 e2 e3
        have BX := Lib.hid (HX4.out.1.overB hbc (by omega))
        obtain ⟨b0, b1, b2, b3, b4⟩ := BX.out.cells
        have HI := Lib.hid (has2_any w0 71 (.pointer (some ⟨w.heap.size + 1, 0, none⟩)) (.pointer (some ⟨w.heap.size + 1 + 1, 0, none⟩)) enters_isValue1 (.slice a ts.length cap) ts HREP.out
          (fun i W => ∃ Li, imps (ts.take i) (d + 1) (L - 1) = some Li ∧ Cell1 W c (.int .i64 Li) 3 ∧ Cell1 W (w.heap.size + 1) (.int .i64 d) 3 ∧ Cell1 W (w.heap.size + 1 + 1) (.pointer (some ⟨c, 0, none⟩)) 66 ∧ 0 ≤ Li ∧ Li ≤ 300 ∧ Touch (oneC c) (oneC c) w W)
          (fun i W => o = none ∧ ∃ L', LeftIs c w W L')
          (fun i W ⟨Li, _, _, _, _, _, _, ht⟩ => HW.out.trans (ht.below (fun x hx => by have h1 : x = c := hx; omega) hws))
          (fun i hi sl W hrs wfi ⟨Li, h1, h2, h3, h4, h5, h6, ht⟩ => by
            have hbW : Below w0.heap.size w0 W := HW.out.trans (ht.below (fun x hx => by have h1 : x = c := hx; omega) hws)
            refine (isValue1_any ts[i].k ts[i].n ts[i].e ts[i].s sl (w.heap.size + 1) (w.heap.size + 1 + 1) c d (imp ts[i] (d + 1) Li) hd0 (by omega) W h3 h4 (by have := ht.size; omega) (fun W' hW' => ?_)).mono ?_
            · exact IH.out i hi sl hrs (d + 1) Li c W' (by omega) (by omega) h5 h6 hc0 (h2.over (hW'.block c (by have := ht.size; omega))) (hbW.trans (hW'.mono hbW.size)) wfi
            · rintro e w' ⟨rfl, L', ⟨g1, g2, g3, g4⟩, g5⟩
              have ht' := ht.trans g4
              cases hq : imp ts[i] (d + 1) Li with
              | none =>
                right
                refine ⟨rfl, ?_, L', g1, g2, g3, ht'⟩
                rw [HO2.out]
                exact imps_none ts (d + 1) (L - 1) (i + 1) (by rw [imps_take ts (d + 1) (L - 1) i hi, h1]; exact hq)
              | some r =>
                left
                obtain rfl := g5 r hq
                have hbd := imp_bounds ts[i] (d + 1) Li L' (by omega) h5 h6 hq
                refine ⟨rfl, L', by rw [imps_take ts (d + 1) (L - 1) i hi, h1]; exact hq, g1, h3.over (g4.block _ (by have := lt_of_heap h3; omega) (fun hx => by have : w.heap.size + 1 = c := hx; omega)), h4.over (g4.block _ (by have := lt_of_heap h4; omega) (fun hx => by have : w.heap.size + 1 + 1 = c := hx; omega)), hbd.1, hbd.2, ht'⟩) wc
          ⟨L - 1, by simp [imps], HC4.out.over (hbc.block c (by omega)), HX4.out.2.1.over (hbc.block _ (by omega)), HX4.out.2.2.over (hbc.block _ (by omega)), by omega, by omega, HT4.out.trans (Touch.of_below hbc)⟩)
        clear IH
        go_wp2_with fail
        refine HI.out.mono ?_
        rintro x7 w7 hpost
        rcases hpost with ⟨rfl, hi⟩ | ⟨i, hi, rfl, ho, L', hL⟩
        · have HF := Lib.hid (show IVRet o c w (.returned (.bool true)) w7 by
            obtain ⟨Li, h1, h2, h3, h4, h5, h6, ht⟩ := hi
            rw [List.take_length] at h1
            have ho : o = some Li := by rw [HO2.out, h1]
            rw [ho]
            exact ⟨rfl, Li, ⟨h2, by omega, h6, ht⟩, fun r hr => by injection hr⟩)
          clear hi
          go_wp2_with fail
          go_ret
          exact HF.out
        · have HF := Lib.hid (show IVRet o c w (.returned (.bool false)) w7 by
            subst ho
            exact ⟨rfl, L', hL, fun r hr => by cases hr⟩)
          clear hL ho
          go_wp2_with fail
          go_ret
          exact HF.out
set_option maxHeartbeats 400000 in
theorem ValueOk_impl (w0 : World) (hE : Env w0) (v : Value) (t : V) (h : Rep w0 v t) (hsz : t.sz ≤ 1048576) (w : World) (hw : Below w0.heap.size w0 w) : Calls Tryd.prog 25 #[v] w fun e w' => e = .returned (.bool (okT t)) ∧ Below w.heap.size w w' := by
  obtain ⟨sl, rfl, hwf, hr⟩ := h
  have hws := hw.size
  have IV := Lib.hid (fun (c : Nat) (W : World) (hc : w.heap.size ≤ c) (h1 : Cell1 W c (.int .i64 300) 3) (hW : Below w.heap.size w W) => isValue_all w0 hE _ sl t.kids (Nat.le_refl _) hr (by have := V.sz_eq t; omega) t rfl hwf 0 300 c W (by omega) (by omega) (by omega) (by omega) (by omega) h1 (hw.trans (hW.mono hws)))
  obtain ⟨b, hb⟩ : ∃ b, b = okT t := ⟨_, rfl⟩
  rw [← hb]
  have HB := Lib.hid (show (imp t 0 300).isSome = b by rw [hb]; exact imp_ok t)
  clear hr hw hE hb
  unfold V.agg at IV ⊢
  generalize imp t 0 300 = o at *
  generalize t.k = vk at *
  generalize t.n = vn at *
  generalize t.e = ve at *
  generalize t.s = vs at *
  go_enter Tryd.func25, Tryd.ntmps25
  go_wp2_with fail
  have HC := Lib.hid (show Cell1 ((w.alloc (.cells #[.int .i64 vk, .int .i64 vn, .int .i64 ve, .string vs, sl] 30)).alloc (.cells #[.int .i64 300] 3)) (w.heap.size + 1) (.int .i64 300) 3 by
    have := heap_alloc_new (w.alloc (.cells #[.int .i64 vk, .int .i64 vn, .int .i64 ve, .string vs, sl] 30)) (.cells #[.int .i64 300] 3)
    rw [show (w.alloc (.cells #[.int .i64 vk, .int .i64 vn, .int .i64 ve, .string vs, sl] 30)).heap.size = w.heap.size + 1 by simp] at this; exact this)
  refine (IV.out _ _ (by omega) HC.out (by (repeat' (first | with_reducible exact Below.refl _ _ | with_reducible refine below_alloc ?_ _ ?_ | with_reducible refine Below.setCell ?_ ?_ _ | with_reducible refine Below.drew ?_ | with_reducible refine Go.below_drewN ?_ _ | with_reducible refine below_step ?_ (by assumption) ?_ | with_reducible refine below_mark ?_ (by assumption) ?_)); all_goals (first | omega | (simp; done) | (simp; omega)))).mono ?_
  rintro x w1 ⟨rfl, L', ⟨_, _, _, ht⟩, _⟩
  have HT := Lib.hid (ht.below (B := w.heap.size) (fun x hx => by have : x = w.heap.size + 1 := hx; omega) (by simp; omega))
  clear ht
  go_wp2_with fail
  go_ret
  exact ⟨by rw [← HB.out]; rfl, Below.trans ((by (repeat' (first | with_reducible exact Below.refl _ _ | with_reducible refine below_alloc ?_ _ ?_ | with_reducible refine Below.setCell ?_ ?_ _ | with_reducible refine Below.drew ?_ | with_reducible refine Go.below_drewN ?_ _ | with_reducible refine below_step ?_ (by assumption) ?_ | with_reducible refine below_mark ?_ (by assumption) ?_)); all_goals (first | omega | (simp; done) | (simp; omega)))) HT.out⟩
end Go.Proofs.YtaphlemmlmdkiaaDoor
namespace Go.Proofs.YtaphlemmlmdkiaaDoor
set_option linter.unusedSimpArgs false
set_option linter.unusedVariables false
set_option maxRecDepth 100000
open Go.RowKit
theorem OwnS.low {w : World} {B B' : Nat} {v : Value} {ts : List V} (h : OwnS w (fun x => B' ≤ x) v ts) (hB : B ≤ B') : OwnS w (fun x => B ≤ x) v ts := h.mono (fun x hx => Nat.le_trans hB hx)
set_option maxHeartbeats 400000 in
theorem copy_value (t : V) (sl : Value) (w : World) (hwf : t.wf) (hsl : ∃ a n c, sl = .slice a n c)
    (hall : ∀ W : World, Below w.heap.size w W → Calls Tryd.prog 67 #[sl] W (ListRet W t.kids)) :
    Calls Tryd.prog 46 #[t.agg sl] w (ValRet w t) := by
  obtain ⟨a0, n0, c0, rfl⟩ := hsl
  have IH := Lib.hid hall; clear hall
  have HP := Lib.hid (show ∀ e w', (∃ sl, e = .returned (t.agg sl) ∧ OwnS w' (fun x => w.heap.size ≤ x) sl t.kids ∧ Below w.heap.size w w') → ValRet w t e w' from fun e w' ⟨sl, h1, h2, h3⟩ => ⟨sl, h1, hwf, h2, h3⟩)
  clear hwf
  unfold V.agg at HP ⊢
  generalize t.k = k at *
  generalize t.n = n at *
  generalize t.e = e at *
  generalize t.s = s at *
  go_enter Tryd.func46, Tryd.ntmps46
  go_wp2_with fail
  refine (IH.out _ (by (repeat' (first | with_reducible exact Below.refl _ _ | with_reducible refine below_alloc ?_ _ ?_ | with_reducible refine Below.setCell ?_ ?_ _ | with_reducible refine Below.drew ?_ | with_reducible refine Go.below_drewN ?_ _ | with_reducible refine below_step ?_ (by assumption) ?_ | with_reducible refine below_mark ?_ (by assumption) ?_)); all_goals (first | omega | (simp; done) | (simp; omega)))).mono ?_
  rintro e1 w1 ⟨v, rfl, ho, hb⟩
  obtain ⟨a, cap, rfl⟩ := ho.slice
  have hz := hb.size
  simp at hz
  obtain ⟨hc, hf⟩ := bcell hb
  have HO := Lib.hid ho; clear ho
  go_wp2_with fail
  refine bodyPost_ret (v := .agg #[.int .i64 k, .int .i64 n, .int .i64 e, .string s, .slice a t.kids.length cap]) (by simp [results, Tryd.results46, go_sem, hc]) rfl (HP.out _ _ ⟨_, rfl, ?_, (by (repeat' (first | with_reducible exact Below.refl _ _ | with_reducible refine below_alloc ?_ _ ?_ | with_reducible refine Below.setCell ?_ ?_ _ | with_reducible refine Below.drew ?_ | with_reducible refine Go.below_drewN ?_ _ | with_reducible refine below_step ?_ (by assumption) ?_ | with_reducible refine below_mark ?_ (by assumption) ?_)); all_goals (first | omega | (simp; done) | (simp; omega)))⟩)
  refine OwnS.mono (F := fun x => w.heap.size + 1 + 1 + 1 ≤ x) ?_ (fun x hx => by omega)
  repeat refine OwnS.set ?_ _ _ (by first | omega | (simp; done) | (simp; omega))
  simpa using HO.out
set_option maxHeartbeats 1000000 in
theorem copy_all (w0 : World) : ∀ (N : Nat) (v : Value) (ts : List V), szs ts ≤ N → RepS w0 v ts → szs ts ≤ 1048576 → ∀ (w : World), Below w0.heap.size w0 w →
    Calls Tryd.prog 67 #[v] w (ListRet w ts) := by
  intro N
  induction N using Nat.strongRecOn with
  | ind N ih =>
  intro v ts hN h hsz w hw
  obtain ⟨a, b, off, cap, rfl, ha, hc, hm, sls, hel⟩ := h.opened
  have hlen := szs_length ts
  have HA := Lib.hid ha; have HE := Lib.hid hel; have HW := Lib.hid hw
  have V1 := Lib.hid (fun (j : Nat) (hj : j < ts.length) (W : World) (hW : Below w0.heap.size w0 W) => copy_value ts[j] (sls j) W (HE.out j hj).2.1 (by obtain ⟨a, c, e⟩ := (HE.out j hj).2.2.slice; exact ⟨a, _, c, e⟩)
    (fun W' hW' => ih (szs ts[j].kids) (by have h1 := szs_mem (List.getElem_mem hj); have h2 := V.sz_eq ts[j]; omega) (sls j) ts[j].kids (Nat.le_refl _) (HE.out j hj).2.2 (by have h1 := szs_mem (List.getElem_mem hj); have h2 := V.sz_eq ts[j]; omega) W' (below_step hW hW' (Nat.le_refl _))))
  clear ih h hel ha hc hm hN
  have R0 := Lib.hid (VRows.made0 (w := w.alloc (.cells #[] 30)) (base := w.heap.size) (Nat.le_refl _) (heap_alloc_new w (.cells #[] 30)))
  go_enter Tryd.func67, Tryd.ntmps67
  go_wp2_with fail
  go_loopw [3, 4] (fun o i wr => ∃ (k : Nat) (G : Nat → Prop), k ≤ ts.length ∧ i = .int .i64 k ∧ VRows wr w.heap.size 30 G o (ts.take k) ∧ Below w.heap.size w wr) (fun _ i _ => ts.length + 1 - (intOf i).toNat)
  case atStart => exact ⟨0, _, by omega, rfl, R0.out, (by (repeat' (first | with_reducible exact Below.refl _ _ | with_reducible refine below_alloc ?_ _ ?_ | with_reducible refine Below.setCell ?_ ?_ _ | with_reducible refine Below.drew ?_ | with_reducible refine Go.below_drewN ?_ _ | with_reducible refine below_step ?_ (by assumption) ?_ | with_reducible refine below_mark ?_ (by assumption) ?_)); all_goals (first | omega | (simp; done) | (simp; omega)))⟩
  case round =>
    obtain ⟨k, G, hk, rfl, hrow, hbl⟩ := hrel
    have HROW := Lib.hid hrow; clear hrow
    by_cases hlt : k < ts.length
    · have hne : ts ≠ [] := by intro e; rw [e] at hlt; simp at hlt
      obtain ⟨rfl, hbw⟩ := HA.out hne
      have HWR := Lib.hid (HW.out.trans (hbl.mono HW.out.size))
      obtain ⟨c0, c1, c2, c3, c4⟩ := (HE.out k hlt).1.keep (HWR.out.block b hbw)
      have VJ := Lib.hid (fun (W : World) (hW : Below wr.heap.size wr W) => V1.out k hlt W (below_step HWR.out hW (by have := HWR.out.size; omega)))
      have HT := Lib.hid (show ts.take (k + 1) = ts.take k ++ [ts[k]] from List.take_succ_eq_append_getElem hlt)
      have HLEN := Lib.hid (show (ts.take k).length ≤ 1048576 by rw [List.length_take]; omega)
      obtain ⟨a3, cap3, hs3⟩ := (HE.out k hlt).2.2.slice
      rw [hs3] at c4 VJ
      clear hs3
      have HG := Lib.hid hbl.size
      have hz9 := hbl.size
      unfold V.agg at VJ
      generalize hgn : ts[k] = tk at *
      generalize ts.take k = L at *
      go_wp2_with fail
      refine (VJ.out _ (Below.refl _ _)).mono ?_
      rintro x w1 ⟨s2, rfl, twf, ho, hb1⟩
      obtain ⟨sa, sn, sc, rfl⟩ : ∃ sa sn sc, s2 = .slice sa sn sc := by obtain ⟨p, q, e⟩ := ho.slice; exact ⟨p, _, q, e⟩
      unfold V.agg
      have hz1 := hb1.size
      have HO := Lib.hid ho.bound; clear ho
      have HWF := Lib.hid twf; clear twf
      have B1 := Lib.hid (heap_alloc_new w1 (.cells #[.int .i64 tk.k, .int .i64 tk.n, .int .i64 tk.e, .string tk.s, .slice sa sn sc] 30))
      have R1 := Lib.hid ((HROW.out.keep hb1).keep ((Below.refl _ _).alloc (Nat.le_refl w1.heap.size) (.cells #[.int .i64 tk.k, .int .i64 tk.n, .int .i64 tk.e, .string tk.s, .slice sa sn sc] 30)))
      have O1 := Lib.hid (HO.out.alloc (.cells #[.int .i64 tk.k, .int .i64 tk.n, .int .i64 tk.e, .string tk.s, .slice sa sn sc] 30))
      have HF1 := Lib.hid (show ∀ x, (wr.heap.size ≤ x ∧ x < w1.heap.size) → w.heap.size ≤ x ∧ x < (w1.alloc (.cells #[.int .i64 tk.k, .int .i64 tk.n, .int .i64 tk.e, .string tk.s, .slice sa sn sc] 30)).heap.size ∧ ¬ G x ∧ u3.ownBlock ≠ some x from
        fun x ⟨h1, h2⟩ => ⟨by omega, by simp; omega, fun hG => by have := (HROW.out.inG x hG).2; omega, fun e => by have := (HROW.out.lt x e).2; omega⟩)
      go_wp2_with (at_builtin; refine app_own rfl _ _ rfl w.heap.size G (fun x => wr.heap.size ≤ x ∧ x < w1.heap.size) _ L rfl R1.out tk (.slice sa sn sc) w1.heap.size rfl B1.out HWF.out O1.out HF1.out (by have := HLEN.out; omega) (by simp; omega) ?_; intro v2 w2 hrow2 hg2 hfr2; have HR2 := Lib.hid hrow2; have HG2 := Lib.hid hg2; clear hrow2 hg2 hfr2)
      go_roundw
      case rel => exact ⟨k + 1, _, by omega, by go_num, by rw [HT.out]; exact HR2.out, Below.grown ((by (repeat' (first | with_reducible exact Below.refl _ _ | with_reducible refine below_alloc ?_ _ ?_ | with_reducible refine Below.setCell ?_ ?_ _ | with_reducible refine Below.drew ?_ | with_reducible refine Go.below_drewN ?_ _ | with_reducible refine below_step ?_ (by assumption) ?_ | with_reducible refine below_mark ?_ (by assumption) ?_)); all_goals (first | omega | (simp; done) | (simp; omega)))) HG2.out (by simp; omega) (fun x hx => (HROW.out.lt x hx).1)⟩
      case measure => simp [intOf]; omega
    · have H := Lib.hid (show ts.take k = ts from List.take_of_length_le (by omega))
      go_wp2_with fail
      go_ret
      exact ⟨_, rfl, by have := HROW.out.own; rwa [H.out] at this, hbl⟩
theorem VRows.made0c {w : World} {base b cap : Nat} {E : TypeId} {cur : Array Value} (hb : base ≤ b) (h : w.heap[b]? = some (.cells cur E (0, 0))) (hc : cur.size = cap * 5) (hm : cap ≤ maxLen) : VRows w base E (fun _ => False) (.slice (some ⟨b, 0, none⟩) 0 cap) [] := by
  refine ⟨[], fun _ _ => False, ⟨?_, rfl, by simp, by simp, by simp, by simp, by simp, by simp⟩⟩
  exact ⟨rfl, .inr ⟨b, cap, cur, rfl, hb, h, Nat.zero_le _, hm, hc, by simp [flat]⟩⟩
set_option maxHeartbeats 1000000 in
theorem own_all (w0 : World) : ∀ (N : Nat) (v : Value) (t : V), t.sz < N → Rep w0 v t → t.sz ≤ 1048576 → ∀ (w : World), Below w0.heap.size w0 w →
    Calls Tryd.prog 36 #[v] w (ValRet w t) := by
  intro N
  induction N with
  | zero => intro v t h; omega
  | succ N ih =>
  intro v t hN h hsz w hw
  obtain ⟨sl, rfl, hwf, hr⟩ := h
  have hts := V.sz_eq t
  have HP := Lib.hid (show ∀ e w', (∃ sl, e = .returned (t.agg sl) ∧ OwnS w' (fun x => w.heap.size ≤ x) sl t.kids ∧ Below w.heap.size w w') → ValRet w t e w' from fun e w' ⟨sl, h1, h2, h3⟩ => ⟨sl, h1, hwf, h2, h3⟩)
  obtain ⟨a, b, off, cap, rfl, ha, hc, hm, sls, hel⟩ := hr.opened
  have hlen := szs_length t.kids
  have HA := Lib.hid ha; have HE := Lib.hid hel; have HW := Lib.hid hw
  have V1 := Lib.hid (fun (j : Nat) (hj : j < t.kids.length) (W : World) (hW : Below w0.heap.size w0 W) => ih (t.kids[j].agg (sls j)) t.kids[j] (by have h1 := szs_mem (List.getElem_mem hj); omega) ⟨sls j, rfl, (HE.out j hj).2.1, (HE.out j hj).2.2⟩ (by have h1 := szs_mem (List.getElem_mem hj); omega) W hW)
  have hl : t.kids.length ≤ 1048576 := by omega
  clear ih hel ha hc hm hN hr hwf hlen hts hsz
  unfold V.agg at HP ⊢
  generalize t.k = k at *
  generalize t.n = n at *
  generalize t.e = e at *
  generalize t.s = s at *
  generalize t.kids = ts at *
  obtain ⟨i0, hi, hz0, hz1, hz2⟩ := info_parts info_impl
  have hmk := Lib.hid (fun (W : World) => run_make (P := Tryd.prog) W 28 30 i0 _ Tryd.underlying28 hi hz0 .i64 .i64 0 ts.length (by omega) (by omega) (by rw [hz2]; omega) (by omega))
  rw [hz1] at hmk
  clear hi hz0 hz1 hz2
  by_cases hk0 : ts.length = 0
  · obtain rfl := List.eq_nil_of_length_eq_zero hk0
    clear hmk V1 HE HA
    go_enter Tryd.func36, Tryd.ntmps36
    go_wp2_with fail
    refine bodyPost_ret (v := .agg #[.int .i64 k, .int .i64 n, .int .i64 e, .string s, .slice none 0 0]) (by simp [results, Tryd.results36, go_sem]) rfl (HP.out _ _ ⟨_, rfl, OwnS.nil _ _, (by (repeat' (first | with_reducible exact Below.refl _ _ | with_reducible refine below_alloc ?_ _ ?_ | with_reducible refine Below.setCell ?_ ?_ _ | with_reducible refine Below.drew ?_ | with_reducible refine Go.below_drewN ?_ _ | with_reducible refine below_step ?_ (by assumption) ?_ | with_reducible refine below_mark ?_ (by assumption) ?_)); all_goals (first | omega | (simp; done) | (simp; omega)))⟩)
  · have t1 : ((ts.length : Int) == 0) = false := by simp; exact fun e => hk0 (by simp [e])
    have R0 := Lib.hid (VRows.made0c (w := ((w.alloc (.cells #[.int .i64 k, .int .i64 n, .int .i64 e, .string s, .slice a ts.length cap] 30)).alloc (.cells #[.int .i64 0, .int .i64 0, .int .i64 0, .string ⟨#[]⟩, .slice none 0 0] 30)).alloc (.cells (madeCells (Value.agg #[.int .i64 0, .int .i64 0, .int .i64 0, .string ⟨#[]⟩, .slice none 0 0]).cells ((ts.length : Int).toNat * 5)) 30))
      (base := w.heap.size + 1 + 1) (b := w.heap.size + 1 + 1) (cap := ts.length) (Nat.le_refl _) (by
        have := heap_alloc_new ((w.alloc (.cells #[.int .i64 k, .int .i64 n, .int .i64 e, .string s, .slice a ts.length cap] 30)).alloc (.cells #[.int .i64 0, .int .i64 0, .int .i64 0, .string ⟨#[]⟩, .slice none 0 0] 30)) (.cells (madeCells (Value.agg #[.int .i64 0, .int .i64 0, .int .i64 0, .string ⟨#[]⟩, .slice none 0 0]).cells ((ts.length : Int).toNat * 5)) 30)
        rw [show ((w.alloc (.cells #[.int .i64 k, .int .i64 n, .int .i64 e, .string s, .slice a ts.length cap] 30)).alloc (.cells #[.int .i64 0, .int .i64 0, .int .i64 0, .string ⟨#[]⟩, .slice none 0 0] 30)).heap.size = w.heap.size + 1 + 1 by simp] at this
        exact this) (by rw [size_madeCells]; simp) (by simp [maxLen]; omega))
    clear hk0
    go_enter Tryd.func36, Tryd.ntmps36
    have hmk2 := hmk.out
    go_wp2_with fail
    clear hmk2 hmk
    have HBW := Lib.hid (show Below w.heap.size w (((w.alloc (.cells #[.int .i64 k, .int .i64 n, .int .i64 e, .string s, .slice a ts.length cap] 30)).alloc (.cells #[.int .i64 0, .int .i64 0, .int .i64 0, .string ⟨#[]⟩, .slice none 0 0] 30)).alloc (.cells (madeCells (Value.agg #[.int .i64 0, .int .i64 0, .int .i64 0, .string ⟨#[]⟩, .slice none 0 0]).cells ((ts.length : Int).toNat * 5)) 30)) from (by (repeat' (first | with_reducible exact Below.refl _ _ | with_reducible refine below_alloc ?_ _ ?_ | with_reducible refine Below.setCell ?_ ?_ _ | with_reducible refine Below.drew ?_ | with_reducible refine Go.below_drewN ?_ _ | with_reducible refine below_step ?_ (by assumption) ?_ | with_reducible refine below_mark ?_ (by assumption) ?_)); all_goals (first | omega | (simp; done) | (simp; omega))))
    have HZW := Lib.hid (show (((w.alloc (.cells #[.int .i64 k, .int .i64 n, .int .i64 e, .string s, .slice a ts.length cap] 30)).alloc (.cells #[.int .i64 0, .int .i64 0, .int .i64 0, .string ⟨#[]⟩, .slice none 0 0] 30)).alloc (.cells (madeCells (Value.agg #[.int .i64 0, .int .i64 0, .int .i64 0, .string ⟨#[]⟩, .slice none 0 0]).cells ((ts.length : Int).toNat * 5)) 30)).heap.size = w.heap.size + 1 + 1 + 1 by simp)
    have BXW := Lib.hid (((Box.new w k n e s (.slice a ts.length cap) 30).alloc (.cells #[.int .i64 0, .int .i64 0, .int .i64 0, .string ⟨#[]⟩, .slice none 0 0] 30)).alloc (.cells (madeCells (Value.agg #[.int .i64 0, .int .i64 0, .int .i64 0, .string ⟨#[]⟩, .slice none 0 0]).cells ((ts.length : Int).toNat * 5)) 30))
    have BZ0 := (Box.new (w.alloc (.cells #[.int .i64 k, .int .i64 n, .int .i64 e, .string s, .slice a ts.length cap] 30)) 0 0 0 ⟨#[]⟩ (.slice none 0 0) 30).alloc (.cells (madeCells (Value.agg #[.int .i64 0, .int .i64 0, .int .i64 0, .string ⟨#[]⟩, .slice none 0 0]).cells ((ts.length : Int).toNat * 5)) 30)
    rw [show (w.alloc (.cells #[.int .i64 k, .int .i64 n, .int .i64 e, .string s, .slice a ts.length cap] 30)).heap.size = w.heap.size + 1 by simp] at BZ0
    have BZW := Lib.hid BZ0; clear BZ0
    go_loopw [3, 19, 5] (fun o i _ wr => ∃ (j : Nat) (G : Nat → Prop), j ≤ ts.length ∧ i = .int .i64 j ∧ VRows wr (w.heap.size + 1 + 1) 30 G o (ts.take j) ∧ Below (w.heap.size + 1 + 1) (((w.alloc (.cells #[.int .i64 k, .int .i64 n, .int .i64 e, .string s, .slice a ts.length cap] 30)).alloc (.cells #[.int .i64 0, .int .i64 0, .int .i64 0, .string ⟨#[]⟩, .slice none 0 0] 30)).alloc (.cells (madeCells (Value.agg #[.int .i64 0, .int .i64 0, .int .i64 0, .string ⟨#[]⟩, .slice none 0 0]).cells ((ts.length : Int).toNat * 5)) 30)) wr) (fun _ i _ _ => ts.length - (intOf i).toNat)
    case atStart => exact ⟨0, _, by omega, rfl, R0.out, Below.refl _ _⟩
    case round =>
      obtain ⟨j, G, hj, rfl, hrow, hbl⟩ := hrel
      have HROW := Lib.hid hrow; clear hrow
      have HBL := Lib.hid (HBW.out.trans (hbl.mono (by omega)))
      have hz9 := hbl.size
      rw [HZW.out] at hz9
      by_cases hlt : j < ts.length
      · have hne : ts ≠ [] := by intro e; rw [e] at hlt; simp at hlt
        obtain ⟨rfl, hbw⟩ := HA.out hne
        have HWR := Lib.hid (HW.out.trans (HBL.out.mono HW.out.size))
        obtain ⟨c0, c1, c2, c3, c4⟩ := (HE.out j hlt).1.keep (HWR.out.block b hbw)
        have VJ := Lib.hid (fun (W : World) (hW : Below wr.heap.size wr W) => V1.out j hlt W (below_step HWR.out hW (by have := HWR.out.size; omega)))
        have HT := Lib.hid (show ts.take (j + 1) = ts.take j ++ [ts[j]] from List.take_succ_eq_append_getElem hlt)
        have HLEN := Lib.hid (show (ts.take j).length ≤ 1048576 by rw [List.length_take]; omega)
        obtain ⟨a3, cap3, hs3⟩ := (HE.out j hlt).2.2.slice
        rw [hs3] at c4 VJ
        clear hs3 V1
        unfold V.agg at VJ
        generalize ts[j] = tk at *
        generalize ts.take j = L at *
        go_wp2_with fail
        refine (VJ.out _ ((by (repeat' (first | with_reducible exact Below.refl _ _ | with_reducible refine below_alloc ?_ _ ?_ | with_reducible refine Below.setCell ?_ ?_ _ | with_reducible refine Below.drew ?_ | with_reducible refine Go.below_drewN ?_ _ | with_reducible refine below_step ?_ (by assumption) ?_ | with_reducible refine below_mark ?_ (by assumption) ?_)); all_goals (first | omega | (simp; done) | (simp; omega))))).mono ?_
        rintro x w1 ⟨s2, rfl, twf, ho, hb1⟩
        obtain ⟨sa, sn, sc, rfl⟩ : ∃ sa sn sc, s2 = .slice sa sn sc := by obtain ⟨p, q, e⟩ := ho.slice; exact ⟨p, _, q, e⟩
        unfold V.agg
        have hz1 := hb1.size
        simp at hz1
        have HO := Lib.hid ho.bound; clear ho
        have HWF := Lib.hid twf; clear twf
        have B1 := Lib.hid (heap_alloc_new w1 (.cells #[.int .i64 tk.k, .int .i64 tk.n, .int .i64 tk.e, .string tk.s, .slice sa sn sc] 30))
        have R1 := Lib.hid ((HROW.out.keep (show Below wr.heap.size wr w1 from (by (repeat' (first | with_reducible exact Below.refl _ _ | with_reducible refine below_alloc ?_ _ ?_ | with_reducible refine Below.setCell ?_ ?_ _ | with_reducible refine Below.drew ?_ | with_reducible refine Go.below_drewN ?_ _ | with_reducible refine below_step ?_ (by assumption) ?_ | with_reducible refine below_mark ?_ (by assumption) ?_)); all_goals (first | omega | (simp; done) | (simp; omega))))).keep ((Below.refl _ _).alloc (Nat.le_refl w1.heap.size) (.cells #[.int .i64 tk.k, .int .i64 tk.n, .int .i64 tk.e, .string tk.s, .slice sa sn sc] 30)))
        have O1 := Lib.hid ((HO.out.mono (F' := fun x => wr.heap.size ≤ x ∧ x < w1.heap.size) (fun x hx => ⟨by have := hx.1; simp at this; omega, hx.2⟩)).alloc (.cells #[.int .i64 tk.k, .int .i64 tk.n, .int .i64 tk.e, .string tk.s, .slice sa sn sc] 30))
        have HF1 := Lib.hid (show ∀ x, (wr.heap.size ≤ x ∧ x < w1.heap.size) → w.heap.size + 1 + 1 ≤ x ∧ x < (w1.alloc (.cells #[.int .i64 tk.k, .int .i64 tk.n, .int .i64 tk.e, .string tk.s, .slice sa sn sc] 30)).heap.size ∧ ¬ G x ∧ u3.ownBlock ≠ some x from
          fun x ⟨h1, h2⟩ => ⟨by omega, by simp; omega, fun hG => by have := (HROW.out.inG x hG).2; omega, fun e => by have := (HROW.out.lt x e).2; omega⟩)
        go_wp2_with (at_builtin; refine app_own rfl _ _ rfl (w.heap.size + 1 + 1) G (fun x => wr.heap.size ≤ x ∧ x < w1.heap.size) _ L rfl R1.out tk (.slice sa sn sc) w1.heap.size rfl B1.out HWF.out O1.out HF1.out (by have := HLEN.out; omega) (by simp; omega) ?_; intro v2 w2 hrow2 hg2 hfr2; have HR2 := Lib.hid hrow2; have HG2 := Lib.hid hg2; clear hrow2 hg2 hfr2)
        go_roundw
        case rel => exact ⟨j + 1, _, by omega, by go_num, by rw [HT.out]; exact HR2.out, hbl.trans (Below.grown ((by (repeat' (first | with_reducible exact Below.refl _ _ | with_reducible refine below_alloc ?_ _ ?_ | with_reducible refine Below.setCell ?_ ?_ _ | with_reducible refine Below.drew ?_ | with_reducible refine Go.below_drewN ?_ _ | with_reducible refine below_step ?_ (by assumption) ?_ | with_reducible refine below_mark ?_ (by assumption) ?_)); all_goals (first | omega | (simp; done) | (simp; omega)))) HG2.out (by simp; omega) (fun x hx => (HROW.out.lt x hx).1))⟩
        case measure => simp [intOf]; omega
      · have H := Lib.hid (show ts.take j = ts from List.take_of_length_le (by omega))
        obtain ⟨oa, on, oc, rfl⟩ := HROW.out.slice3
        obtain ⟨hc, hf⟩ := bcell hbl
        have HO := Lib.hid (show OwnS wr (fun x => w.heap.size + 1 + 1 ≤ x) (.slice oa on oc) ts by have := HROW.out.own; rwa [H.out] at this)
        obtain ⟨d0, d1, d2, d3, d4⟩ := (show Box wr w.heap.size k n e s (.slice a ts.length cap) 30 from (hbl.block w.heap.size (by omega)).trans (BXW.out)).cells
        obtain ⟨z0, z1, z2, z3, z4⟩ := (show Box wr (w.heap.size + 1) 0 0 0 ⟨#[]⟩ (.slice none 0 0) 30 from (hbl.block (w.heap.size + 1) (by omega)).trans (BZW.out)).cells
        clear H HROW HE HA V1
        go_wp2_with fail
        refine bodyPost_ret (v := .agg #[.int .i64 k, .int .i64 n, .int .i64 e, .string s, .slice oa on oc]) (by simp [results, Tryd.results36, go_sem, z0, z1, z2, z3, z4]) rfl (HP.out _ _ ⟨_, rfl, ?_, ?_⟩)
        · refine OwnS.mono (F := fun x => w.heap.size + 1 + 1 ≤ x) ?_ (fun x hx => by omega)
          repeat refine OwnS.set ?_ _ _ (by first | omega | (simp; done) | (simp; omega))
          exact HO.out
        · repeat' (refine Below.setCell ?_ ?_ _)
          all_goals (first | exact HBL.out | (simp; done) | (simp; omega))
theorem own_any (w0 : World) (v : Value) (t : V) (h : Rep w0 v t) (hsz : t.sz ≤ 1048576) (w : World) (hw : Below w0.heap.size w0 w) : Calls Tryd.prog 36 #[v] w (ValRet w t) :=
  own_all w0 _ v t (Nat.lt_succ_self _) h hsz w hw
end Go.Proofs.YtaphlemmlmdkiaaDoor
namespace Go.Proofs.YtaphlemmlmdkiaaDoor
set_option linter.unusedSimpArgs false
set_option linter.unusedVariables false
set_option maxRecDepth 100000
theorem node_size {t : V} (h : nodeB t = true) : t.s.size ≤ 2000 := by
  unfold nodeB at h
  split at h
  · rw [decide_eq_true_eq] at h; omega
  split at h
  · rw [decide_eq_true_eq] at h; omega
  split at h
  · rw [Bool.and_eq_true, decide_eq_true_eq] at h; omega
  split at h
  · rw [Bool.and_eq_true, decide_eq_true_eq] at h; omega
  split at h
  · rw [decide_eq_true_eq] at h; omega
  split at h
  · rw [decide_eq_true_eq] at h; omega
  cases h
theorem right_sz : ∀ (N : Nat) (t : V) (d : Int), t.nodes ≤ N → rightB t d = true → t.sz + 1 ≤ 2001 * t.nodes := by
  intro N
  induction N with
  | zero => intro t d h; rw [V.nodes_eq] at h; omega
  | succ N ih =>
    intro t d hN h
    have hall : ∀ (ts : List V), nodess ts ≤ N → rightsB ts (d - 1) = true → szs ts ≤ 2001 * nodess ts := by
      intro ts
      induction ts with
      | nil => intro _ _; simp [szs]
      | cons a r ihr =>
        intro h1 h2
        rw [nodess] at h1
        rw [rightsB, Bool.and_eq_true] at h2
        have g1 := ih a (d - 1) (by omega) h2.1
        have g2 := ihr (by omega) h2.2
        rw [szs, nodess]
        omega
    rw [rightB_eq] at h
    unfold ownB at h
    simp only [Bool.and_eq_true, decide_eq_true_eq] at h
    have hs := node_size h.1.2.1
    have hk := hall t.kids (by rw [V.nodes_eq] at hN; omega) h.2
    rw [V.sz_eq, V.nodes_eq]
    omega
theorem ok_sz {t : V} (h : okT t = true) : t.sz ≤ 700000 := by
  unfold okT at h
  rw [Bool.and_eq_true, decide_eq_true_eq] at h
  have := right_sz _ t 12 (Nat.le_refl _) h.1
  omega
theorem szl_mem {x : ByteArray} : ∀ {l : List ByteArray}, x ∈ l → x.size ≤ szl l
  | [], h => by cases h
  | a :: r, h => by
    rw [szl]
    rcases List.mem_cons.1 h with rfl | h
    · omega
    · have := szl_mem h; omega
end Go.Proofs.YtaphlemmlmdkiaaDoor
