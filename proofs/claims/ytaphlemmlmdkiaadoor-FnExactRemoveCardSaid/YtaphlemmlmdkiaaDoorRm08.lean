/- Lemmas for the statement of the last text of this claim: texts joined. -/
import Derived.Test.YtaphlemmlmdkiaaDoorRm07
import Derived.Deep.RegionHeld3
import Derived.Deep.RegionWith
import Derived.Deep.DeepCutAuto
import Derived.Deep.RegionLaw
namespace Go.Proofs.YtaphlemmlmdkiaaDoor
set_option linter.unusedSimpArgs false
set_option linter.unusedVariables false
set_option maxRecDepth 100000
open Go.RowKit Go.Shelf
theorem vrep_fin {B0 : Nat} {w w1 : World} {y : V} {sl : Value} {b : Bool} {F : Nat → Prop} (ywf : y.wf) (hrep : RepF w1 F sl y.kids) (hb : Below w.heap.size w w1) (h0 : B0 ≤ w.heap.size) (hF : ∀ x, F x → x < B0 ∨ w.heap.size + 2 ≤ x) (v0 v1 v2 v3 v4 : Value) :
    VRep B0 w y b (.returned (.tuple #[y.agg sl, .bool b])) (set5 w1 (w.heap.size + 1) v0 v1 v2 v3 v4) :=
  ⟨sl, rfl, ywf, (repF_set5T hrep (w.heap.size + 1) (fun x hx => by have := hF x hx; omega) v0 v1 v2 v3 v4).mono (fun x hx _ => by have := hF x hx; omega), hb.trans ((below_set5 w1 (w.heap.size + 1) _ _ _ _ _).mono (by omega))⟩
theorem vrep_drew {B0 : Nat} {w w1 : World} {y : V} {b : Bool} {e : Ending} (h : VRep B0 w y b e w1) : VRep B0 w y b e w1.drew := by
  obtain ⟨sl, h1, h2, h3, h4⟩ := h
  exact ⟨sl, h1, h2, h3.stay (Below.refl _ _).drew, h4.drew⟩
theorem less_one (t : V) (s : ByteArray) : lessV t [s] = if kidI t s < 0 then (t, false) else (cutV t (kidI t s).toNat, decide (¬ t.k = 9)) := by rw [lessV]
theorem less_two (t : V) (s s2 : ByteArray) (r : List ByteArray) : lessV t (s :: s2 :: r) = if kidI t s < 0 then (t, false) else (setV t (kidI t s).toNat (lessV (t.kids.getD (kidI t s).toNat V0) (s2 :: r)).1, (lessV (t.kids.getD (kidI t s).toNat V0) (s2 :: r)).2) := by rw [lessV]
theorem lessV_sz : ∀ (st : List ByteArray) (t : V), (lessV t st).1.sz ≤ t.sz
  | [], t => by rw [lessV]; exact Nat.le_refl _
  | [s], t => by
    rw [less_one]
    split
    · exact Nat.le_refl _
    · show (cutV t _).sz ≤ _
      have hc : ∀ i j, i ≤ j → szs (t.kids.take i ++ t.kids.drop j) ≤ szs t.kids := fun i j hij => by
        rw [szs_append]
        have h1 : szs t.kids = szs (t.kids.take i) + szs (t.kids.drop i) := by rw [← szs_append, List.take_append_drop]
        have h2 : szs (t.kids.drop i) = szs ((t.kids.drop i).take (j - i)) + szs ((t.kids.drop i).drop (j - i)) := by rw [← szs_append, List.take_append_drop]
        rw [List.drop_drop, show i + (j - i) = j by omega] at h2
        omega
      unfold cutV
      rw [V.sz_eq t]
      show t.s.size + szs _ ≤ _
      split
      · have := hc ((kidI t s).toNat - 1) ((kidI t s).toNat + 1) (by omega)
        show t.s.size + szs (t.kids.take _ ++ t.kids.drop _) ≤ _
        omega
      · have := hc ((kidI t s).toNat) ((kidI t s).toNat + 1) (by omega)
        show t.s.size + szs (t.kids.take _ ++ t.kids.drop _) ≤ _
        omega
  | s :: s2 :: r, t => by
    rw [less_two]
    split
    · exact Nat.le_refl _
    · have ih := lessV_sz (s2 :: r) (t.kids.getD (kidI t s).toNat V0)
      generalize (lessV (t.kids.getD (kidI t s).toNat V0) (s2 :: r)).1 = y at *
      show (setV t _ y).sz ≤ _
      unfold setV
      rw [V.sz_eq t]
      show t.s.size + szs (t.kids.set _ y) ≤ _
      have hs : ∀ (ts : List V) (j : Nat), y.sz ≤ (ts.getD j V0).sz → szs (ts.set j y) ≤ szs ts := by
        intro ts
        induction ts with
        | nil => intro j _; exact Nat.le_refl _
        | cons b q ihq =>
          intro j hj
          cases j with
          | zero => show szs (y :: q) ≤ szs (b :: q); rw [szs, szs]; have : y.sz ≤ b.sz := hj; omega
          | succ j => show szs (b :: q.set j y) ≤ szs (b :: q); rw [szs, szs]; have := ihq j (by simpa using hj); omega
      have := hs t.kids _ ih
      omega
set_option maxHeartbeats 16000000 in
theorem l08Less_any (w0 : World) : ∀ (l : List ByteArray) (t : V) (sl vs : Value) (w : World), (∀ x ∈ l, x.size ≤ 1048576) → l.length ≤ 1048576 → t.wf → t.sz ≤ 1048576 → RepS w0 sl t.kids → RepSs w0 vs l → Below w0.heap.size w0 w →
    Calls Tryd.prog 33 #[t.agg sl, vs] w (VRep w0.heap.size w (lessV t l).1 (lessV t l).2) := by
  intro l
  induction l with
  | nil =>
    intro t sl vs w _ _ hwf hz hr hv hw
    obtain ⟨a, cap, rfl⟩ := hr.slice
    obtain ⟨sa, sb, so, sc, rfl, -, -, -, -⟩ := hv
    have BV := Lib.hid ((Box.new w t.k t.n t.e t.s (.slice a t.kids.length cap) 30).alloc (.cells #[.int .i64 0, .int .i64 0, .int .i64 0, .string ⟨#[]⟩, .slice none 0 0] 30))
    have BZ := Lib.hid (Box.new (w.alloc (.cells #[.int .i64 t.k, .int .i64 t.n, .int .i64 t.e, .string t.s, .slice a t.kids.length cap] 30)) 0 0 0 ⟨#[]⟩ (.slice none 0 0) 30)
    obtain ⟨W0, hW0⟩ : ∃ W0, W0 = (w.alloc (.cells #[.int .i64 t.k, .int .i64 t.n, .int .i64 t.e, .string t.s, .slice a t.kids.length cap] 30)).alloc (.cells #[.int .i64 0, .int .i64 0, .int .i64 0, .string ⟨#[]⟩, .slice none 0 0] 30) := ⟨_, rfl⟩
    have hz0 : W0.heap.size = w.heap.size + 2 := by rw [hW0]; simp
    have HB0 := Lib.hid (show Below w.heap.size w W0 from by rw [hW0]; exact (by (with_reducible (repeat' (first | exact Below.refl _ _ | refine below_alloc ?_ _ ?_ | refine Below.setCell ?_ ?_ _ | refine Below.drew ?_ | refine Go.below_drewN ?_ _ | refine below_step ?_ (by assumption) ?_ | refine below_mark ?_ (by assumption) ?_))); all_goals (first | omega | (simp; done) | (simp; omega))))
    rw [← hW0] at BV BZ
    rw [show (w.alloc (.cells #[.int .i64 t.k, .int .i64 t.n, .int .i64 t.e, .string t.s, .slice a t.kids.length cap] 30)).heap.size = w.heap.size + 1 by simp] at BZ
    have HW := Lib.hid hw
    have HWW := Lib.hid (show Below w0.heap.size w0 W0 from hw.trans (HB0.out.mono hw.size))
    have hww := hw.size
    have HRP := Lib.hid hr.toF
    have HWF := Lib.hid (show ∀ ks, (V.mk t.k t.n t.e t.s ks).wf from fun ks => hwf)
    have HTT := Lib.hid (show t = .mk t.k t.n t.e t.s t.kids from (V.eta t).symm)
    have HR := Lib.hid (show lessV t [] = (t, false) from by rw [lessV])
    generalize lessV t [] = R at *
    rw [HTT.out] at HR
    clear HTT
    unfold V.agg
    clear hr hw hwf hz
    generalize t.kids = ts at *
    generalize t.k = k at *
    generalize t.n = n at *
    generalize t.e = ee at *
    generalize t.s = st at *
    go_enter Tryd.func33, Tryd.ntmps33
    go_upto_region 1 with fail
    rw [← hW0]
    clear hW0
    have HF := Lib.hid (fun (v0 v1 v2 v3 v4 : Value) => show VRep w0.heap.size w R.1 R.2 (.returned (.tuple #[(V.mk k n ee st ts).agg (.slice a ts.length cap), .bool false])) (set5 W0 (w.heap.size + 1) v0 v1 v2 v3 v4) from by
      rw [HR.out]
      exact vrep_fin (HWF.out _) (HRP.out.stay (show Below w0.heap.size w0 W0 from HW.out.trans (HB0.out.mono hww))) HB0.out hww (fun x hx => .inl hx) v0 v1 v2 v3 v4)
    unfold V.agg at HF
    obtain ⟨y0, y1, y2, y3, y4⟩ := Box.cells BV.out
    obtain ⟨z0, z1, z2, z3, z4⟩ := Box.cells BZ.out
    have zf0 := Box.free (i := 0) BZ.out; have zf1 := Box.free (i := 1) BZ.out; have zf2 := Box.free (i := 2) BZ.out; have zf3 := Box.free (i := 3) BZ.out; have zf4 := Box.free (i := 4) BZ.out
    go_wp2_with fail
    exact bodyPost_ret (v := .tuple #[.agg #[.int .i64 k, .int .i64 n, .int .i64 ee, .string st, .slice a ts.length cap], .bool false]) (by simp [results, Tryd.results33, go_sem, z0, z1, z2, z3, z4]) rfl (HF.out _ _ _ _ _)
  | cons s r ih =>
  intro t sl vs w hs hrl hwf hz hr hv hw
  have hl : t.kids.length ≤ 1048576 := by have := szs_length t.kids; have := V.sz_eq t; omega
  obtain ⟨a, b, off, cap, rfl, ha, hc, hm, sls, hel⟩ := hr.opened
  obtain ⟨sa, sb, so, sc, rfl, hsa, hsc, hsm, hcell⟩ := id hv
  obtain ⟨rfl, hsb⟩ := hsa (by simp)
  have hc0 := (hcell 0 (by simp)).1
  have HV2 := Lib.hid (show r ≠ [] → RepSs w0 (.slice (some ⟨sb, so + 1, none⟩) r.length (sc - 1)) r from fun _ => ⟨_, sb, so + 1, sc - 1, rfl, fun _ => ⟨rfl, hsb⟩, by simp at hsc ⊢; omega, by omega, fun i hi => by
    have := hcell (i + 1) (by simp at hi ⊢; omega)
    rw [show so + (i + 1) = so + 1 + i by omega] at this
    exact this⟩)
  have HA := Lib.hid ha; have HEL := Lib.hid hel
  have KA := Lib.hid (fun (W : World) (hW : Below w.heap.size w W) => l08Kid_any w0 _ t hwf hr hl s (hs s (by simp)) W (hw.trans (hW.mono hw.size)))
  have IH := Lib.hid (fun (hne : r ≠ []) (j : Nat) (hj : j < t.kids.length) (s1 : Value) (W : World) (h1 : t.kids[j].wf) (h2 : RepS w0 s1 t.kids[j].kids) (hW : Below w0.heap.size w0 W) => ih t.kids[j] s1 _ W (fun x hx => hs x (List.mem_cons_of_mem _ hx)) (by simp at hrl; omega) h1 (by have := szs_mem (List.getElem_mem hj); have := V.sz_eq t; omega) h2 (HV2.out hne) hW)
  have hkr := kidI_range t s
  have CP := Lib.hid (fun (W : World) (hW : Below w0.heap.size w0 W) => copy_anyR W _ t ⟨_, rfl, hwf, hr.keep hW⟩ hz W (Below.refl _ _))
  have WI := Lib.hid (fun (W : World) (hW : Below w0.heap.size w0 W) (y : V) (sy : Value) (hy : y.wf) (F : Nat → Prop) (hry : RepF W F sy y.kids) (j : Nat) (hj : j < t.kids.length) => l08With_any W t y _ sy hwf (hr.keep hW) hz hy F hry j hj)
  have HNO := Lib.hid (show kidI t s < 0 → lessV t (s :: r) = (t, false) from fun h => by
    cases r with
    | nil => rw [less_one, if_pos h]
    | cons s2 r => rw [less_two, if_pos h])
  have HY1 := Lib.hid (show r.length = 0 → 0 ≤ kidI t s → lessV t (s :: r) = (.mk t.k t.n t.e t.s (if t.k = 8 then t.kids.take ((kidI t s).toNat - 1) ++ t.kids.drop ((kidI t s).toNat + 1) else t.kids.take (kidI t s).toNat ++ t.kids.drop ((kidI t s).toNat + 1)), decide (¬ t.k = 9)) from fun hr h => by
    cases r with
    | nil => rw [less_one, if_neg (by omega)]; rfl
    | cons s2 r => simp at hr)
  have HY2 := Lib.hid (show r ≠ [] → 0 ≤ kidI t s → lessV t (s :: r) = (setV t (kidI t s).toNat (lessV (t.kids.getD (kidI t s).toNat V0) r).1, (lessV (t.kids.getD (kidI t s).toNat V0) r).2) from fun hr h => by
    cases r with
    | nil => exact absurd rfl hr
    | cons s2 r => rw [less_two, if_neg (by omega)])
  have HC8 := Lib.hid (show t.k = 8 → 0 ≤ kidI t s → ∃ i : Nat, kidI t s = i + 1 from fun h8 h => by
    unfold kidI at h ⊢
    rw [if_neg (by omega), if_pos h8] at h ⊢
    rcases fk_range s t.kids 0 with e | ⟨j, e, hj⟩
    · rw [e] at h; simp at h
    · rw [e, if_pos (by omega)]
      exact ⟨j, by omega⟩)
  have HLE := Lib.hid (fun (hne : r.length ≠ 0) => show r ≠ [] from fun e => hne (by rw [e]; rfl))
  have BV := Lib.hid ((Box.new w t.k t.n t.e t.s (.slice a t.kids.length cap) 30).alloc (.cells #[.int .i64 0, .int .i64 0, .int .i64 0, .string ⟨#[]⟩, .slice none 0 0] 30))
  have BZ := Lib.hid (Box.new (w.alloc (.cells #[.int .i64 t.k, .int .i64 t.n, .int .i64 t.e, .string t.s, .slice a t.kids.length cap] 30)) 0 0 0 ⟨#[]⟩ (.slice none 0 0) 30)
  obtain ⟨W0, hW0⟩ : ∃ W0, W0 = (w.alloc (.cells #[.int .i64 t.k, .int .i64 t.n, .int .i64 t.e, .string t.s, .slice a t.kids.length cap] 30)).alloc (.cells #[.int .i64 0, .int .i64 0, .int .i64 0, .string ⟨#[]⟩, .slice none 0 0] 30) := ⟨_, rfl⟩
  have hz0 : W0.heap.size = w.heap.size + 2 := by rw [hW0]; simp
  have HB0 := Lib.hid (show Below w.heap.size w W0 from by rw [hW0]; exact (by (with_reducible (repeat' (first | exact Below.refl _ _ | refine below_alloc ?_ _ ?_ | refine Below.setCell ?_ ?_ _ | refine Below.drew ?_ | refine Go.below_drewN ?_ _ | refine below_step ?_ (by assumption) ?_ | refine below_mark ?_ (by assumption) ?_))); all_goals (first | omega | (simp; done) | (simp; omega))))
  rw [← hW0] at BV BZ
  rw [show (w.alloc (.cells #[.int .i64 t.k, .int .i64 t.n, .int .i64 t.e, .string t.s, .slice a t.kids.length cap] 30)).heap.size = w.heap.size + 1 by simp] at BZ
  have HW := Lib.hid hw
  have HWW := Lib.hid (show Below w0.heap.size w0 W0 from hw.trans (HB0.out.mono hw.size))
  have hww := hw.size
  have HRP := Lib.hid hr.toF
  have HWF := Lib.hid (show ∀ ks, (V.mk t.k t.n t.e t.s ks).wf from fun ks => hwf)
  have HTT := Lib.hid (show t = .mk t.k t.n t.e t.s t.kids from (V.eta t).symm)
  have SC0 := Lib.hid (show W0.cell? ⟨sb, so, none⟩ = some (.string s) from by
    have h := (HWW.out.cell (p := ⟨sb, so, none⟩) hsb).trans hc0
    exact h)
  have hsbw : sb < w.heap.size := Nat.lt_of_lt_of_le hsb hw.size
  have hLs : (s :: r).length = r.length + 1 := rfl
  rw [hLs] at hsc ⊢
  have hrl1 : r.length ≤ 1048576 := by simp at hrl; omega
  clear hcell hc0 hr hwf hw hsa ih ha hel hv HV2 hs hrl hz hLs
  obtain ⟨L, hLd⟩ : ∃ L, L = r.length + 1 := ⟨_, rfl⟩
  rw [← hLd] at hsc ⊢
  have hLr : r.length = L - 1 := by omega
  have hL0 : 0 < L := by omega
  have hLI : (1 : Int) ≤ (L : Int) := by omega
  have tL0 : ((L : Int) == 0) = false := by rw [beq_eq_false_iff_ne]; omega
  rw [hLr] at IH HY1 HLE hrl1
  clear hLd hLr
  generalize lessV t (s :: r) = R at *
  generalize kidI t s = Q at *
  have HNO2 := Lib.hid (show Q < 0 → R = (.mk t.k t.n t.e t.s t.kids, false) from fun h => (HNO.out h).trans (by rw [← HTT.out]))
  have HY3 := Lib.hid (show r ≠ [] → 0 ≤ Q → R = (.mk t.k t.n t.e t.s (t.kids.set Q.toNat (lessV (t.kids.getD Q.toNat V0) r).1), (lessV (t.kids.getD Q.toNat V0) r).2) from HY2.out)
  have WI2 := Lib.hid (show ∀ (W : World), Below w0.heap.size w0 W → ∀ (y : V) (sy : Value), y.wf → ∀ F, RepF W F sy y.kids → ∀ (j : Nat), j < t.kids.length → Calls Tryd.prog 54 #[t.agg (.slice a t.kids.length cap), .int .i64 (j : Int), y.agg sy] W (ValRep F W (.mk t.k t.n t.e t.s (t.kids.set j y))) from WI.out)
  clear HNO HY2 WI HTT
  unfold ValRetR at CP
  unfold V.agg at KA CP WI2 IH ⊢
  generalize t.kids = ts at *
  generalize t.k = k at *
  generalize t.n = n at *
  generalize t.e = ee at *
  generalize t.s = st at *
  go_enter Tryd.func33, Tryd.ntmps33
  go_upto_region 1 with fail
  rw [← hW0]
  clear hW0
  go_upto_region 3 with fail
  have BVQ := BV
  have SC := SC0
  have hsbq : sb < W0.heap.size := by omega
  have TCB := Lib.hid (show ∀ W' : World, W'.heap[w.heap.size]? = W0.heap[w.heap.size]? → W'.heap[sb]? = W0.heap[sb]? → W'.cell? ⟨w.heap.size, 0, none⟩ = some (.int .i64 k) ∧ W'.cell? ⟨w.heap.size, 1, none⟩ = some (.int .i64 n) ∧ W'.cell? ⟨w.heap.size, 2, none⟩ = some (.int .i64 ee) ∧ W'.cell? ⟨w.heap.size, 3, none⟩ = some (.string st) ∧ W'.cell? ⟨w.heap.size, 4, none⟩ = some (.slice a ts.length cap) ∧ W'.cell? ⟨sb, so, none⟩ = some (.string s) from fun W' h1 h2 => by
    obtain ⟨q0, q1, q2, q3, q4⟩ := Box.cells (show Box W' w.heap.size k n ee st (.slice a ts.length cap) 30 from h1.trans BVQ.out)
    exact ⟨q0, q1, q2, q3, q4, by rw [show W'.cell? ⟨sb, so, none⟩ = W0.cell? ⟨sb, so, none⟩ from World.cell?_of_block h2]; exact SC.out⟩)
  have TC := Lib.hid (fun (W' : World) (h : Below W0.heap.size W0 W') => TCB.out W' (h.block w.heap.size BVQ.out.lt) (h.block sb hsbq))
  have HB9 := Lib.hid (show Below W0.heap.size W0 W0.drew from (Below.refl _ _).drew)
  refine wp_region_held_drew (S := fun W' => W'.cell? ⟨w.heap.size, 0, none⟩ = some (.int .i64 k) ∧ W'.cell? ⟨w.heap.size, 1, none⟩ = some (.int .i64 n) ∧ W'.cell? ⟨w.heap.size, 2, none⟩ = some (.int .i64 ee) ∧ W'.cell? ⟨w.heap.size, 3, none⟩ = some (.string st) ∧ W'.cell? ⟨w.heap.size, 4, none⟩ = some (.slice a ts.length cap) ∧ W'.cell? ⟨sb, so, none⟩ = some (.string s)) (by kernel_rfl) (TC.out _ HB9.out) (fun hHeld => ?_)
  refine wpAnyH_take (i := 0) (v := ?_) rfl (by kernel_rfl) (by kernel_rfl) (by kernel_rfl) (fun _ _ _ h => h) (Or.inl ⟨by rfl, ?_⟩) hHeld ?_
  rotate_left
  · (intro w hSw; (try dsimp only at hSw); (try simp only [List.getElem_toArray, List.getElem_cons_succ, List.getElem_cons_zero]); go_simp <;> with_reducible rfl)
  try simp only [List.getElem_toArray, List.getElem_cons_succ, List.getElem_cons_zero, Act.put, List.setIfInBounds_toArray, List.set_cons_zero, List.set_cons_succ]
  refine wpAnyH_take (i := 1) (v := ?_) rfl (by kernel_rfl) (by kernel_rfl) (by kernel_rfl) (fun _ _ _ h => h) (Or.inl ⟨by rfl, ?_⟩) hHeld ?_
  rotate_left
  · (intro w hSw; (try dsimp only at hSw); (try simp only [List.getElem_toArray, List.getElem_cons_succ, List.getElem_cons_zero]); go_simp <;> with_reducible rfl)
  try simp only [List.getElem_toArray, List.getElem_cons_succ, List.getElem_cons_zero, Act.put, List.setIfInBounds_toArray, List.set_cons_zero, List.set_cons_succ]
  refine wpAnyH_take (i := 2) (v := ?_) rfl (by kernel_rfl) (by kernel_rfl) (by kernel_rfl) (fun _ _ _ h => h) (Or.inl ⟨by rfl, ?_⟩) hHeld ?_
  rotate_left
  · (intro w hSw; (try dsimp only at hSw); (try simp only [List.getElem_toArray, List.getElem_cons_succ, List.getElem_cons_zero]); go_simp <;> with_reducible rfl)
  try simp only [List.getElem_toArray, List.getElem_cons_succ, List.getElem_cons_zero, Act.put, List.setIfInBounds_toArray, List.set_cons_zero, List.set_cons_succ]
  refine wpAnyH_take (i := 3) (v := ?_) rfl (by kernel_rfl) (by kernel_rfl) (by kernel_rfl) (fun _ _ _ h => h) (Or.inl ⟨by rfl, ?_⟩) hHeld ?_
  rotate_left
  · (intro w hSw; (try dsimp only at hSw); (try simp only [List.getElem_toArray, List.getElem_cons_succ, List.getElem_cons_zero]); go_simp <;> with_reducible rfl)
  try simp only [List.getElem_toArray, List.getElem_cons_succ, List.getElem_cons_zero, Act.put, List.setIfInBounds_toArray, List.set_cons_zero, List.set_cons_succ]
  refine wpAnyH_ready (rs := [4]) (by kernel_rfl) (by simp) ?_
  refine AllReadyH.cons rfl (fun K hK => ?_) ?_
  · have CL := Lib.hid (KA.out W0.drew (HB0.out.trans (HB9.out.mono HB0.out.size)))
    go_simp
    refine CL.out.mono ?_
    rintro e1 w1 ⟨rfl, hb1⟩
    have HB1 := Lib.hid (show Below W0.heap.size W0 w1 from HB9.out.trans (hb1.mono HB9.out.size))
    clear CL hb1
    refine hK.out _ _ ?_ (fun hHeld => ?_)
    · exact TC.out _ HB1.out
    clear hK K
    try simp only [List.getElem_toArray, List.getElem_cons_succ, List.getElem_cons_zero, Act.put, List.setIfInBounds_toArray, List.set_cons_zero, List.set_cons_succ]
    refine wpAnyH_take (i := 5) (v := ?_) rfl (by kernel_rfl) (by kernel_rfl) (by kernel_rfl) (fun _ _ _ h => h) (Or.inl ⟨by rfl, ?_⟩) hHeld ?_
    rotate_left
    · (intro w hSw; (try dsimp only at hSw); (try simp only [List.getElem_toArray, List.getElem_cons_succ, List.getElem_cons_zero]); go_simp <;> with_reducible rfl)
    try simp only [List.getElem_toArray, List.getElem_cons_succ, List.getElem_cons_zero, Act.put, List.setIfInBounds_toArray, List.set_cons_zero, List.set_cons_succ]
    refine wpAnyH_done (by kernel_rfl) ?_ _
    clear hHeld TC TCB HB9
    have BV1 := Lib.hid ((HB1.out.block w.heap.size BV.out.lt).trans BV.out)
    have BZ1 := Lib.hid ((HB1.out.block (w.heap.size + 1) BZ.out.lt).trans BZ.out)
    have hzz := HB1.out.size
    have HW1 := Lib.hid (show Below w0.heap.size w0 w1 from HWW.out.trans (HB1.out.mono HWW.out.size))
    have HBW1 := Lib.hid (show Below w.heap.size w w1 from HB0.out.trans (HB1.out.mono (by omega)))
    by_cases hq : Q < 0
    · have HRN := Lib.hid (HNO2.out hq)
      clear HNO2 HY1 HY3 IH KA CP WI2
      have HF := Lib.hid (fun (v0 v1 v2 v3 v4 : Value) => show VRep w0.heap.size w R.1 R.2 (.returned (.tuple #[(V.mk k n ee st ts).agg (.slice a ts.length cap), .bool false])) (set5 w1 (w.heap.size + 1) v0 v1 v2 v3 v4) from by
        rw [HRN.out]
        exact vrep_fin (HWF.out _) (HRP.out.stay (show Below w0.heap.size w0 w1 from HW.out.trans (HBW1.out.mono hww))) HBW1.out hww (fun x hx => .inl hx) v0 v1 v2 v3 v4)
      unfold V.agg at HF
      obtain ⟨y0, y1, y2, y3, y4⟩ := Box.cells BV1.out
      obtain ⟨z0, z1, z2, z3, z4⟩ := Box.cells BZ1.out
      have zf0 := Box.free (i := 0) BZ1.out; have zf1 := Box.free (i := 1) BZ1.out; have zf2 := Box.free (i := 2) BZ1.out; have zf3 := Box.free (i := 3) BZ1.out; have zf4 := Box.free (i := 4) BZ1.out
      go_wp2_with fail
      exact bodyPost_ret (v := .tuple #[.agg #[.int .i64 k, .int .i64 n, .int .i64 ee, .string st, .slice a ts.length cap], .bool false]) (by simp [results, Tryd.results33, go_sem, z0, z1, z2, z3, z4]) rfl (HF.out _ _ _ _ _)
    have hq0 : 0 ≤ Q := by omega
    obtain ⟨j, rfl⟩ := Int.eq_ofNat_of_zero_le hq0
    have hj : j < ts.length := by omega
    have tq : decide ((j : Int) < 0) = false := decide_eq_false hq
    clear hq KA
    have hg : ts.getD j V0 = ts[j] := by rw [List.getD_eq_getElem?_getD, List.getElem?_eq_getElem hj]; rfl
    rw [Int.toNat_natCast] at HY1 HY3
    rw [hg] at HY3
    clear hg HNO2
    by_cases hL : L - 1 = 0
    · have HR := Lib.hid (HY1.out hL hq0)
      have tL : decide ((1 : Int) < (L : Int)) = false := decide_eq_false (by omega)
      clear HY1 HY3 IH WI2
      have CP1 := Lib.hid (CP.out w1 HW1.out)
      obtain ⟨y0, y1, y2, y3, y4⟩ := Box.cells BV1.out
      clear CP
      go_wp2_with fail
      refine CP1.out.mono ?_
      rintro e2 w2 ⟨sl2, G, rfl, -, hrow, hb2⟩
      have hrp := hrow.toP
      obtain ⟨g, c, rfl⟩ := hrp.some0 (by intro e; rw [e] at hj; simp at hj)
      have HBW2 := Lib.hid (show Below w.heap.size w w2 from HBW1.out.trans (hb2.mono (by omega)))
      have BV2 := Lib.hid (Box.stay BV1.out hb2)
      have BZ2 := Lib.hid (Box.stay BZ1.out hb2)
      have hz2 := hb2.size
      have HGL := Lib.hid (show ∀ x, G x → w1.heap.size ≤ x ∧ x < w2.heap.size from hrow.inG)
      have hgw2 := (hrow.lt g rfl).2
      clear hb2 CP1 y0 y1 y2 y3 y4 BV1 BZ1 hrow
      go_upto_region 10 with fail
      obtain ⟨W3, hW3⟩ : ∃ W3, W3 = w2.alloc (.cells #[.int .i64 k, .int .i64 n, .int .i64 ee, .string st, .slice (some ⟨g, 0, none⟩) ts.length c] 30) := ⟨_, rfl⟩
      have hal : Below w2.heap.size w2 W3 := by rw [hW3]; exact (Below.refl _ _).alloc (Nat.le_refl _) _
      have hz3 : W3.heap.size = w2.heap.size + 1 := by rw [hW3]; simp
      have HBW3 := Lib.hid (show Below w.heap.size w W3 from HBW2.out.trans (hal.mono (by omega)))
      have BV3 := Lib.hid (Box.stay BV2.out hal)
      have BZ3 := Lib.hid (Box.stay BZ2.out hal)
      have BO3 := Lib.hid (show Box W3 w2.heap.size k n ee st (.slice (some ⟨g, 0, none⟩) ts.length c) 30 from by rw [hW3]; exact Box.new w2 _ _ _ _ _ _)
      have HROW := Lib.hid (hrp.stay hal)
      have hg := hrp.lt g rfl
      rw [← hW3]
      clear hW3 hal hrp BV2 BZ2
      obtain ⟨c2b, hc2b⟩ : ∃ b, b = w2.heap.size := ⟨_, rfl⟩
      rw [← hc2b] at BO3 hz3 HGL hgw2 ⊢
      have hz3a := Nat.le_of_eq hz3
      have hz3b := Nat.le_of_eq hz3.symm
      clear hz3
      have hcw : w1.heap.size ≤ c2b := by omega
      clear hc2b HBW2 HB1 HW1 HBW1
      have HGX := Lib.hid (show ∀ x, (G x ∨ (Value.slice (some ⟨g, 0, none⟩) ts.length c).ownBlock = some x) → w1.heap.size ≤ x ∧ x < W3.heap.size ∧ x ≠ c2b from fun x hx => by
        rcases hx with h | h
        · have := HGL.out x h
          exact ⟨this.1, by omega, by omega⟩
        · have h3 : g = x := Option.some.inj h
          exact ⟨by omega, by omega, by omega⟩)
      have CUTS := Lib.hid (show ∀ (F : Nat), F ≤ j → F ≤ ts.length from fun F h => by omega)
      obtain ⟨y0, y1, y2, y3, y4⟩ := Box.cells BV3.out
      by_cases h8 : k = 8
      · have t8 : (k == 8) = true := by simpa using h8
        obtain ⟨i, hi⟩ := HC8.out h8 hq0
        have HR2 := Lib.hid (show R = (.mk k n ee st (ts.take i ++ ts.drop (j + 1)), decide (¬ k = 9)) from by rw [HR.out, if_pos h8, show j - 1 = i by omega])
        have hwi : (j : Int) - 1 = (i : Int) := by omega
        have hij : i ≤ j := by omega
        clear HR HC8 h8 hi
        go_upto_region 13 with fail
        obtain ⟨-, hle, hcm, -⟩ := HROW.out.open
        obtain ⟨A, hA⟩ : ∃ A : Option Addr, (if c = j + 1 then (some ⟨g, 0, none⟩ : Option Addr) else some ⟨g, (j + 1) * 5, none⟩) = A := ⟨_, rfl⟩
        have HT1 := Lib.hid (HROW.out.repF.takeS (j := i) (by omega))
        have HT2 := Lib.hid (HROW.out.repF.dropS (j := j + 1) (A := A) (by omega) (fun h => by rw [← hA, if_neg (by omega), Nat.zero_add]))
        have hic : i ≤ c := by omega
        have hjc : j + 1 ≤ c := by omega
        have hj20 : (0 : Int) ≤ (j : Int) + 1 := by omega
        have hj2t : ((j : Int) + 1).toNat = j + 1 := by omega
        have hj2l : (j : Int) + 1 ≤ (ts.length : Int) := by omega
        have hjn2 : j + 1 ≤ ts.length := by omega
        have hii : i ≤ ts.length := by omega
        have hiil : (i : Int) ≤ (ts.length : Int) := by omega
        have htl : (ts.take i).length = i := by rw [List.length_take]; omega
        have hdl : (ts.drop (j + 1)).length = ts.length - (j + 1) := List.length_drop
        have hwj1 : IntKind.i64.wrap ((j : Int) + 1) = (j : Int) + 1 := by rw [IntKind.wrap_i64]; omega
        have hn1 : c2b ≠ W3.heap.size := by omega
        have hn2 : W3.heap.size ≠ c2b := by omega
        have hn3 : c2b < W3.heap.size := by omega
        clear y0 y1 y2 y3 y4
        go_cut [] (fun wx => ∃ va vn vc, RepF wx (fun x => w1.heap.size ≤ x) (.slice va vn vc) (ts.take i ++ ts.drop (j + 1)) ∧ Box wx c2b k n ee st (.slice va vn vc) 30 ∧ Below c2b W3 wx)
        case first =>
          have HBA := Lib.hid (show Below W3.heap.size W3 (W3.alloc (.cells #[] 30)).drew from ((Below.refl _ _).alloc (Nat.le_refl _) _).drew)
          have hsa : (W3.alloc (.cells #[] 30)).drew.heap.size = W3.heap.size + 1 := (show (W3.alloc (.cells #[] 30)).heap.size = W3.heap.size + 1 by simp)
          have HRA := Lib.hid (show PRow (W3.alloc (.cells #[] 30)).drew W3.heap.size (fun _ => False) (.slice (some ⟨W3.heap.size, 0, none⟩) 0 0) [] from (PRow.made0 (w := W3) (base := W3.heap.size) (Nat.le_refl _)).keep (Nat.le_refl _) (fun _ _ _ => rfl))
          obtain ⟨sm1, hs1⟩ := vsrc_of (HT1.out.stay HBA.out)
          have HS1 := Lib.hid hs1
          have HBO := Lib.hid (fun (W : World) (h : Below W3.heap.size W3 W) => Box.stay BO3.out h)
          have HB9 := Lib.hid (show Below W3.heap.size W3 W3.drew from (Below.refl _ _).drew)
          clear hs1
          refine wp_region_held_drew (S := fun _ => True) (by kernel_rfl) trivial (fun hHeld => ?_)
          refine wpAnyH_take (i := 1) (v := ?_) rfl (by kernel_rfl) (by kernel_rfl) (by kernel_rfl) (fun _ _ _ h => h) (Or.inl ⟨by rfl, ?_⟩) hHeld ?_
          rotate_left
          · (intro w hSw; (try dsimp only at hSw); (try simp only [List.getElem_toArray, List.getElem_cons_succ, List.getElem_cons_zero]); go_simp <;> with_reducible rfl)
          try simp only [List.getElem_toArray, List.getElem_cons_succ, List.getElem_cons_zero, Act.put, List.setIfInBounds_toArray, List.set_cons_zero, List.set_cons_succ]
          refine wpAnyH_take (i := 3) (v := ?_) rfl (by kernel_rfl) (by kernel_rfl) (by kernel_rfl) (fun _ _ _ h => h) (Or.inl ⟨by rfl, ?_⟩) hHeld ?_
          rotate_left
          · (intro w hSw; (try dsimp only at hSw); (try simp only [List.getElem_toArray, List.getElem_cons_succ, List.getElem_cons_zero]); go_simp <;> with_reducible rfl)
          try simp only [List.getElem_toArray, List.getElem_cons_succ, List.getElem_cons_zero, Act.put, List.setIfInBounds_toArray, List.set_cons_zero, List.set_cons_succ]
          refine wpAnyH_take (i := 6) (v := ?_) rfl (by kernel_rfl) (by kernel_rfl) (by kernel_rfl) (fun _ _ _ h => h) (Or.inl ⟨by rfl, ?_⟩) hHeld ?_
          rotate_left
          · (intro w hSw; (try dsimp only at hSw); (try simp only [List.getElem_toArray, List.getElem_cons_succ, List.getElem_cons_zero]); go_simp <;> with_reducible rfl)
          try simp only [List.getElem_toArray, List.getElem_cons_succ, List.getElem_cons_zero, Act.put, List.setIfInBounds_toArray, List.set_cons_zero, List.set_cons_succ]
          refine wpAnyH_take (i := 8) (v := ?_) rfl (by kernel_rfl) (by kernel_rfl) (by kernel_rfl) (fun _ _ _ h => h) (Or.inl ⟨by rfl, ?_⟩) hHeld ?_
          rotate_left
          · (intro w hSw; (try dsimp only at hSw); (try simp only [List.getElem_toArray, List.getElem_cons_succ, List.getElem_cons_zero]); go_simp <;> with_reducible rfl)
          try simp only [List.getElem_toArray, List.getElem_cons_succ, List.getElem_cons_zero, Act.put, List.setIfInBounds_toArray, List.set_cons_zero, List.set_cons_succ]
          refine wpAnyH_take (i := 9) (v := ?_) rfl (by kernel_rfl) (by kernel_rfl) (by kernel_rfl) (fun _ _ _ h => h) (Or.inl ⟨by rfl, ?_⟩) hHeld ?_
          rotate_left
          · (intro w hSw; (try dsimp only at hSw); (try simp only [List.getElem_toArray, List.getElem_cons_succ, List.getElem_cons_zero]); go_simp <;> with_reducible rfl)
          try simp only [List.getElem_toArray, List.getElem_cons_succ, List.getElem_cons_zero, Act.put, List.setIfInBounds_toArray, List.set_cons_zero, List.set_cons_succ]
          refine wpAnyH_ready (rs := [0, 2, 7]) (by kernel_rfl) (by simp) ?_
          refine AllReadyH.cons rfl (fun K hK => ?_) ?_
          · go_simp
            refine hK.out _ _ ?_ (fun hHeld => ?_)
            · exact trivial
            clear hK K
            try simp only [List.getElem_toArray, List.getElem_cons_succ, List.getElem_cons_zero, Act.put, List.setIfInBounds_toArray, List.set_cons_zero, List.set_cons_succ]
            refine wpAnyH_ready (rs := [2, 7]) (by kernel_rfl) (by simp) ?_
            refine AllReadyH.cons rfl (fun K hK => ?_) ?_
            · obtain ⟨g0, g1, g2, g3, g4⟩ := Box.cells (HBO.out _ HBA.out)
              go_simp
              refine hK.out _ _ ?_ (fun hHeld => ?_)
              · exact trivial
              clear hK K
              try simp only [List.getElem_toArray, List.getElem_cons_succ, List.getElem_cons_zero, Act.put, List.setIfInBounds_toArray, List.set_cons_zero, List.set_cons_succ]
              refine wpAnyH_take (i := 4) (v := ?_) rfl (by kernel_rfl) (by kernel_rfl) (by kernel_rfl) (fun _ _ _ h => h) (Or.inl ⟨by rfl, ?_⟩) hHeld ?_
              rotate_left
              · (intro w hSw; (try dsimp only at hSw); (try simp only [List.getElem_toArray, List.getElem_cons_succ, List.getElem_cons_zero]); go_simp <;> with_reducible rfl)
              try simp only [List.getElem_toArray, List.getElem_cons_succ, List.getElem_cons_zero, Act.put, List.setIfInBounds_toArray, List.set_cons_zero, List.set_cons_succ]
              refine wpAnyH_ready (rs := [5, 7]) (by kernel_rfl) (by simp) ?_
              refine AllReadyH.cons rfl (fun K hK => ?_) ?_
              · refine step_vals rfl _ _ rfl W3.heap.size (fun _ => False) (fun z => G z ∨ (Value.slice (some ⟨g, 0, none⟩) ts.length c).ownBlock = some z) _ [] (ts.take i) sm1 rfl HRA.out _ rfl HS1.out (fun z hz => ⟨by have := (HGX.out z hz).2.1; rw [hsa]; omega, fun e => by have := (HGX.out z hz).2.1; have e2 : W3.heap.size = z := Option.some.inj e; omega⟩) (by rw [htl]; simp; omega) (by rw [hsa]; omega) ?_
                intro v1 w5 hrow1 hg1 hfr1
                obtain ⟨v1a, v1n, v1c, rfl⟩ := hrow1.slice3
                have HR1 := Lib.hid hrow1
                have HB1 := Lib.hid (show Below W3.heap.size W3 w5 from ⟨hg1.os.trans HBA.out.os, hg1.tape.trans HBA.out.tape, hg1.output.trans HBA.out.output, Nat.le_trans HBA.out.size hg1.size, fun z hz => (hg1.block z (by rw [hsa]; omega) (fun e => by have e2 : z = W3.heap.size := Option.some.inj e; omega)).trans (HBA.out.block z hz)⟩)
                have HF1 := Lib.hid (show ∀ z, (Value.slice v1a v1n v1c).ownBlock = some z → W3.heap.size ≤ z from fun z e => by
                  rcases hfr1 with h | h
                  · rw [h] at e
                    have e2 : W3.heap.size = z := Option.some.inj e
                    omega
                  · rw [h] at e
                    have e2 := Option.some.inj e
                    rw [hsa] at e2
                    omega)
                have hzz1 : W3.heap.size ≤ w5.heap.size := HB1.out.size
                obtain ⟨sm2, hs2⟩ := vsrc_of (HT2.out.stay HB1.out)
                have HS2 := Lib.hid hs2
                clear hrow1 hg1 hfr1 hs2
                refine hK.out _ _ ?_ (fun hHeld => ?_)
                · exact trivial
                clear hK K
                try simp only [List.getElem_toArray, List.getElem_cons_succ, List.getElem_cons_zero, Act.put, List.setIfInBounds_toArray, List.set_cons_zero, List.set_cons_succ]
                refine wpAnyH_ready (rs := [7]) (by kernel_rfl) (by simp) ?_
                refine AllReadyH.cons rfl (fun K hK => ?_) ?_
                · obtain ⟨g0, g1, g2, g3, g4⟩ := Box.cells (HBO.out _ HB1.out)
                  go_simp
                  refine hK.out _ _ ?_ (fun hHeld => ?_)
                  · exact trivial
                  clear hK K
                  try simp only [List.getElem_toArray, List.getElem_cons_succ, List.getElem_cons_zero, Act.put, List.setIfInBounds_toArray, List.set_cons_zero, List.set_cons_succ]
                  refine wpAnyH_take (i := 10) (v := ?_) rfl (by kernel_rfl) (by kernel_rfl) (by kernel_rfl) (fun _ _ _ h => h) (Or.inl ⟨by rfl, ?_⟩) hHeld ?_
                  rotate_left
                  · (intro w hSw; (try dsimp only at hSw); (try simp only [List.getElem_toArray, List.getElem_cons_succ, List.getElem_cons_zero]); go_simp <;> with_reducible rfl)
                  try simp only [List.getElem_toArray, List.getElem_cons_succ, List.getElem_cons_zero, Act.put, List.setIfInBounds_toArray, List.set_cons_zero, List.set_cons_succ]
                  refine wpAnyH_ready (rs := [11]) (by kernel_rfl) (by simp) ?_
                  refine AllReadyH.cons rfl (fun K hK => ?_) ?_
                  · refine step_vals rfl _ _ rfl W3.heap.size _ (fun z => G z ∨ (Value.slice (some ⟨g, 0, none⟩) ts.length c).ownBlock = some z) _ _ (ts.drop (j + 1)) sm2 rfl HR1.out _ rfl HS2.out (fun z hz => ⟨by have := (HGX.out z hz).2.1; omega, fun e => by have := (HGX.out z hz).2.1; have := HF1.out z e; omega⟩) (by rw [hdl, List.nil_append, htl]; omega) hzz1 ?_
                    intro v2 w9 hrow2 hg2 hfr2
                    obtain ⟨va, vn, vc, rfl⟩ := hrow2.slice3
                    have HRW2 := Lib.hid hrow2
                    have HKP := Lib.hid (show Below W3.heap.size W3 w9 from ⟨hg2.os.trans HB1.out.os, hg2.tape.trans HB1.out.tape, hg2.output.trans HB1.out.output, Nat.le_trans HB1.out.size hg2.size, fun z hz => (hg2.block z (by omega) (fun e => by have := HF1.out z e.symm; omega)).trans (HB1.out.block z hz)⟩)
                    clear hrow2 hg2 hfr2
                    refine hK.out _ _ ?_ (fun hHeld => ?_)
                    · exact trivial
                    clear hK K
                    try simp only [List.getElem_toArray, List.getElem_cons_succ, List.getElem_cons_zero, Act.put, List.setIfInBounds_toArray, List.set_cons_zero, List.set_cons_succ]
                    refine wpAnyH_take (i := 12) (v := ?_) rfl (by kernel_rfl) (by kernel_rfl) (by kernel_rfl) (fun _ _ _ h => h) (Or.inl ⟨by rfl, ?_⟩) hHeld ?_
                    rotate_left
                    · (intro w hSw; (try dsimp only at hSw); (try simp only [List.getElem_toArray, List.getElem_cons_succ, List.getElem_cons_zero]); go_simp <;> with_reducible rfl)
                    try simp only [List.getElem_toArray, List.getElem_cons_succ, List.getElem_cons_zero, Act.put, List.setIfInBounds_toArray, List.set_cons_zero, List.set_cons_succ]
                    refine wpAnyH_ready (rs := [13]) (by kernel_rfl) (by simp) ?_
                    refine AllReadyH.cons rfl (fun K hK => ?_) ?_
                    · have hfz := Box.free (i := 4) (HBO.out _ HKP.out)
                      obtain ⟨g0, g1, g2, g3, g4⟩ := Box.cells (HBO.out _ HKP.out)
                      go_simp
                      refine hK.out _ _ ?_ (fun hHeld => ?_)
                      · exact trivial
                      clear hK K
                      try simp only [List.getElem_toArray, List.getElem_cons_succ, List.getElem_cons_zero, Act.put, List.setIfInBounds_toArray, List.set_cons_zero, List.set_cons_succ]
                      refine wpAnyH_done (by kernel_rfl) ?_ _
                      go_wp2_with fail
                      go_meet
                      exact ⟨va, vn, vc, (HRW2.out.repF.keep (by simp) (fun x hx hxs => heap_setCell_other _ _ _ _ (show ¬ x = c2b from fun e => by
                        rcases hx with ((h | h) | h)
                        · exact h.elim (fun h => h.elim) (fun h => (HGX.out x h).2.2 e)
                        · exact (HGX.out x h).2.2 e
                        · have := (HRW2.out.lt x h).1; omega))).mono (fun x hx _ => by
                        rcases hx with ((h | h) | h)
                        · exact h.elim (fun h => h.elim) (fun h => (HGX.out x h).1)
                        · exact (HGX.out x h).1
                        · have := (HRW2.out.lt x h).1; omega), Box.set4 (HBO.out _ HKP.out), (HKP.out.mono (by omega)).setCell (by exact Nat.le_refl _) _⟩
                    exact AllReadyH.nil
                  exact AllReadyH.nil
                exact AllReadyH.nil
              refine AllReadyH.cons rfl (fun K hK => ?_) ?_
              · obtain ⟨g0, g1, g2, g3, g4⟩ := Box.cells (HBO.out _ HBA.out)
                go_simp
                refine hK.out _ _ ?_ (fun hHeld => ?_)
                · exact trivial
                clear hK K
                try simp only [List.getElem_toArray, List.getElem_cons_succ, List.getElem_cons_zero, Act.put, List.setIfInBounds_toArray, List.set_cons_zero, List.set_cons_succ]
                refine wpAnyH_take (i := 10) (v := ?_) rfl (by kernel_rfl) (by kernel_rfl) (by kernel_rfl) (fun _ _ _ h => h) (Or.inl ⟨by rfl, ?_⟩) hHeld ?_
                rotate_left
                · (intro w hSw; (try dsimp only at hSw); (try simp only [List.getElem_toArray, List.getElem_cons_succ, List.getElem_cons_zero]); go_simp <;> with_reducible rfl)
                try simp only [List.getElem_toArray, List.getElem_cons_succ, List.getElem_cons_zero, Act.put, List.setIfInBounds_toArray, List.set_cons_zero, List.set_cons_succ]
                refine wpAnyH_ready (rs := [5]) (by kernel_rfl) (by simp) ?_
                refine AllReadyH.cons rfl (fun K hK => ?_) ?_
                · refine step_vals rfl _ _ rfl W3.heap.size (fun _ => False) (fun z => G z ∨ (Value.slice (some ⟨g, 0, none⟩) ts.length c).ownBlock = some z) _ [] (ts.take i) sm1 rfl HRA.out _ rfl HS1.out (fun z hz => ⟨by have := (HGX.out z hz).2.1; rw [hsa]; omega, fun e => by have := (HGX.out z hz).2.1; have e2 : W3.heap.size = z := Option.some.inj e; omega⟩) (by rw [htl]; simp; omega) (by rw [hsa]; omega) ?_
                  intro v1 w5 hrow1 hg1 hfr1
                  obtain ⟨v1a, v1n, v1c, rfl⟩ := hrow1.slice3
                  have HR1 := Lib.hid hrow1
                  have HB1 := Lib.hid (show Below W3.heap.size W3 w5 from ⟨hg1.os.trans HBA.out.os, hg1.tape.trans HBA.out.tape, hg1.output.trans HBA.out.output, Nat.le_trans HBA.out.size hg1.size, fun z hz => (hg1.block z (by rw [hsa]; omega) (fun e => by have e2 : z = W3.heap.size := Option.some.inj e; omega)).trans (HBA.out.block z hz)⟩)
                  have HF1 := Lib.hid (show ∀ z, (Value.slice v1a v1n v1c).ownBlock = some z → W3.heap.size ≤ z from fun z e => by
                    rcases hfr1 with h | h
                    · rw [h] at e
                      have e2 : W3.heap.size = z := Option.some.inj e
                      omega
                    · rw [h] at e
                      have e2 := Option.some.inj e
                      rw [hsa] at e2
                      omega)
                  have hzz1 : W3.heap.size ≤ w5.heap.size := HB1.out.size
                  obtain ⟨sm2, hs2⟩ := vsrc_of (HT2.out.stay HB1.out)
                  have HS2 := Lib.hid hs2
                  clear hrow1 hg1 hfr1 hs2
                  refine hK.out _ _ ?_ (fun hHeld => ?_)
                  · exact trivial
                  clear hK K
                  try simp only [List.getElem_toArray, List.getElem_cons_succ, List.getElem_cons_zero, Act.put, List.setIfInBounds_toArray, List.set_cons_zero, List.set_cons_succ]
                  refine wpAnyH_ready (rs := [11]) (by kernel_rfl) (by simp) ?_
                  refine AllReadyH.cons rfl (fun K hK => ?_) ?_
                  · refine step_vals rfl _ _ rfl W3.heap.size _ (fun z => G z ∨ (Value.slice (some ⟨g, 0, none⟩) ts.length c).ownBlock = some z) _ _ (ts.drop (j + 1)) sm2 rfl HR1.out _ rfl HS2.out (fun z hz => ⟨by have := (HGX.out z hz).2.1; omega, fun e => by have := (HGX.out z hz).2.1; have := HF1.out z e; omega⟩) (by rw [hdl, List.nil_append, htl]; omega) hzz1 ?_
                    intro v2 w9 hrow2 hg2 hfr2
                    obtain ⟨va, vn, vc, rfl⟩ := hrow2.slice3
                    have HRW2 := Lib.hid hrow2
                    have HKP := Lib.hid (show Below W3.heap.size W3 w9 from ⟨hg2.os.trans HB1.out.os, hg2.tape.trans HB1.out.tape, hg2.output.trans HB1.out.output, Nat.le_trans HB1.out.size hg2.size, fun z hz => (hg2.block z (by omega) (fun e => by have := HF1.out z e.symm; omega)).trans (HB1.out.block z hz)⟩)
                    clear hrow2 hg2 hfr2
                    refine hK.out _ _ ?_ (fun hHeld => ?_)
                    · exact trivial
                    clear hK K
                    try simp only [List.getElem_toArray, List.getElem_cons_succ, List.getElem_cons_zero, Act.put, List.setIfInBounds_toArray, List.set_cons_zero, List.set_cons_succ]
                    refine wpAnyH_take (i := 12) (v := ?_) rfl (by kernel_rfl) (by kernel_rfl) (by kernel_rfl) (fun _ _ _ h => h) (Or.inl ⟨by rfl, ?_⟩) hHeld ?_
                    rotate_left
                    · (intro w hSw; (try dsimp only at hSw); (try simp only [List.getElem_toArray, List.getElem_cons_succ, List.getElem_cons_zero]); go_simp <;> with_reducible rfl)
                    try simp only [List.getElem_toArray, List.getElem_cons_succ, List.getElem_cons_zero, Act.put, List.setIfInBounds_toArray, List.set_cons_zero, List.set_cons_succ]
                    refine wpAnyH_ready (rs := [13]) (by kernel_rfl) (by simp) ?_
                    refine AllReadyH.cons rfl (fun K hK => ?_) ?_
                    · have hfz := Box.free (i := 4) (HBO.out _ HKP.out)
                      obtain ⟨g0, g1, g2, g3, g4⟩ := Box.cells (HBO.out _ HKP.out)
                      go_simp
                      refine hK.out _ _ ?_ (fun hHeld => ?_)
                      · exact trivial
                      clear hK K
                      try simp only [List.getElem_toArray, List.getElem_cons_succ, List.getElem_cons_zero, Act.put, List.setIfInBounds_toArray, List.set_cons_zero, List.set_cons_succ]
                      refine wpAnyH_done (by kernel_rfl) ?_ _
                      go_wp2_with fail
                      go_meet
                      exact ⟨va, vn, vc, (HRW2.out.repF.keep (by simp) (fun x hx hxs => heap_setCell_other _ _ _ _ (show ¬ x = c2b from fun e => by
                        rcases hx with ((h | h) | h)
                        · exact h.elim (fun h => h.elim) (fun h => (HGX.out x h).2.2 e)
                        · exact (HGX.out x h).2.2 e
                        · have := (HRW2.out.lt x h).1; omega))).mono (fun x hx _ => by
                        rcases hx with ((h | h) | h)
                        · exact h.elim (fun h => h.elim) (fun h => (HGX.out x h).1)
                        · exact (HGX.out x h).1
                        · have := (HRW2.out.lt x h).1; omega), Box.set4 (HBO.out _ HKP.out), (HKP.out.mono (by omega)).setCell (by exact Nat.le_refl _) _⟩
                    exact AllReadyH.nil
                  exact AllReadyH.nil
                exact AllReadyH.nil
              exact AllReadyH.nil
            refine AllReadyH.cons rfl (fun K hK => ?_) ?_
            · obtain ⟨g0, g1, g2, g3, g4⟩ := Box.cells (HBO.out _ HBA.out)
              go_simp
              refine hK.out _ _ ?_ (fun hHeld => ?_)
              · exact trivial
              clear hK K
              try simp only [List.getElem_toArray, List.getElem_cons_succ, List.getElem_cons_zero, Act.put, List.setIfInBounds_toArray, List.set_cons_zero, List.set_cons_succ]
              refine wpAnyH_take (i := 10) (v := ?_) rfl (by kernel_rfl) (by kernel_rfl) (by kernel_rfl) (fun _ _ _ h => h) (Or.inl ⟨by rfl, ?_⟩) hHeld ?_
              rotate_left
              · (intro w hSw; (try dsimp only at hSw); (try simp only [List.getElem_toArray, List.getElem_cons_succ, List.getElem_cons_zero]); go_simp <;> with_reducible rfl)
              try simp only [List.getElem_toArray, List.getElem_cons_succ, List.getElem_cons_zero, Act.put, List.setIfInBounds_toArray, List.set_cons_zero, List.set_cons_succ]
              refine wpAnyH_ready (rs := [2]) (by kernel_rfl) (by simp) ?_
              refine AllReadyH.cons rfl (fun K hK => ?_) ?_
              · obtain ⟨g0, g1, g2, g3, g4⟩ := Box.cells (HBO.out _ HBA.out)
                go_simp
                refine hK.out _ _ ?_ (fun hHeld => ?_)
                · exact trivial
                clear hK K
                try simp only [List.getElem_toArray, List.getElem_cons_succ, List.getElem_cons_zero, Act.put, List.setIfInBounds_toArray, List.set_cons_zero, List.set_cons_succ]
                refine wpAnyH_take (i := 4) (v := ?_) rfl (by kernel_rfl) (by kernel_rfl) (by kernel_rfl) (fun _ _ _ h => h) (Or.inl ⟨by rfl, ?_⟩) hHeld ?_
                rotate_left
                · (intro w hSw; (try dsimp only at hSw); (try simp only [List.getElem_toArray, List.getElem_cons_succ, List.getElem_cons_zero]); go_simp <;> with_reducible rfl)
                try simp only [List.getElem_toArray, List.getElem_cons_succ, List.getElem_cons_zero, Act.put, List.setIfInBounds_toArray, List.set_cons_zero, List.set_cons_succ]
                refine wpAnyH_ready (rs := [5]) (by kernel_rfl) (by simp) ?_
                refine AllReadyH.cons rfl (fun K hK => ?_) ?_
                · refine step_vals rfl _ _ rfl W3.heap.size (fun _ => False) (fun z => G z ∨ (Value.slice (some ⟨g, 0, none⟩) ts.length c).ownBlock = some z) _ [] (ts.take i) sm1 rfl HRA.out _ rfl HS1.out (fun z hz => ⟨by have := (HGX.out z hz).2.1; rw [hsa]; omega, fun e => by have := (HGX.out z hz).2.1; have e2 : W3.heap.size = z := Option.some.inj e; omega⟩) (by rw [htl]; simp; omega) (by rw [hsa]; omega) ?_
                  intro v1 w5 hrow1 hg1 hfr1
                  obtain ⟨v1a, v1n, v1c, rfl⟩ := hrow1.slice3
                  have HR1 := Lib.hid hrow1
                  have HB1 := Lib.hid (show Below W3.heap.size W3 w5 from ⟨hg1.os.trans HBA.out.os, hg1.tape.trans HBA.out.tape, hg1.output.trans HBA.out.output, Nat.le_trans HBA.out.size hg1.size, fun z hz => (hg1.block z (by rw [hsa]; omega) (fun e => by have e2 : z = W3.heap.size := Option.some.inj e; omega)).trans (HBA.out.block z hz)⟩)
                  have HF1 := Lib.hid (show ∀ z, (Value.slice v1a v1n v1c).ownBlock = some z → W3.heap.size ≤ z from fun z e => by
                    rcases hfr1 with h | h
                    · rw [h] at e
                      have e2 : W3.heap.size = z := Option.some.inj e
                      omega
                    · rw [h] at e
                      have e2 := Option.some.inj e
                      rw [hsa] at e2
                      omega)
                  have hzz1 : W3.heap.size ≤ w5.heap.size := HB1.out.size
                  obtain ⟨sm2, hs2⟩ := vsrc_of (HT2.out.stay HB1.out)
                  have HS2 := Lib.hid hs2
                  clear hrow1 hg1 hfr1 hs2
                  refine hK.out _ _ ?_ (fun hHeld => ?_)
                  · exact trivial
                  clear hK K
                  try simp only [List.getElem_toArray, List.getElem_cons_succ, List.getElem_cons_zero, Act.put, List.setIfInBounds_toArray, List.set_cons_zero, List.set_cons_succ]
                  refine wpAnyH_ready (rs := [11]) (by kernel_rfl) (by simp) ?_
                  refine AllReadyH.cons rfl (fun K hK => ?_) ?_
                  · refine step_vals rfl _ _ rfl W3.heap.size _ (fun z => G z ∨ (Value.slice (some ⟨g, 0, none⟩) ts.length c).ownBlock = some z) _ _ (ts.drop (j + 1)) sm2 rfl HR1.out _ rfl HS2.out (fun z hz => ⟨by have := (HGX.out z hz).2.1; omega, fun e => by have := (HGX.out z hz).2.1; have := HF1.out z e; omega⟩) (by rw [hdl, List.nil_append, htl]; omega) hzz1 ?_
                    intro v2 w9 hrow2 hg2 hfr2
                    obtain ⟨va, vn, vc, rfl⟩ := hrow2.slice3
                    have HRW2 := Lib.hid hrow2
                    have HKP := Lib.hid (show Below W3.heap.size W3 w9 from ⟨hg2.os.trans HB1.out.os, hg2.tape.trans HB1.out.tape, hg2.output.trans HB1.out.output, Nat.le_trans HB1.out.size hg2.size, fun z hz => (hg2.block z (by omega) (fun e => by have := HF1.out z e.symm; omega)).trans (HB1.out.block z hz)⟩)
                    clear hrow2 hg2 hfr2
                    refine hK.out _ _ ?_ (fun hHeld => ?_)
                    · exact trivial
                    clear hK K
                    try simp only [List.getElem_toArray, List.getElem_cons_succ, List.getElem_cons_zero, Act.put, List.setIfInBounds_toArray, List.set_cons_zero, List.set_cons_succ]
                    refine wpAnyH_take (i := 12) (v := ?_) rfl (by kernel_rfl) (by kernel_rfl) (by kernel_rfl) (fun _ _ _ h => h) (Or.inl ⟨by rfl, ?_⟩) hHeld ?_
                    rotate_left
                    · (intro w hSw; (try dsimp only at hSw); (try simp only [List.getElem_toArray, List.getElem_cons_succ, List.getElem_cons_zero]); go_simp <;> with_reducible rfl)
                    try simp only [List.getElem_toArray, List.getElem_cons_succ, List.getElem_cons_zero, Act.put, List.setIfInBounds_toArray, List.set_cons_zero, List.set_cons_succ]
                    refine wpAnyH_ready (rs := [13]) (by kernel_rfl) (by simp) ?_
                    refine AllReadyH.cons rfl (fun K hK => ?_) ?_
                    · have hfz := Box.free (i := 4) (HBO.out _ HKP.out)
                      obtain ⟨g0, g1, g2, g3, g4⟩ := Box.cells (HBO.out _ HKP.out)
                      go_simp
                      refine hK.out _ _ ?_ (fun hHeld => ?_)
                      · exact trivial
                      clear hK K
                      try simp only [List.getElem_toArray, List.getElem_cons_succ, List.getElem_cons_zero, Act.put, List.setIfInBounds_toArray, List.set_cons_zero, List.set_cons_succ]
                      refine wpAnyH_done (by kernel_rfl) ?_ _
                      go_wp2_with fail
                      go_meet
                      exact ⟨va, vn, vc, (HRW2.out.repF.keep (by simp) (fun x hx hxs => heap_setCell_other _ _ _ _ (show ¬ x = c2b from fun e => by
                        rcases hx with ((h | h) | h)
                        · exact h.elim (fun h => h.elim) (fun h => (HGX.out x h).2.2 e)
                        · exact (HGX.out x h).2.2 e
                        · have := (HRW2.out.lt x h).1; omega))).mono (fun x hx _ => by
                        rcases hx with ((h | h) | h)
                        · exact h.elim (fun h => h.elim) (fun h => (HGX.out x h).1)
                        · exact (HGX.out x h).1
                        · have := (HRW2.out.lt x h).1; omega), Box.set4 (HBO.out _ HKP.out), (HKP.out.mono (by omega)).setCell (by exact Nat.le_refl _) _⟩
                    exact AllReadyH.nil
                  exact AllReadyH.nil
                exact AllReadyH.nil
              exact AllReadyH.nil
            exact AllReadyH.nil
          refine AllReadyH.cons rfl (fun K hK => ?_) ?_
          · obtain ⟨g0, g1, g2, g3, g4⟩ := Box.cells (HBO.out _ HB9.out)
            go_simp
            refine hK.out _ _ ?_ (fun hHeld => ?_)
            · exact trivial
            clear hK K
            try simp only [List.getElem_toArray, List.getElem_cons_succ, List.getElem_cons_zero, Act.put, List.setIfInBounds_toArray, List.set_cons_zero, List.set_cons_succ]
            refine wpAnyH_take (i := 4) (v := ?_) rfl (by kernel_rfl) (by kernel_rfl) (by kernel_rfl) (fun _ _ _ h => h) (Or.inl ⟨by rfl, ?_⟩) hHeld ?_
            rotate_left
            · (intro w hSw; (try dsimp only at hSw); (try simp only [List.getElem_toArray, List.getElem_cons_succ, List.getElem_cons_zero]); go_simp <;> with_reducible rfl)
            try simp only [List.getElem_toArray, List.getElem_cons_succ, List.getElem_cons_zero, Act.put, List.setIfInBounds_toArray, List.set_cons_zero, List.set_cons_succ]
            refine wpAnyH_ready (rs := [0, 7]) (by kernel_rfl) (by simp) ?_
            refine AllReadyH.cons rfl (fun K hK => ?_) ?_
            · go_simp
              refine hK.out _ _ ?_ (fun hHeld => ?_)
              · exact trivial
              clear hK K
              try simp only [List.getElem_toArray, List.getElem_cons_succ, List.getElem_cons_zero, Act.put, List.setIfInBounds_toArray, List.set_cons_zero, List.set_cons_succ]
              refine wpAnyH_ready (rs := [5, 7]) (by kernel_rfl) (by simp) ?_
              refine AllReadyH.cons rfl (fun K hK => ?_) ?_
              · refine step_vals rfl _ _ rfl W3.heap.size (fun _ => False) (fun z => G z ∨ (Value.slice (some ⟨g, 0, none⟩) ts.length c).ownBlock = some z) _ [] (ts.take i) sm1 rfl HRA.out _ rfl HS1.out (fun z hz => ⟨by have := (HGX.out z hz).2.1; rw [hsa]; omega, fun e => by have := (HGX.out z hz).2.1; have e2 : W3.heap.size = z := Option.some.inj e; omega⟩) (by rw [htl]; simp; omega) (by rw [hsa]; omega) ?_
                intro v1 w5 hrow1 hg1 hfr1
                obtain ⟨v1a, v1n, v1c, rfl⟩ := hrow1.slice3
                have HR1 := Lib.hid hrow1
                have HB1 := Lib.hid (show Below W3.heap.size W3 w5 from ⟨hg1.os.trans HBA.out.os, hg1.tape.trans HBA.out.tape, hg1.output.trans HBA.out.output, Nat.le_trans HBA.out.size hg1.size, fun z hz => (hg1.block z (by rw [hsa]; omega) (fun e => by have e2 : z = W3.heap.size := Option.some.inj e; omega)).trans (HBA.out.block z hz)⟩)
                have HF1 := Lib.hid (show ∀ z, (Value.slice v1a v1n v1c).ownBlock = some z → W3.heap.size ≤ z from fun z e => by
                  rcases hfr1 with h | h
                  · rw [h] at e
                    have e2 : W3.heap.size = z := Option.some.inj e
                    omega
                  · rw [h] at e
                    have e2 := Option.some.inj e
                    rw [hsa] at e2
                    omega)
                have hzz1 : W3.heap.size ≤ w5.heap.size := HB1.out.size
                obtain ⟨sm2, hs2⟩ := vsrc_of (HT2.out.stay HB1.out)
                have HS2 := Lib.hid hs2
                clear hrow1 hg1 hfr1 hs2
                refine hK.out _ _ ?_ (fun hHeld => ?_)
                · exact trivial
                clear hK K
                try simp only [List.getElem_toArray, List.getElem_cons_succ, List.getElem_cons_zero, Act.put, List.setIfInBounds_toArray, List.set_cons_zero, List.set_cons_succ]
                refine wpAnyH_ready (rs := [7]) (by kernel_rfl) (by simp) ?_
                refine AllReadyH.cons rfl (fun K hK => ?_) ?_
                · obtain ⟨g0, g1, g2, g3, g4⟩ := Box.cells (HBO.out _ HB1.out)
                  go_simp
                  refine hK.out _ _ ?_ (fun hHeld => ?_)
                  · exact trivial
                  clear hK K
                  try simp only [List.getElem_toArray, List.getElem_cons_succ, List.getElem_cons_zero, Act.put, List.setIfInBounds_toArray, List.set_cons_zero, List.set_cons_succ]
                  refine wpAnyH_take (i := 10) (v := ?_) rfl (by kernel_rfl) (by kernel_rfl) (by kernel_rfl) (fun _ _ _ h => h) (Or.inl ⟨by rfl, ?_⟩) hHeld ?_
                  rotate_left
                  · (intro w hSw; (try dsimp only at hSw); (try simp only [List.getElem_toArray, List.getElem_cons_succ, List.getElem_cons_zero]); go_simp <;> with_reducible rfl)
                  try simp only [List.getElem_toArray, List.getElem_cons_succ, List.getElem_cons_zero, Act.put, List.setIfInBounds_toArray, List.set_cons_zero, List.set_cons_succ]
                  refine wpAnyH_ready (rs := [11]) (by kernel_rfl) (by simp) ?_
                  refine AllReadyH.cons rfl (fun K hK => ?_) ?_
                  · refine step_vals rfl _ _ rfl W3.heap.size _ (fun z => G z ∨ (Value.slice (some ⟨g, 0, none⟩) ts.length c).ownBlock = some z) _ _ (ts.drop (j + 1)) sm2 rfl HR1.out _ rfl HS2.out (fun z hz => ⟨by have := (HGX.out z hz).2.1; omega, fun e => by have := (HGX.out z hz).2.1; have := HF1.out z e; omega⟩) (by rw [hdl, List.nil_append, htl]; omega) hzz1 ?_
                    intro v2 w9 hrow2 hg2 hfr2
                    obtain ⟨va, vn, vc, rfl⟩ := hrow2.slice3
                    have HRW2 := Lib.hid hrow2
                    have HKP := Lib.hid (show Below W3.heap.size W3 w9 from ⟨hg2.os.trans HB1.out.os, hg2.tape.trans HB1.out.tape, hg2.output.trans HB1.out.output, Nat.le_trans HB1.out.size hg2.size, fun z hz => (hg2.block z (by omega) (fun e => by have := HF1.out z e.symm; omega)).trans (HB1.out.block z hz)⟩)
                    clear hrow2 hg2 hfr2
                    refine hK.out _ _ ?_ (fun hHeld => ?_)
                    · exact trivial
                    clear hK K
                    try simp only [List.getElem_toArray, List.getElem_cons_succ, List.getElem_cons_zero, Act.put, List.setIfInBounds_toArray, List.set_cons_zero, List.set_cons_succ]
                    refine wpAnyH_take (i := 12) (v := ?_) rfl (by kernel_rfl) (by kernel_rfl) (by kernel_rfl) (fun _ _ _ h => h) (Or.inl ⟨by rfl, ?_⟩) hHeld ?_
                    rotate_left
                    · (intro w hSw; (try dsimp only at hSw); (try simp only [List.getElem_toArray, List.getElem_cons_succ, List.getElem_cons_zero]); go_simp <;> with_reducible rfl)
                    try simp only [List.getElem_toArray, List.getElem_cons_succ, List.getElem_cons_zero, Act.put, List.setIfInBounds_toArray, List.set_cons_zero, List.set_cons_succ]
                    refine wpAnyH_ready (rs := [13]) (by kernel_rfl) (by simp) ?_
                    refine AllReadyH.cons rfl (fun K hK => ?_) ?_
                    · have hfz := Box.free (i := 4) (HBO.out _ HKP.out)
                      obtain ⟨g0, g1, g2, g3, g4⟩ := Box.cells (HBO.out _ HKP.out)
                      go_simp
                      refine hK.out _ _ ?_ (fun hHeld => ?_)
                      · exact trivial
                      clear hK K
                      try simp only [List.getElem_toArray, List.getElem_cons_succ, List.getElem_cons_zero, Act.put, List.setIfInBounds_toArray, List.set_cons_zero, List.set_cons_succ]
                      refine wpAnyH_done (by kernel_rfl) ?_ _
                      go_wp2_with fail
                      go_meet
                      exact ⟨va, vn, vc, (HRW2.out.repF.keep (by simp) (fun x hx hxs => heap_setCell_other _ _ _ _ (show ¬ x = c2b from fun e => by
                        rcases hx with ((h | h) | h)
                        · exact h.elim (fun h => h.elim) (fun h => (HGX.out x h).2.2 e)
                        · exact (HGX.out x h).2.2 e
                        · have := (HRW2.out.lt x h).1; omega))).mono (fun x hx _ => by
                        rcases hx with ((h | h) | h)
                        · exact h.elim (fun h => h.elim) (fun h => (HGX.out x h).1)
                        · exact (HGX.out x h).1
                        · have := (HRW2.out.lt x h).1; omega), Box.set4 (HBO.out _ HKP.out), (HKP.out.mono (by omega)).setCell (by exact Nat.le_refl _) _⟩
                    exact AllReadyH.nil
                  exact AllReadyH.nil
                exact AllReadyH.nil
              refine AllReadyH.cons rfl (fun K hK => ?_) ?_
              · obtain ⟨g0, g1, g2, g3, g4⟩ := Box.cells (HBO.out _ HBA.out)
                go_simp
                refine hK.out _ _ ?_ (fun hHeld => ?_)
                · exact trivial
                clear hK K
                try simp only [List.getElem_toArray, List.getElem_cons_succ, List.getElem_cons_zero, Act.put, List.setIfInBounds_toArray, List.set_cons_zero, List.set_cons_succ]
                refine wpAnyH_take (i := 10) (v := ?_) rfl (by kernel_rfl) (by kernel_rfl) (by kernel_rfl) (fun _ _ _ h => h) (Or.inl ⟨by rfl, ?_⟩) hHeld ?_
                rotate_left
                · (intro w hSw; (try dsimp only at hSw); (try simp only [List.getElem_toArray, List.getElem_cons_succ, List.getElem_cons_zero]); go_simp <;> with_reducible rfl)
                try simp only [List.getElem_toArray, List.getElem_cons_succ, List.getElem_cons_zero, Act.put, List.setIfInBounds_toArray, List.set_cons_zero, List.set_cons_succ]
                refine wpAnyH_ready (rs := [5]) (by kernel_rfl) (by simp) ?_
                refine AllReadyH.cons rfl (fun K hK => ?_) ?_
                · refine step_vals rfl _ _ rfl W3.heap.size (fun _ => False) (fun z => G z ∨ (Value.slice (some ⟨g, 0, none⟩) ts.length c).ownBlock = some z) _ [] (ts.take i) sm1 rfl HRA.out _ rfl HS1.out (fun z hz => ⟨by have := (HGX.out z hz).2.1; rw [hsa]; omega, fun e => by have := (HGX.out z hz).2.1; have e2 : W3.heap.size = z := Option.some.inj e; omega⟩) (by rw [htl]; simp; omega) (by rw [hsa]; omega) ?_
                  intro v1 w5 hrow1 hg1 hfr1
                  obtain ⟨v1a, v1n, v1c, rfl⟩ := hrow1.slice3
                  have HR1 := Lib.hid hrow1
                  have HB1 := Lib.hid (show Below W3.heap.size W3 w5 from ⟨hg1.os.trans HBA.out.os, hg1.tape.trans HBA.out.tape, hg1.output.trans HBA.out.output, Nat.le_trans HBA.out.size hg1.size, fun z hz => (hg1.block z (by rw [hsa]; omega) (fun e => by have e2 : z = W3.heap.size := Option.some.inj e; omega)).trans (HBA.out.block z hz)⟩)
                  have HF1 := Lib.hid (show ∀ z, (Value.slice v1a v1n v1c).ownBlock = some z → W3.heap.size ≤ z from fun z e => by
                    rcases hfr1 with h | h
                    · rw [h] at e
                      have e2 : W3.heap.size = z := Option.some.inj e
                      omega
                    · rw [h] at e
                      have e2 := Option.some.inj e
                      rw [hsa] at e2
                      omega)
                  have hzz1 : W3.heap.size ≤ w5.heap.size := HB1.out.size
                  obtain ⟨sm2, hs2⟩ := vsrc_of (HT2.out.stay HB1.out)
                  have HS2 := Lib.hid hs2
                  clear hrow1 hg1 hfr1 hs2
                  refine hK.out _ _ ?_ (fun hHeld => ?_)
                  · exact trivial
                  clear hK K
                  try simp only [List.getElem_toArray, List.getElem_cons_succ, List.getElem_cons_zero, Act.put, List.setIfInBounds_toArray, List.set_cons_zero, List.set_cons_succ]
                  refine wpAnyH_ready (rs := [11]) (by kernel_rfl) (by simp) ?_
                  refine AllReadyH.cons rfl (fun K hK => ?_) ?_
                  · refine step_vals rfl _ _ rfl W3.heap.size _ (fun z => G z ∨ (Value.slice (some ⟨g, 0, none⟩) ts.length c).ownBlock = some z) _ _ (ts.drop (j + 1)) sm2 rfl HR1.out _ rfl HS2.out (fun z hz => ⟨by have := (HGX.out z hz).2.1; omega, fun e => by have := (HGX.out z hz).2.1; have := HF1.out z e; omega⟩) (by rw [hdl, List.nil_append, htl]; omega) hzz1 ?_
                    intro v2 w9 hrow2 hg2 hfr2
                    obtain ⟨va, vn, vc, rfl⟩ := hrow2.slice3
                    have HRW2 := Lib.hid hrow2
                    have HKP := Lib.hid (show Below W3.heap.size W3 w9 from ⟨hg2.os.trans HB1.out.os, hg2.tape.trans HB1.out.tape, hg2.output.trans HB1.out.output, Nat.le_trans HB1.out.size hg2.size, fun z hz => (hg2.block z (by omega) (fun e => by have := HF1.out z e.symm; omega)).trans (HB1.out.block z hz)⟩)
                    clear hrow2 hg2 hfr2
                    refine hK.out _ _ ?_ (fun hHeld => ?_)
                    · exact trivial
                    clear hK K
                    try simp only [List.getElem_toArray, List.getElem_cons_succ, List.getElem_cons_zero, Act.put, List.setIfInBounds_toArray, List.set_cons_zero, List.set_cons_succ]
                    refine wpAnyH_take (i := 12) (v := ?_) rfl (by kernel_rfl) (by kernel_rfl) (by kernel_rfl) (fun _ _ _ h => h) (Or.inl ⟨by rfl, ?_⟩) hHeld ?_
                    rotate_left
                    · (intro w hSw; (try dsimp only at hSw); (try simp only [List.getElem_toArray, List.getElem_cons_succ, List.getElem_cons_zero]); go_simp <;> with_reducible rfl)
                    try simp only [List.getElem_toArray, List.getElem_cons_succ, List.getElem_cons_zero, Act.put, List.setIfInBounds_toArray, List.set_cons_zero, List.set_cons_succ]
                    refine wpAnyH_ready (rs := [13]) (by kernel_rfl) (by simp) ?_
                    refine AllReadyH.cons rfl (fun K hK => ?_) ?_
                    · have hfz := Box.free (i := 4) (HBO.out _ HKP.out)
                      obtain ⟨g0, g1, g2, g3, g4⟩ := Box.cells (HBO.out _ HKP.out)
                      go_simp
                      refine hK.out _ _ ?_ (fun hHeld => ?_)
                      · exact trivial
                      clear hK K
                      try simp only [List.getElem_toArray, List.getElem_cons_succ, List.getElem_cons_zero, Act.put, List.setIfInBounds_toArray, List.set_cons_zero, List.set_cons_succ]
                      refine wpAnyH_done (by kernel_rfl) ?_ _
                      go_wp2_with fail
                      go_meet
                      exact ⟨va, vn, vc, (HRW2.out.repF.keep (by simp) (fun x hx hxs => heap_setCell_other _ _ _ _ (show ¬ x = c2b from fun e => by
                        rcases hx with ((h | h) | h)
                        · exact h.elim (fun h => h.elim) (fun h => (HGX.out x h).2.2 e)
                        · exact (HGX.out x h).2.2 e
                        · have := (HRW2.out.lt x h).1; omega))).mono (fun x hx _ => by
                        rcases hx with ((h | h) | h)
                        · exact h.elim (fun h => h.elim) (fun h => (HGX.out x h).1)
                        · exact (HGX.out x h).1
                        · have := (HRW2.out.lt x h).1; omega), Box.set4 (HBO.out _ HKP.out), (HKP.out.mono (by omega)).setCell (by exact Nat.le_refl _) _⟩
                    exact AllReadyH.nil
                  exact AllReadyH.nil
                exact AllReadyH.nil
              exact AllReadyH.nil
            refine AllReadyH.cons rfl (fun K hK => ?_) ?_
            · obtain ⟨g0, g1, g2, g3, g4⟩ := Box.cells (HBO.out _ HB9.out)
              go_simp
              refine hK.out _ _ ?_ (fun hHeld => ?_)
              · exact trivial
              clear hK K
              try simp only [List.getElem_toArray, List.getElem_cons_succ, List.getElem_cons_zero, Act.put, List.setIfInBounds_toArray, List.set_cons_zero, List.set_cons_succ]
              refine wpAnyH_take (i := 10) (v := ?_) rfl (by kernel_rfl) (by kernel_rfl) (by kernel_rfl) (fun _ _ _ h => h) (Or.inl ⟨by rfl, ?_⟩) hHeld ?_
              rotate_left
              · (intro w hSw; (try dsimp only at hSw); (try simp only [List.getElem_toArray, List.getElem_cons_succ, List.getElem_cons_zero]); go_simp <;> with_reducible rfl)
              try simp only [List.getElem_toArray, List.getElem_cons_succ, List.getElem_cons_zero, Act.put, List.setIfInBounds_toArray, List.set_cons_zero, List.set_cons_succ]
              refine wpAnyH_ready (rs := [0]) (by kernel_rfl) (by simp) ?_
              refine AllReadyH.cons rfl (fun K hK => ?_) ?_
              · go_simp
                refine hK.out _ _ ?_ (fun hHeld => ?_)
                · exact trivial
                clear hK K
                try simp only [List.getElem_toArray, List.getElem_cons_succ, List.getElem_cons_zero, Act.put, List.setIfInBounds_toArray, List.set_cons_zero, List.set_cons_succ]
                refine wpAnyH_ready (rs := [5]) (by kernel_rfl) (by simp) ?_
                refine AllReadyH.cons rfl (fun K hK => ?_) ?_
                · refine step_vals rfl _ _ rfl W3.heap.size (fun _ => False) (fun z => G z ∨ (Value.slice (some ⟨g, 0, none⟩) ts.length c).ownBlock = some z) _ [] (ts.take i) sm1 rfl HRA.out _ rfl HS1.out (fun z hz => ⟨by have := (HGX.out z hz).2.1; rw [hsa]; omega, fun e => by have := (HGX.out z hz).2.1; have e2 : W3.heap.size = z := Option.some.inj e; omega⟩) (by rw [htl]; simp; omega) (by rw [hsa]; omega) ?_
                  intro v1 w5 hrow1 hg1 hfr1
                  obtain ⟨v1a, v1n, v1c, rfl⟩ := hrow1.slice3
                  have HR1 := Lib.hid hrow1
                  have HB1 := Lib.hid (show Below W3.heap.size W3 w5 from ⟨hg1.os.trans HBA.out.os, hg1.tape.trans HBA.out.tape, hg1.output.trans HBA.out.output, Nat.le_trans HBA.out.size hg1.size, fun z hz => (hg1.block z (by rw [hsa]; omega) (fun e => by have e2 : z = W3.heap.size := Option.some.inj e; omega)).trans (HBA.out.block z hz)⟩)
                  have HF1 := Lib.hid (show ∀ z, (Value.slice v1a v1n v1c).ownBlock = some z → W3.heap.size ≤ z from fun z e => by
                    rcases hfr1 with h | h
                    · rw [h] at e
                      have e2 : W3.heap.size = z := Option.some.inj e
                      omega
                    · rw [h] at e
                      have e2 := Option.some.inj e
                      rw [hsa] at e2
                      omega)
                  have hzz1 : W3.heap.size ≤ w5.heap.size := HB1.out.size
                  obtain ⟨sm2, hs2⟩ := vsrc_of (HT2.out.stay HB1.out)
                  have HS2 := Lib.hid hs2
                  clear hrow1 hg1 hfr1 hs2
                  refine hK.out _ _ ?_ (fun hHeld => ?_)
                  · exact trivial
                  clear hK K
                  try simp only [List.getElem_toArray, List.getElem_cons_succ, List.getElem_cons_zero, Act.put, List.setIfInBounds_toArray, List.set_cons_zero, List.set_cons_succ]
                  refine wpAnyH_ready (rs := [11]) (by kernel_rfl) (by simp) ?_
                  refine AllReadyH.cons rfl (fun K hK => ?_) ?_
                  · refine step_vals rfl _ _ rfl W3.heap.size _ (fun z => G z ∨ (Value.slice (some ⟨g, 0, none⟩) ts.length c).ownBlock = some z) _ _ (ts.drop (j + 1)) sm2 rfl HR1.out _ rfl HS2.out (fun z hz => ⟨by have := (HGX.out z hz).2.1; omega, fun e => by have := (HGX.out z hz).2.1; have := HF1.out z e; omega⟩) (by rw [hdl, List.nil_append, htl]; omega) hzz1 ?_
                    intro v2 w9 hrow2 hg2 hfr2
                    obtain ⟨va, vn, vc, rfl⟩ := hrow2.slice3
                    have HRW2 := Lib.hid hrow2
                    have HKP := Lib.hid (show Below W3.heap.size W3 w9 from ⟨hg2.os.trans HB1.out.os, hg2.tape.trans HB1.out.tape, hg2.output.trans HB1.out.output, Nat.le_trans HB1.out.size hg2.size, fun z hz => (hg2.block z (by omega) (fun e => by have := HF1.out z e.symm; omega)).trans (HB1.out.block z hz)⟩)
                    clear hrow2 hg2 hfr2
                    refine hK.out _ _ ?_ (fun hHeld => ?_)
                    · exact trivial
                    clear hK K
                    try simp only [List.getElem_toArray, List.getElem_cons_succ, List.getElem_cons_zero, Act.put, List.setIfInBounds_toArray, List.set_cons_zero, List.set_cons_succ]
                    refine wpAnyH_take (i := 12) (v := ?_) rfl (by kernel_rfl) (by kernel_rfl) (by kernel_rfl) (fun _ _ _ h => h) (Or.inl ⟨by rfl, ?_⟩) hHeld ?_
                    rotate_left
                    · (intro w hSw; (try dsimp only at hSw); (try simp only [List.getElem_toArray, List.getElem_cons_succ, List.getElem_cons_zero]); go_simp <;> with_reducible rfl)
                    try simp only [List.getElem_toArray, List.getElem_cons_succ, List.getElem_cons_zero, Act.put, List.setIfInBounds_toArray, List.set_cons_zero, List.set_cons_succ]
                    refine wpAnyH_ready (rs := [13]) (by kernel_rfl) (by simp) ?_
                    refine AllReadyH.cons rfl (fun K hK => ?_) ?_
                    · have hfz := Box.free (i := 4) (HBO.out _ HKP.out)
                      obtain ⟨g0, g1, g2, g3, g4⟩ := Box.cells (HBO.out _ HKP.out)
                      go_simp
                      refine hK.out _ _ ?_ (fun hHeld => ?_)
                      · exact trivial
                      clear hK K
                      try simp only [List.getElem_toArray, List.getElem_cons_succ, List.getElem_cons_zero, Act.put, List.setIfInBounds_toArray, List.set_cons_zero, List.set_cons_succ]
                      refine wpAnyH_done (by kernel_rfl) ?_ _
                      go_wp2_with fail
                      go_meet
                      exact ⟨va, vn, vc, (HRW2.out.repF.keep (by simp) (fun x hx hxs => heap_setCell_other _ _ _ _ (show ¬ x = c2b from fun e => by
                        rcases hx with ((h | h) | h)
                        · exact h.elim (fun h => h.elim) (fun h => (HGX.out x h).2.2 e)
                        · exact (HGX.out x h).2.2 e
                        · have := (HRW2.out.lt x h).1; omega))).mono (fun x hx _ => by
                        rcases hx with ((h | h) | h)
                        · exact h.elim (fun h => h.elim) (fun h => (HGX.out x h).1)
                        · exact (HGX.out x h).1
                        · have := (HRW2.out.lt x h).1; omega), Box.set4 (HBO.out _ HKP.out), (HKP.out.mono (by omega)).setCell (by exact Nat.le_refl _) _⟩
                    exact AllReadyH.nil
                  exact AllReadyH.nil
                exact AllReadyH.nil
              exact AllReadyH.nil
            exact AllReadyH.nil
          refine AllReadyH.cons rfl (fun K hK => ?_) ?_
          · obtain ⟨g0, g1, g2, g3, g4⟩ := Box.cells (HBO.out _ HB9.out)
            go_simp
            refine hK.out _ _ ?_ (fun hHeld => ?_)
            · exact trivial
            clear hK K
            try simp only [List.getElem_toArray, List.getElem_cons_succ, List.getElem_cons_zero, Act.put, List.setIfInBounds_toArray, List.set_cons_zero, List.set_cons_succ]
            refine wpAnyH_take (i := 10) (v := ?_) rfl (by kernel_rfl) (by kernel_rfl) (by kernel_rfl) (fun _ _ _ h => h) (Or.inl ⟨by rfl, ?_⟩) hHeld ?_
            rotate_left
            · (intro w hSw; (try dsimp only at hSw); (try simp only [List.getElem_toArray, List.getElem_cons_succ, List.getElem_cons_zero]); go_simp <;> with_reducible rfl)
            try simp only [List.getElem_toArray, List.getElem_cons_succ, List.getElem_cons_zero, Act.put, List.setIfInBounds_toArray, List.set_cons_zero, List.set_cons_succ]
            refine wpAnyH_ready (rs := [0, 2]) (by kernel_rfl) (by simp) ?_
            refine AllReadyH.cons rfl (fun K hK => ?_) ?_
            · go_simp
              refine hK.out _ _ ?_ (fun hHeld => ?_)
              · exact trivial
              clear hK K
              try simp only [List.getElem_toArray, List.getElem_cons_succ, List.getElem_cons_zero, Act.put, List.setIfInBounds_toArray, List.set_cons_zero, List.set_cons_succ]
              refine wpAnyH_ready (rs := [2]) (by kernel_rfl) (by simp) ?_
              refine AllReadyH.cons rfl (fun K hK => ?_) ?_
              · obtain ⟨g0, g1, g2, g3, g4⟩ := Box.cells (HBO.out _ HBA.out)
                go_simp
                refine hK.out _ _ ?_ (fun hHeld => ?_)
                · exact trivial
                clear hK K
                try simp only [List.getElem_toArray, List.getElem_cons_succ, List.getElem_cons_zero, Act.put, List.setIfInBounds_toArray, List.set_cons_zero, List.set_cons_succ]
                refine wpAnyH_take (i := 4) (v := ?_) rfl (by kernel_rfl) (by kernel_rfl) (by kernel_rfl) (fun _ _ _ h => h) (Or.inl ⟨by rfl, ?_⟩) hHeld ?_
                rotate_left
                · (intro w hSw; (try dsimp only at hSw); (try simp only [List.getElem_toArray, List.getElem_cons_succ, List.getElem_cons_zero]); go_simp <;> with_reducible rfl)
                try simp only [List.getElem_toArray, List.getElem_cons_succ, List.getElem_cons_zero, Act.put, List.setIfInBounds_toArray, List.set_cons_zero, List.set_cons_succ]
                refine wpAnyH_ready (rs := [5]) (by kernel_rfl) (by simp) ?_
                refine AllReadyH.cons rfl (fun K hK => ?_) ?_
                · refine step_vals rfl _ _ rfl W3.heap.size (fun _ => False) (fun z => G z ∨ (Value.slice (some ⟨g, 0, none⟩) ts.length c).ownBlock = some z) _ [] (ts.take i) sm1 rfl HRA.out _ rfl HS1.out (fun z hz => ⟨by have := (HGX.out z hz).2.1; rw [hsa]; omega, fun e => by have := (HGX.out z hz).2.1; have e2 : W3.heap.size = z := Option.some.inj e; omega⟩) (by rw [htl]; simp; omega) (by rw [hsa]; omega) ?_
                  intro v1 w5 hrow1 hg1 hfr1
                  obtain ⟨v1a, v1n, v1c, rfl⟩ := hrow1.slice3
                  have HR1 := Lib.hid hrow1
                  have HB1 := Lib.hid (show Below W3.heap.size W3 w5 from ⟨hg1.os.trans HBA.out.os, hg1.tape.trans HBA.out.tape, hg1.output.trans HBA.out.output, Nat.le_trans HBA.out.size hg1.size, fun z hz => (hg1.block z (by rw [hsa]; omega) (fun e => by have e2 : z = W3.heap.size := Option.some.inj e; omega)).trans (HBA.out.block z hz)⟩)
                  have HF1 := Lib.hid (show ∀ z, (Value.slice v1a v1n v1c).ownBlock = some z → W3.heap.size ≤ z from fun z e => by
                    rcases hfr1 with h | h
                    · rw [h] at e
                      have e2 : W3.heap.size = z := Option.some.inj e
                      omega
                    · rw [h] at e
                      have e2 := Option.some.inj e
                      rw [hsa] at e2
                      omega)
                  have hzz1 : W3.heap.size ≤ w5.heap.size := HB1.out.size
                  obtain ⟨sm2, hs2⟩ := vsrc_of (HT2.out.stay HB1.out)
                  have HS2 := Lib.hid hs2
                  clear hrow1 hg1 hfr1 hs2
                  refine hK.out _ _ ?_ (fun hHeld => ?_)
                  · exact trivial
                  clear hK K
                  try simp only [List.getElem_toArray, List.getElem_cons_succ, List.getElem_cons_zero, Act.put, List.setIfInBounds_toArray, List.set_cons_zero, List.set_cons_succ]
                  refine wpAnyH_ready (rs := [11]) (by kernel_rfl) (by simp) ?_
                  refine AllReadyH.cons rfl (fun K hK => ?_) ?_
                  · refine step_vals rfl _ _ rfl W3.heap.size _ (fun z => G z ∨ (Value.slice (some ⟨g, 0, none⟩) ts.length c).ownBlock = some z) _ _ (ts.drop (j + 1)) sm2 rfl HR1.out _ rfl HS2.out (fun z hz => ⟨by have := (HGX.out z hz).2.1; omega, fun e => by have := (HGX.out z hz).2.1; have := HF1.out z e; omega⟩) (by rw [hdl, List.nil_append, htl]; omega) hzz1 ?_
                    intro v2 w9 hrow2 hg2 hfr2
                    obtain ⟨va, vn, vc, rfl⟩ := hrow2.slice3
                    have HRW2 := Lib.hid hrow2
                    have HKP := Lib.hid (show Below W3.heap.size W3 w9 from ⟨hg2.os.trans HB1.out.os, hg2.tape.trans HB1.out.tape, hg2.output.trans HB1.out.output, Nat.le_trans HB1.out.size hg2.size, fun z hz => (hg2.block z (by omega) (fun e => by have := HF1.out z e.symm; omega)).trans (HB1.out.block z hz)⟩)
                    clear hrow2 hg2 hfr2
                    refine hK.out _ _ ?_ (fun hHeld => ?_)
                    · exact trivial
                    clear hK K
                    try simp only [List.getElem_toArray, List.getElem_cons_succ, List.getElem_cons_zero, Act.put, List.setIfInBounds_toArray, List.set_cons_zero, List.set_cons_succ]
                    refine wpAnyH_take (i := 12) (v := ?_) rfl (by kernel_rfl) (by kernel_rfl) (by kernel_rfl) (fun _ _ _ h => h) (Or.inl ⟨by rfl, ?_⟩) hHeld ?_
                    rotate_left
                    · (intro w hSw; (try dsimp only at hSw); (try simp only [List.getElem_toArray, List.getElem_cons_succ, List.getElem_cons_zero]); go_simp <;> with_reducible rfl)
                    try simp only [List.getElem_toArray, List.getElem_cons_succ, List.getElem_cons_zero, Act.put, List.setIfInBounds_toArray, List.set_cons_zero, List.set_cons_succ]
                    refine wpAnyH_ready (rs := [13]) (by kernel_rfl) (by simp) ?_
                    refine AllReadyH.cons rfl (fun K hK => ?_) ?_
                    · have hfz := Box.free (i := 4) (HBO.out _ HKP.out)
                      obtain ⟨g0, g1, g2, g3, g4⟩ := Box.cells (HBO.out _ HKP.out)
                      go_simp
                      refine hK.out _ _ ?_ (fun hHeld => ?_)
                      · exact trivial
                      clear hK K
                      try simp only [List.getElem_toArray, List.getElem_cons_succ, List.getElem_cons_zero, Act.put, List.setIfInBounds_toArray, List.set_cons_zero, List.set_cons_succ]
                      refine wpAnyH_done (by kernel_rfl) ?_ _
                      go_wp2_with fail
                      go_meet
                      exact ⟨va, vn, vc, (HRW2.out.repF.keep (by simp) (fun x hx hxs => heap_setCell_other _ _ _ _ (show ¬ x = c2b from fun e => by
                        rcases hx with ((h | h) | h)
                        · exact h.elim (fun h => h.elim) (fun h => (HGX.out x h).2.2 e)
                        · exact (HGX.out x h).2.2 e
                        · have := (HRW2.out.lt x h).1; omega))).mono (fun x hx _ => by
                        rcases hx with ((h | h) | h)
                        · exact h.elim (fun h => h.elim) (fun h => (HGX.out x h).1)
                        · exact (HGX.out x h).1
                        · have := (HRW2.out.lt x h).1; omega), Box.set4 (HBO.out _ HKP.out), (HKP.out.mono (by omega)).setCell (by exact Nat.le_refl _) _⟩
                    exact AllReadyH.nil
                  exact AllReadyH.nil
                exact AllReadyH.nil
              exact AllReadyH.nil
            refine AllReadyH.cons rfl (fun K hK => ?_) ?_
            · obtain ⟨g0, g1, g2, g3, g4⟩ := Box.cells (HBO.out _ HB9.out)
              go_simp
              refine hK.out _ _ ?_ (fun hHeld => ?_)
              · exact trivial
              clear hK K
              try simp only [List.getElem_toArray, List.getElem_cons_succ, List.getElem_cons_zero, Act.put, List.setIfInBounds_toArray, List.set_cons_zero, List.set_cons_succ]
              refine wpAnyH_take (i := 4) (v := ?_) rfl (by kernel_rfl) (by kernel_rfl) (by kernel_rfl) (fun _ _ _ h => h) (Or.inl ⟨by rfl, ?_⟩) hHeld ?_
              rotate_left
              · (intro w hSw; (try dsimp only at hSw); (try simp only [List.getElem_toArray, List.getElem_cons_succ, List.getElem_cons_zero]); go_simp <;> with_reducible rfl)
              try simp only [List.getElem_toArray, List.getElem_cons_succ, List.getElem_cons_zero, Act.put, List.setIfInBounds_toArray, List.set_cons_zero, List.set_cons_succ]
              refine wpAnyH_ready (rs := [0]) (by kernel_rfl) (by simp) ?_
              refine AllReadyH.cons rfl (fun K hK => ?_) ?_
              · go_simp
                refine hK.out _ _ ?_ (fun hHeld => ?_)
                · exact trivial
                clear hK K
                try simp only [List.getElem_toArray, List.getElem_cons_succ, List.getElem_cons_zero, Act.put, List.setIfInBounds_toArray, List.set_cons_zero, List.set_cons_succ]
                refine wpAnyH_ready (rs := [5]) (by kernel_rfl) (by simp) ?_
                refine AllReadyH.cons rfl (fun K hK => ?_) ?_
                · refine step_vals rfl _ _ rfl W3.heap.size (fun _ => False) (fun z => G z ∨ (Value.slice (some ⟨g, 0, none⟩) ts.length c).ownBlock = some z) _ [] (ts.take i) sm1 rfl HRA.out _ rfl HS1.out (fun z hz => ⟨by have := (HGX.out z hz).2.1; rw [hsa]; omega, fun e => by have := (HGX.out z hz).2.1; have e2 : W3.heap.size = z := Option.some.inj e; omega⟩) (by rw [htl]; simp; omega) (by rw [hsa]; omega) ?_
                  intro v1 w5 hrow1 hg1 hfr1
                  obtain ⟨v1a, v1n, v1c, rfl⟩ := hrow1.slice3
                  have HR1 := Lib.hid hrow1
                  have HB1 := Lib.hid (show Below W3.heap.size W3 w5 from ⟨hg1.os.trans HBA.out.os, hg1.tape.trans HBA.out.tape, hg1.output.trans HBA.out.output, Nat.le_trans HBA.out.size hg1.size, fun z hz => (hg1.block z (by rw [hsa]; omega) (fun e => by have e2 : z = W3.heap.size := Option.some.inj e; omega)).trans (HBA.out.block z hz)⟩)
                  have HF1 := Lib.hid (show ∀ z, (Value.slice v1a v1n v1c).ownBlock = some z → W3.heap.size ≤ z from fun z e => by
                    rcases hfr1 with h | h
                    · rw [h] at e
                      have e2 : W3.heap.size = z := Option.some.inj e
                      omega
                    · rw [h] at e
                      have e2 := Option.some.inj e
                      rw [hsa] at e2
                      omega)
                  have hzz1 : W3.heap.size ≤ w5.heap.size := HB1.out.size
                  obtain ⟨sm2, hs2⟩ := vsrc_of (HT2.out.stay HB1.out)
                  have HS2 := Lib.hid hs2
                  clear hrow1 hg1 hfr1 hs2
                  refine hK.out _ _ ?_ (fun hHeld => ?_)
                  · exact trivial
                  clear hK K
                  try simp only [List.getElem_toArray, List.getElem_cons_succ, List.getElem_cons_zero, Act.put, List.setIfInBounds_toArray, List.set_cons_zero, List.set_cons_succ]
                  refine wpAnyH_ready (rs := [11]) (by kernel_rfl) (by simp) ?_
                  refine AllReadyH.cons rfl (fun K hK => ?_) ?_
                  · refine step_vals rfl _ _ rfl W3.heap.size _ (fun z => G z ∨ (Value.slice (some ⟨g, 0, none⟩) ts.length c).ownBlock = some z) _ _ (ts.drop (j + 1)) sm2 rfl HR1.out _ rfl HS2.out (fun z hz => ⟨by have := (HGX.out z hz).2.1; omega, fun e => by have := (HGX.out z hz).2.1; have := HF1.out z e; omega⟩) (by rw [hdl, List.nil_append, htl]; omega) hzz1 ?_
                    intro v2 w9 hrow2 hg2 hfr2
                    obtain ⟨va, vn, vc, rfl⟩ := hrow2.slice3
                    have HRW2 := Lib.hid hrow2
                    have HKP := Lib.hid (show Below W3.heap.size W3 w9 from ⟨hg2.os.trans HB1.out.os, hg2.tape.trans HB1.out.tape, hg2.output.trans HB1.out.output, Nat.le_trans HB1.out.size hg2.size, fun z hz => (hg2.block z (by omega) (fun e => by have := HF1.out z e.symm; omega)).trans (HB1.out.block z hz)⟩)
                    clear hrow2 hg2 hfr2
                    refine hK.out _ _ ?_ (fun hHeld => ?_)
                    · exact trivial
                    clear hK K
                    try simp only [List.getElem_toArray, List.getElem_cons_succ, List.getElem_cons_zero, Act.put, List.setIfInBounds_toArray, List.set_cons_zero, List.set_cons_succ]
                    refine wpAnyH_take (i := 12) (v := ?_) rfl (by kernel_rfl) (by kernel_rfl) (by kernel_rfl) (fun _ _ _ h => h) (Or.inl ⟨by rfl, ?_⟩) hHeld ?_
                    rotate_left
                    · (intro w hSw; (try dsimp only at hSw); (try simp only [List.getElem_toArray, List.getElem_cons_succ, List.getElem_cons_zero]); go_simp <;> with_reducible rfl)
                    try simp only [List.getElem_toArray, List.getElem_cons_succ, List.getElem_cons_zero, Act.put, List.setIfInBounds_toArray, List.set_cons_zero, List.set_cons_succ]
                    refine wpAnyH_ready (rs := [13]) (by kernel_rfl) (by simp) ?_
                    refine AllReadyH.cons rfl (fun K hK => ?_) ?_
                    · have hfz := Box.free (i := 4) (HBO.out _ HKP.out)
                      obtain ⟨g0, g1, g2, g3, g4⟩ := Box.cells (HBO.out _ HKP.out)
                      go_simp
                      refine hK.out _ _ ?_ (fun hHeld => ?_)
                      · exact trivial
                      clear hK K
                      try simp only [List.getElem_toArray, List.getElem_cons_succ, List.getElem_cons_zero, Act.put, List.setIfInBounds_toArray, List.set_cons_zero, List.set_cons_succ]
                      refine wpAnyH_done (by kernel_rfl) ?_ _
                      go_wp2_with fail
                      go_meet
                      exact ⟨va, vn, vc, (HRW2.out.repF.keep (by simp) (fun x hx hxs => heap_setCell_other _ _ _ _ (show ¬ x = c2b from fun e => by
                        rcases hx with ((h | h) | h)
                        · exact h.elim (fun h => h.elim) (fun h => (HGX.out x h).2.2 e)
                        · exact (HGX.out x h).2.2 e
                        · have := (HRW2.out.lt x h).1; omega))).mono (fun x hx _ => by
                        rcases hx with ((h | h) | h)
                        · exact h.elim (fun h => h.elim) (fun h => (HGX.out x h).1)
                        · exact (HGX.out x h).1
                        · have := (HRW2.out.lt x h).1; omega), Box.set4 (HBO.out _ HKP.out), (HKP.out.mono (by omega)).setCell (by exact Nat.le_refl _) _⟩
                    exact AllReadyH.nil
                  exact AllReadyH.nil
                exact AllReadyH.nil
              exact AllReadyH.nil
            exact AllReadyH.nil
          exact AllReadyH.nil
        case rest =>
          obtain ⟨va, vn, vc, hrx, hbx, hbl⟩ := hcut
          obtain ⟨wx, rfl⟩ : ∃ W : World, W = wc := ⟨_, rfl⟩
          obtain ⟨va2, vc2, hvx⟩ := hrx.slice
          injection hvx with e1 e2 e3
          subst e1 e2 e3
          have BVx := Lib.hid (show Box wx w.heap.size k n ee st _ _ from (hbl.block w.heap.size (by omega)).trans BV3.out)
          have BZx := Lib.hid (show Box wx (w.heap.size + 1) 0 0 0 ⟨#[]⟩ _ _ from (hbl.block (w.heap.size + 1) (by omega)).trans BZ3.out)
          have HBx := Lib.hid (show Below w.heap.size w wx from HBW3.out.trans (hbl.mono (by omega)))
          have HRX := Lib.hid hrx
          have HBOx := Lib.hid hbx
          clear hrx hbx hbl BV3 BZ3 BO3 HROW HT1 HT2 HGX HGL
          generalize hus : ts.take i ++ ts.drop (j + 1) = us at *
          have HS14 := Lib.hid (show ∀ W : World, Below wx.heap.size wx W → W.cell? ⟨c2b, 0, none⟩ = some (.int .i64 k) ∧ W.cell? ⟨c2b, 1, none⟩ = some (.int .i64 n) ∧ W.cell? ⟨c2b, 2, none⟩ = some (.int .i64 ee) ∧ W.cell? ⟨c2b, 3, none⟩ = some (.string st) ∧ W.cell? ⟨c2b, 4, none⟩ = some (.slice va us.length vc) ∧ W.cell? ⟨w.heap.size, 0, none⟩ = some (.int .i64 k) from fun W h => by
            obtain ⟨g0, g1, g2, g3, g4⟩ := Box.cells (Box.stay HBOx.out h)
            obtain ⟨q0, -, -, -, -⟩ := Box.cells (Box.stay BVx.out h)
            exact ⟨g0, g1, g2, g3, g4, q0⟩)
          have t9 : decide (¬ k = 9) = (k != 9) := by by_cases h : k = 9 <;> simp [h]
          have HF := Lib.hid (fun (v0 v1 v2 v3 v4 : Value) => show VRep w0.heap.size w R.1 R.2 (.returned (.tuple #[(V.mk k n ee st us).agg (.slice va us.length vc), .bool (k != 9)])) (set5 wx (w.heap.size + 1) v0 v1 v2 v3 v4) from by
            rw [HR2.out, t9]
            exact vrep_fin (HWF.out _) HRX.out HBx.out hww (fun x hx => by omega) v0 v1 v2 v3 v4)
          unfold V.agg at HF
          simp only [V.k, V.n, V.e, V.s] at HF
          clear t9 HRX HWF HR2
          go_upto_region 14 with fail
          have HB14 := Lib.hid (show Below wx.heap.size wx wx.drew from (Below.refl _ _).drew)
          refine wp_region_held_drew (S := fun W' => W'.cell? ⟨c2b, 0, none⟩ = some (.int .i64 k) ∧ W'.cell? ⟨c2b, 1, none⟩ = some (.int .i64 n) ∧ W'.cell? ⟨c2b, 2, none⟩ = some (.int .i64 ee) ∧ W'.cell? ⟨c2b, 3, none⟩ = some (.string st) ∧ W'.cell? ⟨c2b, 4, none⟩ = some (.slice va us.length vc) ∧ W'.cell? ⟨w.heap.size, 0, none⟩ = some (.int .i64 k)) (by kernel_rfl) (HS14.out _ HB14.out) (fun hHeld => ?_)
          refine wpAnyH_take (i := 0) (v := ?_) rfl (by kernel_rfl) (by kernel_rfl) (by kernel_rfl) (fun _ _ _ h => h) (Or.inl ⟨by rfl, ?_⟩) hHeld ?_
          rotate_left
          · (intro w hSw; (try dsimp only at hSw); (try simp only [List.getElem_toArray, List.getElem_cons_succ, List.getElem_cons_zero]); go_simp <;> with_reducible rfl)
          try simp only [List.getElem_toArray, List.getElem_cons_succ, List.getElem_cons_zero, Act.put, List.setIfInBounds_toArray, List.set_cons_zero, List.set_cons_succ]
          refine wpAnyH_take (i := 1) (v := ?_) rfl (by kernel_rfl) (by kernel_rfl) (by kernel_rfl) (fun _ _ _ h => h) (Or.inl ⟨by rfl, ?_⟩) hHeld ?_
          rotate_left
          · (intro w hSw; (try dsimp only at hSw); (try simp only [List.getElem_toArray, List.getElem_cons_succ, List.getElem_cons_zero]); go_simp <;> with_reducible rfl)
          try simp only [List.getElem_toArray, List.getElem_cons_succ, List.getElem_cons_zero, Act.put, List.setIfInBounds_toArray, List.set_cons_zero, List.set_cons_succ]
          refine wpAnyH_take (i := 2) (v := ?_) rfl (by kernel_rfl) (by kernel_rfl) (by kernel_rfl) (fun _ _ _ h => h) (Or.inl ⟨by rfl, ?_⟩) hHeld ?_
          rotate_left
          · (intro w hSw; (try dsimp only at hSw); (try simp only [List.getElem_toArray, List.getElem_cons_succ, List.getElem_cons_zero]); go_simp <;> with_reducible rfl)
          try simp only [List.getElem_toArray, List.getElem_cons_succ, List.getElem_cons_zero, Act.put, List.setIfInBounds_toArray, List.set_cons_zero, List.set_cons_succ]
          refine wpAnyH_take (i := 3) (v := ?_) rfl (by kernel_rfl) (by kernel_rfl) (by kernel_rfl) (fun _ _ _ h => h) (Or.inl ⟨by rfl, ?_⟩) hHeld ?_
          rotate_left
          · (intro w hSw; (try dsimp only at hSw); (try simp only [List.getElem_toArray, List.getElem_cons_succ, List.getElem_cons_zero]); go_simp <;> with_reducible rfl)
          try simp only [List.getElem_toArray, List.getElem_cons_succ, List.getElem_cons_zero, Act.put, List.setIfInBounds_toArray, List.set_cons_zero, List.set_cons_succ]
          refine wpAnyH_ready (rs := [4]) (by kernel_rfl) (by simp) ?_
          refine AllReadyH.cons rfl (fun K hK => ?_) ?_
          · obtain ⟨z0, z1, z2, z3, z4⟩ := Box.cells BZx.out
            have zf0 := Box.free (i := 0) BZx.out; have zf1 := Box.free (i := 1) BZx.out; have zf2 := Box.free (i := 2) BZx.out; have zf3 := Box.free (i := 3) BZx.out; have zf4 := Box.free (i := 4) BZx.out
            go_simp
            obtain ⟨W9, hW9⟩ : ∃ W9, W9 = (set5 wx (w.heap.size + 1) (.int .i64 k) (.int .i64 n) (.int .i64 ee) (.string st) (.slice va us.length vc)).drew := ⟨_, rfl⟩
            have hk9 : ∀ x, x ≠ w.heap.size + 1 → W9.heap[x]? = wx.heap[x]? := fun x hx => by rw [hW9]; exact heap_set5 wx _ x _ _ _ _ _ hx
            have HFX := Lib.hid (show VRep _ w R.1 R.2 _ W9 from by rw [hW9]; exact vrep_drew (HF.out (.int .i64 k) (.int .i64 n) (.int .i64 ee) (.string st) (.slice va us.length vc)))
            have BC9 := Lib.hid (show Box W9 c2b k n ee st _ _ from (hk9 c2b (by omega)).trans HBOx.out)
            have BV9 := Lib.hid (show Box W9 w.heap.size k n ee st _ _ from (hk9 w.heap.size (by omega)).trans BVx.out)
            have BZ9 := Lib.hid (show Box W9 (w.heap.size + 1) k n ee st (.slice va us.length vc) _ from by rw [hW9]; exact box_set5T BZx.out k n ee st (.slice va us.length vc))
            unfold set5 at hW9
            rw [← hW9]
            clear hW9 hk9 HF z0 z1 z2 z3 z4 zf0 zf1 zf2 zf3 zf4
            refine hK.out _ _ ?_ (fun hHeld => ?_)
            · exact (by obtain ⟨d0, d1, d2, d3, d4⟩ := Box.cells BC9.out; obtain ⟨f0, -, -, -, -⟩ := Box.cells BV9.out; exact ⟨d0, d1, d2, d3, d4, f0⟩)
            clear hK K
            try simp only [List.getElem_toArray, List.getElem_cons_succ, List.getElem_cons_zero, Act.put, List.setIfInBounds_toArray, List.set_cons_zero, List.set_cons_succ]
            refine wpAnyH_take (i := 5) (v := ?_) rfl (by kernel_rfl) (by kernel_rfl) (by kernel_rfl) (fun _ _ _ h => h) (Or.inl ⟨by rfl, ?_⟩) hHeld ?_
            rotate_left
            · (intro w hSw; (try dsimp only at hSw); (try simp only [List.getElem_toArray, List.getElem_cons_succ, List.getElem_cons_zero]); go_simp <;> with_reducible rfl)
            try simp only [List.getElem_toArray, List.getElem_cons_succ, List.getElem_cons_zero, Act.put, List.setIfInBounds_toArray, List.set_cons_zero, List.set_cons_succ]
            refine wpAnyH_done (by kernel_rfl) ?_ _
            obtain ⟨z0, z1, z2, z3, z4⟩ := Box.cells BZ9.out
            go_wp2_with fail
            exact bodyPost_ret (v := .tuple #[.agg #[.int .i64 k, .int .i64 n, .int .i64 ee, .string st, .slice va us.length vc], .bool (k != 9)]) (by simp [results, Tryd.results33, go_sem, z0, z1, z2, z3, z4]) rfl HFX.out
          exact AllReadyH.nil
      have t8 : (k == 8) = false := by simpa using h8
      have HR2 := Lib.hid (show R = (.mk k n ee st (ts.take j ++ ts.drop (j + 1)), decide (¬ k = 9)) from by rw [HR.out, if_neg h8])
      have hij : j ≤ j := Nat.le_refl _
      clear HR HC8 h8
      go_upto_region 13 with fail
      obtain ⟨-, hle, hcm, -⟩ := HROW.out.open
      obtain ⟨A, hA⟩ : ∃ A : Option Addr, (if c = j + 1 then (some ⟨g, 0, none⟩ : Option Addr) else some ⟨g, (j + 1) * 5, none⟩) = A := ⟨_, rfl⟩
      have HT1 := Lib.hid (HROW.out.repF.takeS (j := j) (by omega))
      have HT2 := Lib.hid (HROW.out.repF.dropS (j := j + 1) (A := A) (by omega) (fun h => by rw [← hA, if_neg (by omega), Nat.zero_add]))
      have hic : j ≤ c := by omega
      have hjc : j + 1 ≤ c := by omega
      have hj20 : (0 : Int) ≤ (j : Int) + 1 := by omega
      have hj2t : ((j : Int) + 1).toNat = j + 1 := by omega
      have hj2l : (j : Int) + 1 ≤ (ts.length : Int) := by omega
      have hjn2 : j + 1 ≤ ts.length := by omega
      have hii : j ≤ ts.length := by omega
      have hiil : (j : Int) ≤ (ts.length : Int) := by omega
      have htl : (ts.take j).length = j := by rw [List.length_take]; omega
      have hdl : (ts.drop (j + 1)).length = ts.length - (j + 1) := List.length_drop
      have hwj1 : IntKind.i64.wrap ((j : Int) + 1) = (j : Int) + 1 := by rw [IntKind.wrap_i64]; omega
      have hn1 : c2b ≠ W3.heap.size := by omega
      have hn2 : W3.heap.size ≠ c2b := by omega
      have hn3 : c2b < W3.heap.size := by omega
      clear y0 y1 y2 y3 y4
      go_cut [] (fun wx => ∃ va vn vc, RepF wx (fun x => w1.heap.size ≤ x) (.slice va vn vc) (ts.take j ++ ts.drop (j + 1)) ∧ Box wx c2b k n ee st (.slice va vn vc) 30 ∧ Below c2b W3 wx)
      case first =>
        have HBA := Lib.hid (show Below W3.heap.size W3 (W3.alloc (.cells #[] 30)).drew from ((Below.refl _ _).alloc (Nat.le_refl _) _).drew)
        have hsa : (W3.alloc (.cells #[] 30)).drew.heap.size = W3.heap.size + 1 := (show (W3.alloc (.cells #[] 30)).heap.size = W3.heap.size + 1 by simp)
        have HRA := Lib.hid (show PRow (W3.alloc (.cells #[] 30)).drew W3.heap.size (fun _ => False) (.slice (some ⟨W3.heap.size, 0, none⟩) 0 0) [] from (PRow.made0 (w := W3) (base := W3.heap.size) (Nat.le_refl _)).keep (Nat.le_refl _) (fun _ _ _ => rfl))
        obtain ⟨sm1, hs1⟩ := vsrc_of (HT1.out.stay HBA.out)
        have HS1 := Lib.hid hs1
        have HBO := Lib.hid (fun (W : World) (h : Below W3.heap.size W3 W) => Box.stay BO3.out h)
        have HB9 := Lib.hid (show Below W3.heap.size W3 W3.drew from (Below.refl _ _).drew)
        clear hs1
        refine wp_region_held_drew (S := fun _ => True) (by kernel_rfl) trivial (fun hHeld => ?_)
        refine wpAnyH_take (i := 1) (v := ?_) rfl (by kernel_rfl) (by kernel_rfl) (by kernel_rfl) (fun _ _ _ h => h) (Or.inl ⟨by rfl, ?_⟩) hHeld ?_
        rotate_left
        · (intro w hSw; (try dsimp only at hSw); (try simp only [List.getElem_toArray, List.getElem_cons_succ, List.getElem_cons_zero]); go_simp <;> with_reducible rfl)
        try simp only [List.getElem_toArray, List.getElem_cons_succ, List.getElem_cons_zero, Act.put, List.setIfInBounds_toArray, List.set_cons_zero, List.set_cons_succ]
        refine wpAnyH_take (i := 3) (v := ?_) rfl (by kernel_rfl) (by kernel_rfl) (by kernel_rfl) (fun _ _ _ h => h) (Or.inl ⟨by rfl, ?_⟩) hHeld ?_
        rotate_left
        · (intro w hSw; (try dsimp only at hSw); (try simp only [List.getElem_toArray, List.getElem_cons_succ, List.getElem_cons_zero]); go_simp <;> with_reducible rfl)
        try simp only [List.getElem_toArray, List.getElem_cons_succ, List.getElem_cons_zero, Act.put, List.setIfInBounds_toArray, List.set_cons_zero, List.set_cons_succ]
        refine wpAnyH_take (i := 6) (v := ?_) rfl (by kernel_rfl) (by kernel_rfl) (by kernel_rfl) (fun _ _ _ h => h) (Or.inl ⟨by rfl, ?_⟩) hHeld ?_
        rotate_left
        · (intro w hSw; (try dsimp only at hSw); (try simp only [List.getElem_toArray, List.getElem_cons_succ, List.getElem_cons_zero]); go_simp <;> with_reducible rfl)
        try simp only [List.getElem_toArray, List.getElem_cons_succ, List.getElem_cons_zero, Act.put, List.setIfInBounds_toArray, List.set_cons_zero, List.set_cons_succ]
        refine wpAnyH_take (i := 8) (v := ?_) rfl (by kernel_rfl) (by kernel_rfl) (by kernel_rfl) (fun _ _ _ h => h) (Or.inl ⟨by rfl, ?_⟩) hHeld ?_
        rotate_left
        · (intro w hSw; (try dsimp only at hSw); (try simp only [List.getElem_toArray, List.getElem_cons_succ, List.getElem_cons_zero]); go_simp <;> with_reducible rfl)
        try simp only [List.getElem_toArray, List.getElem_cons_succ, List.getElem_cons_zero, Act.put, List.setIfInBounds_toArray, List.set_cons_zero, List.set_cons_succ]
        refine wpAnyH_take (i := 9) (v := ?_) rfl (by kernel_rfl) (by kernel_rfl) (by kernel_rfl) (fun _ _ _ h => h) (Or.inl ⟨by rfl, ?_⟩) hHeld ?_
        rotate_left
        · (intro w hSw; (try dsimp only at hSw); (try simp only [List.getElem_toArray, List.getElem_cons_succ, List.getElem_cons_zero]); go_simp <;> with_reducible rfl)
        try simp only [List.getElem_toArray, List.getElem_cons_succ, List.getElem_cons_zero, Act.put, List.setIfInBounds_toArray, List.set_cons_zero, List.set_cons_succ]
        refine wpAnyH_ready (rs := [0, 2, 7]) (by kernel_rfl) (by simp) ?_
        refine AllReadyH.cons rfl (fun K hK => ?_) ?_
        · go_simp
          refine hK.out _ _ ?_ (fun hHeld => ?_)
          · exact trivial
          clear hK K
          try simp only [List.getElem_toArray, List.getElem_cons_succ, List.getElem_cons_zero, Act.put, List.setIfInBounds_toArray, List.set_cons_zero, List.set_cons_succ]
          refine wpAnyH_ready (rs := [2, 7]) (by kernel_rfl) (by simp) ?_
          refine AllReadyH.cons rfl (fun K hK => ?_) ?_
          · obtain ⟨g0, g1, g2, g3, g4⟩ := Box.cells (HBO.out _ HBA.out)
            go_simp
            refine hK.out _ _ ?_ (fun hHeld => ?_)
            · exact trivial
            clear hK K
            try simp only [List.getElem_toArray, List.getElem_cons_succ, List.getElem_cons_zero, Act.put, List.setIfInBounds_toArray, List.set_cons_zero, List.set_cons_succ]
            refine wpAnyH_take (i := 4) (v := ?_) rfl (by kernel_rfl) (by kernel_rfl) (by kernel_rfl) (fun _ _ _ h => h) (Or.inl ⟨by rfl, ?_⟩) hHeld ?_
            rotate_left
            · (intro w hSw; (try dsimp only at hSw); (try simp only [List.getElem_toArray, List.getElem_cons_succ, List.getElem_cons_zero]); go_simp <;> with_reducible rfl)
            try simp only [List.getElem_toArray, List.getElem_cons_succ, List.getElem_cons_zero, Act.put, List.setIfInBounds_toArray, List.set_cons_zero, List.set_cons_succ]
            refine wpAnyH_ready (rs := [5, 7]) (by kernel_rfl) (by simp) ?_
            refine AllReadyH.cons rfl (fun K hK => ?_) ?_
            · refine step_vals rfl _ _ rfl W3.heap.size (fun _ => False) (fun z => G z ∨ (Value.slice (some ⟨g, 0, none⟩) ts.length c).ownBlock = some z) _ [] (ts.take j) sm1 rfl HRA.out _ rfl HS1.out (fun z hz => ⟨by have := (HGX.out z hz).2.1; rw [hsa]; omega, fun e => by have := (HGX.out z hz).2.1; have e2 : W3.heap.size = z := Option.some.inj e; omega⟩) (by rw [htl]; simp; omega) (by rw [hsa]; omega) ?_
              intro v1 w5 hrow1 hg1 hfr1
              obtain ⟨v1a, v1n, v1c, rfl⟩ := hrow1.slice3
              have HR1 := Lib.hid hrow1
              have HB1 := Lib.hid (show Below W3.heap.size W3 w5 from ⟨hg1.os.trans HBA.out.os, hg1.tape.trans HBA.out.tape, hg1.output.trans HBA.out.output, Nat.le_trans HBA.out.size hg1.size, fun z hz => (hg1.block z (by rw [hsa]; omega) (fun e => by have e2 : z = W3.heap.size := Option.some.inj e; omega)).trans (HBA.out.block z hz)⟩)
              have HF1 := Lib.hid (show ∀ z, (Value.slice v1a v1n v1c).ownBlock = some z → W3.heap.size ≤ z from fun z e => by
                rcases hfr1 with h | h
                · rw [h] at e
                  have e2 : W3.heap.size = z := Option.some.inj e
                  omega
                · rw [h] at e
                  have e2 := Option.some.inj e
                  rw [hsa] at e2
                  omega)
              have hzz1 : W3.heap.size ≤ w5.heap.size := HB1.out.size
              obtain ⟨sm2, hs2⟩ := vsrc_of (HT2.out.stay HB1.out)
              have HS2 := Lib.hid hs2
              clear hrow1 hg1 hfr1 hs2
              refine hK.out _ _ ?_ (fun hHeld => ?_)
              · exact trivial
              clear hK K
              try simp only [List.getElem_toArray, List.getElem_cons_succ, List.getElem_cons_zero, Act.put, List.setIfInBounds_toArray, List.set_cons_zero, List.set_cons_succ]
              refine wpAnyH_ready (rs := [7]) (by kernel_rfl) (by simp) ?_
              refine AllReadyH.cons rfl (fun K hK => ?_) ?_
              · obtain ⟨g0, g1, g2, g3, g4⟩ := Box.cells (HBO.out _ HB1.out)
                go_simp
                refine hK.out _ _ ?_ (fun hHeld => ?_)
                · exact trivial
                clear hK K
                try simp only [List.getElem_toArray, List.getElem_cons_succ, List.getElem_cons_zero, Act.put, List.setIfInBounds_toArray, List.set_cons_zero, List.set_cons_succ]
                refine wpAnyH_take (i := 10) (v := ?_) rfl (by kernel_rfl) (by kernel_rfl) (by kernel_rfl) (fun _ _ _ h => h) (Or.inl ⟨by rfl, ?_⟩) hHeld ?_
                rotate_left
                · (intro w hSw; (try dsimp only at hSw); (try simp only [List.getElem_toArray, List.getElem_cons_succ, List.getElem_cons_zero]); go_simp <;> with_reducible rfl)
                try simp only [List.getElem_toArray, List.getElem_cons_succ, List.getElem_cons_zero, Act.put, List.setIfInBounds_toArray, List.set_cons_zero, List.set_cons_succ]
                refine wpAnyH_ready (rs := [11]) (by kernel_rfl) (by simp) ?_
                refine AllReadyH.cons rfl (fun K hK => ?_) ?_
                · refine step_vals rfl _ _ rfl W3.heap.size _ (fun z => G z ∨ (Value.slice (some ⟨g, 0, none⟩) ts.length c).ownBlock = some z) _ _ (ts.drop (j + 1)) sm2 rfl HR1.out _ rfl HS2.out (fun z hz => ⟨by have := (HGX.out z hz).2.1; omega, fun e => by have := (HGX.out z hz).2.1; have := HF1.out z e; omega⟩) (by rw [hdl, List.nil_append, htl]; omega) hzz1 ?_
                  intro v2 w9 hrow2 hg2 hfr2
                  obtain ⟨va, vn, vc, rfl⟩ := hrow2.slice3
                  have HRW2 := Lib.hid hrow2
                  have HKP := Lib.hid (show Below W3.heap.size W3 w9 from ⟨hg2.os.trans HB1.out.os, hg2.tape.trans HB1.out.tape, hg2.output.trans HB1.out.output, Nat.le_trans HB1.out.size hg2.size, fun z hz => (hg2.block z (by omega) (fun e => by have := HF1.out z e.symm; omega)).trans (HB1.out.block z hz)⟩)
                  clear hrow2 hg2 hfr2
                  refine hK.out _ _ ?_ (fun hHeld => ?_)
                  · exact trivial
                  clear hK K
                  try simp only [List.getElem_toArray, List.getElem_cons_succ, List.getElem_cons_zero, Act.put, List.setIfInBounds_toArray, List.set_cons_zero, List.set_cons_succ]
                  refine wpAnyH_take (i := 12) (v := ?_) rfl (by kernel_rfl) (by kernel_rfl) (by kernel_rfl) (fun _ _ _ h => h) (Or.inl ⟨by rfl, ?_⟩) hHeld ?_
                  rotate_left
                  · (intro w hSw; (try dsimp only at hSw); (try simp only [List.getElem_toArray, List.getElem_cons_succ, List.getElem_cons_zero]); go_simp <;> with_reducible rfl)
                  try simp only [List.getElem_toArray, List.getElem_cons_succ, List.getElem_cons_zero, Act.put, List.setIfInBounds_toArray, List.set_cons_zero, List.set_cons_succ]
                  refine wpAnyH_ready (rs := [13]) (by kernel_rfl) (by simp) ?_
                  refine AllReadyH.cons rfl (fun K hK => ?_) ?_
                  · have hfz := Box.free (i := 4) (HBO.out _ HKP.out)
                    obtain ⟨g0, g1, g2, g3, g4⟩ := Box.cells (HBO.out _ HKP.out)
                    go_simp
                    refine hK.out _ _ ?_ (fun hHeld => ?_)
                    · exact trivial
                    clear hK K
                    try simp only [List.getElem_toArray, List.getElem_cons_succ, List.getElem_cons_zero, Act.put, List.setIfInBounds_toArray, List.set_cons_zero, List.set_cons_succ]
                    refine wpAnyH_done (by kernel_rfl) ?_ _
                    go_wp2_with fail
                    go_meet
                    exact ⟨va, vn, vc, (HRW2.out.repF.keep (by simp) (fun x hx hxs => heap_setCell_other _ _ _ _ (show ¬ x = c2b from fun e => by
                      rcases hx with ((h | h) | h)
                      · exact h.elim (fun h => h.elim) (fun h => (HGX.out x h).2.2 e)
                      · exact (HGX.out x h).2.2 e
                      · have := (HRW2.out.lt x h).1; omega))).mono (fun x hx _ => by
                      rcases hx with ((h | h) | h)
                      · exact h.elim (fun h => h.elim) (fun h => (HGX.out x h).1)
                      · exact (HGX.out x h).1
                      · have := (HRW2.out.lt x h).1; omega), Box.set4 (HBO.out _ HKP.out), (HKP.out.mono (by omega)).setCell (by exact Nat.le_refl _) _⟩
                  exact AllReadyH.nil
                exact AllReadyH.nil
              exact AllReadyH.nil
            refine AllReadyH.cons rfl (fun K hK => ?_) ?_
            · obtain ⟨g0, g1, g2, g3, g4⟩ := Box.cells (HBO.out _ HBA.out)
              go_simp
              refine hK.out _ _ ?_ (fun hHeld => ?_)
              · exact trivial
              clear hK K
              try simp only [List.getElem_toArray, List.getElem_cons_succ, List.getElem_cons_zero, Act.put, List.setIfInBounds_toArray, List.set_cons_zero, List.set_cons_succ]
              refine wpAnyH_take (i := 10) (v := ?_) rfl (by kernel_rfl) (by kernel_rfl) (by kernel_rfl) (fun _ _ _ h => h) (Or.inl ⟨by rfl, ?_⟩) hHeld ?_
              rotate_left
              · (intro w hSw; (try dsimp only at hSw); (try simp only [List.getElem_toArray, List.getElem_cons_succ, List.getElem_cons_zero]); go_simp <;> with_reducible rfl)
              try simp only [List.getElem_toArray, List.getElem_cons_succ, List.getElem_cons_zero, Act.put, List.setIfInBounds_toArray, List.set_cons_zero, List.set_cons_succ]
              refine wpAnyH_ready (rs := [5]) (by kernel_rfl) (by simp) ?_
              refine AllReadyH.cons rfl (fun K hK => ?_) ?_
              · refine step_vals rfl _ _ rfl W3.heap.size (fun _ => False) (fun z => G z ∨ (Value.slice (some ⟨g, 0, none⟩) ts.length c).ownBlock = some z) _ [] (ts.take j) sm1 rfl HRA.out _ rfl HS1.out (fun z hz => ⟨by have := (HGX.out z hz).2.1; rw [hsa]; omega, fun e => by have := (HGX.out z hz).2.1; have e2 : W3.heap.size = z := Option.some.inj e; omega⟩) (by rw [htl]; simp; omega) (by rw [hsa]; omega) ?_
                intro v1 w5 hrow1 hg1 hfr1
                obtain ⟨v1a, v1n, v1c, rfl⟩ := hrow1.slice3
                have HR1 := Lib.hid hrow1
                have HB1 := Lib.hid (show Below W3.heap.size W3 w5 from ⟨hg1.os.trans HBA.out.os, hg1.tape.trans HBA.out.tape, hg1.output.trans HBA.out.output, Nat.le_trans HBA.out.size hg1.size, fun z hz => (hg1.block z (by rw [hsa]; omega) (fun e => by have e2 : z = W3.heap.size := Option.some.inj e; omega)).trans (HBA.out.block z hz)⟩)
                have HF1 := Lib.hid (show ∀ z, (Value.slice v1a v1n v1c).ownBlock = some z → W3.heap.size ≤ z from fun z e => by
                  rcases hfr1 with h | h
                  · rw [h] at e
                    have e2 : W3.heap.size = z := Option.some.inj e
                    omega
                  · rw [h] at e
                    have e2 := Option.some.inj e
                    rw [hsa] at e2
                    omega)
                have hzz1 : W3.heap.size ≤ w5.heap.size := HB1.out.size
                obtain ⟨sm2, hs2⟩ := vsrc_of (HT2.out.stay HB1.out)
                have HS2 := Lib.hid hs2
                clear hrow1 hg1 hfr1 hs2
                refine hK.out _ _ ?_ (fun hHeld => ?_)
                · exact trivial
                clear hK K
                try simp only [List.getElem_toArray, List.getElem_cons_succ, List.getElem_cons_zero, Act.put, List.setIfInBounds_toArray, List.set_cons_zero, List.set_cons_succ]
                refine wpAnyH_ready (rs := [11]) (by kernel_rfl) (by simp) ?_
                refine AllReadyH.cons rfl (fun K hK => ?_) ?_
                · refine step_vals rfl _ _ rfl W3.heap.size _ (fun z => G z ∨ (Value.slice (some ⟨g, 0, none⟩) ts.length c).ownBlock = some z) _ _ (ts.drop (j + 1)) sm2 rfl HR1.out _ rfl HS2.out (fun z hz => ⟨by have := (HGX.out z hz).2.1; omega, fun e => by have := (HGX.out z hz).2.1; have := HF1.out z e; omega⟩) (by rw [hdl, List.nil_append, htl]; omega) hzz1 ?_
                  intro v2 w9 hrow2 hg2 hfr2
                  obtain ⟨va, vn, vc, rfl⟩ := hrow2.slice3
                  have HRW2 := Lib.hid hrow2
                  have HKP := Lib.hid (show Below W3.heap.size W3 w9 from ⟨hg2.os.trans HB1.out.os, hg2.tape.trans HB1.out.tape, hg2.output.trans HB1.out.output, Nat.le_trans HB1.out.size hg2.size, fun z hz => (hg2.block z (by omega) (fun e => by have := HF1.out z e.symm; omega)).trans (HB1.out.block z hz)⟩)
                  clear hrow2 hg2 hfr2
                  refine hK.out _ _ ?_ (fun hHeld => ?_)
                  · exact trivial
                  clear hK K
                  try simp only [List.getElem_toArray, List.getElem_cons_succ, List.getElem_cons_zero, Act.put, List.setIfInBounds_toArray, List.set_cons_zero, List.set_cons_succ]
                  refine wpAnyH_take (i := 12) (v := ?_) rfl (by kernel_rfl) (by kernel_rfl) (by kernel_rfl) (fun _ _ _ h => h) (Or.inl ⟨by rfl, ?_⟩) hHeld ?_
                  rotate_left
                  · (intro w hSw; (try dsimp only at hSw); (try simp only [List.getElem_toArray, List.getElem_cons_succ, List.getElem_cons_zero]); go_simp <;> with_reducible rfl)
                  try simp only [List.getElem_toArray, List.getElem_cons_succ, List.getElem_cons_zero, Act.put, List.setIfInBounds_toArray, List.set_cons_zero, List.set_cons_succ]
                  refine wpAnyH_ready (rs := [13]) (by kernel_rfl) (by simp) ?_
                  refine AllReadyH.cons rfl (fun K hK => ?_) ?_
                  · have hfz := Box.free (i := 4) (HBO.out _ HKP.out)
                    obtain ⟨g0, g1, g2, g3, g4⟩ := Box.cells (HBO.out _ HKP.out)
                    go_simp
                    refine hK.out _ _ ?_ (fun hHeld => ?_)
                    · exact trivial
                    clear hK K
                    try simp only [List.getElem_toArray, List.getElem_cons_succ, List.getElem_cons_zero, Act.put, List.setIfInBounds_toArray, List.set_cons_zero, List.set_cons_succ]
                    refine wpAnyH_done (by kernel_rfl) ?_ _
                    go_wp2_with fail
                    go_meet
                    exact ⟨va, vn, vc, (HRW2.out.repF.keep (by simp) (fun x hx hxs => heap_setCell_other _ _ _ _ (show ¬ x = c2b from fun e => by
                      rcases hx with ((h | h) | h)
                      · exact h.elim (fun h => h.elim) (fun h => (HGX.out x h).2.2 e)
                      · exact (HGX.out x h).2.2 e
                      · have := (HRW2.out.lt x h).1; omega))).mono (fun x hx _ => by
                      rcases hx with ((h | h) | h)
                      · exact h.elim (fun h => h.elim) (fun h => (HGX.out x h).1)
                      · exact (HGX.out x h).1
                      · have := (HRW2.out.lt x h).1; omega), Box.set4 (HBO.out _ HKP.out), (HKP.out.mono (by omega)).setCell (by exact Nat.le_refl _) _⟩
                  exact AllReadyH.nil
                exact AllReadyH.nil
              exact AllReadyH.nil
            exact AllReadyH.nil
          refine AllReadyH.cons rfl (fun K hK => ?_) ?_
          · obtain ⟨g0, g1, g2, g3, g4⟩ := Box.cells (HBO.out _ HBA.out)
            go_simp
            refine hK.out _ _ ?_ (fun hHeld => ?_)
            · exact trivial
            clear hK K
            try simp only [List.getElem_toArray, List.getElem_cons_succ, List.getElem_cons_zero, Act.put, List.setIfInBounds_toArray, List.set_cons_zero, List.set_cons_succ]
            refine wpAnyH_take (i := 10) (v := ?_) rfl (by kernel_rfl) (by kernel_rfl) (by kernel_rfl) (fun _ _ _ h => h) (Or.inl ⟨by rfl, ?_⟩) hHeld ?_
            rotate_left
            · (intro w hSw; (try dsimp only at hSw); (try simp only [List.getElem_toArray, List.getElem_cons_succ, List.getElem_cons_zero]); go_simp <;> with_reducible rfl)
            try simp only [List.getElem_toArray, List.getElem_cons_succ, List.getElem_cons_zero, Act.put, List.setIfInBounds_toArray, List.set_cons_zero, List.set_cons_succ]
            refine wpAnyH_ready (rs := [2]) (by kernel_rfl) (by simp) ?_
            refine AllReadyH.cons rfl (fun K hK => ?_) ?_
            · obtain ⟨g0, g1, g2, g3, g4⟩ := Box.cells (HBO.out _ HBA.out)
              go_simp
              refine hK.out _ _ ?_ (fun hHeld => ?_)
              · exact trivial
              clear hK K
              try simp only [List.getElem_toArray, List.getElem_cons_succ, List.getElem_cons_zero, Act.put, List.setIfInBounds_toArray, List.set_cons_zero, List.set_cons_succ]
              refine wpAnyH_take (i := 4) (v := ?_) rfl (by kernel_rfl) (by kernel_rfl) (by kernel_rfl) (fun _ _ _ h => h) (Or.inl ⟨by rfl, ?_⟩) hHeld ?_
              rotate_left
              · (intro w hSw; (try dsimp only at hSw); (try simp only [List.getElem_toArray, List.getElem_cons_succ, List.getElem_cons_zero]); go_simp <;> with_reducible rfl)
              try simp only [List.getElem_toArray, List.getElem_cons_succ, List.getElem_cons_zero, Act.put, List.setIfInBounds_toArray, List.set_cons_zero, List.set_cons_succ]
              refine wpAnyH_ready (rs := [5]) (by kernel_rfl) (by simp) ?_
              refine AllReadyH.cons rfl (fun K hK => ?_) ?_
              · refine step_vals rfl _ _ rfl W3.heap.size (fun _ => False) (fun z => G z ∨ (Value.slice (some ⟨g, 0, none⟩) ts.length c).ownBlock = some z) _ [] (ts.take j) sm1 rfl HRA.out _ rfl HS1.out (fun z hz => ⟨by have := (HGX.out z hz).2.1; rw [hsa]; omega, fun e => by have := (HGX.out z hz).2.1; have e2 : W3.heap.size = z := Option.some.inj e; omega⟩) (by rw [htl]; simp; omega) (by rw [hsa]; omega) ?_
                intro v1 w5 hrow1 hg1 hfr1
                obtain ⟨v1a, v1n, v1c, rfl⟩ := hrow1.slice3
                have HR1 := Lib.hid hrow1
                have HB1 := Lib.hid (show Below W3.heap.size W3 w5 from ⟨hg1.os.trans HBA.out.os, hg1.tape.trans HBA.out.tape, hg1.output.trans HBA.out.output, Nat.le_trans HBA.out.size hg1.size, fun z hz => (hg1.block z (by rw [hsa]; omega) (fun e => by have e2 : z = W3.heap.size := Option.some.inj e; omega)).trans (HBA.out.block z hz)⟩)
                have HF1 := Lib.hid (show ∀ z, (Value.slice v1a v1n v1c).ownBlock = some z → W3.heap.size ≤ z from fun z e => by
                  rcases hfr1 with h | h
                  · rw [h] at e
                    have e2 : W3.heap.size = z := Option.some.inj e
                    omega
                  · rw [h] at e
                    have e2 := Option.some.inj e
                    rw [hsa] at e2
                    omega)
                have hzz1 : W3.heap.size ≤ w5.heap.size := HB1.out.size
                obtain ⟨sm2, hs2⟩ := vsrc_of (HT2.out.stay HB1.out)
                have HS2 := Lib.hid hs2
                clear hrow1 hg1 hfr1 hs2
                refine hK.out _ _ ?_ (fun hHeld => ?_)
                · exact trivial
                clear hK K
                try simp only [List.getElem_toArray, List.getElem_cons_succ, List.getElem_cons_zero, Act.put, List.setIfInBounds_toArray, List.set_cons_zero, List.set_cons_succ]
                refine wpAnyH_ready (rs := [11]) (by kernel_rfl) (by simp) ?_
                refine AllReadyH.cons rfl (fun K hK => ?_) ?_
                · refine step_vals rfl _ _ rfl W3.heap.size _ (fun z => G z ∨ (Value.slice (some ⟨g, 0, none⟩) ts.length c).ownBlock = some z) _ _ (ts.drop (j + 1)) sm2 rfl HR1.out _ rfl HS2.out (fun z hz => ⟨by have := (HGX.out z hz).2.1; omega, fun e => by have := (HGX.out z hz).2.1; have := HF1.out z e; omega⟩) (by rw [hdl, List.nil_append, htl]; omega) hzz1 ?_
                  intro v2 w9 hrow2 hg2 hfr2
                  obtain ⟨va, vn, vc, rfl⟩ := hrow2.slice3
                  have HRW2 := Lib.hid hrow2
                  have HKP := Lib.hid (show Below W3.heap.size W3 w9 from ⟨hg2.os.trans HB1.out.os, hg2.tape.trans HB1.out.tape, hg2.output.trans HB1.out.output, Nat.le_trans HB1.out.size hg2.size, fun z hz => (hg2.block z (by omega) (fun e => by have := HF1.out z e.symm; omega)).trans (HB1.out.block z hz)⟩)
                  clear hrow2 hg2 hfr2
                  refine hK.out _ _ ?_ (fun hHeld => ?_)
                  · exact trivial
                  clear hK K
                  try simp only [List.getElem_toArray, List.getElem_cons_succ, List.getElem_cons_zero, Act.put, List.setIfInBounds_toArray, List.set_cons_zero, List.set_cons_succ]
                  refine wpAnyH_take (i := 12) (v := ?_) rfl (by kernel_rfl) (by kernel_rfl) (by kernel_rfl) (fun _ _ _ h => h) (Or.inl ⟨by rfl, ?_⟩) hHeld ?_
                  rotate_left
                  · (intro w hSw; (try dsimp only at hSw); (try simp only [List.getElem_toArray, List.getElem_cons_succ, List.getElem_cons_zero]); go_simp <;> with_reducible rfl)
                  try simp only [List.getElem_toArray, List.getElem_cons_succ, List.getElem_cons_zero, Act.put, List.setIfInBounds_toArray, List.set_cons_zero, List.set_cons_succ]
                  refine wpAnyH_ready (rs := [13]) (by kernel_rfl) (by simp) ?_
                  refine AllReadyH.cons rfl (fun K hK => ?_) ?_
                  · have hfz := Box.free (i := 4) (HBO.out _ HKP.out)
                    obtain ⟨g0, g1, g2, g3, g4⟩ := Box.cells (HBO.out _ HKP.out)
                    go_simp
                    refine hK.out _ _ ?_ (fun hHeld => ?_)
                    · exact trivial
                    clear hK K
                    try simp only [List.getElem_toArray, List.getElem_cons_succ, List.getElem_cons_zero, Act.put, List.setIfInBounds_toArray, List.set_cons_zero, List.set_cons_succ]
                    refine wpAnyH_done (by kernel_rfl) ?_ _
                    go_wp2_with fail
                    go_meet
                    exact ⟨va, vn, vc, (HRW2.out.repF.keep (by simp) (fun x hx hxs => heap_setCell_other _ _ _ _ (show ¬ x = c2b from fun e => by
                      rcases hx with ((h | h) | h)
                      · exact h.elim (fun h => h.elim) (fun h => (HGX.out x h).2.2 e)
                      · exact (HGX.out x h).2.2 e
                      · have := (HRW2.out.lt x h).1; omega))).mono (fun x hx _ => by
                      rcases hx with ((h | h) | h)
                      · exact h.elim (fun h => h.elim) (fun h => (HGX.out x h).1)
                      · exact (HGX.out x h).1
                      · have := (HRW2.out.lt x h).1; omega), Box.set4 (HBO.out _ HKP.out), (HKP.out.mono (by omega)).setCell (by exact Nat.le_refl _) _⟩
                  exact AllReadyH.nil
                exact AllReadyH.nil
              exact AllReadyH.nil
            exact AllReadyH.nil
          exact AllReadyH.nil
        refine AllReadyH.cons rfl (fun K hK => ?_) ?_
        · obtain ⟨g0, g1, g2, g3, g4⟩ := Box.cells (HBO.out _ HB9.out)
          go_simp
          refine hK.out _ _ ?_ (fun hHeld => ?_)
          · exact trivial
          clear hK K
          try simp only [List.getElem_toArray, List.getElem_cons_succ, List.getElem_cons_zero, Act.put, List.setIfInBounds_toArray, List.set_cons_zero, List.set_cons_succ]
          refine wpAnyH_take (i := 4) (v := ?_) rfl (by kernel_rfl) (by kernel_rfl) (by kernel_rfl) (fun _ _ _ h => h) (Or.inl ⟨by rfl, ?_⟩) hHeld ?_
          rotate_left
          · (intro w hSw; (try dsimp only at hSw); (try simp only [List.getElem_toArray, List.getElem_cons_succ, List.getElem_cons_zero]); go_simp <;> with_reducible rfl)
          try simp only [List.getElem_toArray, List.getElem_cons_succ, List.getElem_cons_zero, Act.put, List.setIfInBounds_toArray, List.set_cons_zero, List.set_cons_succ]
          refine wpAnyH_ready (rs := [0, 7]) (by kernel_rfl) (by simp) ?_
          refine AllReadyH.cons rfl (fun K hK => ?_) ?_
          · go_simp
            refine hK.out _ _ ?_ (fun hHeld => ?_)
            · exact trivial
            clear hK K
            try simp only [List.getElem_toArray, List.getElem_cons_succ, List.getElem_cons_zero, Act.put, List.setIfInBounds_toArray, List.set_cons_zero, List.set_cons_succ]
            refine wpAnyH_ready (rs := [5, 7]) (by kernel_rfl) (by simp) ?_
            refine AllReadyH.cons rfl (fun K hK => ?_) ?_
            · refine step_vals rfl _ _ rfl W3.heap.size (fun _ => False) (fun z => G z ∨ (Value.slice (some ⟨g, 0, none⟩) ts.length c).ownBlock = some z) _ [] (ts.take j) sm1 rfl HRA.out _ rfl HS1.out (fun z hz => ⟨by have := (HGX.out z hz).2.1; rw [hsa]; omega, fun e => by have := (HGX.out z hz).2.1; have e2 : W3.heap.size = z := Option.some.inj e; omega⟩) (by rw [htl]; simp; omega) (by rw [hsa]; omega) ?_
              intro v1 w5 hrow1 hg1 hfr1
              obtain ⟨v1a, v1n, v1c, rfl⟩ := hrow1.slice3
              have HR1 := Lib.hid hrow1
              have HB1 := Lib.hid (show Below W3.heap.size W3 w5 from ⟨hg1.os.trans HBA.out.os, hg1.tape.trans HBA.out.tape, hg1.output.trans HBA.out.output, Nat.le_trans HBA.out.size hg1.size, fun z hz => (hg1.block z (by rw [hsa]; omega) (fun e => by have e2 : z = W3.heap.size := Option.some.inj e; omega)).trans (HBA.out.block z hz)⟩)
              have HF1 := Lib.hid (show ∀ z, (Value.slice v1a v1n v1c).ownBlock = some z → W3.heap.size ≤ z from fun z e => by
                rcases hfr1 with h | h
                · rw [h] at e
                  have e2 : W3.heap.size = z := Option.some.inj e
                  omega
                · rw [h] at e
                  have e2 := Option.some.inj e
                  rw [hsa] at e2
                  omega)
              have hzz1 : W3.heap.size ≤ w5.heap.size := HB1.out.size
              obtain ⟨sm2, hs2⟩ := vsrc_of (HT2.out.stay HB1.out)
              have HS2 := Lib.hid hs2
              clear hrow1 hg1 hfr1 hs2
              refine hK.out _ _ ?_ (fun hHeld => ?_)
              · exact trivial
              clear hK K
              try simp only [List.getElem_toArray, List.getElem_cons_succ, List.getElem_cons_zero, Act.put, List.setIfInBounds_toArray, List.set_cons_zero, List.set_cons_succ]
              refine wpAnyH_ready (rs := [7]) (by kernel_rfl) (by simp) ?_
              refine AllReadyH.cons rfl (fun K hK => ?_) ?_
              · obtain ⟨g0, g1, g2, g3, g4⟩ := Box.cells (HBO.out _ HB1.out)
                go_simp
                refine hK.out _ _ ?_ (fun hHeld => ?_)
                · exact trivial
                clear hK K
                try simp only [List.getElem_toArray, List.getElem_cons_succ, List.getElem_cons_zero, Act.put, List.setIfInBounds_toArray, List.set_cons_zero, List.set_cons_succ]
                refine wpAnyH_take (i := 10) (v := ?_) rfl (by kernel_rfl) (by kernel_rfl) (by kernel_rfl) (fun _ _ _ h => h) (Or.inl ⟨by rfl, ?_⟩) hHeld ?_
                rotate_left
                · (intro w hSw; (try dsimp only at hSw); (try simp only [List.getElem_toArray, List.getElem_cons_succ, List.getElem_cons_zero]); go_simp <;> with_reducible rfl)
                try simp only [List.getElem_toArray, List.getElem_cons_succ, List.getElem_cons_zero, Act.put, List.setIfInBounds_toArray, List.set_cons_zero, List.set_cons_succ]
                refine wpAnyH_ready (rs := [11]) (by kernel_rfl) (by simp) ?_
                refine AllReadyH.cons rfl (fun K hK => ?_) ?_
                · refine step_vals rfl _ _ rfl W3.heap.size _ (fun z => G z ∨ (Value.slice (some ⟨g, 0, none⟩) ts.length c).ownBlock = some z) _ _ (ts.drop (j + 1)) sm2 rfl HR1.out _ rfl HS2.out (fun z hz => ⟨by have := (HGX.out z hz).2.1; omega, fun e => by have := (HGX.out z hz).2.1; have := HF1.out z e; omega⟩) (by rw [hdl, List.nil_append, htl]; omega) hzz1 ?_
                  intro v2 w9 hrow2 hg2 hfr2
                  obtain ⟨va, vn, vc, rfl⟩ := hrow2.slice3
                  have HRW2 := Lib.hid hrow2
                  have HKP := Lib.hid (show Below W3.heap.size W3 w9 from ⟨hg2.os.trans HB1.out.os, hg2.tape.trans HB1.out.tape, hg2.output.trans HB1.out.output, Nat.le_trans HB1.out.size hg2.size, fun z hz => (hg2.block z (by omega) (fun e => by have := HF1.out z e.symm; omega)).trans (HB1.out.block z hz)⟩)
                  clear hrow2 hg2 hfr2
                  refine hK.out _ _ ?_ (fun hHeld => ?_)
                  · exact trivial
                  clear hK K
                  try simp only [List.getElem_toArray, List.getElem_cons_succ, List.getElem_cons_zero, Act.put, List.setIfInBounds_toArray, List.set_cons_zero, List.set_cons_succ]
                  refine wpAnyH_take (i := 12) (v := ?_) rfl (by kernel_rfl) (by kernel_rfl) (by kernel_rfl) (fun _ _ _ h => h) (Or.inl ⟨by rfl, ?_⟩) hHeld ?_
                  rotate_left
                  · (intro w hSw; (try dsimp only at hSw); (try simp only [List.getElem_toArray, List.getElem_cons_succ, List.getElem_cons_zero]); go_simp <;> with_reducible rfl)
                  try simp only [List.getElem_toArray, List.getElem_cons_succ, List.getElem_cons_zero, Act.put, List.setIfInBounds_toArray, List.set_cons_zero, List.set_cons_succ]
                  refine wpAnyH_ready (rs := [13]) (by kernel_rfl) (by simp) ?_
                  refine AllReadyH.cons rfl (fun K hK => ?_) ?_
                  · have hfz := Box.free (i := 4) (HBO.out _ HKP.out)
                    obtain ⟨g0, g1, g2, g3, g4⟩ := Box.cells (HBO.out _ HKP.out)
                    go_simp
                    refine hK.out _ _ ?_ (fun hHeld => ?_)
                    · exact trivial
                    clear hK K
                    try simp only [List.getElem_toArray, List.getElem_cons_succ, List.getElem_cons_zero, Act.put, List.setIfInBounds_toArray, List.set_cons_zero, List.set_cons_succ]
                    refine wpAnyH_done (by kernel_rfl) ?_ _
                    go_wp2_with fail
                    go_meet
                    exact ⟨va, vn, vc, (HRW2.out.repF.keep (by simp) (fun x hx hxs => heap_setCell_other _ _ _ _ (show ¬ x = c2b from fun e => by
                      rcases hx with ((h | h) | h)
                      · exact h.elim (fun h => h.elim) (fun h => (HGX.out x h).2.2 e)
                      · exact (HGX.out x h).2.2 e
                      · have := (HRW2.out.lt x h).1; omega))).mono (fun x hx _ => by
                      rcases hx with ((h | h) | h)
                      · exact h.elim (fun h => h.elim) (fun h => (HGX.out x h).1)
                      · exact (HGX.out x h).1
                      · have := (HRW2.out.lt x h).1; omega), Box.set4 (HBO.out _ HKP.out), (HKP.out.mono (by omega)).setCell (by exact Nat.le_refl _) _⟩
                  exact AllReadyH.nil
                exact AllReadyH.nil
              exact AllReadyH.nil
            refine AllReadyH.cons rfl (fun K hK => ?_) ?_
            · obtain ⟨g0, g1, g2, g3, g4⟩ := Box.cells (HBO.out _ HBA.out)
              go_simp
              refine hK.out _ _ ?_ (fun hHeld => ?_)
              · exact trivial
              clear hK K
              try simp only [List.getElem_toArray, List.getElem_cons_succ, List.getElem_cons_zero, Act.put, List.setIfInBounds_toArray, List.set_cons_zero, List.set_cons_succ]
              refine wpAnyH_take (i := 10) (v := ?_) rfl (by kernel_rfl) (by kernel_rfl) (by kernel_rfl) (fun _ _ _ h => h) (Or.inl ⟨by rfl, ?_⟩) hHeld ?_
              rotate_left
              · (intro w hSw; (try dsimp only at hSw); (try simp only [List.getElem_toArray, List.getElem_cons_succ, List.getElem_cons_zero]); go_simp <;> with_reducible rfl)
              try simp only [List.getElem_toArray, List.getElem_cons_succ, List.getElem_cons_zero, Act.put, List.setIfInBounds_toArray, List.set_cons_zero, List.set_cons_succ]
              refine wpAnyH_ready (rs := [5]) (by kernel_rfl) (by simp) ?_
              refine AllReadyH.cons rfl (fun K hK => ?_) ?_
              · refine step_vals rfl _ _ rfl W3.heap.size (fun _ => False) (fun z => G z ∨ (Value.slice (some ⟨g, 0, none⟩) ts.length c).ownBlock = some z) _ [] (ts.take j) sm1 rfl HRA.out _ rfl HS1.out (fun z hz => ⟨by have := (HGX.out z hz).2.1; rw [hsa]; omega, fun e => by have := (HGX.out z hz).2.1; have e2 : W3.heap.size = z := Option.some.inj e; omega⟩) (by rw [htl]; simp; omega) (by rw [hsa]; omega) ?_
                intro v1 w5 hrow1 hg1 hfr1
                obtain ⟨v1a, v1n, v1c, rfl⟩ := hrow1.slice3
                have HR1 := Lib.hid hrow1
                have HB1 := Lib.hid (show Below W3.heap.size W3 w5 from ⟨hg1.os.trans HBA.out.os, hg1.tape.trans HBA.out.tape, hg1.output.trans HBA.out.output, Nat.le_trans HBA.out.size hg1.size, fun z hz => (hg1.block z (by rw [hsa]; omega) (fun e => by have e2 : z = W3.heap.size := Option.some.inj e; omega)).trans (HBA.out.block z hz)⟩)
                have HF1 := Lib.hid (show ∀ z, (Value.slice v1a v1n v1c).ownBlock = some z → W3.heap.size ≤ z from fun z e => by
                  rcases hfr1 with h | h
                  · rw [h] at e
                    have e2 : W3.heap.size = z := Option.some.inj e
                    omega
                  · rw [h] at e
                    have e2 := Option.some.inj e
                    rw [hsa] at e2
                    omega)
                have hzz1 : W3.heap.size ≤ w5.heap.size := HB1.out.size
                obtain ⟨sm2, hs2⟩ := vsrc_of (HT2.out.stay HB1.out)
                have HS2 := Lib.hid hs2
                clear hrow1 hg1 hfr1 hs2
                refine hK.out _ _ ?_ (fun hHeld => ?_)
                · exact trivial
                clear hK K
                try simp only [List.getElem_toArray, List.getElem_cons_succ, List.getElem_cons_zero, Act.put, List.setIfInBounds_toArray, List.set_cons_zero, List.set_cons_succ]
                refine wpAnyH_ready (rs := [11]) (by kernel_rfl) (by simp) ?_
                refine AllReadyH.cons rfl (fun K hK => ?_) ?_
                · refine step_vals rfl _ _ rfl W3.heap.size _ (fun z => G z ∨ (Value.slice (some ⟨g, 0, none⟩) ts.length c).ownBlock = some z) _ _ (ts.drop (j + 1)) sm2 rfl HR1.out _ rfl HS2.out (fun z hz => ⟨by have := (HGX.out z hz).2.1; omega, fun e => by have := (HGX.out z hz).2.1; have := HF1.out z e; omega⟩) (by rw [hdl, List.nil_append, htl]; omega) hzz1 ?_
                  intro v2 w9 hrow2 hg2 hfr2
                  obtain ⟨va, vn, vc, rfl⟩ := hrow2.slice3
                  have HRW2 := Lib.hid hrow2
                  have HKP := Lib.hid (show Below W3.heap.size W3 w9 from ⟨hg2.os.trans HB1.out.os, hg2.tape.trans HB1.out.tape, hg2.output.trans HB1.out.output, Nat.le_trans HB1.out.size hg2.size, fun z hz => (hg2.block z (by omega) (fun e => by have := HF1.out z e.symm; omega)).trans (HB1.out.block z hz)⟩)
                  clear hrow2 hg2 hfr2
                  refine hK.out _ _ ?_ (fun hHeld => ?_)
                  · exact trivial
                  clear hK K
                  try simp only [List.getElem_toArray, List.getElem_cons_succ, List.getElem_cons_zero, Act.put, List.setIfInBounds_toArray, List.set_cons_zero, List.set_cons_succ]
                  refine wpAnyH_take (i := 12) (v := ?_) rfl (by kernel_rfl) (by kernel_rfl) (by kernel_rfl) (fun _ _ _ h => h) (Or.inl ⟨by rfl, ?_⟩) hHeld ?_
                  rotate_left
                  · (intro w hSw; (try dsimp only at hSw); (try simp only [List.getElem_toArray, List.getElem_cons_succ, List.getElem_cons_zero]); go_simp <;> with_reducible rfl)
                  try simp only [List.getElem_toArray, List.getElem_cons_succ, List.getElem_cons_zero, Act.put, List.setIfInBounds_toArray, List.set_cons_zero, List.set_cons_succ]
                  refine wpAnyH_ready (rs := [13]) (by kernel_rfl) (by simp) ?_
                  refine AllReadyH.cons rfl (fun K hK => ?_) ?_
                  · have hfz := Box.free (i := 4) (HBO.out _ HKP.out)
                    obtain ⟨g0, g1, g2, g3, g4⟩ := Box.cells (HBO.out _ HKP.out)
                    go_simp
                    refine hK.out _ _ ?_ (fun hHeld => ?_)
                    · exact trivial
                    clear hK K
                    try simp only [List.getElem_toArray, List.getElem_cons_succ, List.getElem_cons_zero, Act.put, List.setIfInBounds_toArray, List.set_cons_zero, List.set_cons_succ]
                    refine wpAnyH_done (by kernel_rfl) ?_ _
                    go_wp2_with fail
                    go_meet
                    exact ⟨va, vn, vc, (HRW2.out.repF.keep (by simp) (fun x hx hxs => heap_setCell_other _ _ _ _ (show ¬ x = c2b from fun e => by
                      rcases hx with ((h | h) | h)
                      · exact h.elim (fun h => h.elim) (fun h => (HGX.out x h).2.2 e)
                      · exact (HGX.out x h).2.2 e
                      · have := (HRW2.out.lt x h).1; omega))).mono (fun x hx _ => by
                      rcases hx with ((h | h) | h)
                      · exact h.elim (fun h => h.elim) (fun h => (HGX.out x h).1)
                      · exact (HGX.out x h).1
                      · have := (HRW2.out.lt x h).1; omega), Box.set4 (HBO.out _ HKP.out), (HKP.out.mono (by omega)).setCell (by exact Nat.le_refl _) _⟩
                  exact AllReadyH.nil
                exact AllReadyH.nil
              exact AllReadyH.nil
            exact AllReadyH.nil
          refine AllReadyH.cons rfl (fun K hK => ?_) ?_
          · obtain ⟨g0, g1, g2, g3, g4⟩ := Box.cells (HBO.out _ HB9.out)
            go_simp
            refine hK.out _ _ ?_ (fun hHeld => ?_)
            · exact trivial
            clear hK K
            try simp only [List.getElem_toArray, List.getElem_cons_succ, List.getElem_cons_zero, Act.put, List.setIfInBounds_toArray, List.set_cons_zero, List.set_cons_succ]
            refine wpAnyH_take (i := 10) (v := ?_) rfl (by kernel_rfl) (by kernel_rfl) (by kernel_rfl) (fun _ _ _ h => h) (Or.inl ⟨by rfl, ?_⟩) hHeld ?_
            rotate_left
            · (intro w hSw; (try dsimp only at hSw); (try simp only [List.getElem_toArray, List.getElem_cons_succ, List.getElem_cons_zero]); go_simp <;> with_reducible rfl)
            try simp only [List.getElem_toArray, List.getElem_cons_succ, List.getElem_cons_zero, Act.put, List.setIfInBounds_toArray, List.set_cons_zero, List.set_cons_succ]
            refine wpAnyH_ready (rs := [0]) (by kernel_rfl) (by simp) ?_
            refine AllReadyH.cons rfl (fun K hK => ?_) ?_
            · go_simp
              refine hK.out _ _ ?_ (fun hHeld => ?_)
              · exact trivial
              clear hK K
              try simp only [List.getElem_toArray, List.getElem_cons_succ, List.getElem_cons_zero, Act.put, List.setIfInBounds_toArray, List.set_cons_zero, List.set_cons_succ]
              refine wpAnyH_ready (rs := [5]) (by kernel_rfl) (by simp) ?_
              refine AllReadyH.cons rfl (fun K hK => ?_) ?_
              · refine step_vals rfl _ _ rfl W3.heap.size (fun _ => False) (fun z => G z ∨ (Value.slice (some ⟨g, 0, none⟩) ts.length c).ownBlock = some z) _ [] (ts.take j) sm1 rfl HRA.out _ rfl HS1.out (fun z hz => ⟨by have := (HGX.out z hz).2.1; rw [hsa]; omega, fun e => by have := (HGX.out z hz).2.1; have e2 : W3.heap.size = z := Option.some.inj e; omega⟩) (by rw [htl]; simp; omega) (by rw [hsa]; omega) ?_
                intro v1 w5 hrow1 hg1 hfr1
                obtain ⟨v1a, v1n, v1c, rfl⟩ := hrow1.slice3
                have HR1 := Lib.hid hrow1
                have HB1 := Lib.hid (show Below W3.heap.size W3 w5 from ⟨hg1.os.trans HBA.out.os, hg1.tape.trans HBA.out.tape, hg1.output.trans HBA.out.output, Nat.le_trans HBA.out.size hg1.size, fun z hz => (hg1.block z (by rw [hsa]; omega) (fun e => by have e2 : z = W3.heap.size := Option.some.inj e; omega)).trans (HBA.out.block z hz)⟩)
                have HF1 := Lib.hid (show ∀ z, (Value.slice v1a v1n v1c).ownBlock = some z → W3.heap.size ≤ z from fun z e => by
                  rcases hfr1 with h | h
                  · rw [h] at e
                    have e2 : W3.heap.size = z := Option.some.inj e
                    omega
                  · rw [h] at e
                    have e2 := Option.some.inj e
                    rw [hsa] at e2
                    omega)
                have hzz1 : W3.heap.size ≤ w5.heap.size := HB1.out.size
                obtain ⟨sm2, hs2⟩ := vsrc_of (HT2.out.stay HB1.out)
                have HS2 := Lib.hid hs2
                clear hrow1 hg1 hfr1 hs2
                refine hK.out _ _ ?_ (fun hHeld => ?_)
                · exact trivial
                clear hK K
                try simp only [List.getElem_toArray, List.getElem_cons_succ, List.getElem_cons_zero, Act.put, List.setIfInBounds_toArray, List.set_cons_zero, List.set_cons_succ]
                refine wpAnyH_ready (rs := [11]) (by kernel_rfl) (by simp) ?_
                refine AllReadyH.cons rfl (fun K hK => ?_) ?_
                · refine step_vals rfl _ _ rfl W3.heap.size _ (fun z => G z ∨ (Value.slice (some ⟨g, 0, none⟩) ts.length c).ownBlock = some z) _ _ (ts.drop (j + 1)) sm2 rfl HR1.out _ rfl HS2.out (fun z hz => ⟨by have := (HGX.out z hz).2.1; omega, fun e => by have := (HGX.out z hz).2.1; have := HF1.out z e; omega⟩) (by rw [hdl, List.nil_append, htl]; omega) hzz1 ?_
                  intro v2 w9 hrow2 hg2 hfr2
                  obtain ⟨va, vn, vc, rfl⟩ := hrow2.slice3
                  have HRW2 := Lib.hid hrow2
                  have HKP := Lib.hid (show Below W3.heap.size W3 w9 from ⟨hg2.os.trans HB1.out.os, hg2.tape.trans HB1.out.tape, hg2.output.trans HB1.out.output, Nat.le_trans HB1.out.size hg2.size, fun z hz => (hg2.block z (by omega) (fun e => by have := HF1.out z e.symm; omega)).trans (HB1.out.block z hz)⟩)
                  clear hrow2 hg2 hfr2
                  refine hK.out _ _ ?_ (fun hHeld => ?_)
                  · exact trivial
                  clear hK K
                  try simp only [List.getElem_toArray, List.getElem_cons_succ, List.getElem_cons_zero, Act.put, List.setIfInBounds_toArray, List.set_cons_zero, List.set_cons_succ]
                  refine wpAnyH_take (i := 12) (v := ?_) rfl (by kernel_rfl) (by kernel_rfl) (by kernel_rfl) (fun _ _ _ h => h) (Or.inl ⟨by rfl, ?_⟩) hHeld ?_
                  rotate_left
                  · (intro w hSw; (try dsimp only at hSw); (try simp only [List.getElem_toArray, List.getElem_cons_succ, List.getElem_cons_zero]); go_simp <;> with_reducible rfl)
                  try simp only [List.getElem_toArray, List.getElem_cons_succ, List.getElem_cons_zero, Act.put, List.setIfInBounds_toArray, List.set_cons_zero, List.set_cons_succ]
                  refine wpAnyH_ready (rs := [13]) (by kernel_rfl) (by simp) ?_
                  refine AllReadyH.cons rfl (fun K hK => ?_) ?_
                  · have hfz := Box.free (i := 4) (HBO.out _ HKP.out)
                    obtain ⟨g0, g1, g2, g3, g4⟩ := Box.cells (HBO.out _ HKP.out)
                    go_simp
                    refine hK.out _ _ ?_ (fun hHeld => ?_)
                    · exact trivial
                    clear hK K
                    try simp only [List.getElem_toArray, List.getElem_cons_succ, List.getElem_cons_zero, Act.put, List.setIfInBounds_toArray, List.set_cons_zero, List.set_cons_succ]
                    refine wpAnyH_done (by kernel_rfl) ?_ _
                    go_wp2_with fail
                    go_meet
                    exact ⟨va, vn, vc, (HRW2.out.repF.keep (by simp) (fun x hx hxs => heap_setCell_other _ _ _ _ (show ¬ x = c2b from fun e => by
                      rcases hx with ((h | h) | h)
                      · exact h.elim (fun h => h.elim) (fun h => (HGX.out x h).2.2 e)
                      · exact (HGX.out x h).2.2 e
                      · have := (HRW2.out.lt x h).1; omega))).mono (fun x hx _ => by
                      rcases hx with ((h | h) | h)
                      · exact h.elim (fun h => h.elim) (fun h => (HGX.out x h).1)
                      · exact (HGX.out x h).1
                      · have := (HRW2.out.lt x h).1; omega), Box.set4 (HBO.out _ HKP.out), (HKP.out.mono (by omega)).setCell (by exact Nat.le_refl _) _⟩
                  exact AllReadyH.nil
                exact AllReadyH.nil
              exact AllReadyH.nil
            exact AllReadyH.nil
          exact AllReadyH.nil
        refine AllReadyH.cons rfl (fun K hK => ?_) ?_
        · obtain ⟨g0, g1, g2, g3, g4⟩ := Box.cells (HBO.out _ HB9.out)
          go_simp
          refine hK.out _ _ ?_ (fun hHeld => ?_)
          · exact trivial
          clear hK K
          try simp only [List.getElem_toArray, List.getElem_cons_succ, List.getElem_cons_zero, Act.put, List.setIfInBounds_toArray, List.set_cons_zero, List.set_cons_succ]
          refine wpAnyH_take (i := 10) (v := ?_) rfl (by kernel_rfl) (by kernel_rfl) (by kernel_rfl) (fun _ _ _ h => h) (Or.inl ⟨by rfl, ?_⟩) hHeld ?_
          rotate_left
          · (intro w hSw; (try dsimp only at hSw); (try simp only [List.getElem_toArray, List.getElem_cons_succ, List.getElem_cons_zero]); go_simp <;> with_reducible rfl)
          try simp only [List.getElem_toArray, List.getElem_cons_succ, List.getElem_cons_zero, Act.put, List.setIfInBounds_toArray, List.set_cons_zero, List.set_cons_succ]
          refine wpAnyH_ready (rs := [0, 2]) (by kernel_rfl) (by simp) ?_
          refine AllReadyH.cons rfl (fun K hK => ?_) ?_
          · go_simp
            refine hK.out _ _ ?_ (fun hHeld => ?_)
            · exact trivial
            clear hK K
            try simp only [List.getElem_toArray, List.getElem_cons_succ, List.getElem_cons_zero, Act.put, List.setIfInBounds_toArray, List.set_cons_zero, List.set_cons_succ]
            refine wpAnyH_ready (rs := [2]) (by kernel_rfl) (by simp) ?_
            refine AllReadyH.cons rfl (fun K hK => ?_) ?_
            · obtain ⟨g0, g1, g2, g3, g4⟩ := Box.cells (HBO.out _ HBA.out)
              go_simp
              refine hK.out _ _ ?_ (fun hHeld => ?_)
              · exact trivial
              clear hK K
              try simp only [List.getElem_toArray, List.getElem_cons_succ, List.getElem_cons_zero, Act.put, List.setIfInBounds_toArray, List.set_cons_zero, List.set_cons_succ]
              refine wpAnyH_take (i := 4) (v := ?_) rfl (by kernel_rfl) (by kernel_rfl) (by kernel_rfl) (fun _ _ _ h => h) (Or.inl ⟨by rfl, ?_⟩) hHeld ?_
              rotate_left
              · (intro w hSw; (try dsimp only at hSw); (try simp only [List.getElem_toArray, List.getElem_cons_succ, List.getElem_cons_zero]); go_simp <;> with_reducible rfl)
              try simp only [List.getElem_toArray, List.getElem_cons_succ, List.getElem_cons_zero, Act.put, List.setIfInBounds_toArray, List.set_cons_zero, List.set_cons_succ]
              refine wpAnyH_ready (rs := [5]) (by kernel_rfl) (by simp) ?_
              refine AllReadyH.cons rfl (fun K hK => ?_) ?_
              · refine step_vals rfl _ _ rfl W3.heap.size (fun _ => False) (fun z => G z ∨ (Value.slice (some ⟨g, 0, none⟩) ts.length c).ownBlock = some z) _ [] (ts.take j) sm1 rfl HRA.out _ rfl HS1.out (fun z hz => ⟨by have := (HGX.out z hz).2.1; rw [hsa]; omega, fun e => by have := (HGX.out z hz).2.1; have e2 : W3.heap.size = z := Option.some.inj e; omega⟩) (by rw [htl]; simp; omega) (by rw [hsa]; omega) ?_
                intro v1 w5 hrow1 hg1 hfr1
                obtain ⟨v1a, v1n, v1c, rfl⟩ := hrow1.slice3
                have HR1 := Lib.hid hrow1
                have HB1 := Lib.hid (show Below W3.heap.size W3 w5 from ⟨hg1.os.trans HBA.out.os, hg1.tape.trans HBA.out.tape, hg1.output.trans HBA.out.output, Nat.le_trans HBA.out.size hg1.size, fun z hz => (hg1.block z (by rw [hsa]; omega) (fun e => by have e2 : z = W3.heap.size := Option.some.inj e; omega)).trans (HBA.out.block z hz)⟩)
                have HF1 := Lib.hid (show ∀ z, (Value.slice v1a v1n v1c).ownBlock = some z → W3.heap.size ≤ z from fun z e => by
                  rcases hfr1 with h | h
                  · rw [h] at e
                    have e2 : W3.heap.size = z := Option.some.inj e
                    omega
                  · rw [h] at e
                    have e2 := Option.some.inj e
                    rw [hsa] at e2
                    omega)
                have hzz1 : W3.heap.size ≤ w5.heap.size := HB1.out.size
                obtain ⟨sm2, hs2⟩ := vsrc_of (HT2.out.stay HB1.out)
                have HS2 := Lib.hid hs2
                clear hrow1 hg1 hfr1 hs2
                refine hK.out _ _ ?_ (fun hHeld => ?_)
                · exact trivial
                clear hK K
                try simp only [List.getElem_toArray, List.getElem_cons_succ, List.getElem_cons_zero, Act.put, List.setIfInBounds_toArray, List.set_cons_zero, List.set_cons_succ]
                refine wpAnyH_ready (rs := [11]) (by kernel_rfl) (by simp) ?_
                refine AllReadyH.cons rfl (fun K hK => ?_) ?_
                · refine step_vals rfl _ _ rfl W3.heap.size _ (fun z => G z ∨ (Value.slice (some ⟨g, 0, none⟩) ts.length c).ownBlock = some z) _ _ (ts.drop (j + 1)) sm2 rfl HR1.out _ rfl HS2.out (fun z hz => ⟨by have := (HGX.out z hz).2.1; omega, fun e => by have := (HGX.out z hz).2.1; have := HF1.out z e; omega⟩) (by rw [hdl, List.nil_append, htl]; omega) hzz1 ?_
                  intro v2 w9 hrow2 hg2 hfr2
                  obtain ⟨va, vn, vc, rfl⟩ := hrow2.slice3
                  have HRW2 := Lib.hid hrow2
                  have HKP := Lib.hid (show Below W3.heap.size W3 w9 from ⟨hg2.os.trans HB1.out.os, hg2.tape.trans HB1.out.tape, hg2.output.trans HB1.out.output, Nat.le_trans HB1.out.size hg2.size, fun z hz => (hg2.block z (by omega) (fun e => by have := HF1.out z e.symm; omega)).trans (HB1.out.block z hz)⟩)
                  clear hrow2 hg2 hfr2
                  refine hK.out _ _ ?_ (fun hHeld => ?_)
                  · exact trivial
                  clear hK K
                  try simp only [List.getElem_toArray, List.getElem_cons_succ, List.getElem_cons_zero, Act.put, List.setIfInBounds_toArray, List.set_cons_zero, List.set_cons_succ]
                  refine wpAnyH_take (i := 12) (v := ?_) rfl (by kernel_rfl) (by kernel_rfl) (by kernel_rfl) (fun _ _ _ h => h) (Or.inl ⟨by rfl, ?_⟩) hHeld ?_
                  rotate_left
                  · (intro w hSw; (try dsimp only at hSw); (try simp only [List.getElem_toArray, List.getElem_cons_succ, List.getElem_cons_zero]); go_simp <;> with_reducible rfl)
                  try simp only [List.getElem_toArray, List.getElem_cons_succ, List.getElem_cons_zero, Act.put, List.setIfInBounds_toArray, List.set_cons_zero, List.set_cons_succ]
                  refine wpAnyH_ready (rs := [13]) (by kernel_rfl) (by simp) ?_
                  refine AllReadyH.cons rfl (fun K hK => ?_) ?_
                  · have hfz := Box.free (i := 4) (HBO.out _ HKP.out)
                    obtain ⟨g0, g1, g2, g3, g4⟩ := Box.cells (HBO.out _ HKP.out)
                    go_simp
                    refine hK.out _ _ ?_ (fun hHeld => ?_)
                    · exact trivial
                    clear hK K
                    try simp only [List.getElem_toArray, List.getElem_cons_succ, List.getElem_cons_zero, Act.put, List.setIfInBounds_toArray, List.set_cons_zero, List.set_cons_succ]
                    refine wpAnyH_done (by kernel_rfl) ?_ _
                    go_wp2_with fail
                    go_meet
                    exact ⟨va, vn, vc, (HRW2.out.repF.keep (by simp) (fun x hx hxs => heap_setCell_other _ _ _ _ (show ¬ x = c2b from fun e => by
                      rcases hx with ((h | h) | h)
                      · exact h.elim (fun h => h.elim) (fun h => (HGX.out x h).2.2 e)
                      · exact (HGX.out x h).2.2 e
                      · have := (HRW2.out.lt x h).1; omega))).mono (fun x hx _ => by
                      rcases hx with ((h | h) | h)
                      · exact h.elim (fun h => h.elim) (fun h => (HGX.out x h).1)
                      · exact (HGX.out x h).1
                      · have := (HRW2.out.lt x h).1; omega), Box.set4 (HBO.out _ HKP.out), (HKP.out.mono (by omega)).setCell (by exact Nat.le_refl _) _⟩
                  exact AllReadyH.nil
                exact AllReadyH.nil
              exact AllReadyH.nil
            exact AllReadyH.nil
          refine AllReadyH.cons rfl (fun K hK => ?_) ?_
          · obtain ⟨g0, g1, g2, g3, g4⟩ := Box.cells (HBO.out _ HB9.out)
            go_simp
            refine hK.out _ _ ?_ (fun hHeld => ?_)
            · exact trivial
            clear hK K
            try simp only [List.getElem_toArray, List.getElem_cons_succ, List.getElem_cons_zero, Act.put, List.setIfInBounds_toArray, List.set_cons_zero, List.set_cons_succ]
            refine wpAnyH_take (i := 4) (v := ?_) rfl (by kernel_rfl) (by kernel_rfl) (by kernel_rfl) (fun _ _ _ h => h) (Or.inl ⟨by rfl, ?_⟩) hHeld ?_
            rotate_left
            · (intro w hSw; (try dsimp only at hSw); (try simp only [List.getElem_toArray, List.getElem_cons_succ, List.getElem_cons_zero]); go_simp <;> with_reducible rfl)
            try simp only [List.getElem_toArray, List.getElem_cons_succ, List.getElem_cons_zero, Act.put, List.setIfInBounds_toArray, List.set_cons_zero, List.set_cons_succ]
            refine wpAnyH_ready (rs := [0]) (by kernel_rfl) (by simp) ?_
            refine AllReadyH.cons rfl (fun K hK => ?_) ?_
            · go_simp
              refine hK.out _ _ ?_ (fun hHeld => ?_)
              · exact trivial
              clear hK K
              try simp only [List.getElem_toArray, List.getElem_cons_succ, List.getElem_cons_zero, Act.put, List.setIfInBounds_toArray, List.set_cons_zero, List.set_cons_succ]
              refine wpAnyH_ready (rs := [5]) (by kernel_rfl) (by simp) ?_
              refine AllReadyH.cons rfl (fun K hK => ?_) ?_
              · refine step_vals rfl _ _ rfl W3.heap.size (fun _ => False) (fun z => G z ∨ (Value.slice (some ⟨g, 0, none⟩) ts.length c).ownBlock = some z) _ [] (ts.take j) sm1 rfl HRA.out _ rfl HS1.out (fun z hz => ⟨by have := (HGX.out z hz).2.1; rw [hsa]; omega, fun e => by have := (HGX.out z hz).2.1; have e2 : W3.heap.size = z := Option.some.inj e; omega⟩) (by rw [htl]; simp; omega) (by rw [hsa]; omega) ?_
                intro v1 w5 hrow1 hg1 hfr1
                obtain ⟨v1a, v1n, v1c, rfl⟩ := hrow1.slice3
                have HR1 := Lib.hid hrow1
                have HB1 := Lib.hid (show Below W3.heap.size W3 w5 from ⟨hg1.os.trans HBA.out.os, hg1.tape.trans HBA.out.tape, hg1.output.trans HBA.out.output, Nat.le_trans HBA.out.size hg1.size, fun z hz => (hg1.block z (by rw [hsa]; omega) (fun e => by have e2 : z = W3.heap.size := Option.some.inj e; omega)).trans (HBA.out.block z hz)⟩)
                have HF1 := Lib.hid (show ∀ z, (Value.slice v1a v1n v1c).ownBlock = some z → W3.heap.size ≤ z from fun z e => by
                  rcases hfr1 with h | h
                  · rw [h] at e
                    have e2 : W3.heap.size = z := Option.some.inj e
                    omega
                  · rw [h] at e
                    have e2 := Option.some.inj e
                    rw [hsa] at e2
                    omega)
                have hzz1 : W3.heap.size ≤ w5.heap.size := HB1.out.size
                obtain ⟨sm2, hs2⟩ := vsrc_of (HT2.out.stay HB1.out)
                have HS2 := Lib.hid hs2
                clear hrow1 hg1 hfr1 hs2
                refine hK.out _ _ ?_ (fun hHeld => ?_)
                · exact trivial
                clear hK K
                try simp only [List.getElem_toArray, List.getElem_cons_succ, List.getElem_cons_zero, Act.put, List.setIfInBounds_toArray, List.set_cons_zero, List.set_cons_succ]
                refine wpAnyH_ready (rs := [11]) (by kernel_rfl) (by simp) ?_
                refine AllReadyH.cons rfl (fun K hK => ?_) ?_
                · refine step_vals rfl _ _ rfl W3.heap.size _ (fun z => G z ∨ (Value.slice (some ⟨g, 0, none⟩) ts.length c).ownBlock = some z) _ _ (ts.drop (j + 1)) sm2 rfl HR1.out _ rfl HS2.out (fun z hz => ⟨by have := (HGX.out z hz).2.1; omega, fun e => by have := (HGX.out z hz).2.1; have := HF1.out z e; omega⟩) (by rw [hdl, List.nil_append, htl]; omega) hzz1 ?_
                  intro v2 w9 hrow2 hg2 hfr2
                  obtain ⟨va, vn, vc, rfl⟩ := hrow2.slice3
                  have HRW2 := Lib.hid hrow2
                  have HKP := Lib.hid (show Below W3.heap.size W3 w9 from ⟨hg2.os.trans HB1.out.os, hg2.tape.trans HB1.out.tape, hg2.output.trans HB1.out.output, Nat.le_trans HB1.out.size hg2.size, fun z hz => (hg2.block z (by omega) (fun e => by have := HF1.out z e.symm; omega)).trans (HB1.out.block z hz)⟩)
                  clear hrow2 hg2 hfr2
                  refine hK.out _ _ ?_ (fun hHeld => ?_)
                  · exact trivial
                  clear hK K
                  try simp only [List.getElem_toArray, List.getElem_cons_succ, List.getElem_cons_zero, Act.put, List.setIfInBounds_toArray, List.set_cons_zero, List.set_cons_succ]
                  refine wpAnyH_take (i := 12) (v := ?_) rfl (by kernel_rfl) (by kernel_rfl) (by kernel_rfl) (fun _ _ _ h => h) (Or.inl ⟨by rfl, ?_⟩) hHeld ?_
                  rotate_left
                  · (intro w hSw; (try dsimp only at hSw); (try simp only [List.getElem_toArray, List.getElem_cons_succ, List.getElem_cons_zero]); go_simp <;> with_reducible rfl)
                  try simp only [List.getElem_toArray, List.getElem_cons_succ, List.getElem_cons_zero, Act.put, List.setIfInBounds_toArray, List.set_cons_zero, List.set_cons_succ]
                  refine wpAnyH_ready (rs := [13]) (by kernel_rfl) (by simp) ?_
                  refine AllReadyH.cons rfl (fun K hK => ?_) ?_
                  · have hfz := Box.free (i := 4) (HBO.out _ HKP.out)
                    obtain ⟨g0, g1, g2, g3, g4⟩ := Box.cells (HBO.out _ HKP.out)
                    go_simp
                    refine hK.out _ _ ?_ (fun hHeld => ?_)
                    · exact trivial
                    clear hK K
                    try simp only [List.getElem_toArray, List.getElem_cons_succ, List.getElem_cons_zero, Act.put, List.setIfInBounds_toArray, List.set_cons_zero, List.set_cons_succ]
                    refine wpAnyH_done (by kernel_rfl) ?_ _
                    go_wp2_with fail
                    go_meet
                    exact ⟨va, vn, vc, (HRW2.out.repF.keep (by simp) (fun x hx hxs => heap_setCell_other _ _ _ _ (show ¬ x = c2b from fun e => by
                      rcases hx with ((h | h) | h)
                      · exact h.elim (fun h => h.elim) (fun h => (HGX.out x h).2.2 e)
                      · exact (HGX.out x h).2.2 e
                      · have := (HRW2.out.lt x h).1; omega))).mono (fun x hx _ => by
                      rcases hx with ((h | h) | h)
                      · exact h.elim (fun h => h.elim) (fun h => (HGX.out x h).1)
                      · exact (HGX.out x h).1
                      · have := (HRW2.out.lt x h).1; omega), Box.set4 (HBO.out _ HKP.out), (HKP.out.mono (by omega)).setCell (by exact Nat.le_refl _) _⟩
                  exact AllReadyH.nil
                exact AllReadyH.nil
              exact AllReadyH.nil
            exact AllReadyH.nil
          exact AllReadyH.nil
        exact AllReadyH.nil
      case rest =>
        obtain ⟨va, vn, vc, hrx, hbx, hbl⟩ := hcut
        obtain ⟨wx, rfl⟩ : ∃ W : World, W = wc := ⟨_, rfl⟩
        obtain ⟨va2, vc2, hvx⟩ := hrx.slice
        injection hvx with e1 e2 e3
        subst e1 e2 e3
        have BVx := Lib.hid (show Box wx w.heap.size k n ee st _ _ from (hbl.block w.heap.size (by omega)).trans BV3.out)
        have BZx := Lib.hid (show Box wx (w.heap.size + 1) 0 0 0 ⟨#[]⟩ _ _ from (hbl.block (w.heap.size + 1) (by omega)).trans BZ3.out)
        have HBx := Lib.hid (show Below w.heap.size w wx from HBW3.out.trans (hbl.mono (by omega)))
        have HRX := Lib.hid hrx
        have HBOx := Lib.hid hbx
        clear hrx hbx hbl BV3 BZ3 BO3 HROW HT1 HT2 HGX HGL
        generalize hus : ts.take j ++ ts.drop (j + 1) = us at *
        have HS14 := Lib.hid (show ∀ W : World, Below wx.heap.size wx W → W.cell? ⟨c2b, 0, none⟩ = some (.int .i64 k) ∧ W.cell? ⟨c2b, 1, none⟩ = some (.int .i64 n) ∧ W.cell? ⟨c2b, 2, none⟩ = some (.int .i64 ee) ∧ W.cell? ⟨c2b, 3, none⟩ = some (.string st) ∧ W.cell? ⟨c2b, 4, none⟩ = some (.slice va us.length vc) ∧ W.cell? ⟨w.heap.size, 0, none⟩ = some (.int .i64 k) from fun W h => by
          obtain ⟨g0, g1, g2, g3, g4⟩ := Box.cells (Box.stay HBOx.out h)
          obtain ⟨q0, -, -, -, -⟩ := Box.cells (Box.stay BVx.out h)
          exact ⟨g0, g1, g2, g3, g4, q0⟩)
        have t9 : decide (¬ k = 9) = (k != 9) := by by_cases h : k = 9 <;> simp [h]
        have HF := Lib.hid (fun (v0 v1 v2 v3 v4 : Value) => show VRep w0.heap.size w R.1 R.2 (.returned (.tuple #[(V.mk k n ee st us).agg (.slice va us.length vc), .bool (k != 9)])) (set5 wx (w.heap.size + 1) v0 v1 v2 v3 v4) from by
          rw [HR2.out, t9]
          exact vrep_fin (HWF.out _) HRX.out HBx.out hww (fun x hx => by omega) v0 v1 v2 v3 v4)
        unfold V.agg at HF
        simp only [V.k, V.n, V.e, V.s] at HF
        clear t9 HRX HWF HR2
        go_upto_region 14 with fail
        have HB14 := Lib.hid (show Below wx.heap.size wx wx.drew from (Below.refl _ _).drew)
        refine wp_region_held_drew (S := fun W' => W'.cell? ⟨c2b, 0, none⟩ = some (.int .i64 k) ∧ W'.cell? ⟨c2b, 1, none⟩ = some (.int .i64 n) ∧ W'.cell? ⟨c2b, 2, none⟩ = some (.int .i64 ee) ∧ W'.cell? ⟨c2b, 3, none⟩ = some (.string st) ∧ W'.cell? ⟨c2b, 4, none⟩ = some (.slice va us.length vc) ∧ W'.cell? ⟨w.heap.size, 0, none⟩ = some (.int .i64 k)) (by kernel_rfl) (HS14.out _ HB14.out) (fun hHeld => ?_)
        refine wpAnyH_take (i := 0) (v := ?_) rfl (by kernel_rfl) (by kernel_rfl) (by kernel_rfl) (fun _ _ _ h => h) (Or.inl ⟨by rfl, ?_⟩) hHeld ?_
        rotate_left
        · (intro w hSw; (try dsimp only at hSw); (try simp only [List.getElem_toArray, List.getElem_cons_succ, List.getElem_cons_zero]); go_simp <;> with_reducible rfl)
        try simp only [List.getElem_toArray, List.getElem_cons_succ, List.getElem_cons_zero, Act.put, List.setIfInBounds_toArray, List.set_cons_zero, List.set_cons_succ]
        refine wpAnyH_take (i := 1) (v := ?_) rfl (by kernel_rfl) (by kernel_rfl) (by kernel_rfl) (fun _ _ _ h => h) (Or.inl ⟨by rfl, ?_⟩) hHeld ?_
        rotate_left
        · (intro w hSw; (try dsimp only at hSw); (try simp only [List.getElem_toArray, List.getElem_cons_succ, List.getElem_cons_zero]); go_simp <;> with_reducible rfl)
        try simp only [List.getElem_toArray, List.getElem_cons_succ, List.getElem_cons_zero, Act.put, List.setIfInBounds_toArray, List.set_cons_zero, List.set_cons_succ]
        refine wpAnyH_take (i := 2) (v := ?_) rfl (by kernel_rfl) (by kernel_rfl) (by kernel_rfl) (fun _ _ _ h => h) (Or.inl ⟨by rfl, ?_⟩) hHeld ?_
        rotate_left
        · (intro w hSw; (try dsimp only at hSw); (try simp only [List.getElem_toArray, List.getElem_cons_succ, List.getElem_cons_zero]); go_simp <;> with_reducible rfl)
        try simp only [List.getElem_toArray, List.getElem_cons_succ, List.getElem_cons_zero, Act.put, List.setIfInBounds_toArray, List.set_cons_zero, List.set_cons_succ]
        refine wpAnyH_take (i := 3) (v := ?_) rfl (by kernel_rfl) (by kernel_rfl) (by kernel_rfl) (fun _ _ _ h => h) (Or.inl ⟨by rfl, ?_⟩) hHeld ?_
        rotate_left
        · (intro w hSw; (try dsimp only at hSw); (try simp only [List.getElem_toArray, List.getElem_cons_succ, List.getElem_cons_zero]); go_simp <;> with_reducible rfl)
        try simp only [List.getElem_toArray, List.getElem_cons_succ, List.getElem_cons_zero, Act.put, List.setIfInBounds_toArray, List.set_cons_zero, List.set_cons_succ]
        refine wpAnyH_ready (rs := [4]) (by kernel_rfl) (by simp) ?_
        refine AllReadyH.cons rfl (fun K hK => ?_) ?_
        · obtain ⟨z0, z1, z2, z3, z4⟩ := Box.cells BZx.out
          have zf0 := Box.free (i := 0) BZx.out; have zf1 := Box.free (i := 1) BZx.out; have zf2 := Box.free (i := 2) BZx.out; have zf3 := Box.free (i := 3) BZx.out; have zf4 := Box.free (i := 4) BZx.out
          go_simp
          obtain ⟨W9, hW9⟩ : ∃ W9, W9 = (set5 wx (w.heap.size + 1) (.int .i64 k) (.int .i64 n) (.int .i64 ee) (.string st) (.slice va us.length vc)).drew := ⟨_, rfl⟩
          have hk9 : ∀ x, x ≠ w.heap.size + 1 → W9.heap[x]? = wx.heap[x]? := fun x hx => by rw [hW9]; exact heap_set5 wx _ x _ _ _ _ _ hx
          have HFX := Lib.hid (show VRep _ w R.1 R.2 _ W9 from by rw [hW9]; exact vrep_drew (HF.out (.int .i64 k) (.int .i64 n) (.int .i64 ee) (.string st) (.slice va us.length vc)))
          have BC9 := Lib.hid (show Box W9 c2b k n ee st _ _ from (hk9 c2b (by omega)).trans HBOx.out)
          have BV9 := Lib.hid (show Box W9 w.heap.size k n ee st _ _ from (hk9 w.heap.size (by omega)).trans BVx.out)
          have BZ9 := Lib.hid (show Box W9 (w.heap.size + 1) k n ee st (.slice va us.length vc) _ from by rw [hW9]; exact box_set5T BZx.out k n ee st (.slice va us.length vc))
          unfold set5 at hW9
          rw [← hW9]
          clear hW9 hk9 HF z0 z1 z2 z3 z4 zf0 zf1 zf2 zf3 zf4
          refine hK.out _ _ ?_ (fun hHeld => ?_)
          · exact (by obtain ⟨d0, d1, d2, d3, d4⟩ := Box.cells BC9.out; obtain ⟨f0, -, -, -, -⟩ := Box.cells BV9.out; exact ⟨d0, d1, d2, d3, d4, f0⟩)
          clear hK K
          try simp only [List.getElem_toArray, List.getElem_cons_succ, List.getElem_cons_zero, Act.put, List.setIfInBounds_toArray, List.set_cons_zero, List.set_cons_succ]
          refine wpAnyH_take (i := 5) (v := ?_) rfl (by kernel_rfl) (by kernel_rfl) (by kernel_rfl) (fun _ _ _ h => h) (Or.inl ⟨by rfl, ?_⟩) hHeld ?_
          rotate_left
          · (intro w hSw; (try dsimp only at hSw); (try simp only [List.getElem_toArray, List.getElem_cons_succ, List.getElem_cons_zero]); go_simp <;> with_reducible rfl)
          try simp only [List.getElem_toArray, List.getElem_cons_succ, List.getElem_cons_zero, Act.put, List.setIfInBounds_toArray, List.set_cons_zero, List.set_cons_succ]
          refine wpAnyH_done (by kernel_rfl) ?_ _
          obtain ⟨z0, z1, z2, z3, z4⟩ := Box.cells BZ9.out
          go_wp2_with fail
          exact bodyPost_ret (v := .tuple #[.agg #[.int .i64 k, .int .i64 n, .int .i64 ee, .string st, .slice va us.length vc], .bool (k != 9)]) (by simp [results, Tryd.results33, go_sem, z0, z1, z2, z3, z4]) rfl HFX.out
        exact AllReadyH.nil
    have hne := HLE.out hL
    have tL : decide ((1 : Int) < (L : Int)) = true := decide_eq_true (by omega)
    have hsc1 : ¬ sc = 1 := by omega
    have HR := Lib.hid (HY3.out hne hq0)
    clear HY1 HY3 CP
    obtain ⟨rfl, hbb⟩ := HA.out (by intro e; rw [e] at hj; simp at hj)
    have hbw : b < w1.heap.size := Nat.lt_of_lt_of_le hbb HW1.out.size
    have HK5 := Lib.hid ((HEL.out j hj).1.keep (HW1.out.block b hbb))
    obtain ⟨kr1, kr2⟩ := (HEL.out j hj).2
    obtain ⟨ka, kc, hks⟩ := kr2.slice
    rw [hks] at HK5 kr2
    have IHJ := Lib.hid (fun (W : World) (hW : Below w0.heap.size w0 W) => IH.out hne j hj (.slice ka (ts[j]'hj).kids.length kc) W kr1 kr2 hW)
    clear IH hks kr1 kr2 HEL HA HLE hne
    generalize hkid : ts[j] = kid at *
    clear hkid
    generalize lessV kid r = RK at *
    obtain ⟨y, yb⟩ := RK
    dsimp only at HR IHJ
    go_upto_region 7 with fail
    have TCB := Lib.hid (show ∀ W' : World, W'.heap[w.heap.size]? = w1.heap[w.heap.size]? → W'.heap[b]? = w1.heap[b]? → W'.cell? ⟨w.heap.size, 4, none⟩ = some (.slice (some ⟨b, off, none⟩) ts.length cap) ∧ W'.cell? ⟨b, off + j * 5, none⟩ = some (.int .i64 kid.k) ∧ W'.cell? ⟨b, off + j * 5 + 1, none⟩ = some (.int .i64 kid.n) ∧ W'.cell? ⟨b, off + j * 5 + 2, none⟩ = some (.int .i64 kid.e) ∧ W'.cell? ⟨b, off + j * 5 + 3, none⟩ = some (.string kid.s) ∧ W'.cell? ⟨b, off + j * 5 + 4, none⟩ = some (.slice ka kid.kids.length kc) from fun W' h1 h2 => by
      obtain ⟨-, -, -, -, q4⟩ := Box.cells (show Box W' w.heap.size k n ee st (.slice (some ⟨b, off, none⟩) ts.length cap) 30 from h1.trans BV1.out)
      obtain ⟨c0, c1, c2, c3, c4⟩ := HK5.out.keep h2
      exact ⟨q4, c0, c1, c2, c3, c4⟩)
    have TC := Lib.hid (fun (W' : World) (h : Below w1.heap.size w1 W') => TCB.out W' (h.block w.heap.size (Box.lt BV1.out)) (h.block b hbw))
    have HB9 := Lib.hid (show Below w1.heap.size w1 w1.drew from (Below.refl _ _).drew)
    refine wp_region_held_drew (S := fun W' => W'.cell? ⟨w.heap.size, 4, none⟩ = some (.slice (some ⟨b, off, none⟩) ts.length cap) ∧ W'.cell? ⟨b, off + j * 5, none⟩ = some (.int .i64 kid.k) ∧ W'.cell? ⟨b, off + j * 5 + 1, none⟩ = some (.int .i64 kid.n) ∧ W'.cell? ⟨b, off + j * 5 + 2, none⟩ = some (.int .i64 kid.e) ∧ W'.cell? ⟨b, off + j * 5 + 3, none⟩ = some (.string kid.s) ∧ W'.cell? ⟨b, off + j * 5 + 4, none⟩ = some (.slice ka kid.kids.length kc)) (by kernel_rfl) (TC.out _ HB9.out) (fun hHeld => ?_)
    refine wpAnyH_take (i := 0) (v := ?_) rfl (by kernel_rfl) (by kernel_rfl) (by kernel_rfl) (fun _ _ _ h => h) (Or.inl ⟨by rfl, ?_⟩) hHeld ?_
    rotate_left
    · (intro w hSw; (try dsimp only at hSw); (try simp only [List.getElem_toArray, List.getElem_cons_succ, List.getElem_cons_zero]); go_simp <;> with_reducible rfl)
    try simp only [List.getElem_toArray, List.getElem_cons_succ, List.getElem_cons_zero, Act.put, List.setIfInBounds_toArray, List.set_cons_zero, List.set_cons_succ]
    refine wpAnyH_take (i := 1) (v := ?_) rfl (by kernel_rfl) (by kernel_rfl) (by kernel_rfl) (fun _ _ _ h => h) (Or.inl ⟨by rfl, ?_⟩) hHeld ?_
    rotate_left
    · (intro w hSw; (try dsimp only at hSw); (try simp only [List.getElem_toArray, List.getElem_cons_succ, List.getElem_cons_zero]); go_simp <;> with_reducible rfl)
    try simp only [List.getElem_toArray, List.getElem_cons_succ, List.getElem_cons_zero, Act.put, List.setIfInBounds_toArray, List.set_cons_zero, List.set_cons_succ]
    refine wpAnyH_take (i := 2) (v := ?_) rfl (by kernel_rfl) (by kernel_rfl) (by kernel_rfl) (fun _ _ _ h => h) (Or.inl ⟨by rfl, ?_⟩) hHeld ?_
    rotate_left
    · (intro w hSw; (try dsimp only at hSw); (try simp only [List.getElem_toArray, List.getElem_cons_succ, List.getElem_cons_zero]); go_simp <;> with_reducible rfl)
    try simp only [List.getElem_toArray, List.getElem_cons_succ, List.getElem_cons_zero, Act.put, List.setIfInBounds_toArray, List.set_cons_zero, List.set_cons_succ]
    refine wpAnyH_take (i := 3) (v := ?_) rfl (by kernel_rfl) (by kernel_rfl) (by kernel_rfl) (fun _ _ _ h => h) (Or.inl ⟨by rfl, ?_⟩) hHeld ?_
    rotate_left
    · (intro w hSw; (try dsimp only at hSw); (try simp only [List.getElem_toArray, List.getElem_cons_succ, List.getElem_cons_zero]); go_simp <;> with_reducible rfl)
    try simp only [List.getElem_toArray, List.getElem_cons_succ, List.getElem_cons_zero, Act.put, List.setIfInBounds_toArray, List.set_cons_zero, List.set_cons_succ]
    refine wpAnyH_take (i := 4) (v := ?_) rfl (by kernel_rfl) (by kernel_rfl) (by kernel_rfl) (fun _ _ _ h => h) (Or.inl ⟨by rfl, ?_⟩) hHeld ?_
    rotate_left
    · (intro w hSw; (try dsimp only at hSw); (try simp only [List.getElem_toArray, List.getElem_cons_succ, List.getElem_cons_zero]); go_simp <;> with_reducible rfl)
    try simp only [List.getElem_toArray, List.getElem_cons_succ, List.getElem_cons_zero, Act.put, List.setIfInBounds_toArray, List.set_cons_zero, List.set_cons_succ]
    refine wpAnyH_take (i := 5) (v := ?_) rfl (by kernel_rfl) (by kernel_rfl) (by kernel_rfl) (fun _ _ _ h => h) (Or.inl ⟨by rfl, ?_⟩) hHeld ?_
    rotate_left
    · (intro w hSw; (try dsimp only at hSw); (try simp only [List.getElem_toArray, List.getElem_cons_succ, List.getElem_cons_zero]); go_simp <;> with_reducible rfl)
    try simp only [List.getElem_toArray, List.getElem_cons_succ, List.getElem_cons_zero, Act.put, List.setIfInBounds_toArray, List.set_cons_zero, List.set_cons_succ]
    refine wpAnyH_take (i := 6) (v := ?_) rfl (by kernel_rfl) (by kernel_rfl) (by kernel_rfl) (fun _ _ _ h => h) (Or.inl ⟨by rfl, ?_⟩) hHeld ?_
    rotate_left
    · (intro w hSw; (try dsimp only at hSw); (try simp only [List.getElem_toArray, List.getElem_cons_succ, List.getElem_cons_zero]); go_simp <;> with_reducible rfl)
    try simp only [List.getElem_toArray, List.getElem_cons_succ, List.getElem_cons_zero, Act.put, List.setIfInBounds_toArray, List.set_cons_zero, List.set_cons_succ]
    refine wpAnyH_ready (rs := [7, 11]) (by kernel_rfl) (by simp) ?_
    refine AllReadyH.cons rfl (fun K hK => ?_) ?_
    · have CL := Lib.hid (IHJ.out w1.drew (HW1.out.trans (HB9.out.mono HW1.out.size)))
      unfold VRep at CL
      try unfold V.agg at CL
      go_simp
      refine CL.out.mono ?_
      rintro e5 w5 ⟨sl5, rfl, ywf, hrep, hb5⟩
      obtain ⟨oa5, oc5, rfl⟩ := hrep.slice
      have HD1 := Lib.hid (HB9.out.trans (hb5.mono HB9.out.size))
      have HRP1 := Lib.hid hrep.bound
      clear CL hb5 hrep
      refine hK.out _ _ ?_ (fun hHeld => ?_)
      · exact TC.out _ HD1.out
      clear hK K
      try simp only [List.getElem_toArray, List.getElem_cons_succ, List.getElem_cons_zero, Act.put, List.setIfInBounds_toArray, List.set_cons_zero, List.set_cons_succ]
      refine wpAnyH_take (i := 8) (v := ?_) rfl (by kernel_rfl) (by kernel_rfl) (by kernel_rfl) (fun _ _ _ h => h) (Or.inl ⟨by rfl, ?_⟩) hHeld ?_
      rotate_left
      · (intro w hSw; (try dsimp only at hSw); (try simp only [List.getElem_toArray, List.getElem_cons_succ, List.getElem_cons_zero]); go_simp <;> with_reducible rfl)
      try simp only [List.getElem_toArray, List.getElem_cons_succ, List.getElem_cons_zero, Act.put, List.setIfInBounds_toArray, List.set_cons_zero, List.set_cons_succ]
      refine wpAnyH_take (i := 9) (v := ?_) rfl (by kernel_rfl) (by kernel_rfl) (by kernel_rfl) (fun _ _ _ h => h) (Or.inl ⟨by rfl, ?_⟩) hHeld ?_
      rotate_left
      · (intro w hSw; (try dsimp only at hSw); (try simp only [List.getElem_toArray, List.getElem_cons_succ, List.getElem_cons_zero]); go_simp <;> with_reducible rfl)
      try simp only [List.getElem_toArray, List.getElem_cons_succ, List.getElem_cons_zero, Act.put, List.setIfInBounds_toArray, List.set_cons_zero, List.set_cons_succ]
      refine wpAnyH_take (i := 10) (v := ?_) rfl (by kernel_rfl) (by kernel_rfl) (by kernel_rfl) (fun _ _ _ h => h) (Or.inl ⟨by rfl, ?_⟩) hHeld ?_
      rotate_left
      · (intro w hSw; (try dsimp only at hSw); (try simp only [List.getElem_toArray, List.getElem_cons_succ, List.getElem_cons_zero]); go_simp <;> with_reducible rfl)
      try simp only [List.getElem_toArray, List.getElem_cons_succ, List.getElem_cons_zero, Act.put, List.setIfInBounds_toArray, List.set_cons_zero, List.set_cons_succ]
      refine wpAnyH_ready (rs := [11]) (by kernel_rfl) (by simp) ?_
      refine AllReadyH.cons rfl (fun K hK => ?_) ?_
      · have HD2 := Lib.hid (show Below w1.heap.size w1 (w5.alloc (.cells #[.int .i64 0, .int .i64 0, .int .i64 0, .string ⟨#[]⟩, .slice none 0 0] 30)) from HD1.out.alloc HD1.out.size _)
        have HC2 := Lib.hid (Box.new w5 0 0 0 ⟨#[]⟩ (.slice none 0 0) 30)
        go_simp
        refine hK.out _ _ ?_ (fun hHeld => ?_)
        · exact TC.out _ HD2.out
        clear hK K
        try simp only [List.getElem_toArray, List.getElem_cons_succ, List.getElem_cons_zero, Act.put, List.setIfInBounds_toArray, List.set_cons_zero, List.set_cons_succ]
        refine wpAnyH_ready (rs := [12]) (by kernel_rfl) (by simp) ?_
        refine AllReadyH.cons rfl (fun K hK => ?_) ?_
        · have hcb : w1.heap.size ≤ w5.heap.size := by have := HD1.out.size; exact this
          obtain ⟨z0, z1, z2, z3, z4⟩ := Box.cells HC2.out
          have zf0 := Box.free (i := 0) HC2.out; have zf1 := Box.free (i := 1) HC2.out; have zf2 := Box.free (i := 2) HC2.out; have zf3 := Box.free (i := 3) HC2.out; have zf4 := Box.free (i := 4) HC2.out
          go_simp
          obtain ⟨W6, hW6⟩ : ∃ W6, W6 = w5.alloc (.cells #[.int .i64 y.k, .int .i64 y.n, .int .i64 y.e, .string y.s, .slice oa5 y.kids.length oc5] 30) := ⟨_, rfl⟩
          have HB6 := Lib.hid (show Below w1.heap.size w1 W6 from by rw [hW6]; exact HD1.out.alloc HD1.out.size _)
          have HC6 := Lib.hid (show Box W6 w5.heap.size y.k y.n y.e y.s (.slice oa5 y.kids.length oc5) 30 from by rw [hW6]; exact Box.new w5 _ _ _ _ _ _)
          have HR6 := Lib.hid (show RepF W6 (fun x => x < w0.heap.size ∨ w1.heap.size ≤ x) (.slice oa5 y.kids.length oc5) y.kids from by
            rw [hW6]
            exact (HRP1.out.stay ((Below.refl _ _).alloc (Nat.le_refl _) _)).mono (fun x hx _ => hx.1.imp id (fun h => by simpa using h)))
          rw [← hW6]
          clear hW6
          refine hK.out _ _ ?_ (fun hHeld => ?_)
          · exact TC.out _ HB6.out
          clear hK K
          try simp only [List.getElem_toArray, List.getElem_cons_succ, List.getElem_cons_zero, Act.put, List.setIfInBounds_toArray, List.set_cons_zero, List.set_cons_succ]
          refine wpAnyH_take (i := 13) (v := ?_) rfl (by kernel_rfl) (by kernel_rfl) (by kernel_rfl) (fun _ _ _ h => h) (Or.inl ⟨by rfl, ?_⟩) hHeld ?_
          rotate_left
          · (intro w hSw; (try dsimp only at hSw); (try simp only [List.getElem_toArray, List.getElem_cons_succ, List.getElem_cons_zero]); go_simp <;> with_reducible rfl)
          try simp only [List.getElem_toArray, List.getElem_cons_succ, List.getElem_cons_zero, Act.put, List.setIfInBounds_toArray, List.set_cons_zero, List.set_cons_succ]
          refine wpAnyH_done (by kernel_rfl) ?_ _
          have BV6 := Lib.hid ((HB6.out.block w.heap.size (Box.lt BV1.out)).trans BV1.out)
          have BZ6 := Lib.hid ((HB6.out.block (w.heap.size + 1) (Box.lt BZ1.out)).trans BZ1.out)
          have hz6 := HB6.out.size
          have HB16 := Lib.hid (show Below w.heap.size w W6 from HBW1.out.trans (HB6.out.mono (by omega)))
          have HW6 := Lib.hid (show Below w0.heap.size w0 W6 from HW1.out.trans (HB6.out.mono HW1.out.size))
          have WI3 := Lib.hid (WI2.out W6 HW6.out y (.slice oa5 y.kids.length oc5) ywf _ HR6.out j hj)
          have HWX := Lib.hid (show (V.mk k n ee st (ts.set j y)).wf from HWF.out _)
          clear hHeld TC TCB HB9 z0 z1 z2 z3 z4 zf0 zf1 zf2 zf3 zf4 WI2 IHJ HK5 HR6
          unfold ValRep V.agg at WI3
          simp only [V.k, V.n, V.e, V.s] at WI3
          obtain ⟨y0, y1, y2, y3, y4⟩ := Box.cells BV6.out
          obtain ⟨q0, q1, q2, q3, q4⟩ := Box.cells HC6.out
          go_wp2_with fail
          refine WI3.out.mono ?_
          rintro e7 w7 ⟨sl7, rfl, -, hrep7, hb7⟩
          obtain ⟨oa7, oc7, hsl7⟩ := hrep7.slice
          rw [show (V.mk k n ee st (ts.set j y)).kids.length = ts.length from List.length_set ..] at hsl7
          subst hsl7
          have HB7 := Lib.hid (show Below w.heap.size w w7 from HB16.out.trans (hb7.mono (by omega)))
          have BZ7 := Lib.hid (Box.stay BZ6.out hb7)
          have HF := Lib.hid (fun (v0 v1 v2 v3 v4 : Value) => show VRep w0.heap.size w R.1 R.2 (.returned (.tuple #[(V.mk k n ee st (ts.set j y)).agg (.slice oa7 ts.length oc7), .bool yb])) (set5 w7 (w.heap.size + 1) v0 v1 v2 v3 v4) from by
            rw [HR.out]
            exact vrep_fin HWX.out hrep7 HB7.out hww (fun x hx => by rcases hx with (h | h) | h <;> omega) v0 v1 v2 v3 v4)
          unfold V.agg at HF
          clear WI3 hrep7 hb7 y0 y1 y2 y3 y4 q0 q1 q2 q3 q4
          obtain ⟨z0, z1, z2, z3, z4⟩ := Box.cells BZ7.out
          have zf0 := Box.free (i := 0) BZ7.out; have zf1 := Box.free (i := 1) BZ7.out; have zf2 := Box.free (i := 2) BZ7.out; have zf3 := Box.free (i := 3) BZ7.out; have zf4 := Box.free (i := 4) BZ7.out
          go_wp2_with fail
          exact bodyPost_ret (v := .tuple #[.agg #[.int .i64 k, .int .i64 n, .int .i64 ee, .string st, .slice oa7 ts.length oc7], .bool yb]) (by simp [results, Tryd.results33, go_sem, z0, z1, z2, z3, z4]) rfl (HF.out _ _ _ _ _)
        exact AllReadyH.nil
      exact AllReadyH.nil
    refine AllReadyH.cons rfl (fun K hK => ?_) ?_
    · have HD3 := Lib.hid (show Below w1.heap.size w1 (w1.drew.alloc (.cells #[.int .i64 0, .int .i64 0, .int .i64 0, .string ⟨#[]⟩, .slice none 0 0] 30)) from HB9.out.alloc HB9.out.size _)
      have HC3 := Lib.hid (Box.new w1.drew 0 0 0 ⟨#[]⟩ (.slice none 0 0) 30)
      go_simp
      refine hK.out _ _ ?_ (fun hHeld => ?_)
      · exact TC.out _ HD3.out
      clear hK K
      try simp only [List.getElem_toArray, List.getElem_cons_succ, List.getElem_cons_zero, Act.put, List.setIfInBounds_toArray, List.set_cons_zero, List.set_cons_succ]
      refine wpAnyH_ready (rs := [7]) (by kernel_rfl) (by simp) ?_
      refine AllReadyH.cons rfl (fun K hK => ?_) ?_
      · have CL := Lib.hid (IHJ.out (w1.drew.alloc (.cells #[.int .i64 0, .int .i64 0, .int .i64 0, .string ⟨#[]⟩, .slice none 0 0] 30)) (HW1.out.trans (HD3.out.mono HW1.out.size)))
        unfold VRep at CL
        try unfold V.agg at CL
        go_simp
        refine CL.out.mono ?_
        rintro e5 w5 ⟨sl5, rfl, ywf, hrep, hb5⟩
        obtain ⟨oa5, oc5, rfl⟩ := hrep.slice
        have HD4 := Lib.hid (HD3.out.trans (hb5.mono HD3.out.size))
        have HRP4 := Lib.hid hrep.bound
        have HC4 := Lib.hid ((hb5.block w1.heap.size (Box.lt HC3.out)).trans HC3.out)
        clear CL hb5 hrep
        refine hK.out _ _ ?_ (fun hHeld => ?_)
        · exact TC.out _ HD4.out
        clear hK K
        try simp only [List.getElem_toArray, List.getElem_cons_succ, List.getElem_cons_zero, Act.put, List.setIfInBounds_toArray, List.set_cons_zero, List.set_cons_succ]
        refine wpAnyH_take (i := 8) (v := ?_) rfl (by kernel_rfl) (by kernel_rfl) (by kernel_rfl) (fun _ _ _ h => h) (Or.inl ⟨by rfl, ?_⟩) hHeld ?_
        rotate_left
        · (intro w hSw; (try dsimp only at hSw); (try simp only [List.getElem_toArray, List.getElem_cons_succ, List.getElem_cons_zero]); go_simp <;> with_reducible rfl)
        try simp only [List.getElem_toArray, List.getElem_cons_succ, List.getElem_cons_zero, Act.put, List.setIfInBounds_toArray, List.set_cons_zero, List.set_cons_succ]
        refine wpAnyH_take (i := 9) (v := ?_) rfl (by kernel_rfl) (by kernel_rfl) (by kernel_rfl) (fun _ _ _ h => h) (Or.inl ⟨by rfl, ?_⟩) hHeld ?_
        rotate_left
        · (intro w hSw; (try dsimp only at hSw); (try simp only [List.getElem_toArray, List.getElem_cons_succ, List.getElem_cons_zero]); go_simp <;> with_reducible rfl)
        try simp only [List.getElem_toArray, List.getElem_cons_succ, List.getElem_cons_zero, Act.put, List.setIfInBounds_toArray, List.set_cons_zero, List.set_cons_succ]
        refine wpAnyH_take (i := 10) (v := ?_) rfl (by kernel_rfl) (by kernel_rfl) (by kernel_rfl) (fun _ _ _ h => h) (Or.inl ⟨by rfl, ?_⟩) hHeld ?_
        rotate_left
        · (intro w hSw; (try dsimp only at hSw); (try simp only [List.getElem_toArray, List.getElem_cons_succ, List.getElem_cons_zero]); go_simp <;> with_reducible rfl)
        try simp only [List.getElem_toArray, List.getElem_cons_succ, List.getElem_cons_zero, Act.put, List.setIfInBounds_toArray, List.set_cons_zero, List.set_cons_succ]
        refine wpAnyH_ready (rs := [12]) (by kernel_rfl) (by simp) ?_
        refine AllReadyH.cons rfl (fun K hK => ?_) ?_
        · have hcb : w1.heap.size ≤ w1.heap.size := by exact Nat.le_refl _
          obtain ⟨z0, z1, z2, z3, z4⟩ := Box.cells HC4.out
          have zf0 := Box.free (i := 0) HC4.out; have zf1 := Box.free (i := 1) HC4.out; have zf2 := Box.free (i := 2) HC4.out; have zf3 := Box.free (i := 3) HC4.out; have zf4 := Box.free (i := 4) HC4.out
          go_simp
          obtain ⟨W6, hW6⟩ : ∃ W6, W6 = set5 w5 w1.heap.size (.int .i64 y.k) (.int .i64 y.n) (.int .i64 y.e) (.string y.s) (.slice oa5 y.kids.length oc5) := ⟨_, rfl⟩
          have HB6 := Lib.hid (show Below w1.heap.size w1 W6 from by rw [hW6]; exact HD4.out.trans ((below_set5 _ _ _ _ _ _ _).mono (Nat.le_refl _)))
          have HC6 := Lib.hid (show Box W6 w1.heap.size y.k y.n y.e y.s (.slice oa5 y.kids.length oc5) 30 from by rw [hW6]; exact box_set5T HC4.out _ _ _ _ _)
          have HR6 := Lib.hid (show RepF W6 (fun x => x < w0.heap.size ∨ w1.heap.size ≤ x) (.slice oa5 y.kids.length oc5) y.kids from by
            rw [hW6]
            exact (repF_set5T (HRP4.out.mono (G' := fun x => (x < w0.heap.size ∨ w1.heap.size ≤ x) ∧ x ≠ w1.heap.size) (fun x hx _ => by
              have h := hx.1
              simp at h
              have := HW1.out.size
              exact ⟨h.imp id (fun h => by omega), by rcases h with h | h <;> omega⟩)) w1.heap.size (fun x h => h.2) _ _ _ _ _).mono (fun x hx _ => hx.1))
          unfold set5 at hW6
          rw [← hW6]
          clear hW6
          refine hK.out _ _ ?_ (fun hHeld => ?_)
          · exact TC.out _ HB6.out
          clear hK K
          try simp only [List.getElem_toArray, List.getElem_cons_succ, List.getElem_cons_zero, Act.put, List.setIfInBounds_toArray, List.set_cons_zero, List.set_cons_succ]
          refine wpAnyH_take (i := 13) (v := ?_) rfl (by kernel_rfl) (by kernel_rfl) (by kernel_rfl) (fun _ _ _ h => h) (Or.inl ⟨by rfl, ?_⟩) hHeld ?_
          rotate_left
          · (intro w hSw; (try dsimp only at hSw); (try simp only [List.getElem_toArray, List.getElem_cons_succ, List.getElem_cons_zero]); go_simp <;> with_reducible rfl)
          try simp only [List.getElem_toArray, List.getElem_cons_succ, List.getElem_cons_zero, Act.put, List.setIfInBounds_toArray, List.set_cons_zero, List.set_cons_succ]
          refine wpAnyH_done (by kernel_rfl) ?_ _
          have BV6 := Lib.hid ((HB6.out.block w.heap.size (Box.lt BV1.out)).trans BV1.out)
          have BZ6 := Lib.hid ((HB6.out.block (w.heap.size + 1) (Box.lt BZ1.out)).trans BZ1.out)
          have hz6 := HB6.out.size
          have HB16 := Lib.hid (show Below w.heap.size w W6 from HBW1.out.trans (HB6.out.mono (by omega)))
          have HW6 := Lib.hid (show Below w0.heap.size w0 W6 from HW1.out.trans (HB6.out.mono HW1.out.size))
          have WI3 := Lib.hid (WI2.out W6 HW6.out y (.slice oa5 y.kids.length oc5) ywf _ HR6.out j hj)
          have HWX := Lib.hid (show (V.mk k n ee st (ts.set j y)).wf from HWF.out _)
          clear hHeld TC TCB HB9 z0 z1 z2 z3 z4 zf0 zf1 zf2 zf3 zf4 WI2 IHJ HK5 HR6
          unfold ValRep V.agg at WI3
          simp only [V.k, V.n, V.e, V.s] at WI3
          obtain ⟨y0, y1, y2, y3, y4⟩ := Box.cells BV6.out
          obtain ⟨q0, q1, q2, q3, q4⟩ := Box.cells HC6.out
          go_wp2_with fail
          refine WI3.out.mono ?_
          rintro e7 w7 ⟨sl7, rfl, -, hrep7, hb7⟩
          obtain ⟨oa7, oc7, hsl7⟩ := hrep7.slice
          rw [show (V.mk k n ee st (ts.set j y)).kids.length = ts.length from List.length_set ..] at hsl7
          subst hsl7
          have HB7 := Lib.hid (show Below w.heap.size w w7 from HB16.out.trans (hb7.mono (by omega)))
          have BZ7 := Lib.hid (Box.stay BZ6.out hb7)
          have HF := Lib.hid (fun (v0 v1 v2 v3 v4 : Value) => show VRep w0.heap.size w R.1 R.2 (.returned (.tuple #[(V.mk k n ee st (ts.set j y)).agg (.slice oa7 ts.length oc7), .bool yb])) (set5 w7 (w.heap.size + 1) v0 v1 v2 v3 v4) from by
            rw [HR.out]
            exact vrep_fin HWX.out hrep7 HB7.out hww (fun x hx => by rcases hx with (h | h) | h <;> omega) v0 v1 v2 v3 v4)
          unfold V.agg at HF
          clear WI3 hrep7 hb7 y0 y1 y2 y3 y4 q0 q1 q2 q3 q4
          obtain ⟨z0, z1, z2, z3, z4⟩ := Box.cells BZ7.out
          have zf0 := Box.free (i := 0) BZ7.out; have zf1 := Box.free (i := 1) BZ7.out; have zf2 := Box.free (i := 2) BZ7.out; have zf3 := Box.free (i := 3) BZ7.out; have zf4 := Box.free (i := 4) BZ7.out
          go_wp2_with fail
          exact bodyPost_ret (v := .tuple #[.agg #[.int .i64 k, .int .i64 n, .int .i64 ee, .string st, .slice oa7 ts.length oc7], .bool yb]) (by simp [results, Tryd.results33, go_sem, z0, z1, z2, z3, z4]) rfl (HF.out _ _ _ _ _)
        exact AllReadyH.nil
      exact AllReadyH.nil
    exact AllReadyH.nil
  exact AllReadyH.nil
end Go.Proofs.YtaphlemmlmdkiaaDoor
