/- Lemmas for the statement of the last text of this claim: texts joined. -/
import Derived.Test.YtfjehhdahpbbgaaDoorPa04
import Derived.Test.YtfjehhdahpbbgaaDoorPa05
namespace Go.Proofs.YtfjehhdahpbbgaaDoor
set_option linter.unusedSimpArgs false
set_option linter.unusedVariables false
set_option maxRecDepth 100000
open Go.RowKit Go.Shelf
theorem SRow.lit1 {w : World} {base : Nat} (s : ByteArray) (hb : base ≤ w.heap.size) (hs : s.size ≤ 9223372036854775807) : SRow (w.alloc (.cells #[.string s] 9)) base (.slice (some ⟨w.heap.size, 0, none⟩) 1 1) [s] :=
  ⟨World.ownsRow_lit (w := w) #[.string s] 1 hb (by simp [maxLen]) rfl, fun x hx => by rw [List.mem_singleton] at hx; rw [hx]; exact hs⟩
theorem src_str_at {w : World} {b : Nat} (s : ByteArray) (h : w.heap[b]? = some (.cells #[.string s] 9 (0, 0))) : Src Tryd.prog 1 49 (.slice (some ⟨b, 0, none⟩) 1 1) [s].length ([s].map .string) w :=
  Src.ofSlice _ Tryd.underlying49 _ _ _ _ rfl (by
    intro j u hu
    match j, hu with
    | 0, hu =>
      simp at hu
      subst hu
      rw [addr_add _ _ rfl, cell_of_row _ _ _ _ _ (0, 0) h]
      rfl) (by intro u hu; simp at hu; subst hu; rfl)
theorem src_rep {w : World} {v : Value} {l : List ByteArray} (h : RepSs w v l) : Src Tryd.prog 1 49 v l.length (l.map .string) w := by
  obtain ⟨a, b, off, cap, rfl, ha, hc, hm, hcell⟩ := h
  cases a with
  | none =>
    have hl0 : l = [] := by
      cases l with
      | nil => rfl
      | cons x l => exact absurd (ha (by simp)).1 (by simp)
    subst hl0
    exact Src.ofNil w Tryd.underlying49 cap
  | some a =>
    refine Src.ofSlice _ Tryd.underlying49 _ _ _ _ (by simp) ?_ (fun u hu => by obtain ⟨_, _, rfl⟩ := List.mem_map.1 hu; rfl)
    intro j u hu
    rw [List.getElem?_map, Option.map_eq_some_iff] at hu
    obtain ⟨s, hs, rfl⟩ := hu
    have hj : j < l.length := by
      rcases Nat.lt_or_ge j l.length with h | h
      · exact h
      · rw [List.getElem?_eq_none h] at hs; cases hs
    have hne : l ≠ [] := by intro e; rw [e] at hj; simp at hj
    obtain ⟨e, hb⟩ := ha hne
    injection e with e
    subst e
    rw [addr_add _ _ rfl]
    rw [List.getElem?_eq_getElem hj] at hs
    injection hs with hs
    subst hs
    exact (hcell j hj).1
theorem kind_kids {t : V} {d : Int} (h : rightB t d = true) (j : Nat) (hj : j < t.kids.length) : t.k = 7 ∨ t.k = 8 ∨ t.k = 9 := by
  rw [rightB_eq] at h
  simp only [Bool.and_eq_true, ownB] at h
  have h3 := h.1.2.2
  by_cases h7 : t.k = 7
  · exact .inl h7
  by_cases h8 : t.k = 8
  · exact .inr (.inl h8)
  by_cases h9 : t.k = 9
  · exact .inr (.inr h9)
  rw [if_neg h7, if_neg h9, if_neg h8, decide_eq_true_eq] at h3
  omega
theorem skip_not8 {k : Int} {all : List V} {i : Nat} (h : ¬ k = 8) : skipP k all i = false := by unfold skipP; simp [h]
theorem skip_even {k : Int} {all : List V} {i : Nat} (h : k = 8) (h2 : i % 2 = 0) : skipP k all i = true := by unfold skipP; simp [h, h2]
theorem skip_odd {k : Int} {all : List V} {i : Nat} (h : k = 8) (h2 : ¬ i % 2 = 0) (hi : i - 1 < all.length) : skipP k all i = decide (all[i - 1].k ≠ 5) := by
  unfold skipP
  rw [List.getD_eq_getElem?_getD, List.getElem?_eq_getElem hi, Option.getD_some]
  simp [h, h2]
theorem stepP_8 {k : Int} {all : List V} {i : Nat} (h : k = 8) (hi : i - 1 < all.length) : stepP k all i = all[i - 1].s := by
  unfold stepP
  rw [if_pos h, List.getD_eq_getElem?_getD, List.getElem?_eq_getElem hi, Option.getD_some]
theorem stepP_7 {k : Int} {all : List V} {i : Nat} (h : k = 7) : stepP k all i = decB i := by unfold stepP; rw [if_neg (by omega), if_pos h]
theorem stepP_9 {k : Int} {all : List V} {i : Nat} (h : k = 9) : stepP k all i = ⟨#[116, 97, 103]⟩ := by unfold stepP; rw [if_neg (by omega), if_neg (by omega)]
def pathsF (t : V) : List ByteArray := if okT t = true then psV t [] else []
theorem pathsF_yes {t : V} (h : okT t = true) : pathsF t = psV t [] := if_pos h
theorem pathsF_no {t : V} (h : okT t = false) : pathsF t = [] := if_neg (by simp [h])
theorem pathsF_len (t : V) : (pathsF t).length ≤ 300 := by
  unfold pathsF
  split
  · rename_i h
    have := psV_len t []
    unfold okT at h
    simp only [Bool.and_eq_true, decide_eq_true_eq] at h
    omega
  · simp
set_option maxHeartbeats 16000000 in
theorem l08Paths_all : ∀ (N : Nat) (t : V) (d : Int) (st : List ByteArray), t.nodes ≤ N → N ≤ 300 → rightB t d = true → t.sz ≤ 1048576 → st.length + N ≤ 1000 → (∀ s ∈ st, s.size ≤ 1048576) → ∀ (sl vs : Value) (w : World), RepS w sl t.kids → RepSs w vs st → Calls Tryd.prog 60 #[t.agg sl, vs] w (StrsRet w (psV t st)) := by
  intro N
  induction N with
  | zero => intro t d st h; rw [V.nodes_eq] at h; omega
  | succ N ih =>
  intro t d st hN hN3 hr htz hst hss sl vs w h0 hv
  obtain ⟨a, b, off, cap, rfl, ha, hc, hm, sls, hel⟩ := h0.toF.opened
  obtain ⟨sa, sb, so, sc, rfl, hsa, hsc, hsm, hsx⟩ := id hv
  have hlen : t.kids.length ≤ 300 := by have := nodess_length t.kids; rw [V.nodes_eq] at hN; omega
  have hkz : szs t.kids ≤ 1048576 := by have := V.sz_eq t; omega
  have HA := Lib.hid ha; have HE := Lib.hid hel; have HV := Lib.hid hv; have HC := Lib.hid hc
  have hslen : st.length ≤ 1000 := by omega
  have IH := Lib.hid (fun (j : Nat) (hj : j < t.kids.length) (step : ByteArray) (hstep : step.size ≤ 1048576) (s1 v1 : Value) (W : World) (hR : RepS W s1 t.kids[j].kids) (hV : RepSs W v1 (st ++ [step])) => ih t.kids[j] (d - 1) (st ++ [step]) (by have h3 := nodes_mem (List.getElem_mem hj); rw [V.nodes_eq] at hN; omega) (by omega) (rightsB_at (right_kids hr) j hj) (by have := szs_mem (List.getElem_mem hj); omega) (by rw [List.length_append, List.length_singleton]; omega) (fun s hs => by
    rcases List.mem_append.1 hs with h | h
    · exact hss s h
    · rw [List.mem_singleton] at h; rw [h]; exact hstep) s1 v1 W hR hV)
  have PPT := Lib.hid (fun (W : World) (hW : Below w.heap.size w W) => PutPath_spec w _ st hv hss W hW)
  have KIND := Lib.hid (fun j hj => kind_kids hr j hj)
  have ACS := Lib.hid (fun (j : Nat) (hj : j < t.kids.length) => accP_step t st j hj)
  have ACL := Lib.hid (fun (j : Nat) (hj : j ≤ t.kids.length) => Nat.le_trans (acc_len t st j hj) (Nat.le_trans hN hN3))
  have ACA := Lib.hid (accP_all t st)
  have KG := Lib.hid (fun (j : Nat) (h : skipP t.k t.kids j = false) (hj : j < t.kids.length) => kidP_go (st := st) h hj)
  have KS := Lib.hid (fun (j : Nat) (h : skipP t.k t.kids j = true) => kidP_skip (st := st) h)
  have SPZ := Lib.hid (fun (j : Nat) (hj : j < t.kids.length) => stepP_sz t.k t.kids j hkz (by omega))
  have PSL := Lib.hid (fun (j : Nat) (hj : j < t.kids.length) (x : List ByteArray) => Nat.le_trans (psV_len t.kids[j] x) (by have h3 := nodes_mem (List.getElem_mem hj); rw [V.nodes_eq] at hN; omega : t.kids[j].nodes ≤ 300))
  have SK8 := Lib.hid (fun (j : Nat) (h8 : t.k = 8) (hj : j < t.kids.length) (h2 : ¬ j % 2 = 0) => skip_odd (all := t.kids) (i := j) h8 h2 (by omega))
  have ST8 := Lib.hid (fun (j : Nat) (h8 : t.k = 8) (hj : j < t.kids.length) => stepP_8 (all := t.kids) (i := j) h8 (by omega))
  have HSS := Lib.hid (show ∀ s ∈ st, s.size ≤ 9223372036854775807 from fun s hs => by have := hss s hs; omega)
  have PTZ := Lib.hid (show (txtB (putL st)).size ≤ 9223372036854775807 from by
    show (putL st).toArray.size ≤ _
    rw [List.size_toArray]; have := putL_len st; omega)
  have AC0 := Lib.hid (accP_zero t st)
  have BX := Lib.hid (Box.new w t.k t.n t.e t.s (.slice a t.kids.length cap) 29)
  have HB0 := Lib.hid (show Below w.heap.size w (w.alloc (.cells #[.int .i64 t.k, .int .i64 t.n, .int .i64 t.e, .string t.s, .slice a t.kids.length cap] 29)) from (Below.refl _ _).alloc (Nat.le_refl _) _)
  clear ha hel h0 ih hr hN hc hm htz hv hsa hsx hss
  obtain ⟨R, hRR⟩ : ∃ R, R = psV t st := ⟨_, rfl⟩
  rw [← hRR] at ACA ⊢
  clear hRR
  unfold V.agg
  go_enter Tryd.func60, Tryd.ntmps60
  go_wp2_with fail
  refine (PPT.out _ HB0.out).mono ?_
  rintro e1 w1 ⟨rfl, hb1⟩
  have BX1 := Lib.hid (BX.out.stay hb1)
  have HB1 := Lib.hid (HB0.out.trans (hb1.mono HB0.out.size))
  have hz1 : w.heap.size + 1 ≤ w1.heap.size := by have := hb1.size; simp at this; omega
  clear hb1 PPT BX
  have R0 := Lib.hid (show SRow (w1.alloc (.cells #[.string (txtB (putL st))] 9)) (w.heap.size + 1) (.slice (some ⟨w1.heap.size, 0, none⟩) 1 1) (accP t st 0) from by rw [AC0.out]; exact SRow.lit1 _ hz1 PTZ.out)
  obtain ⟨W0, hW0⟩ : ∃ W0, W0 = w1.alloc (.cells #[.string (txtB (putL st))] 9) := ⟨_, rfl⟩
  have HBW := Lib.hid (show Below w1.heap.size w1 W0 from by rw [hW0]; exact (Below.refl _ _).alloc (Nat.le_refl _) _)
  have hzW : W0.heap.size = w1.heap.size + 1 := by rw [hW0]; simp
  rw [← hW0] at R0
  have BX0 := Lib.hid (BX1.out.stay HBW.out)
  have HBT := Lib.hid (HB1.out.trans (HBW.out.mono HB1.out.size))
  obtain ⟨x0, x1, x2, x3, x4⟩ := BX1.out.cells

  go_wp2_with fail
  rw [← hW0]
  clear hW0 x0 x1 x2 x3 x4
  go_loopw [5, 6] (fun o ii wr => ∃ (j : Nat) (oa : Option Addr) (on oc : Nat), o = .slice oa on oc ∧ ii = .int .i64 j ∧ j ≤ t.kids.length ∧ Hid (SRow wr (w.heap.size + 1) (.slice oa on oc) (accP t st j)) ∧ Hid (Below (w.heap.size + 1) W0 wr)) (fun _ ii _ => t.kids.length - (intOf ii).toNat)
  case atStart => exact ⟨0, _, _, _, rfl, rfl, by omega, R0, Lib.hid (Below.refl _ _)⟩
  case round =>
    clear R0
    obtain ⟨j, oa, on, oc, rfl, rfl, hj, HO, HBL⟩ := hrel
    obtain ⟨wq, rfl⟩ : ∃ W : World, W = wr := ⟨_, rfl⟩
    have hzr := HBL.out.size
    have HB := Lib.hid (HBT.out.trans (HBL.out.mono (by omega)))
    have HX := Lib.hid (show Box wq w.heap.size t.k t.n t.e t.s (.slice a t.kids.length cap) 29 from (HBL.out.block w.heap.size (by omega)).trans BX0.out)
    by_cases hlt : j < t.kids.length
    · have hne : t.kids ≠ [] := by intro e; rw [e] at hlt; simp at hlt
      obtain ⟨rfl, hbw, -⟩ := HA.out hne
      have hj300 : j ≤ 300 := by omega
      have hhl : t.kids.length ≤ cap := (by
        have := HC.out; exact this)
      have HK5 := Lib.hid ((HE.out j hlt).1.keep (HB.out.block b hbw))
      obtain ⟨ka, kc, hks⟩ := (HE.out j hlt).2.2.slice
      have HKR := Lib.hid (((HE.out j hlt).2.2.stay HB.out).rep)
      rw [hks] at HK5 HKR
      have HVW := Lib.hid (HV.out.keep HB.out)
      have DT := Lib.hid (fun W => DecText_spec j (by omega) W)
      have ACS1 := Lib.hid (ACS.out j hlt)
      have ACLJ := ACL.out j hj
      have hacl : (accP t st j).length ≤ 300 := ACLJ
      have SPJ := SPZ.out j hlt
      have IHJ := Lib.hid (fun (step : ByteArray) (hstep : step.size ≤ 1048576) (v1 : Value) (W : World) (hR : RepS W (.slice ka (t.kids[j]'hlt).kids.length kc) (t.kids[j]'hlt).kids) (hV : RepSs W v1 (st ++ [step])) => IH.out j hlt step hstep (.slice ka (t.kids[j]'hlt).kids.length kc) v1 W hR hV)
      have KGJ := Lib.hid (fun (h : skipP t.k t.kids j = false) => KG.out j h hlt)
      have KSJ := Lib.hid (fun (h : skipP t.k t.kids j = true) => KS.out j h)
      have PSJ := Lib.hid (fun (x : List ByteArray) => PSL.out j hlt x)
      have hkind := KIND.out j hlt
      have SK8J := Lib.hid (fun (h8 : t.k = 8) (h2 : ¬ j % 2 = 0) => SK8.out j h8 hlt h2)
      have ST8J := Lib.hid (fun (h8 : t.k = 8) => ST8.out j h8 hlt)
      have HEP := Lib.hid (fun (h2 : ¬ j % 2 = 0) => show Cells5 wq b (off + (j - 1) * 5) (t.kids[j - 1]'(by omega)) (sls (j - 1)) from (HE.out (j - 1) (by omega)).1.keep (HB.out.block b hbw))
      clear hks IH HE KG KS PSL KIND SK8 ST8 ACS ACL SPZ ACLJ
      generalize hkid : t.kids[j] = kid at *
      have HKID := Lib.hid hkid
      clear hkid
      obtain ⟨x0, x1, x2, x3, x4⟩ := HX.out.cells
      rcases hkind with h7 | h8 | h9
      · have t9 : (t.k == 9) = false := by simp; omega
        have t8 : (t.k == 8) = false := by simp; omega
        have HSK := Lib.hid (skip_not8 (k := t.k) (all := t.kids) (i := j) (by omega))
        have HST := Lib.hid (stepP_7 (k := t.k) (all := t.kids) (i := j) h7)
        rw [HST.out] at SPJ
        clear h7
        go_wp2_with fail
        refine (DT.out _).mono ?_
        rintro e2 w2 ⟨rfl, hw2⟩
        subst hw2
        obtain ⟨wq, rfl⟩ : ∃ W : World, W = w2 := ⟨_, rfl⟩
        go_upto_region 11 with fail
        have hbq : b < wq.heap.size := Nat.lt_of_lt_of_le hbw HB.out.size
        have TC := Lib.hid (show ∀ W' : World, Below wq.heap.size wq W' → W'.cell? ⟨w.heap.size, 4, none⟩ = some (.slice (some ⟨b, off, none⟩) t.kids.length cap) ∧ W'.cell? ⟨b, off + j * 5, none⟩ = some (.int .i64 kid.k) ∧ W'.cell? ⟨b, off + j * 5 + 1, none⟩ = some (.int .i64 kid.n) ∧ W'.cell? ⟨b, off + j * 5 + 2, none⟩ = some (.int .i64 kid.e) ∧ W'.cell? ⟨b, off + j * 5 + 3, none⟩ = some (.string kid.s) ∧ W'.cell? ⟨b, off + j * 5 + 4, none⟩ = some (.slice ka kid.kids.length kc) from fun W' h => by
          obtain ⟨d0, d1, d2, d3, d4⟩ := HK5.out.keep (h.block b hbq)
          exact ⟨(HX.out.stay h).cells.2.2.2.2, d0, d1, d2, d3, d4⟩)
        have HB9 := Lib.hid (show Below wq.heap.size wq wq.drew from (Below.refl _ _).drew)
        have HKP := Lib.hid (HSK.out)
        refine wp_region_held_drew (S := fun W' => W'.cell? ⟨w.heap.size, 4, none⟩ = some (.slice (some ⟨b, off, none⟩) t.kids.length cap) ∧ W'.cell? ⟨b, off + j * 5, none⟩ = some (.int .i64 kid.k) ∧ W'.cell? ⟨b, off + j * 5 + 1, none⟩ = some (.int .i64 kid.n) ∧ W'.cell? ⟨b, off + j * 5 + 2, none⟩ = some (.int .i64 kid.e) ∧ W'.cell? ⟨b, off + j * 5 + 3, none⟩ = some (.string kid.s) ∧ W'.cell? ⟨b, off + j * 5 + 4, none⟩ = some (.slice ka kid.kids.length kc)) (by kernel_rfl) (TC.out _ HB9.out) (fun hHeld => ?_)
        refine wpAnyH_take (i := 0) (v := ?_) rfl (by kernel_rfl) (by kernel_rfl) (by kernel_rfl) (fun _ _ _ h => h) (Or.inl ⟨by rfl, ?_⟩) hHeld ?_
        rotate_left
        · (intro w hSw; (try dsimp only at hSw); (try simp only [List.getElem_toArray, List.getElem_cons_succ, List.getElem_cons_zero]); go_simp <;> with_reducible rfl)
        try simp only [List.getElem_toArray, List.getElem_cons_succ, List.getElem_cons_zero, Act.put, List.setIfInBounds_toArray, List.set_cons_zero, List.set_cons_succ]
        refine wpAnyH_take (i := 1) (v := ?_) rfl (by kernel_rfl) (by kernel_rfl) (by kernel_rfl) (fun _ _ _ h => h) (Or.inl ⟨by rfl, ?_⟩) hHeld ?_
        rotate_left
        · (intro w hSw; (try dsimp only at hSw); (try simp only [List.getElem_toArray, List.getElem_cons_succ, List.getElem_cons_zero]); go_simp <;> with_reducible rfl)
        try simp only [List.getElem_toArray, List.getElem_cons_succ, List.getElem_cons_zero, Act.put, List.setIfInBounds_toArray, List.set_cons_zero, List.set_cons_succ]
        refine wpAnyH_take (i := 2) (v := ?_) rfl (by kernel_rfl) (by kernel_rfl) (by kernel_rfl) (fun _ _ _ h => h) (Or.inl ⟨by rfl, ?_⟩) hHeld ?_
        rotate_left
        · (intro w hSw; (try dsimp only at hSw); (try simp only [List.getElem_toArray, List.getElem_cons_succ, List.getElem_cons_zero]); go_simp <;> with_reducible rfl)
        try simp only [List.getElem_toArray, List.getElem_cons_succ, List.getElem_cons_zero, Act.put, List.setIfInBounds_toArray, List.set_cons_zero, List.set_cons_succ]
        refine wpAnyH_take (i := 3) (v := ?_) rfl (by kernel_rfl) (by kernel_rfl) (by kernel_rfl) (fun _ _ _ h => h) (Or.inl ⟨by rfl, ?_⟩) hHeld ?_
        rotate_left
        · (intro w hSw; (try dsimp only at hSw); (try simp only [List.getElem_toArray, List.getElem_cons_succ, List.getElem_cons_zero]); go_simp <;> with_reducible rfl)
        try simp only [List.getElem_toArray, List.getElem_cons_succ, List.getElem_cons_zero, Act.put, List.setIfInBounds_toArray, List.set_cons_zero, List.set_cons_succ]
        refine wpAnyH_take (i := 4) (v := ?_) rfl (by kernel_rfl) (by kernel_rfl) (by kernel_rfl) (fun _ _ _ h => h) (Or.inl ⟨by rfl, ?_⟩) hHeld ?_
        rotate_left
        · (intro w hSw; (try dsimp only at hSw); (try simp only [List.getElem_toArray, List.getElem_cons_succ, List.getElem_cons_zero]); go_simp <;> with_reducible rfl)
        try simp only [List.getElem_toArray, List.getElem_cons_succ, List.getElem_cons_zero, Act.put, List.setIfInBounds_toArray, List.set_cons_zero, List.set_cons_succ]
        refine wpAnyH_take (i := 5) (v := ?_) rfl (by kernel_rfl) (by kernel_rfl) (by kernel_rfl) (fun _ _ _ h => h) (Or.inl ⟨by rfl, ?_⟩) hHeld ?_
        rotate_left
        · (intro w hSw; (try dsimp only at hSw); (try simp only [List.getElem_toArray, List.getElem_cons_succ, List.getElem_cons_zero]); go_simp <;> with_reducible rfl)
        try simp only [List.getElem_toArray, List.getElem_cons_succ, List.getElem_cons_zero, Act.put, List.setIfInBounds_toArray, List.set_cons_zero, List.set_cons_succ]
        refine wpAnyH_take (i := 7) (v := ?_) rfl (by kernel_rfl) (by kernel_rfl) (by kernel_rfl) (fun _ _ _ h => h) (Or.inl ⟨by rfl, ?_⟩) hHeld ?_
        rotate_left
        · (intro w hSw; (try dsimp only at hSw); (try simp only [List.getElem_toArray, List.getElem_cons_succ, List.getElem_cons_zero]); go_simp <;> with_reducible rfl)
        try simp only [List.getElem_toArray, List.getElem_cons_succ, List.getElem_cons_zero, Act.put, List.setIfInBounds_toArray, List.set_cons_zero, List.set_cons_succ]
        refine wpAnyH_take (i := 9) (v := ?_) rfl (by kernel_rfl) (by kernel_rfl) (by kernel_rfl) (fun _ _ _ h => h) (Or.inl ⟨by rfl, ?_⟩) hHeld ?_
        rotate_left
        · (intro w hSw; (try dsimp only at hSw); (try simp only [List.getElem_toArray, List.getElem_cons_succ, List.getElem_cons_zero]); go_simp <;> with_reducible rfl)
        try simp only [List.getElem_toArray, List.getElem_cons_succ, List.getElem_cons_zero, Act.put, List.setIfInBounds_toArray, List.set_cons_zero, List.set_cons_succ]
        refine wpAnyH_ready (rs := [6, 10]) (by kernel_rfl) (by simp) ?_
        refine AllReadyH.cons rfl (fun K hK => ?_) ?_
        · have HB21 := Lib.hid (show Below wq.heap.size wq (wq.drew.alloc (.cells #[] 9)) from HB9.out.alloc HB9.out.size _)
          have HP21 := Lib.hid (show SRow (wq.drew.alloc (.cells #[] 9)) wq.heap.size (.slice (some ⟨wq.heap.size, 0, none⟩) 0 0) [] from by have h := SRow.made0 (w := wq.drew) (base := wq.heap.size) HB9.out.size; simpa using h)
          go_simp
          refine hK.out _ _ ?_ (fun hHeld => ?_)
          · exact TC.out _ HB21.out
          clear hK K
          try simp only [List.getElem_toArray, List.getElem_cons_succ, List.getElem_cons_zero, Act.put, List.setIfInBounds_toArray, List.set_cons_zero, List.set_cons_succ]
          refine wpAnyH_ready (rs := [8, 10]) (by kernel_rfl) (by simp) ?_
          refine AllReadyH.cons rfl (fun K hK => ?_) ?_
          · have HS22 := Lib.hid (src_rep (HVW.out.keep HB21.out))
            have hzc := HB21.out.size
            refine step_strs rfl _ _ _ rfl wq.heap.size _ [] rfl HP21.out _ rfl st HS22.out HSS.out (by simp; omega) hzc ?_
            intro v22 w22 hrow hg hfr
            obtain ⟨va22, vn22, vc22, rfl⟩ := hrow.slice3
            have HB22 := Lib.hid (HB21.out.grown hg hzc (fun x hx => (HP21.out.lt x hx).1))
            have HP22 := Lib.hid hrow
            clear hrow hg hfr hzc
            refine hK.out _ _ ?_ (fun hHeld => ?_)
            · exact TC.out _ HB22.out
            clear hK K
            try simp only [List.getElem_toArray, List.getElem_cons_succ, List.getElem_cons_zero, Act.put, List.setIfInBounds_toArray, List.set_cons_zero, List.set_cons_succ]
            refine wpAnyH_ready (rs := [10]) (by kernel_rfl) (by simp) ?_
            refine AllReadyH.cons rfl (fun K hK => ?_) ?_
            · have HB23 := Lib.hid (show Below wq.heap.size wq (w22.alloc (.cells #[.string (decB j)] 9)) from HB22.out.alloc HB22.out.size _)
              have HP23 := Lib.hid (HP22.out.stay2 (show Below w22.heap.size w22 (w22.alloc (.cells #[.string (decB j)] 9)) from (Below.refl _ _).alloc (Nat.le_refl _) _))
              have HH23 := Lib.hid (show (w22.alloc (.cells #[.string (decB j)] 9)).heap[w22.heap.size]? = some (.cells #[.string (decB j)] 9 (0, 0)) from by have h := heap_alloc_new w22 (.cells #[.string (decB j)] 9); simpa using h)
              go_simp
              refine hK.out _ _ ?_ (fun hHeld => ?_)
              · exact TC.out _ HB23.out
              clear hK K
              try simp only [List.getElem_toArray, List.getElem_cons_succ, List.getElem_cons_zero, Act.put, List.setIfInBounds_toArray, List.set_cons_zero, List.set_cons_succ]
              refine wpAnyH_ready (rs := [11]) (by kernel_rfl) (by simp) ?_
              refine AllReadyH.cons rfl (fun K hK => ?_) ?_
              · have HS24 := Lib.hid (src_str_at (w := (w22.alloc (.cells #[.string (decB j)] 9))) (b := w22.heap.size) (decB j) HH23.out)
                have hzc := HB23.out.size
                refine step_strs rfl _ _ _ rfl wq.heap.size _ ([] ++ st) rfl HP23.out _ rfl [decB j] HS24.out (fun x hx => by rw [List.mem_singleton] at hx; rw [hx]; omega) (by simp; omega) hzc ?_
                intro v24 w24 hrow hg hfr
                obtain ⟨va24, vn24, vc24, rfl⟩ := hrow.slice3
                have HB24 := Lib.hid (HB23.out.grown hg hzc (fun x hx => (HP23.out.lt x hx).1))
                rw [List.nil_append] at hrow
                have HP24 := Lib.hid hrow
                clear hrow hg hfr hzc
                refine hK.out _ _ ?_ (fun hHeld => ?_)
                · exact TC.out _ HB24.out
                clear hK K
                try simp only [List.getElem_toArray, List.getElem_cons_succ, List.getElem_cons_zero, Act.put, List.setIfInBounds_toArray, List.set_cons_zero, List.set_cons_succ]
                refine wpAnyH_ready (rs := [12]) (by kernel_rfl) (by simp) ?_
                refine AllReadyH.cons rfl (fun K hK => ?_) ?_
                · have CL25 := Lib.hid (IHJ.out (decB j) SPJ _ w24 (HKR.out.keep HB24.out) HP24.out.rep)
                  unfold V.agg at CL25
                  go_simp
                  refine CL25.out.mono ?_
                  rintro e25 w25 ⟨v25, rfl, hrow, hb25⟩
                  obtain ⟨va25, vn25, vc25, rfl⟩ := hrow.slice3
                  have HQ25 := Lib.hid hrow
                  have HB25 := Lib.hid (HB24.out.trans (hb25.mono HB24.out.size))
                  have HO25 := Lib.hid (HO.out.stay2 HB25.out)
                  clear hrow hb25 CL25
                  refine hK.out _ _ ?_ (fun hHeld => ?_)
                  · exact TC.out _ HB25.out
                  clear hK K
                  try simp only [List.getElem_toArray, List.getElem_cons_succ, List.getElem_cons_zero, Act.put, List.setIfInBounds_toArray, List.set_cons_zero, List.set_cons_succ]
                  refine wpAnyH_ready (rs := [13]) (by kernel_rfl) (by simp) ?_
                  refine AllReadyH.cons rfl (fun K hK => ?_) ?_
                  · have hps := PSJ.out (st ++ [decB j])
                    have hzc : w.heap.size + 1 ≤ w25.heap.size := Nat.le_trans (by omega) HB25.out.size
                    refine step_strs rfl _ _ _ rfl (w.heap.size + 1) _ (accP t st j) rfl HO25.out _ rfl (psV kid (st ++ [decB j])) (src_strs HQ25.out) HQ25.out.2 (by omega) hzc ?_
                    intro v26 w26 hrow hg hfr
                    obtain ⟨va26, vn26, vc26, rfl⟩ := hrow.slice3
                    have HB26 := Lib.hid ((HB25.out.mono (show w.heap.size + 1 ≤ wq.heap.size by omega)).grown hg hzc (fun x hx => (HO25.out.lt x hx).1))
                    have HOLD := Lib.hid (fun x (hx : x < wq.heap.size) (hn : (Value.slice oa on oc).ownBlock ≠ some x) => (hg.block x (Nat.lt_of_lt_of_le hx HB25.out.size) (fun e => hn e.symm)).trans (HB25.out.block x hx))
                    have HP26 := Lib.hid hrow
                    clear hrow hg hfr hzc
                    refine hK.out _ _ ?_ (fun hHeld => ?_)
                    · exact ⟨by rw [World.cell?_of_block (a := ⟨w.heap.size, 4, none⟩) (HOLD.out w.heap.size (by omega) (fun e => by have := (HO.out.lt _ e).1; omega))]; exact x4, (HK5.out.keep (HOLD.out b hbq (fun e => by have := (HO.out.lt _ e).1; omega))).1, (HK5.out.keep (HOLD.out b hbq (fun e => by have := (HO.out.lt _ e).1; omega))).2.1, (HK5.out.keep (HOLD.out b hbq (fun e => by have := (HO.out.lt _ e).1; omega))).2.2.1, (HK5.out.keep (HOLD.out b hbq (fun e => by have := (HO.out.lt _ e).1; omega))).2.2.2.1, (HK5.out.keep (HOLD.out b hbq (fun e => by have := (HO.out.lt _ e).1; omega))).2.2.2.2⟩
                    clear hK K
                    try simp only [List.getElem_toArray, List.getElem_cons_succ, List.getElem_cons_zero, Act.put, List.setIfInBounds_toArray, List.set_cons_zero, List.set_cons_succ]
                    refine wpAnyH_take (i := 14) (v := ?_) rfl (by kernel_rfl) (by kernel_rfl) (by kernel_rfl) (fun _ _ _ h => h) (Or.inl ⟨by rfl, ?_⟩) hHeld ?_
                    rotate_left
                    · (intro w hSw; (try dsimp only at hSw); (try simp only [List.getElem_toArray, List.getElem_cons_succ, List.getElem_cons_zero]); go_simp <;> with_reducible rfl)
                    try simp only [List.getElem_toArray, List.getElem_cons_succ, List.getElem_cons_zero, Act.put, List.setIfInBounds_toArray, List.set_cons_zero, List.set_cons_succ]
                    refine wpAnyH_done (by kernel_rfl) ?_ _
                    have HKF := Lib.hid (KGJ.out HSK.out)
                    rw [HST.out] at HKF
                    have FIN := Lib.hid (show SRow w26 (w.heap.size + 1) (.slice va26 vn26 vc26) (accP t st (j + 1)) from by rw [ACS1.out, HKF.out]; exact HP26.out)
                    have FINB := Lib.hid (HBL.out.trans HB26.out)
                    clear x0 x1 x2 x3 x4
                    go_wp2_with fail
                    go_roundw
                    case rel => exact ⟨j + 1, _, _, _, rfl, by go_num, by omega, FIN, FINB⟩
                    case measure => simp [intOf]; omega
                  exact AllReadyH.nil
                exact AllReadyH.nil
              exact AllReadyH.nil
            exact AllReadyH.nil
          refine AllReadyH.cons rfl (fun K hK => ?_) ?_
          · have HB27 := Lib.hid (show Below wq.heap.size wq ((wq.drew.alloc (.cells #[] 9)).alloc (.cells #[.string (decB j)] 9)) from HB21.out.alloc HB21.out.size _)
            have HP27 := Lib.hid (HP21.out.stay2 (show Below (wq.drew.alloc (.cells #[] 9)).heap.size (wq.drew.alloc (.cells #[] 9)) ((wq.drew.alloc (.cells #[] 9)).alloc (.cells #[.string (decB j)] 9)) from (Below.refl _ _).alloc (Nat.le_refl _) _))
            have HH27 := Lib.hid (show ((wq.drew.alloc (.cells #[] 9)).alloc (.cells #[.string (decB j)] 9)).heap[wq.heap.size + 1]? = some (.cells #[.string (decB j)] 9 (0, 0)) from by have h := heap_alloc_new (wq.drew.alloc (.cells #[] 9)) (.cells #[.string (decB j)] 9); simpa using h)
            go_simp
            refine hK.out _ _ ?_ (fun hHeld => ?_)
            · exact TC.out _ HB27.out
            clear hK K
            try simp only [List.getElem_toArray, List.getElem_cons_succ, List.getElem_cons_zero, Act.put, List.setIfInBounds_toArray, List.set_cons_zero, List.set_cons_succ]
            refine wpAnyH_ready (rs := [8]) (by kernel_rfl) (by simp) ?_
            refine AllReadyH.cons rfl (fun K hK => ?_) ?_
            · have HS28 := Lib.hid (src_rep (HVW.out.keep HB27.out))
              have hzc := HB27.out.size
              refine step_strs rfl _ _ _ rfl wq.heap.size _ [] rfl HP27.out _ rfl st HS28.out HSS.out (by simp; omega) hzc ?_
              intro v28 w28 hrow hg hfr
              obtain ⟨va28, vn28, vc28, rfl⟩ := hrow.slice3
              have HB28 := Lib.hid (HB27.out.grown hg hzc (fun x hx => (HP27.out.lt x hx).1))
              have HP28 := Lib.hid hrow
              have HH28 := Lib.hid ((hg.block (wq.heap.size + 1) (lt_of_heap HH27.out) (fun e => by have e2 := Option.some.inj (show some (wq.heap.size + 1) = some (wq.heap.size) from e); omega)).trans HH27.out)
              clear hrow hg hfr hzc
              refine hK.out _ _ ?_ (fun hHeld => ?_)
              · exact TC.out _ HB28.out
              clear hK K
              try simp only [List.getElem_toArray, List.getElem_cons_succ, List.getElem_cons_zero, Act.put, List.setIfInBounds_toArray, List.set_cons_zero, List.set_cons_succ]
              refine wpAnyH_ready (rs := [11]) (by kernel_rfl) (by simp) ?_
              refine AllReadyH.cons rfl (fun K hK => ?_) ?_
              · have HS29 := Lib.hid (src_str_at (w := w28) (b := wq.heap.size + 1) (decB j) HH28.out)
                have hzc := HB28.out.size
                refine step_strs rfl _ _ _ rfl wq.heap.size _ ([] ++ st) rfl HP28.out _ rfl [decB j] HS29.out (fun x hx => by rw [List.mem_singleton] at hx; rw [hx]; omega) (by simp; omega) hzc ?_
                intro v29 w29 hrow hg hfr
                obtain ⟨va29, vn29, vc29, rfl⟩ := hrow.slice3
                have HB29 := Lib.hid (HB28.out.grown hg hzc (fun x hx => (HP28.out.lt x hx).1))
                rw [List.nil_append] at hrow
                have HP29 := Lib.hid hrow
                clear hrow hg hfr hzc
                refine hK.out _ _ ?_ (fun hHeld => ?_)
                · exact TC.out _ HB29.out
                clear hK K
                try simp only [List.getElem_toArray, List.getElem_cons_succ, List.getElem_cons_zero, Act.put, List.setIfInBounds_toArray, List.set_cons_zero, List.set_cons_succ]
                refine wpAnyH_ready (rs := [12]) (by kernel_rfl) (by simp) ?_
                refine AllReadyH.cons rfl (fun K hK => ?_) ?_
                · have CL30 := Lib.hid (IHJ.out (decB j) SPJ _ w29 (HKR.out.keep HB29.out) HP29.out.rep)
                  unfold V.agg at CL30
                  go_simp
                  refine CL30.out.mono ?_
                  rintro e30 w30 ⟨v30, rfl, hrow, hb30⟩
                  obtain ⟨va30, vn30, vc30, rfl⟩ := hrow.slice3
                  have HQ30 := Lib.hid hrow
                  have HB30 := Lib.hid (HB29.out.trans (hb30.mono HB29.out.size))
                  have HO30 := Lib.hid (HO.out.stay2 HB30.out)
                  clear hrow hb30 CL30
                  refine hK.out _ _ ?_ (fun hHeld => ?_)
                  · exact TC.out _ HB30.out
                  clear hK K
                  try simp only [List.getElem_toArray, List.getElem_cons_succ, List.getElem_cons_zero, Act.put, List.setIfInBounds_toArray, List.set_cons_zero, List.set_cons_succ]
                  refine wpAnyH_ready (rs := [13]) (by kernel_rfl) (by simp) ?_
                  refine AllReadyH.cons rfl (fun K hK => ?_) ?_
                  · have hps := PSJ.out (st ++ [decB j])
                    have hzc : w.heap.size + 1 ≤ w30.heap.size := Nat.le_trans (by omega) HB30.out.size
                    refine step_strs rfl _ _ _ rfl (w.heap.size + 1) _ (accP t st j) rfl HO30.out _ rfl (psV kid (st ++ [decB j])) (src_strs HQ30.out) HQ30.out.2 (by omega) hzc ?_
                    intro v31 w31 hrow hg hfr
                    obtain ⟨va31, vn31, vc31, rfl⟩ := hrow.slice3
                    have HB31 := Lib.hid ((HB30.out.mono (show w.heap.size + 1 ≤ wq.heap.size by omega)).grown hg hzc (fun x hx => (HO30.out.lt x hx).1))
                    have HOLD := Lib.hid (fun x (hx : x < wq.heap.size) (hn : (Value.slice oa on oc).ownBlock ≠ some x) => (hg.block x (Nat.lt_of_lt_of_le hx HB30.out.size) (fun e => hn e.symm)).trans (HB30.out.block x hx))
                    have HP31 := Lib.hid hrow
                    clear hrow hg hfr hzc
                    refine hK.out _ _ ?_ (fun hHeld => ?_)
                    · exact ⟨by rw [World.cell?_of_block (a := ⟨w.heap.size, 4, none⟩) (HOLD.out w.heap.size (by omega) (fun e => by have := (HO.out.lt _ e).1; omega))]; exact x4, (HK5.out.keep (HOLD.out b hbq (fun e => by have := (HO.out.lt _ e).1; omega))).1, (HK5.out.keep (HOLD.out b hbq (fun e => by have := (HO.out.lt _ e).1; omega))).2.1, (HK5.out.keep (HOLD.out b hbq (fun e => by have := (HO.out.lt _ e).1; omega))).2.2.1, (HK5.out.keep (HOLD.out b hbq (fun e => by have := (HO.out.lt _ e).1; omega))).2.2.2.1, (HK5.out.keep (HOLD.out b hbq (fun e => by have := (HO.out.lt _ e).1; omega))).2.2.2.2⟩
                    clear hK K
                    try simp only [List.getElem_toArray, List.getElem_cons_succ, List.getElem_cons_zero, Act.put, List.setIfInBounds_toArray, List.set_cons_zero, List.set_cons_succ]
                    refine wpAnyH_take (i := 14) (v := ?_) rfl (by kernel_rfl) (by kernel_rfl) (by kernel_rfl) (fun _ _ _ h => h) (Or.inl ⟨by rfl, ?_⟩) hHeld ?_
                    rotate_left
                    · (intro w hSw; (try dsimp only at hSw); (try simp only [List.getElem_toArray, List.getElem_cons_succ, List.getElem_cons_zero]); go_simp <;> with_reducible rfl)
                    try simp only [List.getElem_toArray, List.getElem_cons_succ, List.getElem_cons_zero, Act.put, List.setIfInBounds_toArray, List.set_cons_zero, List.set_cons_succ]
                    refine wpAnyH_done (by kernel_rfl) ?_ _
                    have HKF := Lib.hid (KGJ.out HSK.out)
                    rw [HST.out] at HKF
                    have FIN := Lib.hid (show SRow w31 (w.heap.size + 1) (.slice va31 vn31 vc31) (accP t st (j + 1)) from by rw [ACS1.out, HKF.out]; exact HP31.out)
                    have FINB := Lib.hid (HBL.out.trans HB31.out)
                    clear x0 x1 x2 x3 x4
                    go_wp2_with fail
                    go_roundw
                    case rel => exact ⟨j + 1, _, _, _, rfl, by go_num, by omega, FIN, FINB⟩
                    case measure => simp [intOf]; omega
                  exact AllReadyH.nil
                exact AllReadyH.nil
              exact AllReadyH.nil
            exact AllReadyH.nil
          exact AllReadyH.nil
        refine AllReadyH.cons rfl (fun K hK => ?_) ?_
        · have HB32 := Lib.hid (show Below wq.heap.size wq (wq.drew.alloc (.cells #[.string (decB j)] 9)) from HB9.out.alloc HB9.out.size _)
          have HH32 := Lib.hid (show (wq.drew.alloc (.cells #[.string (decB j)] 9)).heap[wq.heap.size]? = some (.cells #[.string (decB j)] 9 (0, 0)) from by have h := heap_alloc_new wq.drew (.cells #[.string (decB j)] 9); simpa using h)
          go_simp
          refine hK.out _ _ ?_ (fun hHeld => ?_)
          · exact TC.out _ HB32.out
          clear hK K
          try simp only [List.getElem_toArray, List.getElem_cons_succ, List.getElem_cons_zero, Act.put, List.setIfInBounds_toArray, List.set_cons_zero, List.set_cons_succ]
          refine wpAnyH_ready (rs := [6]) (by kernel_rfl) (by simp) ?_
          refine AllReadyH.cons rfl (fun K hK => ?_) ?_
          · have HB33 := Lib.hid (show Below wq.heap.size wq ((wq.drew.alloc (.cells #[.string (decB j)] 9)).alloc (.cells #[] 9)) from HB32.out.alloc HB32.out.size _)
            have HP33 := Lib.hid (show SRow ((wq.drew.alloc (.cells #[.string (decB j)] 9)).alloc (.cells #[] 9)) wq.heap.size (.slice (some ⟨wq.heap.size + 1, 0, none⟩) 0 0) [] from by have h := SRow.made0 (w := (wq.drew.alloc (.cells #[.string (decB j)] 9))) (base := wq.heap.size) HB32.out.size; simpa using h)
            have HH33 := Lib.hid ((Below.heap_alloc (wq.drew.alloc (.cells #[.string (decB j)] 9)) (.cells #[] 9) (wq.heap.size) (lt_of_heap HH32.out)).trans HH32.out)
            go_simp
            refine hK.out _ _ ?_ (fun hHeld => ?_)
            · exact TC.out _ HB33.out
            clear hK K
            try simp only [List.getElem_toArray, List.getElem_cons_succ, List.getElem_cons_zero, Act.put, List.setIfInBounds_toArray, List.set_cons_zero, List.set_cons_succ]
            refine wpAnyH_ready (rs := [8]) (by kernel_rfl) (by simp) ?_
            refine AllReadyH.cons rfl (fun K hK => ?_) ?_
            · have HS34 := Lib.hid (src_rep (HVW.out.keep HB33.out))
              have hzc := HB33.out.size
              refine step_strs rfl _ _ _ rfl wq.heap.size _ [] rfl HP33.out _ rfl st HS34.out HSS.out (by simp; omega) hzc ?_
              intro v34 w34 hrow hg hfr
              obtain ⟨va34, vn34, vc34, rfl⟩ := hrow.slice3
              have HB34 := Lib.hid (HB33.out.grown hg hzc (fun x hx => (HP33.out.lt x hx).1))
              have HP34 := Lib.hid hrow
              have HH34 := Lib.hid ((hg.block (wq.heap.size) (lt_of_heap HH33.out) (fun e => by have e2 := Option.some.inj (show some (wq.heap.size) = some (wq.heap.size + 1) from e); omega)).trans HH33.out)
              clear hrow hg hfr hzc
              refine hK.out _ _ ?_ (fun hHeld => ?_)
              · exact TC.out _ HB34.out
              clear hK K
              try simp only [List.getElem_toArray, List.getElem_cons_succ, List.getElem_cons_zero, Act.put, List.setIfInBounds_toArray, List.set_cons_zero, List.set_cons_succ]
              refine wpAnyH_ready (rs := [11]) (by kernel_rfl) (by simp) ?_
              refine AllReadyH.cons rfl (fun K hK => ?_) ?_
              · have HS35 := Lib.hid (src_str_at (w := w34) (b := wq.heap.size) (decB j) HH34.out)
                have hzc := HB34.out.size
                refine step_strs rfl _ _ _ rfl wq.heap.size _ ([] ++ st) rfl HP34.out _ rfl [decB j] HS35.out (fun x hx => by rw [List.mem_singleton] at hx; rw [hx]; omega) (by simp; omega) hzc ?_
                intro v35 w35 hrow hg hfr
                obtain ⟨va35, vn35, vc35, rfl⟩ := hrow.slice3
                have HB35 := Lib.hid (HB34.out.grown hg hzc (fun x hx => (HP34.out.lt x hx).1))
                rw [List.nil_append] at hrow
                have HP35 := Lib.hid hrow
                clear hrow hg hfr hzc
                refine hK.out _ _ ?_ (fun hHeld => ?_)
                · exact TC.out _ HB35.out
                clear hK K
                try simp only [List.getElem_toArray, List.getElem_cons_succ, List.getElem_cons_zero, Act.put, List.setIfInBounds_toArray, List.set_cons_zero, List.set_cons_succ]
                refine wpAnyH_ready (rs := [12]) (by kernel_rfl) (by simp) ?_
                refine AllReadyH.cons rfl (fun K hK => ?_) ?_
                · have CL36 := Lib.hid (IHJ.out (decB j) SPJ _ w35 (HKR.out.keep HB35.out) HP35.out.rep)
                  unfold V.agg at CL36
                  go_simp
                  refine CL36.out.mono ?_
                  rintro e36 w36 ⟨v36, rfl, hrow, hb36⟩
                  obtain ⟨va36, vn36, vc36, rfl⟩ := hrow.slice3
                  have HQ36 := Lib.hid hrow
                  have HB36 := Lib.hid (HB35.out.trans (hb36.mono HB35.out.size))
                  have HO36 := Lib.hid (HO.out.stay2 HB36.out)
                  clear hrow hb36 CL36
                  refine hK.out _ _ ?_ (fun hHeld => ?_)
                  · exact TC.out _ HB36.out
                  clear hK K
                  try simp only [List.getElem_toArray, List.getElem_cons_succ, List.getElem_cons_zero, Act.put, List.setIfInBounds_toArray, List.set_cons_zero, List.set_cons_succ]
                  refine wpAnyH_ready (rs := [13]) (by kernel_rfl) (by simp) ?_
                  refine AllReadyH.cons rfl (fun K hK => ?_) ?_
                  · have hps := PSJ.out (st ++ [decB j])
                    have hzc : w.heap.size + 1 ≤ w36.heap.size := Nat.le_trans (by omega) HB36.out.size
                    refine step_strs rfl _ _ _ rfl (w.heap.size + 1) _ (accP t st j) rfl HO36.out _ rfl (psV kid (st ++ [decB j])) (src_strs HQ36.out) HQ36.out.2 (by omega) hzc ?_
                    intro v37 w37 hrow hg hfr
                    obtain ⟨va37, vn37, vc37, rfl⟩ := hrow.slice3
                    have HB37 := Lib.hid ((HB36.out.mono (show w.heap.size + 1 ≤ wq.heap.size by omega)).grown hg hzc (fun x hx => (HO36.out.lt x hx).1))
                    have HOLD := Lib.hid (fun x (hx : x < wq.heap.size) (hn : (Value.slice oa on oc).ownBlock ≠ some x) => (hg.block x (Nat.lt_of_lt_of_le hx HB36.out.size) (fun e => hn e.symm)).trans (HB36.out.block x hx))
                    have HP37 := Lib.hid hrow
                    clear hrow hg hfr hzc
                    refine hK.out _ _ ?_ (fun hHeld => ?_)
                    · exact ⟨by rw [World.cell?_of_block (a := ⟨w.heap.size, 4, none⟩) (HOLD.out w.heap.size (by omega) (fun e => by have := (HO.out.lt _ e).1; omega))]; exact x4, (HK5.out.keep (HOLD.out b hbq (fun e => by have := (HO.out.lt _ e).1; omega))).1, (HK5.out.keep (HOLD.out b hbq (fun e => by have := (HO.out.lt _ e).1; omega))).2.1, (HK5.out.keep (HOLD.out b hbq (fun e => by have := (HO.out.lt _ e).1; omega))).2.2.1, (HK5.out.keep (HOLD.out b hbq (fun e => by have := (HO.out.lt _ e).1; omega))).2.2.2.1, (HK5.out.keep (HOLD.out b hbq (fun e => by have := (HO.out.lt _ e).1; omega))).2.2.2.2⟩
                    clear hK K
                    try simp only [List.getElem_toArray, List.getElem_cons_succ, List.getElem_cons_zero, Act.put, List.setIfInBounds_toArray, List.set_cons_zero, List.set_cons_succ]
                    refine wpAnyH_take (i := 14) (v := ?_) rfl (by kernel_rfl) (by kernel_rfl) (by kernel_rfl) (fun _ _ _ h => h) (Or.inl ⟨by rfl, ?_⟩) hHeld ?_
                    rotate_left
                    · (intro w hSw; (try dsimp only at hSw); (try simp only [List.getElem_toArray, List.getElem_cons_succ, List.getElem_cons_zero]); go_simp <;> with_reducible rfl)
                    try simp only [List.getElem_toArray, List.getElem_cons_succ, List.getElem_cons_zero, Act.put, List.setIfInBounds_toArray, List.set_cons_zero, List.set_cons_succ]
                    refine wpAnyH_done (by kernel_rfl) ?_ _
                    have HKF := Lib.hid (KGJ.out HSK.out)
                    rw [HST.out] at HKF
                    have FIN := Lib.hid (show SRow w37 (w.heap.size + 1) (.slice va37 vn37 vc37) (accP t st (j + 1)) from by rw [ACS1.out, HKF.out]; exact HP37.out)
                    have FINB := Lib.hid (HBL.out.trans HB37.out)
                    clear x0 x1 x2 x3 x4
                    go_wp2_with fail
                    go_roundw
                    case rel => exact ⟨j + 1, _, _, _, rfl, by go_num, by omega, FIN, FINB⟩
                    case measure => simp [intOf]; omega
                  exact AllReadyH.nil
                exact AllReadyH.nil
              exact AllReadyH.nil
            exact AllReadyH.nil
          exact AllReadyH.nil
        exact AllReadyH.nil
      · have t9 : (t.k == 9) = false := by simp; omega
        have t8 : (t.k == 8) = true := by simp [h8]
        by_cases h2 : j % 2 = 0
        · have HKS := Lib.hid (KSJ.out (skip_even h8 h2))
          have te : ((j : Int) % 2 == 0) = true := by simp; omega
          clear h8
          go_wp2_with fail
          refine (DT.out _).mono ?_
          rintro e2 w2 ⟨rfl, hw2⟩
          subst hw2
          have FIN := Lib.hid (show SRow w2 (w.heap.size + 1) (.slice oa on oc) (accP t st (j + 1)) from by rw [ACS1.out, HKS.out, List.append_nil]; exact HO.out)
          go_wp2_with fail
          go_roundw
          case rel => exact ⟨j + 1, _, _, _, rfl, by go_num, by omega, FIN, HBL⟩
          case measure => simp [intOf]; omega
        · have te : ((j : Int) % 2 == 0) = false := by simp; omega
          have hj1 : 1 ≤ j := by omega
          obtain ⟨d0, -, -, d3, -⟩ := HEP.out h2
          have HSKW := Lib.hid (SK8J.out h8 h2)
          have HST := Lib.hid (ST8J.out h8)
          clear h8
          rw [HST.out] at SPJ
          clear SK8J ST8J HEP
          generalize t.kids[j - 1] = pr at *
          by_cases hk5 : pr.k = 5
          · have HSK := Lib.hid (show skipP t.k t.kids j = false from by rw [HSKW.out]; simp [hk5])
            have tk : (pr.k != 5) = false := by simp [hk5]
            clear HSKW hk5
            generalize hst : pr.s = stp at *
            clear hst
            go_wp2_with fail
            refine (DT.out _).mono ?_
            rintro e2 w2 ⟨rfl, hw2⟩
            subst hw2
            obtain ⟨wq, rfl⟩ : ∃ W : World, W = w2 := ⟨_, rfl⟩
            go_upto_region 11 with fail
            have hbq : b < wq.heap.size := Nat.lt_of_lt_of_le hbw HB.out.size
            have TC := Lib.hid (show ∀ W' : World, Below wq.heap.size wq W' → W'.cell? ⟨w.heap.size, 4, none⟩ = some (.slice (some ⟨b, off, none⟩) t.kids.length cap) ∧ W'.cell? ⟨b, off + j * 5, none⟩ = some (.int .i64 kid.k) ∧ W'.cell? ⟨b, off + j * 5 + 1, none⟩ = some (.int .i64 kid.n) ∧ W'.cell? ⟨b, off + j * 5 + 2, none⟩ = some (.int .i64 kid.e) ∧ W'.cell? ⟨b, off + j * 5 + 3, none⟩ = some (.string kid.s) ∧ W'.cell? ⟨b, off + j * 5 + 4, none⟩ = some (.slice ka kid.kids.length kc) from fun W' h => by
              obtain ⟨d0, d1, d2, d3, d4⟩ := HK5.out.keep (h.block b hbq)
              exact ⟨(HX.out.stay h).cells.2.2.2.2, d0, d1, d2, d3, d4⟩)
            have HB9 := Lib.hid (show Below wq.heap.size wq wq.drew from (Below.refl _ _).drew)
            have HKP := Lib.hid (HSK.out)
            refine wp_region_held_drew (S := fun W' => W'.cell? ⟨w.heap.size, 4, none⟩ = some (.slice (some ⟨b, off, none⟩) t.kids.length cap) ∧ W'.cell? ⟨b, off + j * 5, none⟩ = some (.int .i64 kid.k) ∧ W'.cell? ⟨b, off + j * 5 + 1, none⟩ = some (.int .i64 kid.n) ∧ W'.cell? ⟨b, off + j * 5 + 2, none⟩ = some (.int .i64 kid.e) ∧ W'.cell? ⟨b, off + j * 5 + 3, none⟩ = some (.string kid.s) ∧ W'.cell? ⟨b, off + j * 5 + 4, none⟩ = some (.slice ka kid.kids.length kc)) (by kernel_rfl) (TC.out _ HB9.out) (fun hHeld => ?_)
            refine wpAnyH_take (i := 0) (v := ?_) rfl (by kernel_rfl) (by kernel_rfl) (by kernel_rfl) (fun _ _ _ h => h) (Or.inl ⟨by rfl, ?_⟩) hHeld ?_
            rotate_left
            · (intro w hSw; (try dsimp only at hSw); (try simp only [List.getElem_toArray, List.getElem_cons_succ, List.getElem_cons_zero]); go_simp <;> with_reducible rfl)
            try simp only [List.getElem_toArray, List.getElem_cons_succ, List.getElem_cons_zero, Act.put, List.setIfInBounds_toArray, List.set_cons_zero, List.set_cons_succ]
            refine wpAnyH_take (i := 1) (v := ?_) rfl (by kernel_rfl) (by kernel_rfl) (by kernel_rfl) (fun _ _ _ h => h) (Or.inl ⟨by rfl, ?_⟩) hHeld ?_
            rotate_left
            · (intro w hSw; (try dsimp only at hSw); (try simp only [List.getElem_toArray, List.getElem_cons_succ, List.getElem_cons_zero]); go_simp <;> with_reducible rfl)
            try simp only [List.getElem_toArray, List.getElem_cons_succ, List.getElem_cons_zero, Act.put, List.setIfInBounds_toArray, List.set_cons_zero, List.set_cons_succ]
            refine wpAnyH_take (i := 2) (v := ?_) rfl (by kernel_rfl) (by kernel_rfl) (by kernel_rfl) (fun _ _ _ h => h) (Or.inl ⟨by rfl, ?_⟩) hHeld ?_
            rotate_left
            · (intro w hSw; (try dsimp only at hSw); (try simp only [List.getElem_toArray, List.getElem_cons_succ, List.getElem_cons_zero]); go_simp <;> with_reducible rfl)
            try simp only [List.getElem_toArray, List.getElem_cons_succ, List.getElem_cons_zero, Act.put, List.setIfInBounds_toArray, List.set_cons_zero, List.set_cons_succ]
            refine wpAnyH_take (i := 3) (v := ?_) rfl (by kernel_rfl) (by kernel_rfl) (by kernel_rfl) (fun _ _ _ h => h) (Or.inl ⟨by rfl, ?_⟩) hHeld ?_
            rotate_left
            · (intro w hSw; (try dsimp only at hSw); (try simp only [List.getElem_toArray, List.getElem_cons_succ, List.getElem_cons_zero]); go_simp <;> with_reducible rfl)
            try simp only [List.getElem_toArray, List.getElem_cons_succ, List.getElem_cons_zero, Act.put, List.setIfInBounds_toArray, List.set_cons_zero, List.set_cons_succ]
            refine wpAnyH_take (i := 4) (v := ?_) rfl (by kernel_rfl) (by kernel_rfl) (by kernel_rfl) (fun _ _ _ h => h) (Or.inl ⟨by rfl, ?_⟩) hHeld ?_
            rotate_left
            · (intro w hSw; (try dsimp only at hSw); (try simp only [List.getElem_toArray, List.getElem_cons_succ, List.getElem_cons_zero]); go_simp <;> with_reducible rfl)
            try simp only [List.getElem_toArray, List.getElem_cons_succ, List.getElem_cons_zero, Act.put, List.setIfInBounds_toArray, List.set_cons_zero, List.set_cons_succ]
            refine wpAnyH_take (i := 5) (v := ?_) rfl (by kernel_rfl) (by kernel_rfl) (by kernel_rfl) (fun _ _ _ h => h) (Or.inl ⟨by rfl, ?_⟩) hHeld ?_
            rotate_left
            · (intro w hSw; (try dsimp only at hSw); (try simp only [List.getElem_toArray, List.getElem_cons_succ, List.getElem_cons_zero]); go_simp <;> with_reducible rfl)
            try simp only [List.getElem_toArray, List.getElem_cons_succ, List.getElem_cons_zero, Act.put, List.setIfInBounds_toArray, List.set_cons_zero, List.set_cons_succ]
            refine wpAnyH_take (i := 7) (v := ?_) rfl (by kernel_rfl) (by kernel_rfl) (by kernel_rfl) (fun _ _ _ h => h) (Or.inl ⟨by rfl, ?_⟩) hHeld ?_
            rotate_left
            · (intro w hSw; (try dsimp only at hSw); (try simp only [List.getElem_toArray, List.getElem_cons_succ, List.getElem_cons_zero]); go_simp <;> with_reducible rfl)
            try simp only [List.getElem_toArray, List.getElem_cons_succ, List.getElem_cons_zero, Act.put, List.setIfInBounds_toArray, List.set_cons_zero, List.set_cons_succ]
            refine wpAnyH_take (i := 9) (v := ?_) rfl (by kernel_rfl) (by kernel_rfl) (by kernel_rfl) (fun _ _ _ h => h) (Or.inl ⟨by rfl, ?_⟩) hHeld ?_
            rotate_left
            · (intro w hSw; (try dsimp only at hSw); (try simp only [List.getElem_toArray, List.getElem_cons_succ, List.getElem_cons_zero]); go_simp <;> with_reducible rfl)
            try simp only [List.getElem_toArray, List.getElem_cons_succ, List.getElem_cons_zero, Act.put, List.setIfInBounds_toArray, List.set_cons_zero, List.set_cons_succ]
            refine wpAnyH_ready (rs := [6, 10]) (by kernel_rfl) (by simp) ?_
            refine AllReadyH.cons rfl (fun K hK => ?_) ?_
            · have HB38 := Lib.hid (show Below wq.heap.size wq (wq.drew.alloc (.cells #[] 9)) from HB9.out.alloc HB9.out.size _)
              have HP38 := Lib.hid (show SRow (wq.drew.alloc (.cells #[] 9)) wq.heap.size (.slice (some ⟨wq.heap.size, 0, none⟩) 0 0) [] from by have h := SRow.made0 (w := wq.drew) (base := wq.heap.size) HB9.out.size; simpa using h)
              go_simp
              refine hK.out _ _ ?_ (fun hHeld => ?_)
              · exact TC.out _ HB38.out
              clear hK K
              try simp only [List.getElem_toArray, List.getElem_cons_succ, List.getElem_cons_zero, Act.put, List.setIfInBounds_toArray, List.set_cons_zero, List.set_cons_succ]
              refine wpAnyH_ready (rs := [8, 10]) (by kernel_rfl) (by simp) ?_
              refine AllReadyH.cons rfl (fun K hK => ?_) ?_
              · have HS39 := Lib.hid (src_rep (HVW.out.keep HB38.out))
                have hzc := HB38.out.size
                refine step_strs rfl _ _ _ rfl wq.heap.size _ [] rfl HP38.out _ rfl st HS39.out HSS.out (by simp; omega) hzc ?_
                intro v39 w39 hrow hg hfr
                obtain ⟨va39, vn39, vc39, rfl⟩ := hrow.slice3
                have HB39 := Lib.hid (HB38.out.grown hg hzc (fun x hx => (HP38.out.lt x hx).1))
                have HP39 := Lib.hid hrow
                clear hrow hg hfr hzc
                refine hK.out _ _ ?_ (fun hHeld => ?_)
                · exact TC.out _ HB39.out
                clear hK K
                try simp only [List.getElem_toArray, List.getElem_cons_succ, List.getElem_cons_zero, Act.put, List.setIfInBounds_toArray, List.set_cons_zero, List.set_cons_succ]
                refine wpAnyH_ready (rs := [10]) (by kernel_rfl) (by simp) ?_
                refine AllReadyH.cons rfl (fun K hK => ?_) ?_
                · have HB40 := Lib.hid (show Below wq.heap.size wq (w39.alloc (.cells #[.string (stp)] 9)) from HB39.out.alloc HB39.out.size _)
                  have HP40 := Lib.hid (HP39.out.stay2 (show Below w39.heap.size w39 (w39.alloc (.cells #[.string (stp)] 9)) from (Below.refl _ _).alloc (Nat.le_refl _) _))
                  have HH40 := Lib.hid (show (w39.alloc (.cells #[.string (stp)] 9)).heap[w39.heap.size]? = some (.cells #[.string (stp)] 9 (0, 0)) from by have h := heap_alloc_new w39 (.cells #[.string (stp)] 9); simpa using h)
                  go_simp
                  refine hK.out _ _ ?_ (fun hHeld => ?_)
                  · exact TC.out _ HB40.out
                  clear hK K
                  try simp only [List.getElem_toArray, List.getElem_cons_succ, List.getElem_cons_zero, Act.put, List.setIfInBounds_toArray, List.set_cons_zero, List.set_cons_succ]
                  refine wpAnyH_ready (rs := [11]) (by kernel_rfl) (by simp) ?_
                  refine AllReadyH.cons rfl (fun K hK => ?_) ?_
                  · have HS41 := Lib.hid (src_str_at (w := (w39.alloc (.cells #[.string (stp)] 9))) (b := w39.heap.size) (stp) HH40.out)
                    have hzc := HB40.out.size
                    refine step_strs rfl _ _ _ rfl wq.heap.size _ ([] ++ st) rfl HP40.out _ rfl [stp] HS41.out (fun x hx => by rw [List.mem_singleton] at hx; rw [hx]; omega) (by simp; omega) hzc ?_
                    intro v41 w41 hrow hg hfr
                    obtain ⟨va41, vn41, vc41, rfl⟩ := hrow.slice3
                    have HB41 := Lib.hid (HB40.out.grown hg hzc (fun x hx => (HP40.out.lt x hx).1))
                    rw [List.nil_append] at hrow
                    have HP41 := Lib.hid hrow
                    clear hrow hg hfr hzc
                    refine hK.out _ _ ?_ (fun hHeld => ?_)
                    · exact TC.out _ HB41.out
                    clear hK K
                    try simp only [List.getElem_toArray, List.getElem_cons_succ, List.getElem_cons_zero, Act.put, List.setIfInBounds_toArray, List.set_cons_zero, List.set_cons_succ]
                    refine wpAnyH_ready (rs := [12]) (by kernel_rfl) (by simp) ?_
                    refine AllReadyH.cons rfl (fun K hK => ?_) ?_
                    · have CL42 := Lib.hid (IHJ.out (stp) SPJ _ w41 (HKR.out.keep HB41.out) HP41.out.rep)
                      unfold V.agg at CL42
                      go_simp
                      refine CL42.out.mono ?_
                      rintro e42 w42 ⟨v42, rfl, hrow, hb42⟩
                      obtain ⟨va42, vn42, vc42, rfl⟩ := hrow.slice3
                      have HQ42 := Lib.hid hrow
                      have HB42 := Lib.hid (HB41.out.trans (hb42.mono HB41.out.size))
                      have HO42 := Lib.hid (HO.out.stay2 HB42.out)
                      clear hrow hb42 CL42
                      refine hK.out _ _ ?_ (fun hHeld => ?_)
                      · exact TC.out _ HB42.out
                      clear hK K
                      try simp only [List.getElem_toArray, List.getElem_cons_succ, List.getElem_cons_zero, Act.put, List.setIfInBounds_toArray, List.set_cons_zero, List.set_cons_succ]
                      refine wpAnyH_ready (rs := [13]) (by kernel_rfl) (by simp) ?_
                      refine AllReadyH.cons rfl (fun K hK => ?_) ?_
                      · have hps := PSJ.out (st ++ [stp])
                        have hzc : w.heap.size + 1 ≤ w42.heap.size := Nat.le_trans (by omega) HB42.out.size
                        refine step_strs rfl _ _ _ rfl (w.heap.size + 1) _ (accP t st j) rfl HO42.out _ rfl (psV kid (st ++ [stp])) (src_strs HQ42.out) HQ42.out.2 (by omega) hzc ?_
                        intro v43 w43 hrow hg hfr
                        obtain ⟨va43, vn43, vc43, rfl⟩ := hrow.slice3
                        have HB43 := Lib.hid ((HB42.out.mono (show w.heap.size + 1 ≤ wq.heap.size by omega)).grown hg hzc (fun x hx => (HO42.out.lt x hx).1))
                        have HOLD := Lib.hid (fun x (hx : x < wq.heap.size) (hn : (Value.slice oa on oc).ownBlock ≠ some x) => (hg.block x (Nat.lt_of_lt_of_le hx HB42.out.size) (fun e => hn e.symm)).trans (HB42.out.block x hx))
                        have HP43 := Lib.hid hrow
                        clear hrow hg hfr hzc
                        refine hK.out _ _ ?_ (fun hHeld => ?_)
                        · exact ⟨by rw [World.cell?_of_block (a := ⟨w.heap.size, 4, none⟩) (HOLD.out w.heap.size (by omega) (fun e => by have := (HO.out.lt _ e).1; omega))]; exact x4, (HK5.out.keep (HOLD.out b hbq (fun e => by have := (HO.out.lt _ e).1; omega))).1, (HK5.out.keep (HOLD.out b hbq (fun e => by have := (HO.out.lt _ e).1; omega))).2.1, (HK5.out.keep (HOLD.out b hbq (fun e => by have := (HO.out.lt _ e).1; omega))).2.2.1, (HK5.out.keep (HOLD.out b hbq (fun e => by have := (HO.out.lt _ e).1; omega))).2.2.2.1, (HK5.out.keep (HOLD.out b hbq (fun e => by have := (HO.out.lt _ e).1; omega))).2.2.2.2⟩
                        clear hK K
                        try simp only [List.getElem_toArray, List.getElem_cons_succ, List.getElem_cons_zero, Act.put, List.setIfInBounds_toArray, List.set_cons_zero, List.set_cons_succ]
                        refine wpAnyH_take (i := 14) (v := ?_) rfl (by kernel_rfl) (by kernel_rfl) (by kernel_rfl) (fun _ _ _ h => h) (Or.inl ⟨by rfl, ?_⟩) hHeld ?_
                        rotate_left
                        · (intro w hSw; (try dsimp only at hSw); (try simp only [List.getElem_toArray, List.getElem_cons_succ, List.getElem_cons_zero]); go_simp <;> with_reducible rfl)
                        try simp only [List.getElem_toArray, List.getElem_cons_succ, List.getElem_cons_zero, Act.put, List.setIfInBounds_toArray, List.set_cons_zero, List.set_cons_succ]
                        refine wpAnyH_done (by kernel_rfl) ?_ _
                        have HKF := Lib.hid (KGJ.out HSK.out)
                        rw [HST.out] at HKF
                        have FIN := Lib.hid (show SRow w43 (w.heap.size + 1) (.slice va43 vn43 vc43) (accP t st (j + 1)) from by rw [ACS1.out, HKF.out]; exact HP43.out)
                        have FINB := Lib.hid (HBL.out.trans HB43.out)
                        clear x0 x1 x2 x3 x4
                        go_wp2_with fail
                        go_roundw
                        case rel => exact ⟨j + 1, _, _, _, rfl, by go_num, by omega, FIN, FINB⟩
                        case measure => simp [intOf]; omega
                      exact AllReadyH.nil
                    exact AllReadyH.nil
                  exact AllReadyH.nil
                exact AllReadyH.nil
              refine AllReadyH.cons rfl (fun K hK => ?_) ?_
              · have HB44 := Lib.hid (show Below wq.heap.size wq ((wq.drew.alloc (.cells #[] 9)).alloc (.cells #[.string (stp)] 9)) from HB38.out.alloc HB38.out.size _)
                have HP44 := Lib.hid (HP38.out.stay2 (show Below (wq.drew.alloc (.cells #[] 9)).heap.size (wq.drew.alloc (.cells #[] 9)) ((wq.drew.alloc (.cells #[] 9)).alloc (.cells #[.string (stp)] 9)) from (Below.refl _ _).alloc (Nat.le_refl _) _))
                have HH44 := Lib.hid (show ((wq.drew.alloc (.cells #[] 9)).alloc (.cells #[.string (stp)] 9)).heap[wq.heap.size + 1]? = some (.cells #[.string (stp)] 9 (0, 0)) from by have h := heap_alloc_new (wq.drew.alloc (.cells #[] 9)) (.cells #[.string (stp)] 9); simpa using h)
                go_simp
                refine hK.out _ _ ?_ (fun hHeld => ?_)
                · exact TC.out _ HB44.out
                clear hK K
                try simp only [List.getElem_toArray, List.getElem_cons_succ, List.getElem_cons_zero, Act.put, List.setIfInBounds_toArray, List.set_cons_zero, List.set_cons_succ]
                refine wpAnyH_ready (rs := [8]) (by kernel_rfl) (by simp) ?_
                refine AllReadyH.cons rfl (fun K hK => ?_) ?_
                · have HS45 := Lib.hid (src_rep (HVW.out.keep HB44.out))
                  have hzc := HB44.out.size
                  refine step_strs rfl _ _ _ rfl wq.heap.size _ [] rfl HP44.out _ rfl st HS45.out HSS.out (by simp; omega) hzc ?_
                  intro v45 w45 hrow hg hfr
                  obtain ⟨va45, vn45, vc45, rfl⟩ := hrow.slice3
                  have HB45 := Lib.hid (HB44.out.grown hg hzc (fun x hx => (HP44.out.lt x hx).1))
                  have HP45 := Lib.hid hrow
                  have HH45 := Lib.hid ((hg.block (wq.heap.size + 1) (lt_of_heap HH44.out) (fun e => by have e2 := Option.some.inj (show some (wq.heap.size + 1) = some (wq.heap.size) from e); omega)).trans HH44.out)
                  clear hrow hg hfr hzc
                  refine hK.out _ _ ?_ (fun hHeld => ?_)
                  · exact TC.out _ HB45.out
                  clear hK K
                  try simp only [List.getElem_toArray, List.getElem_cons_succ, List.getElem_cons_zero, Act.put, List.setIfInBounds_toArray, List.set_cons_zero, List.set_cons_succ]
                  refine wpAnyH_ready (rs := [11]) (by kernel_rfl) (by simp) ?_
                  refine AllReadyH.cons rfl (fun K hK => ?_) ?_
                  · have HS46 := Lib.hid (src_str_at (w := w45) (b := wq.heap.size + 1) (stp) HH45.out)
                    have hzc := HB45.out.size
                    refine step_strs rfl _ _ _ rfl wq.heap.size _ ([] ++ st) rfl HP45.out _ rfl [stp] HS46.out (fun x hx => by rw [List.mem_singleton] at hx; rw [hx]; omega) (by simp; omega) hzc ?_
                    intro v46 w46 hrow hg hfr
                    obtain ⟨va46, vn46, vc46, rfl⟩ := hrow.slice3
                    have HB46 := Lib.hid (HB45.out.grown hg hzc (fun x hx => (HP45.out.lt x hx).1))
                    rw [List.nil_append] at hrow
                    have HP46 := Lib.hid hrow
                    clear hrow hg hfr hzc
                    refine hK.out _ _ ?_ (fun hHeld => ?_)
                    · exact TC.out _ HB46.out
                    clear hK K
                    try simp only [List.getElem_toArray, List.getElem_cons_succ, List.getElem_cons_zero, Act.put, List.setIfInBounds_toArray, List.set_cons_zero, List.set_cons_succ]
                    refine wpAnyH_ready (rs := [12]) (by kernel_rfl) (by simp) ?_
                    refine AllReadyH.cons rfl (fun K hK => ?_) ?_
                    · have CL47 := Lib.hid (IHJ.out (stp) SPJ _ w46 (HKR.out.keep HB46.out) HP46.out.rep)
                      unfold V.agg at CL47
                      go_simp
                      refine CL47.out.mono ?_
                      rintro e47 w47 ⟨v47, rfl, hrow, hb47⟩
                      obtain ⟨va47, vn47, vc47, rfl⟩ := hrow.slice3
                      have HQ47 := Lib.hid hrow
                      have HB47 := Lib.hid (HB46.out.trans (hb47.mono HB46.out.size))
                      have HO47 := Lib.hid (HO.out.stay2 HB47.out)
                      clear hrow hb47 CL47
                      refine hK.out _ _ ?_ (fun hHeld => ?_)
                      · exact TC.out _ HB47.out
                      clear hK K
                      try simp only [List.getElem_toArray, List.getElem_cons_succ, List.getElem_cons_zero, Act.put, List.setIfInBounds_toArray, List.set_cons_zero, List.set_cons_succ]
                      refine wpAnyH_ready (rs := [13]) (by kernel_rfl) (by simp) ?_
                      refine AllReadyH.cons rfl (fun K hK => ?_) ?_
                      · have hps := PSJ.out (st ++ [stp])
                        have hzc : w.heap.size + 1 ≤ w47.heap.size := Nat.le_trans (by omega) HB47.out.size
                        refine step_strs rfl _ _ _ rfl (w.heap.size + 1) _ (accP t st j) rfl HO47.out _ rfl (psV kid (st ++ [stp])) (src_strs HQ47.out) HQ47.out.2 (by omega) hzc ?_
                        intro v48 w48 hrow hg hfr
                        obtain ⟨va48, vn48, vc48, rfl⟩ := hrow.slice3
                        have HB48 := Lib.hid ((HB47.out.mono (show w.heap.size + 1 ≤ wq.heap.size by omega)).grown hg hzc (fun x hx => (HO47.out.lt x hx).1))
                        have HOLD := Lib.hid (fun x (hx : x < wq.heap.size) (hn : (Value.slice oa on oc).ownBlock ≠ some x) => (hg.block x (Nat.lt_of_lt_of_le hx HB47.out.size) (fun e => hn e.symm)).trans (HB47.out.block x hx))
                        have HP48 := Lib.hid hrow
                        clear hrow hg hfr hzc
                        refine hK.out _ _ ?_ (fun hHeld => ?_)
                        · exact ⟨by rw [World.cell?_of_block (a := ⟨w.heap.size, 4, none⟩) (HOLD.out w.heap.size (by omega) (fun e => by have := (HO.out.lt _ e).1; omega))]; exact x4, (HK5.out.keep (HOLD.out b hbq (fun e => by have := (HO.out.lt _ e).1; omega))).1, (HK5.out.keep (HOLD.out b hbq (fun e => by have := (HO.out.lt _ e).1; omega))).2.1, (HK5.out.keep (HOLD.out b hbq (fun e => by have := (HO.out.lt _ e).1; omega))).2.2.1, (HK5.out.keep (HOLD.out b hbq (fun e => by have := (HO.out.lt _ e).1; omega))).2.2.2.1, (HK5.out.keep (HOLD.out b hbq (fun e => by have := (HO.out.lt _ e).1; omega))).2.2.2.2⟩
                        clear hK K
                        try simp only [List.getElem_toArray, List.getElem_cons_succ, List.getElem_cons_zero, Act.put, List.setIfInBounds_toArray, List.set_cons_zero, List.set_cons_succ]
                        refine wpAnyH_take (i := 14) (v := ?_) rfl (by kernel_rfl) (by kernel_rfl) (by kernel_rfl) (fun _ _ _ h => h) (Or.inl ⟨by rfl, ?_⟩) hHeld ?_
                        rotate_left
                        · (intro w hSw; (try dsimp only at hSw); (try simp only [List.getElem_toArray, List.getElem_cons_succ, List.getElem_cons_zero]); go_simp <;> with_reducible rfl)
                        try simp only [List.getElem_toArray, List.getElem_cons_succ, List.getElem_cons_zero, Act.put, List.setIfInBounds_toArray, List.set_cons_zero, List.set_cons_succ]
                        refine wpAnyH_done (by kernel_rfl) ?_ _
                        have HKF := Lib.hid (KGJ.out HSK.out)
                        rw [HST.out] at HKF
                        have FIN := Lib.hid (show SRow w48 (w.heap.size + 1) (.slice va48 vn48 vc48) (accP t st (j + 1)) from by rw [ACS1.out, HKF.out]; exact HP48.out)
                        have FINB := Lib.hid (HBL.out.trans HB48.out)
                        clear x0 x1 x2 x3 x4
                        go_wp2_with fail
                        go_roundw
                        case rel => exact ⟨j + 1, _, _, _, rfl, by go_num, by omega, FIN, FINB⟩
                        case measure => simp [intOf]; omega
                      exact AllReadyH.nil
                    exact AllReadyH.nil
                  exact AllReadyH.nil
                exact AllReadyH.nil
              exact AllReadyH.nil
            refine AllReadyH.cons rfl (fun K hK => ?_) ?_
            · have HB49 := Lib.hid (show Below wq.heap.size wq (wq.drew.alloc (.cells #[.string (stp)] 9)) from HB9.out.alloc HB9.out.size _)
              have HH49 := Lib.hid (show (wq.drew.alloc (.cells #[.string (stp)] 9)).heap[wq.heap.size]? = some (.cells #[.string (stp)] 9 (0, 0)) from by have h := heap_alloc_new wq.drew (.cells #[.string (stp)] 9); simpa using h)
              go_simp
              refine hK.out _ _ ?_ (fun hHeld => ?_)
              · exact TC.out _ HB49.out
              clear hK K
              try simp only [List.getElem_toArray, List.getElem_cons_succ, List.getElem_cons_zero, Act.put, List.setIfInBounds_toArray, List.set_cons_zero, List.set_cons_succ]
              refine wpAnyH_ready (rs := [6]) (by kernel_rfl) (by simp) ?_
              refine AllReadyH.cons rfl (fun K hK => ?_) ?_
              · have HB50 := Lib.hid (show Below wq.heap.size wq ((wq.drew.alloc (.cells #[.string (stp)] 9)).alloc (.cells #[] 9)) from HB49.out.alloc HB49.out.size _)
                have HP50 := Lib.hid (show SRow ((wq.drew.alloc (.cells #[.string (stp)] 9)).alloc (.cells #[] 9)) wq.heap.size (.slice (some ⟨wq.heap.size + 1, 0, none⟩) 0 0) [] from by have h := SRow.made0 (w := (wq.drew.alloc (.cells #[.string (stp)] 9))) (base := wq.heap.size) HB49.out.size; simpa using h)
                have HH50 := Lib.hid ((Below.heap_alloc (wq.drew.alloc (.cells #[.string (stp)] 9)) (.cells #[] 9) (wq.heap.size) (lt_of_heap HH49.out)).trans HH49.out)
                go_simp
                refine hK.out _ _ ?_ (fun hHeld => ?_)
                · exact TC.out _ HB50.out
                clear hK K
                try simp only [List.getElem_toArray, List.getElem_cons_succ, List.getElem_cons_zero, Act.put, List.setIfInBounds_toArray, List.set_cons_zero, List.set_cons_succ]
                refine wpAnyH_ready (rs := [8]) (by kernel_rfl) (by simp) ?_
                refine AllReadyH.cons rfl (fun K hK => ?_) ?_
                · have HS51 := Lib.hid (src_rep (HVW.out.keep HB50.out))
                  have hzc := HB50.out.size
                  refine step_strs rfl _ _ _ rfl wq.heap.size _ [] rfl HP50.out _ rfl st HS51.out HSS.out (by simp; omega) hzc ?_
                  intro v51 w51 hrow hg hfr
                  obtain ⟨va51, vn51, vc51, rfl⟩ := hrow.slice3
                  have HB51 := Lib.hid (HB50.out.grown hg hzc (fun x hx => (HP50.out.lt x hx).1))
                  have HP51 := Lib.hid hrow
                  have HH51 := Lib.hid ((hg.block (wq.heap.size) (lt_of_heap HH50.out) (fun e => by have e2 := Option.some.inj (show some (wq.heap.size) = some (wq.heap.size + 1) from e); omega)).trans HH50.out)
                  clear hrow hg hfr hzc
                  refine hK.out _ _ ?_ (fun hHeld => ?_)
                  · exact TC.out _ HB51.out
                  clear hK K
                  try simp only [List.getElem_toArray, List.getElem_cons_succ, List.getElem_cons_zero, Act.put, List.setIfInBounds_toArray, List.set_cons_zero, List.set_cons_succ]
                  refine wpAnyH_ready (rs := [11]) (by kernel_rfl) (by simp) ?_
                  refine AllReadyH.cons rfl (fun K hK => ?_) ?_
                  · have HS52 := Lib.hid (src_str_at (w := w51) (b := wq.heap.size) (stp) HH51.out)
                    have hzc := HB51.out.size
                    refine step_strs rfl _ _ _ rfl wq.heap.size _ ([] ++ st) rfl HP51.out _ rfl [stp] HS52.out (fun x hx => by rw [List.mem_singleton] at hx; rw [hx]; omega) (by simp; omega) hzc ?_
                    intro v52 w52 hrow hg hfr
                    obtain ⟨va52, vn52, vc52, rfl⟩ := hrow.slice3
                    have HB52 := Lib.hid (HB51.out.grown hg hzc (fun x hx => (HP51.out.lt x hx).1))
                    rw [List.nil_append] at hrow
                    have HP52 := Lib.hid hrow
                    clear hrow hg hfr hzc
                    refine hK.out _ _ ?_ (fun hHeld => ?_)
                    · exact TC.out _ HB52.out
                    clear hK K
                    try simp only [List.getElem_toArray, List.getElem_cons_succ, List.getElem_cons_zero, Act.put, List.setIfInBounds_toArray, List.set_cons_zero, List.set_cons_succ]
                    refine wpAnyH_ready (rs := [12]) (by kernel_rfl) (by simp) ?_
                    refine AllReadyH.cons rfl (fun K hK => ?_) ?_
                    · have CL53 := Lib.hid (IHJ.out (stp) SPJ _ w52 (HKR.out.keep HB52.out) HP52.out.rep)
                      unfold V.agg at CL53
                      go_simp
                      refine CL53.out.mono ?_
                      rintro e53 w53 ⟨v53, rfl, hrow, hb53⟩
                      obtain ⟨va53, vn53, vc53, rfl⟩ := hrow.slice3
                      have HQ53 := Lib.hid hrow
                      have HB53 := Lib.hid (HB52.out.trans (hb53.mono HB52.out.size))
                      have HO53 := Lib.hid (HO.out.stay2 HB53.out)
                      clear hrow hb53 CL53
                      refine hK.out _ _ ?_ (fun hHeld => ?_)
                      · exact TC.out _ HB53.out
                      clear hK K
                      try simp only [List.getElem_toArray, List.getElem_cons_succ, List.getElem_cons_zero, Act.put, List.setIfInBounds_toArray, List.set_cons_zero, List.set_cons_succ]
                      refine wpAnyH_ready (rs := [13]) (by kernel_rfl) (by simp) ?_
                      refine AllReadyH.cons rfl (fun K hK => ?_) ?_
                      · have hps := PSJ.out (st ++ [stp])
                        have hzc : w.heap.size + 1 ≤ w53.heap.size := Nat.le_trans (by omega) HB53.out.size
                        refine step_strs rfl _ _ _ rfl (w.heap.size + 1) _ (accP t st j) rfl HO53.out _ rfl (psV kid (st ++ [stp])) (src_strs HQ53.out) HQ53.out.2 (by omega) hzc ?_
                        intro v54 w54 hrow hg hfr
                        obtain ⟨va54, vn54, vc54, rfl⟩ := hrow.slice3
                        have HB54 := Lib.hid ((HB53.out.mono (show w.heap.size + 1 ≤ wq.heap.size by omega)).grown hg hzc (fun x hx => (HO53.out.lt x hx).1))
                        have HOLD := Lib.hid (fun x (hx : x < wq.heap.size) (hn : (Value.slice oa on oc).ownBlock ≠ some x) => (hg.block x (Nat.lt_of_lt_of_le hx HB53.out.size) (fun e => hn e.symm)).trans (HB53.out.block x hx))
                        have HP54 := Lib.hid hrow
                        clear hrow hg hfr hzc
                        refine hK.out _ _ ?_ (fun hHeld => ?_)
                        · exact ⟨by rw [World.cell?_of_block (a := ⟨w.heap.size, 4, none⟩) (HOLD.out w.heap.size (by omega) (fun e => by have := (HO.out.lt _ e).1; omega))]; exact x4, (HK5.out.keep (HOLD.out b hbq (fun e => by have := (HO.out.lt _ e).1; omega))).1, (HK5.out.keep (HOLD.out b hbq (fun e => by have := (HO.out.lt _ e).1; omega))).2.1, (HK5.out.keep (HOLD.out b hbq (fun e => by have := (HO.out.lt _ e).1; omega))).2.2.1, (HK5.out.keep (HOLD.out b hbq (fun e => by have := (HO.out.lt _ e).1; omega))).2.2.2.1, (HK5.out.keep (HOLD.out b hbq (fun e => by have := (HO.out.lt _ e).1; omega))).2.2.2.2⟩
                        clear hK K
                        try simp only [List.getElem_toArray, List.getElem_cons_succ, List.getElem_cons_zero, Act.put, List.setIfInBounds_toArray, List.set_cons_zero, List.set_cons_succ]
                        refine wpAnyH_take (i := 14) (v := ?_) rfl (by kernel_rfl) (by kernel_rfl) (by kernel_rfl) (fun _ _ _ h => h) (Or.inl ⟨by rfl, ?_⟩) hHeld ?_
                        rotate_left
                        · (intro w hSw; (try dsimp only at hSw); (try simp only [List.getElem_toArray, List.getElem_cons_succ, List.getElem_cons_zero]); go_simp <;> with_reducible rfl)
                        try simp only [List.getElem_toArray, List.getElem_cons_succ, List.getElem_cons_zero, Act.put, List.setIfInBounds_toArray, List.set_cons_zero, List.set_cons_succ]
                        refine wpAnyH_done (by kernel_rfl) ?_ _
                        have HKF := Lib.hid (KGJ.out HSK.out)
                        rw [HST.out] at HKF
                        have FIN := Lib.hid (show SRow w54 (w.heap.size + 1) (.slice va54 vn54 vc54) (accP t st (j + 1)) from by rw [ACS1.out, HKF.out]; exact HP54.out)
                        have FINB := Lib.hid (HBL.out.trans HB54.out)
                        clear x0 x1 x2 x3 x4
                        go_wp2_with fail
                        go_roundw
                        case rel => exact ⟨j + 1, _, _, _, rfl, by go_num, by omega, FIN, FINB⟩
                        case measure => simp [intOf]; omega
                      exact AllReadyH.nil
                    exact AllReadyH.nil
                  exact AllReadyH.nil
                exact AllReadyH.nil
              exact AllReadyH.nil
            exact AllReadyH.nil
          · have HKS := Lib.hid (KSJ.out (by rw [HSKW.out]; simp [hk5]))
            have tk : (pr.k != 5) = true := by simp [hk5]
            clear HSKW hk5
            go_wp2_with fail
            refine (DT.out _).mono ?_
            rintro e2 w2 ⟨rfl, hw2⟩
            subst hw2
            have FIN := Lib.hid (show SRow w2 (w.heap.size + 1) (.slice oa on oc) (accP t st (j + 1)) from by rw [ACS1.out, HKS.out, List.append_nil]; exact HO.out)
            go_wp2_with fail
            go_roundw
            case rel => exact ⟨j + 1, _, _, _, rfl, by go_num, by omega, FIN, HBL⟩
            case measure => simp [intOf]; omega
      · have t9 : (t.k == 9) = true := by simp [h9]
        have t8 : (t.k == 8) = false := by simp; omega
        have HSK := Lib.hid (skip_not8 (k := t.k) (all := t.kids) (i := j) (by omega))
        have HST := Lib.hid (stepP_9 (k := t.k) (all := t.kids) (i := j) h9)
        rw [HST.out] at SPJ
        clear h9
        go_wp2_with fail
        refine (DT.out _).mono ?_
        rintro e2 w2 ⟨rfl, hw2⟩
        subst hw2
        obtain ⟨wq, rfl⟩ : ∃ W : World, W = w2 := ⟨_, rfl⟩
        go_upto_region 11 with fail
        have hbq : b < wq.heap.size := Nat.lt_of_lt_of_le hbw HB.out.size
        have TC := Lib.hid (show ∀ W' : World, Below wq.heap.size wq W' → W'.cell? ⟨w.heap.size, 4, none⟩ = some (.slice (some ⟨b, off, none⟩) t.kids.length cap) ∧ W'.cell? ⟨b, off + j * 5, none⟩ = some (.int .i64 kid.k) ∧ W'.cell? ⟨b, off + j * 5 + 1, none⟩ = some (.int .i64 kid.n) ∧ W'.cell? ⟨b, off + j * 5 + 2, none⟩ = some (.int .i64 kid.e) ∧ W'.cell? ⟨b, off + j * 5 + 3, none⟩ = some (.string kid.s) ∧ W'.cell? ⟨b, off + j * 5 + 4, none⟩ = some (.slice ka kid.kids.length kc) from fun W' h => by
          obtain ⟨d0, d1, d2, d3, d4⟩ := HK5.out.keep (h.block b hbq)
          exact ⟨(HX.out.stay h).cells.2.2.2.2, d0, d1, d2, d3, d4⟩)
        have HB9 := Lib.hid (show Below wq.heap.size wq wq.drew from (Below.refl _ _).drew)
        have HKP := Lib.hid (HSK.out)
        refine wp_region_held_drew (S := fun W' => W'.cell? ⟨w.heap.size, 4, none⟩ = some (.slice (some ⟨b, off, none⟩) t.kids.length cap) ∧ W'.cell? ⟨b, off + j * 5, none⟩ = some (.int .i64 kid.k) ∧ W'.cell? ⟨b, off + j * 5 + 1, none⟩ = some (.int .i64 kid.n) ∧ W'.cell? ⟨b, off + j * 5 + 2, none⟩ = some (.int .i64 kid.e) ∧ W'.cell? ⟨b, off + j * 5 + 3, none⟩ = some (.string kid.s) ∧ W'.cell? ⟨b, off + j * 5 + 4, none⟩ = some (.slice ka kid.kids.length kc)) (by kernel_rfl) (TC.out _ HB9.out) (fun hHeld => ?_)
        refine wpAnyH_take (i := 0) (v := ?_) rfl (by kernel_rfl) (by kernel_rfl) (by kernel_rfl) (fun _ _ _ h => h) (Or.inl ⟨by rfl, ?_⟩) hHeld ?_
        rotate_left
        · (intro w hSw; (try dsimp only at hSw); (try simp only [List.getElem_toArray, List.getElem_cons_succ, List.getElem_cons_zero]); go_simp <;> with_reducible rfl)
        try simp only [List.getElem_toArray, List.getElem_cons_succ, List.getElem_cons_zero, Act.put, List.setIfInBounds_toArray, List.set_cons_zero, List.set_cons_succ]
        refine wpAnyH_take (i := 1) (v := ?_) rfl (by kernel_rfl) (by kernel_rfl) (by kernel_rfl) (fun _ _ _ h => h) (Or.inl ⟨by rfl, ?_⟩) hHeld ?_
        rotate_left
        · (intro w hSw; (try dsimp only at hSw); (try simp only [List.getElem_toArray, List.getElem_cons_succ, List.getElem_cons_zero]); go_simp <;> with_reducible rfl)
        try simp only [List.getElem_toArray, List.getElem_cons_succ, List.getElem_cons_zero, Act.put, List.setIfInBounds_toArray, List.set_cons_zero, List.set_cons_succ]
        refine wpAnyH_take (i := 2) (v := ?_) rfl (by kernel_rfl) (by kernel_rfl) (by kernel_rfl) (fun _ _ _ h => h) (Or.inl ⟨by rfl, ?_⟩) hHeld ?_
        rotate_left
        · (intro w hSw; (try dsimp only at hSw); (try simp only [List.getElem_toArray, List.getElem_cons_succ, List.getElem_cons_zero]); go_simp <;> with_reducible rfl)
        try simp only [List.getElem_toArray, List.getElem_cons_succ, List.getElem_cons_zero, Act.put, List.setIfInBounds_toArray, List.set_cons_zero, List.set_cons_succ]
        refine wpAnyH_take (i := 3) (v := ?_) rfl (by kernel_rfl) (by kernel_rfl) (by kernel_rfl) (fun _ _ _ h => h) (Or.inl ⟨by rfl, ?_⟩) hHeld ?_
        rotate_left
        · (intro w hSw; (try dsimp only at hSw); (try simp only [List.getElem_toArray, List.getElem_cons_succ, List.getElem_cons_zero]); go_simp <;> with_reducible rfl)
        try simp only [List.getElem_toArray, List.getElem_cons_succ, List.getElem_cons_zero, Act.put, List.setIfInBounds_toArray, List.set_cons_zero, List.set_cons_succ]
        refine wpAnyH_take (i := 4) (v := ?_) rfl (by kernel_rfl) (by kernel_rfl) (by kernel_rfl) (fun _ _ _ h => h) (Or.inl ⟨by rfl, ?_⟩) hHeld ?_
        rotate_left
        · (intro w hSw; (try dsimp only at hSw); (try simp only [List.getElem_toArray, List.getElem_cons_succ, List.getElem_cons_zero]); go_simp <;> with_reducible rfl)
        try simp only [List.getElem_toArray, List.getElem_cons_succ, List.getElem_cons_zero, Act.put, List.setIfInBounds_toArray, List.set_cons_zero, List.set_cons_succ]
        refine wpAnyH_take (i := 5) (v := ?_) rfl (by kernel_rfl) (by kernel_rfl) (by kernel_rfl) (fun _ _ _ h => h) (Or.inl ⟨by rfl, ?_⟩) hHeld ?_
        rotate_left
        · (intro w hSw; (try dsimp only at hSw); (try simp only [List.getElem_toArray, List.getElem_cons_succ, List.getElem_cons_zero]); go_simp <;> with_reducible rfl)
        try simp only [List.getElem_toArray, List.getElem_cons_succ, List.getElem_cons_zero, Act.put, List.setIfInBounds_toArray, List.set_cons_zero, List.set_cons_succ]
        refine wpAnyH_take (i := 7) (v := ?_) rfl (by kernel_rfl) (by kernel_rfl) (by kernel_rfl) (fun _ _ _ h => h) (Or.inl ⟨by rfl, ?_⟩) hHeld ?_
        rotate_left
        · (intro w hSw; (try dsimp only at hSw); (try simp only [List.getElem_toArray, List.getElem_cons_succ, List.getElem_cons_zero]); go_simp <;> with_reducible rfl)
        try simp only [List.getElem_toArray, List.getElem_cons_succ, List.getElem_cons_zero, Act.put, List.setIfInBounds_toArray, List.set_cons_zero, List.set_cons_succ]
        refine wpAnyH_take (i := 9) (v := ?_) rfl (by kernel_rfl) (by kernel_rfl) (by kernel_rfl) (fun _ _ _ h => h) (Or.inl ⟨by rfl, ?_⟩) hHeld ?_
        rotate_left
        · (intro w hSw; (try dsimp only at hSw); (try simp only [List.getElem_toArray, List.getElem_cons_succ, List.getElem_cons_zero]); go_simp <;> with_reducible rfl)
        try simp only [List.getElem_toArray, List.getElem_cons_succ, List.getElem_cons_zero, Act.put, List.setIfInBounds_toArray, List.set_cons_zero, List.set_cons_succ]
        refine wpAnyH_ready (rs := [6, 10]) (by kernel_rfl) (by simp) ?_
        refine AllReadyH.cons rfl (fun K hK => ?_) ?_
        · have HB55 := Lib.hid (show Below wq.heap.size wq (wq.drew.alloc (.cells #[] 9)) from HB9.out.alloc HB9.out.size _)
          have HP55 := Lib.hid (show SRow (wq.drew.alloc (.cells #[] 9)) wq.heap.size (.slice (some ⟨wq.heap.size, 0, none⟩) 0 0) [] from by have h := SRow.made0 (w := wq.drew) (base := wq.heap.size) HB9.out.size; simpa using h)
          go_simp
          refine hK.out _ _ ?_ (fun hHeld => ?_)
          · exact TC.out _ HB55.out
          clear hK K
          try simp only [List.getElem_toArray, List.getElem_cons_succ, List.getElem_cons_zero, Act.put, List.setIfInBounds_toArray, List.set_cons_zero, List.set_cons_succ]
          refine wpAnyH_ready (rs := [8, 10]) (by kernel_rfl) (by simp) ?_
          refine AllReadyH.cons rfl (fun K hK => ?_) ?_
          · have HS56 := Lib.hid (src_rep (HVW.out.keep HB55.out))
            have hzc := HB55.out.size
            refine step_strs rfl _ _ _ rfl wq.heap.size _ [] rfl HP55.out _ rfl st HS56.out HSS.out (by simp; omega) hzc ?_
            intro v56 w56 hrow hg hfr
            obtain ⟨va56, vn56, vc56, rfl⟩ := hrow.slice3
            have HB56 := Lib.hid (HB55.out.grown hg hzc (fun x hx => (HP55.out.lt x hx).1))
            have HP56 := Lib.hid hrow
            clear hrow hg hfr hzc
            refine hK.out _ _ ?_ (fun hHeld => ?_)
            · exact TC.out _ HB56.out
            clear hK K
            try simp only [List.getElem_toArray, List.getElem_cons_succ, List.getElem_cons_zero, Act.put, List.setIfInBounds_toArray, List.set_cons_zero, List.set_cons_succ]
            refine wpAnyH_ready (rs := [10]) (by kernel_rfl) (by simp) ?_
            refine AllReadyH.cons rfl (fun K hK => ?_) ?_
            · have HB57 := Lib.hid (show Below wq.heap.size wq (w56.alloc (.cells #[.string (⟨#[116, 97, 103]⟩)] 9)) from HB56.out.alloc HB56.out.size _)
              have HP57 := Lib.hid (HP56.out.stay2 (show Below w56.heap.size w56 (w56.alloc (.cells #[.string (⟨#[116, 97, 103]⟩)] 9)) from (Below.refl _ _).alloc (Nat.le_refl _) _))
              have HH57 := Lib.hid (show (w56.alloc (.cells #[.string (⟨#[116, 97, 103]⟩)] 9)).heap[w56.heap.size]? = some (.cells #[.string (⟨#[116, 97, 103]⟩)] 9 (0, 0)) from by have h := heap_alloc_new w56 (.cells #[.string (⟨#[116, 97, 103]⟩)] 9); simpa using h)
              go_simp
              refine hK.out _ _ ?_ (fun hHeld => ?_)
              · exact TC.out _ HB57.out
              clear hK K
              try simp only [List.getElem_toArray, List.getElem_cons_succ, List.getElem_cons_zero, Act.put, List.setIfInBounds_toArray, List.set_cons_zero, List.set_cons_succ]
              refine wpAnyH_ready (rs := [11]) (by kernel_rfl) (by simp) ?_
              refine AllReadyH.cons rfl (fun K hK => ?_) ?_
              · have HS58 := Lib.hid (src_str_at (w := (w56.alloc (.cells #[.string (⟨#[116, 97, 103]⟩)] 9))) (b := w56.heap.size) (⟨#[116, 97, 103]⟩) HH57.out)
                have hzc := HB57.out.size
                refine step_strs rfl _ _ _ rfl wq.heap.size _ ([] ++ st) rfl HP57.out _ rfl [⟨#[116, 97, 103]⟩] HS58.out (fun x hx => by rw [List.mem_singleton] at hx; rw [hx]; omega) (by simp; omega) hzc ?_
                intro v58 w58 hrow hg hfr
                obtain ⟨va58, vn58, vc58, rfl⟩ := hrow.slice3
                have HB58 := Lib.hid (HB57.out.grown hg hzc (fun x hx => (HP57.out.lt x hx).1))
                rw [List.nil_append] at hrow
                have HP58 := Lib.hid hrow
                clear hrow hg hfr hzc
                refine hK.out _ _ ?_ (fun hHeld => ?_)
                · exact TC.out _ HB58.out
                clear hK K
                try simp only [List.getElem_toArray, List.getElem_cons_succ, List.getElem_cons_zero, Act.put, List.setIfInBounds_toArray, List.set_cons_zero, List.set_cons_succ]
                refine wpAnyH_ready (rs := [12]) (by kernel_rfl) (by simp) ?_
                refine AllReadyH.cons rfl (fun K hK => ?_) ?_
                · have CL59 := Lib.hid (IHJ.out (⟨#[116, 97, 103]⟩) SPJ _ w58 (HKR.out.keep HB58.out) HP58.out.rep)
                  unfold V.agg at CL59
                  go_simp
                  refine CL59.out.mono ?_
                  rintro e59 w59 ⟨v59, rfl, hrow, hb59⟩
                  obtain ⟨va59, vn59, vc59, rfl⟩ := hrow.slice3
                  have HQ59 := Lib.hid hrow
                  have HB59 := Lib.hid (HB58.out.trans (hb59.mono HB58.out.size))
                  have HO59 := Lib.hid (HO.out.stay2 HB59.out)
                  clear hrow hb59 CL59
                  refine hK.out _ _ ?_ (fun hHeld => ?_)
                  · exact TC.out _ HB59.out
                  clear hK K
                  try simp only [List.getElem_toArray, List.getElem_cons_succ, List.getElem_cons_zero, Act.put, List.setIfInBounds_toArray, List.set_cons_zero, List.set_cons_succ]
                  refine wpAnyH_ready (rs := [13]) (by kernel_rfl) (by simp) ?_
                  refine AllReadyH.cons rfl (fun K hK => ?_) ?_
                  · have hps := PSJ.out (st ++ [⟨#[116, 97, 103]⟩])
                    have hzc : w.heap.size + 1 ≤ w59.heap.size := Nat.le_trans (by omega) HB59.out.size
                    refine step_strs rfl _ _ _ rfl (w.heap.size + 1) _ (accP t st j) rfl HO59.out _ rfl (psV kid (st ++ [⟨#[116, 97, 103]⟩])) (src_strs HQ59.out) HQ59.out.2 (by omega) hzc ?_
                    intro v60 w60 hrow hg hfr
                    obtain ⟨va60, vn60, vc60, rfl⟩ := hrow.slice3
                    have HB60 := Lib.hid ((HB59.out.mono (show w.heap.size + 1 ≤ wq.heap.size by omega)).grown hg hzc (fun x hx => (HO59.out.lt x hx).1))
                    have HOLD := Lib.hid (fun x (hx : x < wq.heap.size) (hn : (Value.slice oa on oc).ownBlock ≠ some x) => (hg.block x (Nat.lt_of_lt_of_le hx HB59.out.size) (fun e => hn e.symm)).trans (HB59.out.block x hx))
                    have HP60 := Lib.hid hrow
                    clear hrow hg hfr hzc
                    refine hK.out _ _ ?_ (fun hHeld => ?_)
                    · exact ⟨by rw [World.cell?_of_block (a := ⟨w.heap.size, 4, none⟩) (HOLD.out w.heap.size (by omega) (fun e => by have := (HO.out.lt _ e).1; omega))]; exact x4, (HK5.out.keep (HOLD.out b hbq (fun e => by have := (HO.out.lt _ e).1; omega))).1, (HK5.out.keep (HOLD.out b hbq (fun e => by have := (HO.out.lt _ e).1; omega))).2.1, (HK5.out.keep (HOLD.out b hbq (fun e => by have := (HO.out.lt _ e).1; omega))).2.2.1, (HK5.out.keep (HOLD.out b hbq (fun e => by have := (HO.out.lt _ e).1; omega))).2.2.2.1, (HK5.out.keep (HOLD.out b hbq (fun e => by have := (HO.out.lt _ e).1; omega))).2.2.2.2⟩
                    clear hK K
                    try simp only [List.getElem_toArray, List.getElem_cons_succ, List.getElem_cons_zero, Act.put, List.setIfInBounds_toArray, List.set_cons_zero, List.set_cons_succ]
                    refine wpAnyH_take (i := 14) (v := ?_) rfl (by kernel_rfl) (by kernel_rfl) (by kernel_rfl) (fun _ _ _ h => h) (Or.inl ⟨by rfl, ?_⟩) hHeld ?_
                    rotate_left
                    · (intro w hSw; (try dsimp only at hSw); (try simp only [List.getElem_toArray, List.getElem_cons_succ, List.getElem_cons_zero]); go_simp <;> with_reducible rfl)
                    try simp only [List.getElem_toArray, List.getElem_cons_succ, List.getElem_cons_zero, Act.put, List.setIfInBounds_toArray, List.set_cons_zero, List.set_cons_succ]
                    refine wpAnyH_done (by kernel_rfl) ?_ _
                    have HKF := Lib.hid (KGJ.out HSK.out)
                    rw [HST.out] at HKF
                    have FIN := Lib.hid (show SRow w60 (w.heap.size + 1) (.slice va60 vn60 vc60) (accP t st (j + 1)) from by rw [ACS1.out, HKF.out]; exact HP60.out)
                    have FINB := Lib.hid (HBL.out.trans HB60.out)
                    clear x0 x1 x2 x3 x4
                    go_wp2_with fail
                    go_roundw
                    case rel => exact ⟨j + 1, _, _, _, rfl, by go_num, by omega, FIN, FINB⟩
                    case measure => simp [intOf]; omega
                  exact AllReadyH.nil
                exact AllReadyH.nil
              exact AllReadyH.nil
            exact AllReadyH.nil
          refine AllReadyH.cons rfl (fun K hK => ?_) ?_
          · have HB61 := Lib.hid (show Below wq.heap.size wq ((wq.drew.alloc (.cells #[] 9)).alloc (.cells #[.string (⟨#[116, 97, 103]⟩)] 9)) from HB55.out.alloc HB55.out.size _)
            have HP61 := Lib.hid (HP55.out.stay2 (show Below (wq.drew.alloc (.cells #[] 9)).heap.size (wq.drew.alloc (.cells #[] 9)) ((wq.drew.alloc (.cells #[] 9)).alloc (.cells #[.string (⟨#[116, 97, 103]⟩)] 9)) from (Below.refl _ _).alloc (Nat.le_refl _) _))
            have HH61 := Lib.hid (show ((wq.drew.alloc (.cells #[] 9)).alloc (.cells #[.string (⟨#[116, 97, 103]⟩)] 9)).heap[wq.heap.size + 1]? = some (.cells #[.string (⟨#[116, 97, 103]⟩)] 9 (0, 0)) from by have h := heap_alloc_new (wq.drew.alloc (.cells #[] 9)) (.cells #[.string (⟨#[116, 97, 103]⟩)] 9); simpa using h)
            go_simp
            refine hK.out _ _ ?_ (fun hHeld => ?_)
            · exact TC.out _ HB61.out
            clear hK K
            try simp only [List.getElem_toArray, List.getElem_cons_succ, List.getElem_cons_zero, Act.put, List.setIfInBounds_toArray, List.set_cons_zero, List.set_cons_succ]
            refine wpAnyH_ready (rs := [8]) (by kernel_rfl) (by simp) ?_
            refine AllReadyH.cons rfl (fun K hK => ?_) ?_
            · have HS62 := Lib.hid (src_rep (HVW.out.keep HB61.out))
              have hzc := HB61.out.size
              refine step_strs rfl _ _ _ rfl wq.heap.size _ [] rfl HP61.out _ rfl st HS62.out HSS.out (by simp; omega) hzc ?_
              intro v62 w62 hrow hg hfr
              obtain ⟨va62, vn62, vc62, rfl⟩ := hrow.slice3
              have HB62 := Lib.hid (HB61.out.grown hg hzc (fun x hx => (HP61.out.lt x hx).1))
              have HP62 := Lib.hid hrow
              have HH62 := Lib.hid ((hg.block (wq.heap.size + 1) (lt_of_heap HH61.out) (fun e => by have e2 := Option.some.inj (show some (wq.heap.size + 1) = some (wq.heap.size) from e); omega)).trans HH61.out)
              clear hrow hg hfr hzc
              refine hK.out _ _ ?_ (fun hHeld => ?_)
              · exact TC.out _ HB62.out
              clear hK K
              try simp only [List.getElem_toArray, List.getElem_cons_succ, List.getElem_cons_zero, Act.put, List.setIfInBounds_toArray, List.set_cons_zero, List.set_cons_succ]
              refine wpAnyH_ready (rs := [11]) (by kernel_rfl) (by simp) ?_
              refine AllReadyH.cons rfl (fun K hK => ?_) ?_
              · have HS63 := Lib.hid (src_str_at (w := w62) (b := wq.heap.size + 1) (⟨#[116, 97, 103]⟩) HH62.out)
                have hzc := HB62.out.size
                refine step_strs rfl _ _ _ rfl wq.heap.size _ ([] ++ st) rfl HP62.out _ rfl [⟨#[116, 97, 103]⟩] HS63.out (fun x hx => by rw [List.mem_singleton] at hx; rw [hx]; omega) (by simp; omega) hzc ?_
                intro v63 w63 hrow hg hfr
                obtain ⟨va63, vn63, vc63, rfl⟩ := hrow.slice3
                have HB63 := Lib.hid (HB62.out.grown hg hzc (fun x hx => (HP62.out.lt x hx).1))
                rw [List.nil_append] at hrow
                have HP63 := Lib.hid hrow
                clear hrow hg hfr hzc
                refine hK.out _ _ ?_ (fun hHeld => ?_)
                · exact TC.out _ HB63.out
                clear hK K
                try simp only [List.getElem_toArray, List.getElem_cons_succ, List.getElem_cons_zero, Act.put, List.setIfInBounds_toArray, List.set_cons_zero, List.set_cons_succ]
                refine wpAnyH_ready (rs := [12]) (by kernel_rfl) (by simp) ?_
                refine AllReadyH.cons rfl (fun K hK => ?_) ?_
                · have CL64 := Lib.hid (IHJ.out (⟨#[116, 97, 103]⟩) SPJ _ w63 (HKR.out.keep HB63.out) HP63.out.rep)
                  unfold V.agg at CL64
                  go_simp
                  refine CL64.out.mono ?_
                  rintro e64 w64 ⟨v64, rfl, hrow, hb64⟩
                  obtain ⟨va64, vn64, vc64, rfl⟩ := hrow.slice3
                  have HQ64 := Lib.hid hrow
                  have HB64 := Lib.hid (HB63.out.trans (hb64.mono HB63.out.size))
                  have HO64 := Lib.hid (HO.out.stay2 HB64.out)
                  clear hrow hb64 CL64
                  refine hK.out _ _ ?_ (fun hHeld => ?_)
                  · exact TC.out _ HB64.out
                  clear hK K
                  try simp only [List.getElem_toArray, List.getElem_cons_succ, List.getElem_cons_zero, Act.put, List.setIfInBounds_toArray, List.set_cons_zero, List.set_cons_succ]
                  refine wpAnyH_ready (rs := [13]) (by kernel_rfl) (by simp) ?_
                  refine AllReadyH.cons rfl (fun K hK => ?_) ?_
                  · have hps := PSJ.out (st ++ [⟨#[116, 97, 103]⟩])
                    have hzc : w.heap.size + 1 ≤ w64.heap.size := Nat.le_trans (by omega) HB64.out.size
                    refine step_strs rfl _ _ _ rfl (w.heap.size + 1) _ (accP t st j) rfl HO64.out _ rfl (psV kid (st ++ [⟨#[116, 97, 103]⟩])) (src_strs HQ64.out) HQ64.out.2 (by omega) hzc ?_
                    intro v65 w65 hrow hg hfr
                    obtain ⟨va65, vn65, vc65, rfl⟩ := hrow.slice3
                    have HB65 := Lib.hid ((HB64.out.mono (show w.heap.size + 1 ≤ wq.heap.size by omega)).grown hg hzc (fun x hx => (HO64.out.lt x hx).1))
                    have HOLD := Lib.hid (fun x (hx : x < wq.heap.size) (hn : (Value.slice oa on oc).ownBlock ≠ some x) => (hg.block x (Nat.lt_of_lt_of_le hx HB64.out.size) (fun e => hn e.symm)).trans (HB64.out.block x hx))
                    have HP65 := Lib.hid hrow
                    clear hrow hg hfr hzc
                    refine hK.out _ _ ?_ (fun hHeld => ?_)
                    · exact ⟨by rw [World.cell?_of_block (a := ⟨w.heap.size, 4, none⟩) (HOLD.out w.heap.size (by omega) (fun e => by have := (HO.out.lt _ e).1; omega))]; exact x4, (HK5.out.keep (HOLD.out b hbq (fun e => by have := (HO.out.lt _ e).1; omega))).1, (HK5.out.keep (HOLD.out b hbq (fun e => by have := (HO.out.lt _ e).1; omega))).2.1, (HK5.out.keep (HOLD.out b hbq (fun e => by have := (HO.out.lt _ e).1; omega))).2.2.1, (HK5.out.keep (HOLD.out b hbq (fun e => by have := (HO.out.lt _ e).1; omega))).2.2.2.1, (HK5.out.keep (HOLD.out b hbq (fun e => by have := (HO.out.lt _ e).1; omega))).2.2.2.2⟩
                    clear hK K
                    try simp only [List.getElem_toArray, List.getElem_cons_succ, List.getElem_cons_zero, Act.put, List.setIfInBounds_toArray, List.set_cons_zero, List.set_cons_succ]
                    refine wpAnyH_take (i := 14) (v := ?_) rfl (by kernel_rfl) (by kernel_rfl) (by kernel_rfl) (fun _ _ _ h => h) (Or.inl ⟨by rfl, ?_⟩) hHeld ?_
                    rotate_left
                    · (intro w hSw; (try dsimp only at hSw); (try simp only [List.getElem_toArray, List.getElem_cons_succ, List.getElem_cons_zero]); go_simp <;> with_reducible rfl)
                    try simp only [List.getElem_toArray, List.getElem_cons_succ, List.getElem_cons_zero, Act.put, List.setIfInBounds_toArray, List.set_cons_zero, List.set_cons_succ]
                    refine wpAnyH_done (by kernel_rfl) ?_ _
                    have HKF := Lib.hid (KGJ.out HSK.out)
                    rw [HST.out] at HKF
                    have FIN := Lib.hid (show SRow w65 (w.heap.size + 1) (.slice va65 vn65 vc65) (accP t st (j + 1)) from by rw [ACS1.out, HKF.out]; exact HP65.out)
                    have FINB := Lib.hid (HBL.out.trans HB65.out)
                    clear x0 x1 x2 x3 x4
                    go_wp2_with fail
                    go_roundw
                    case rel => exact ⟨j + 1, _, _, _, rfl, by go_num, by omega, FIN, FINB⟩
                    case measure => simp [intOf]; omega
                  exact AllReadyH.nil
                exact AllReadyH.nil
              exact AllReadyH.nil
            exact AllReadyH.nil
          exact AllReadyH.nil
        refine AllReadyH.cons rfl (fun K hK => ?_) ?_
        · have HB66 := Lib.hid (show Below wq.heap.size wq (wq.drew.alloc (.cells #[.string (⟨#[116, 97, 103]⟩)] 9)) from HB9.out.alloc HB9.out.size _)
          have HH66 := Lib.hid (show (wq.drew.alloc (.cells #[.string (⟨#[116, 97, 103]⟩)] 9)).heap[wq.heap.size]? = some (.cells #[.string (⟨#[116, 97, 103]⟩)] 9 (0, 0)) from by have h := heap_alloc_new wq.drew (.cells #[.string (⟨#[116, 97, 103]⟩)] 9); simpa using h)
          go_simp
          refine hK.out _ _ ?_ (fun hHeld => ?_)
          · exact TC.out _ HB66.out
          clear hK K
          try simp only [List.getElem_toArray, List.getElem_cons_succ, List.getElem_cons_zero, Act.put, List.setIfInBounds_toArray, List.set_cons_zero, List.set_cons_succ]
          refine wpAnyH_ready (rs := [6]) (by kernel_rfl) (by simp) ?_
          refine AllReadyH.cons rfl (fun K hK => ?_) ?_
          · have HB67 := Lib.hid (show Below wq.heap.size wq ((wq.drew.alloc (.cells #[.string (⟨#[116, 97, 103]⟩)] 9)).alloc (.cells #[] 9)) from HB66.out.alloc HB66.out.size _)
            have HP67 := Lib.hid (show SRow ((wq.drew.alloc (.cells #[.string (⟨#[116, 97, 103]⟩)] 9)).alloc (.cells #[] 9)) wq.heap.size (.slice (some ⟨wq.heap.size + 1, 0, none⟩) 0 0) [] from by have h := SRow.made0 (w := (wq.drew.alloc (.cells #[.string (⟨#[116, 97, 103]⟩)] 9))) (base := wq.heap.size) HB66.out.size; simpa using h)
            have HH67 := Lib.hid ((Below.heap_alloc (wq.drew.alloc (.cells #[.string (⟨#[116, 97, 103]⟩)] 9)) (.cells #[] 9) (wq.heap.size) (lt_of_heap HH66.out)).trans HH66.out)
            go_simp
            refine hK.out _ _ ?_ (fun hHeld => ?_)
            · exact TC.out _ HB67.out
            clear hK K
            try simp only [List.getElem_toArray, List.getElem_cons_succ, List.getElem_cons_zero, Act.put, List.setIfInBounds_toArray, List.set_cons_zero, List.set_cons_succ]
            refine wpAnyH_ready (rs := [8]) (by kernel_rfl) (by simp) ?_
            refine AllReadyH.cons rfl (fun K hK => ?_) ?_
            · have HS68 := Lib.hid (src_rep (HVW.out.keep HB67.out))
              have hzc := HB67.out.size
              refine step_strs rfl _ _ _ rfl wq.heap.size _ [] rfl HP67.out _ rfl st HS68.out HSS.out (by simp; omega) hzc ?_
              intro v68 w68 hrow hg hfr
              obtain ⟨va68, vn68, vc68, rfl⟩ := hrow.slice3
              have HB68 := Lib.hid (HB67.out.grown hg hzc (fun x hx => (HP67.out.lt x hx).1))
              have HP68 := Lib.hid hrow
              have HH68 := Lib.hid ((hg.block (wq.heap.size) (lt_of_heap HH67.out) (fun e => by have e2 := Option.some.inj (show some (wq.heap.size) = some (wq.heap.size + 1) from e); omega)).trans HH67.out)
              clear hrow hg hfr hzc
              refine hK.out _ _ ?_ (fun hHeld => ?_)
              · exact TC.out _ HB68.out
              clear hK K
              try simp only [List.getElem_toArray, List.getElem_cons_succ, List.getElem_cons_zero, Act.put, List.setIfInBounds_toArray, List.set_cons_zero, List.set_cons_succ]
              refine wpAnyH_ready (rs := [11]) (by kernel_rfl) (by simp) ?_
              refine AllReadyH.cons rfl (fun K hK => ?_) ?_
              · have HS69 := Lib.hid (src_str_at (w := w68) (b := wq.heap.size) (⟨#[116, 97, 103]⟩) HH68.out)
                have hzc := HB68.out.size
                refine step_strs rfl _ _ _ rfl wq.heap.size _ ([] ++ st) rfl HP68.out _ rfl [⟨#[116, 97, 103]⟩] HS69.out (fun x hx => by rw [List.mem_singleton] at hx; rw [hx]; omega) (by simp; omega) hzc ?_
                intro v69 w69 hrow hg hfr
                obtain ⟨va69, vn69, vc69, rfl⟩ := hrow.slice3
                have HB69 := Lib.hid (HB68.out.grown hg hzc (fun x hx => (HP68.out.lt x hx).1))
                rw [List.nil_append] at hrow
                have HP69 := Lib.hid hrow
                clear hrow hg hfr hzc
                refine hK.out _ _ ?_ (fun hHeld => ?_)
                · exact TC.out _ HB69.out
                clear hK K
                try simp only [List.getElem_toArray, List.getElem_cons_succ, List.getElem_cons_zero, Act.put, List.setIfInBounds_toArray, List.set_cons_zero, List.set_cons_succ]
                refine wpAnyH_ready (rs := [12]) (by kernel_rfl) (by simp) ?_
                refine AllReadyH.cons rfl (fun K hK => ?_) ?_
                · have CL70 := Lib.hid (IHJ.out (⟨#[116, 97, 103]⟩) SPJ _ w69 (HKR.out.keep HB69.out) HP69.out.rep)
                  unfold V.agg at CL70
                  go_simp
                  refine CL70.out.mono ?_
                  rintro e70 w70 ⟨v70, rfl, hrow, hb70⟩
                  obtain ⟨va70, vn70, vc70, rfl⟩ := hrow.slice3
                  have HQ70 := Lib.hid hrow
                  have HB70 := Lib.hid (HB69.out.trans (hb70.mono HB69.out.size))
                  have HO70 := Lib.hid (HO.out.stay2 HB70.out)
                  clear hrow hb70 CL70
                  refine hK.out _ _ ?_ (fun hHeld => ?_)
                  · exact TC.out _ HB70.out
                  clear hK K
                  try simp only [List.getElem_toArray, List.getElem_cons_succ, List.getElem_cons_zero, Act.put, List.setIfInBounds_toArray, List.set_cons_zero, List.set_cons_succ]
                  refine wpAnyH_ready (rs := [13]) (by kernel_rfl) (by simp) ?_
                  refine AllReadyH.cons rfl (fun K hK => ?_) ?_
                  · have hps := PSJ.out (st ++ [⟨#[116, 97, 103]⟩])
                    have hzc : w.heap.size + 1 ≤ w70.heap.size := Nat.le_trans (by omega) HB70.out.size
                    refine step_strs rfl _ _ _ rfl (w.heap.size + 1) _ (accP t st j) rfl HO70.out _ rfl (psV kid (st ++ [⟨#[116, 97, 103]⟩])) (src_strs HQ70.out) HQ70.out.2 (by omega) hzc ?_
                    intro v71 w71 hrow hg hfr
                    obtain ⟨va71, vn71, vc71, rfl⟩ := hrow.slice3
                    have HB71 := Lib.hid ((HB70.out.mono (show w.heap.size + 1 ≤ wq.heap.size by omega)).grown hg hzc (fun x hx => (HO70.out.lt x hx).1))
                    have HOLD := Lib.hid (fun x (hx : x < wq.heap.size) (hn : (Value.slice oa on oc).ownBlock ≠ some x) => (hg.block x (Nat.lt_of_lt_of_le hx HB70.out.size) (fun e => hn e.symm)).trans (HB70.out.block x hx))
                    have HP71 := Lib.hid hrow
                    clear hrow hg hfr hzc
                    refine hK.out _ _ ?_ (fun hHeld => ?_)
                    · exact ⟨by rw [World.cell?_of_block (a := ⟨w.heap.size, 4, none⟩) (HOLD.out w.heap.size (by omega) (fun e => by have := (HO.out.lt _ e).1; omega))]; exact x4, (HK5.out.keep (HOLD.out b hbq (fun e => by have := (HO.out.lt _ e).1; omega))).1, (HK5.out.keep (HOLD.out b hbq (fun e => by have := (HO.out.lt _ e).1; omega))).2.1, (HK5.out.keep (HOLD.out b hbq (fun e => by have := (HO.out.lt _ e).1; omega))).2.2.1, (HK5.out.keep (HOLD.out b hbq (fun e => by have := (HO.out.lt _ e).1; omega))).2.2.2.1, (HK5.out.keep (HOLD.out b hbq (fun e => by have := (HO.out.lt _ e).1; omega))).2.2.2.2⟩
                    clear hK K
                    try simp only [List.getElem_toArray, List.getElem_cons_succ, List.getElem_cons_zero, Act.put, List.setIfInBounds_toArray, List.set_cons_zero, List.set_cons_succ]
                    refine wpAnyH_take (i := 14) (v := ?_) rfl (by kernel_rfl) (by kernel_rfl) (by kernel_rfl) (fun _ _ _ h => h) (Or.inl ⟨by rfl, ?_⟩) hHeld ?_
                    rotate_left
                    · (intro w hSw; (try dsimp only at hSw); (try simp only [List.getElem_toArray, List.getElem_cons_succ, List.getElem_cons_zero]); go_simp <;> with_reducible rfl)
                    try simp only [List.getElem_toArray, List.getElem_cons_succ, List.getElem_cons_zero, Act.put, List.setIfInBounds_toArray, List.set_cons_zero, List.set_cons_succ]
                    refine wpAnyH_done (by kernel_rfl) ?_ _
                    have HKF := Lib.hid (KGJ.out HSK.out)
                    rw [HST.out] at HKF
                    have FIN := Lib.hid (show SRow w71 (w.heap.size + 1) (.slice va71 vn71 vc71) (accP t st (j + 1)) from by rw [ACS1.out, HKF.out]; exact HP71.out)
                    have FINB := Lib.hid (HBL.out.trans HB71.out)
                    clear x0 x1 x2 x3 x4
                    go_wp2_with fail
                    go_roundw
                    case rel => exact ⟨j + 1, _, _, _, rfl, by go_num, by omega, FIN, FINB⟩
                    case measure => simp [intOf]; omega
                  exact AllReadyH.nil
                exact AllReadyH.nil
              exact AllReadyH.nil
            exact AllReadyH.nil
          exact AllReadyH.nil
        exact AllReadyH.nil
    · have hje : j = t.kids.length := by omega
      subst hje
      obtain ⟨x0, x1, x2, x3, x4⟩ := HX.out.cells
      have HO2 := Lib.hid (show SRow wq (w.heap.size + 1) (.slice oa on oc) R from by have h := HO.out; rw [ACA.out] at h; exact h)
      clear HO IH HE KG KS PSL KIND SK8 ST8 ACS ACL SPZ
      go_wp2_with fail
      go_ret
      exact ⟨_, rfl, HO2.out.lower (by omega), HB.out⟩
set_option maxHeartbeats 1600000 in
theorem Paths_spec (w0 : World) (v : Value) (t : V) (h : Rep w0 v t) (hsz : t.sz ≤ 1048576) (w : World) (hw : Below w0.heap.size w0 w) : Calls Tryd.prog 31 #[v] w (StrsRet w (pathsF t)) := by
  have VO := Lib.hid (fun (W : World) (hW : Below w.heap.size w W) => ValueOk_spec w0 v t h hsz W (hw.trans (hW.mono hw.size)))
  have SY := Lib.hid (@pathsF_yes t)
  have SN := Lib.hid (@pathsF_no t)
  obtain ⟨sl, rfl, hwf, hr⟩ := h
  obtain ⟨sa, sc, rfl⟩ := hr.slice
  have LP := Lib.hid (fun (ho : okT t = true) (W : World) (hW : Below w.heap.size w W) (vs : Value) (hvs : RepSs W vs []) => l08Paths_all 300 t 12 [] (by unfold okT at ho; simp only [Bool.and_eq_true, decide_eq_true_eq] at ho; exact ho.2) (Nat.le_refl _) (by unfold okT at ho; simp only [Bool.and_eq_true, decide_eq_true_eq] at ho; exact ho.1) hsz (by simp) (by simp) (.slice sa t.kids.length sc) vs W (hr.keep (hw.trans (hW.mono hw.size))) hvs)
  clear hr hwf hsz
  have BX := Lib.hid (Box.new w t.k t.n t.e t.s (.slice sa t.kids.length sc) 29)
  unfold V.agg at VO LP ⊢
  generalize psV t [] = P at *
  generalize pathsF t = R at *
  generalize okT t = b at *
  cases b
  all_goals
    go_enter Tryd.func31, Tryd.ntmps31
    go_wp2_with fail
    refine (VO.out _ ((by (with_reducible (repeat' (first | exact Below.refl _ _ | refine below_alloc ?_ _ ?_ | refine Below.setCell ?_ ?_ _ | refine Below.drew ?_ | refine Go.below_drewN ?_ _ | refine below_step ?_ (by assumption) ?_ | refine below_mark ?_ (by assumption) ?_))); all_goals (first | omega | (simp; done) | (simp; omega))))).mono ?_
    rintro x w1 ⟨rfl, hb1⟩
    have HB1 := Lib.hid (show Below w.heap.size w w1 from (by (with_reducible (repeat' (first | exact Below.refl _ _ | refine below_alloc ?_ _ ?_ | refine Below.setCell ?_ ?_ _ | refine Below.drew ?_ | refine Go.below_drewN ?_ _ | refine below_step ?_ (by assumption) ?_ | refine below_mark ?_ (by assumption) ?_))); all_goals (first | omega | (simp; done) | (simp; omega))))
    obtain ⟨p0, p1, p2, p3, p4⟩ := (BX.out.stay hb1).cells
    clear hb1
  · have HN := Lib.hid (SN.out trivial)
    clear LP SY SN
    go_wp2_with fail
    go_ret
    exact ⟨_, rfl, by rw [HN.out]; exact SRow.made0 HB1.out.size, HB1.out.alloc HB1.out.size _⟩
  · have HY := Lib.hid (SY.out trivial)
    have HN0 := Lib.hid (show SRow (w1.alloc (.cells #[] 9)) w1.heap.size (.slice (some ⟨w1.heap.size, 0, none⟩) 0 0) [] from SRow.made0 (Nat.le_refl _))
    have LP1 := Lib.hid (LP.out trivial _ (HB1.out.alloc HB1.out.size (.cells #[] 9)) _ HN0.out.rep)
    have HBA := Lib.hid (HB1.out.alloc HB1.out.size (.cells #[] 9))
    clear LP SY SN
    go_wp2_with fail
    refine LP1.out.mono ?_
    rintro x w2 ⟨v2, rfl, hrow, hb2⟩
    obtain ⟨va, vn, vc, rfl⟩ := hrow.slice3
    have HR2 := Lib.hid (hrow.lower (show w.heap.size ≤ _ from HBA.out.size))
    have HB2 := Lib.hid (HBA.out.trans (hb2.mono HBA.out.size))
    clear hrow hb2
    go_wp2_with fail
    go_ret
    exact ⟨_, rfl, by rw [HY.out]; exact HR2.out, HB2.out⟩
end Go.Proofs.YtfjehhdahpbbgaaDoor
