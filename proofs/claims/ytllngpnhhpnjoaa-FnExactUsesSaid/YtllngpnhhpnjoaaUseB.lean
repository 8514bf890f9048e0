/- The reference's Uses. -/
import Derived.Test.YtllngpnhhpnjoaaUseA
namespace Go.Proofs.Ytllngpnhhpnjoaa
set_option linter.unusedVariables false
set_option maxRecDepth 100000
open Go.RowKit
theorem pres_le_wt : ∀ ts : List V, (pres ts).length ≤ wtL (pres ts) := fun ts => by
  have key : ∀ l : List V, l.length ≤ wtL l := by
    intro l
    induction l with
    | nil => simp
    | cons u us ih => simp only [List.length_cons, wtL]; omega
  exact key _
theorem pres_length_take (ts : List V) (j : Nat) (hj : j < ts.length) : (pres (ts.take j)).length + ts[j].pre.length ≤ (pres ts).length := by
  have h1 := pres_append (ts.take (j + 1)) (ts.drop (j + 1))
  rw [List.take_append_drop] at h1
  rw [h1, pres_take ts j hj]; simp only [List.length_append]; omega
theorem isU_eq (t : V) : isU t = (decide (t.k = 9) && decide (t.n = 6) && decide (t.kids.length = 1) && decide ((t.kids.headD V0).k = 3)) := rfl
set_option maxHeartbeats 4000000 in
theorem Uses_all (w0 : World) : ∀ (N : Nat) (v : Value) (t : V), t.sz < N → Rep w0 v t → t.sz ≤ 1048576 → ∀ (w : World), Below w0.heap.size w0 w → Calls Try.prog 5 #[v] w (AddRet w (usesT t)) := by
  intro N
  induction N with
  | zero => intro v t h; omega
  | succ N ih =>
  intro v t hN h hsz w hw
  obtain ⟨sl, rfl, hwf, hr⟩ := h
  have hts := V.sz_eq t
  have hlen := szs_length t.kids
  obtain ⟨a, b, off, cap, rfl, ha, hc, hm, sls, hel⟩ := hr.opened
  have HA := Lib.hid ha; have HE := Lib.hid hel; have HW := Lib.hid hw
  have V1 := Lib.hid (fun (j : Nat) (hj : j < t.kids.length) (W : World) (hW : Below w0.heap.size w0 W) => ih (t.kids[j].agg (sls j)) t.kids[j] (by have h1 := szs_mem (List.getElem_mem hj); omega) ⟨sls j, rfl, (HE.out j hj).2.1, (HE.out j hj).2.2⟩ (by have h1 := szs_mem (List.getElem_mem hj); omega) W hW)
  have HLN := Lib.hid (fun (j : Nat) (hj : j < t.kids.length) => show (usesTs (t.kids.take j) (if isU t then insU [] (uN t) else [])).length + (usesT t.kids[j]).length ≤ 4194304 by
    have h1 := usesTs_length (t.kids.take j) (if isU t then insU [] (uN t) else [])
    have h2 := usesT_length t.kids[j]
    have h3 : (if isU t then insU [] (uN t) else []).length ≤ 1 := by split <;> simp [insU]
    have h4 := pres_length_take t.kids j hj
    have h5 := wt_pres t.kids
    have h6 := pres_le_wt t.kids
    omega)
  have HRR := Lib.hid (usesT_eq t)
  have HIU := Lib.hid (isU_eq t)
  have HUN := Lib.hid (show uN t = (t.kids.headD V0).n from rfl)
  have hl : t.kids.length ≤ 1048576 := by omega
  have BX := Lib.hid (Box.new w t.k t.n t.e t.s (.slice a t.kids.length cap) 30)
  clear ih hel ha hc hm hN hr hwf hlen hts hsz
  unfold V.agg
  generalize usesT t = R at *
  generalize isU t = iu at *
  generalize uN t = un at *
  generalize t.k = k at *
  generalize t.n = n at *
  generalize t.e = e at *
  generalize t.s = s at *
  generalize t.kids = ts at *
  have R0 := Lib.hid (show IRow ((w.alloc (.cells #[.int .i64 k, .int .i64 n, .int .i64 e, .string s, .slice a ts.length cap] 30)).alloc (.cells #[] 3)) w.heap.size (.slice (some ⟨w.heap.size + 1, 0, none⟩) 0 0) [] by
    have := IRow.made0 (w := w.alloc (.cells #[.int .i64 k, .int .i64 n, .int .i64 e, .string s, .slice a ts.length cap] 30)) (base := w.heap.size) (by simp)
    rwa [show (w.alloc (.cells #[.int .i64 k, .int .i64 n, .int .i64 e, .string s, .slice a ts.length cap] 30)).heap.size = w.heap.size + 1 by simp] at this)
  have BX1 := Lib.hid (BX.out.alloc (.cells #[] 3))
  have HW1 := Lib.hid (show Below w.heap.size w ((w.alloc (.cells #[.int .i64 k, .int .i64 n, .int .i64 e, .string s, .slice a ts.length cap] 30)).alloc (.cells #[] 3)) from (by (repeat' (first | with_reducible exact Below.refl _ _ | with_reducible refine below_alloc ?_ _ ?_ | with_reducible refine Below.setCell ?_ ?_ _ | with_reducible refine Below.drew ?_ | with_reducible refine below_drewN ?_ _ | with_reducible refine below_step ?_ (by assumption) ?_ | with_reducible refine below_mark ?_ (by assumption) ?_)); all_goals (first | omega | (simp; done) | (simp; omega))))
  by_cases hu : k = 9 ∧ n = 6 ∧ ts.length = 1 ∧ (ts.headD V0).k = 3
  · have hiu : iu = true := by rw [HIU.out]; simp only [Bool.and_eq_true, decide_eq_true_eq]; exact ⟨⟨⟨hu.1, hu.2.1⟩, hu.2.2.1⟩, hu.2.2.2⟩
    obtain ⟨h9, h6, h1, h3⟩ := hu
    have t1 : (k == 9) = true := by simpa using h9
    have t2 : (n == 6) = true := by simpa using h6
    have t3 : ((ts.length : Int) == 1) = true := by simp; omega
    have hlt0 : 0 < ts.length := by omega
    have hne : ts ≠ [] := by intro e; rw [e] at hlt0; simp at hlt0
    obtain ⟨O0, hO0⟩ : ∃ O0 : List Int, O0 = insU [] un := ⟨_, rfl⟩
    have hhd : ts.headD V0 = ts[0] := by cases ts with
      | nil => simp at hlt0
      | cons x xs => rfl
    rw [hhd] at h3 HUN
    rw [hiu, if_pos rfl, ← hO0] at HRR HLN
    obtain ⟨haeq, hbw⟩ := HA.out hne
    have hcc := (HE.out 0 hlt0).1.keep (HW.out.block b hbw)
    have t4 : (ts[0].k == 3) = true := by simpa using h3
    obtain ⟨c0, c1, -, -, -⟩ := hcc
    rw [Nat.zero_mul, Nat.add_zero] at c0 c1
    have hbw' : b < w.heap.size := Nat.lt_of_lt_of_le hbw HW.out.size
    have hbn1 : b ≠ w.heap.size := by omega
    have hbn2 : b ≠ w.heap.size + 1 := by omega
    have hl0 : (0 : Int) < (ts.length : Int) := by omega
    have AD := Lib.hid (fun (W : World) (hi : IRep W (.slice (some ⟨w.heap.size + 1, 0, none⟩) 0 0) []) => l12Add_any _ [] un W hi (by simp))
    rw [← hO0] at AD
    rw [← HUN.out] at c1
    generalize ts[0].k = k0 at *
    clear hiu h9 h6 h1 h3 HIU hhd hO0 HUN hne
    subst haeq
    go_enter Try.func5, Try.ntmps5
    go_wp2_with fail
    refine (AD.out _ R0.out.rep).mono ?_
    rintro x w9 ⟨v9, rfl, h9r, hb9⟩
    have H9 := Lib.hid h9r; clear h9r
    have BX2 := Lib.hid (BX1.out.stay hb9)
    have HW2 := Lib.hid (HW1.out.trans (hb9.mono HW1.out.size))
    clear BX1 HW1 R0 AD c0 c1
    have BX1 := BX2; have HW1 := HW2
    clear BX2 HW2
    go_wp2_with fail
    go_loopw [3, 4, 5, 6] (fun u i _ _ wr => ∃ j : Nat, j ≤ ts.length ∧ i = .int .i64 j ∧ IRep wr u (usesTs (ts.take j) O0) ∧ Below w9.heap.size w9 wr) (fun _ i _ _ _ => ts.length + 1 - (intOf i).toNat)
    case atStart => exact ⟨0, by omega, rfl, H9.out, Below.refl _ _⟩
    case round =>
      obtain ⟨j, hj, rfl, hru, hbl⟩ := hrel
      have HRU := Lib.hid hru; clear hru
      obtain ⟨-, -, -, -, p4⟩ := (BX1.out.stay hbl).cells
      have HBL := Lib.hid (HW1.out.trans (hbl.mono HW1.out.size))
      by_cases hlt : j < ts.length
      · have hne : ts ≠ [] := by intro e; rw [e] at hlt; simp at hlt
        obtain ⟨haq, hbw⟩ := HA.out hne
        try subst haq
        have HWR := Lib.hid (HW.out.trans (HBL.out.mono HW.out.size))
        obtain ⟨c0, c1, c2, c3, c4⟩ := (HE.out j hlt).1.keep (HWR.out.block b hbw)
        have VJ := Lib.hid (fun (W : World) (hW : Below wr.heap.size wr W) => V1.out j hlt W (below_step HWR.out hW (by have := HWR.out.size; omega)))
        have HT := Lib.hid (usesTs_take ts O0 j hlt)
        have HLU := Lib.hid (HLN.out j hlt)
        obtain ⟨a3, cap3, hs3⟩ := (HE.out j hlt).2.2.slice
        rw [hs3] at c4 VJ
        clear hs3 V1
        unfold V.agg at VJ
        generalize usesT ts[j] = M at *
        generalize usesTs (ts.take j) O0 = O1 at *
        generalize ts[j] = tk at *
        go_wp2_with fail
        refine (VJ.out _ (Below.refl _ _)).mono ?_
        rintro x w2 ⟨mv, rfl, hm, hb2⟩
        have HM := Lib.hid hm; clear hm
        obtain ⟨ma, mb, moff, mcap, hmv, hma, hmc, hmm, hmcell⟩ := HM.out
        subst hmv
        have HMA := Lib.hid hma; have HMC := Lib.hid hmcell
        clear hma hmcell
        have HO1 := Lib.hid (HRU.out.keep hb2)
        have hm63 : M.length ≤ 9223372036854775807 := by omega
        clear c0 c1 c2 c3 c4 p4
        go_wp2_with fail
        go_loopw [3, 6] (fun u i wx => ∃ q : Nat, q ≤ M.length ∧ i = .int .i64 q ∧ IRep wx u ((M.take q).foldl insU O1) ∧ Below w2.heap.size w2 wx) (fun _ i _ => M.length + 1 - (intOf i).toNat)
        case atStart => exact ⟨0, by omega, rfl, HO1.out, Below.refl _ _⟩
        case round =>
          obtain ⟨q, hq, rfl, hrx, hbx⟩ := hrel
          by_cases hqt : q < M.length
          · have hneM : M ≠ [] := by intro e; rw [e] at hqt; simp at hqt
            obtain ⟨rfl, hmw⟩ := HMA.out hneM
            have d1 : wr.cell? ⟨mb, moff + q, none⟩ = some (.int .i64 M[q]) := by rw [hbx.cell (p := ⟨mb, moff + q, none⟩) hmw]; exact HMC.out q hqt
            have HF := Lib.hid (show (M.take (q + 1)).foldl insU O1 = insU ((M.take q).foldl insU O1) M[q] by rw [List.take_succ_eq_append_getElem hqt, List.foldl_append]; rfl)
            have AD := Lib.hid (l12Add_any _ _ M[q] wr hrx (by have h1 := foldl_length (M.take q) O1; have h2 := HLU.out; rw [List.length_take] at h1; omega))
            obtain ⟨xa, xcap, hxx⟩ := hrx.slice
            subst hxx
            clear hrx
            generalize M[q] = y at *
            generalize (M.take q).foldl insU O1 = O2 at *
            go_wp2_with fail
            refine AD.out.mono ?_
            rintro x w3 ⟨nv, rfl, hn, hb3⟩
            have HN := Lib.hid hn; clear hn
            go_wp2_with fail
            go_roundw
            case rel => exact ⟨q + 1, by omega, by go_num, by rw [HF.out]; exact HN.out, hbx.trans (hb3.mono hbx.size)⟩
            case measure => simp [intOf]; omega
          · have HX := Lib.hid (show M.take q = M from List.take_of_length_le (by omega))
            rw [HX.out] at hrx
            have HRX := Lib.hid hrx; clear hrx
            go_wp2_with fail
            go_roundw
            case rel => exact ⟨j + 1, by omega, by go_num, by rw [HT.out]; exact HRX.out, hbl.trans ((hb2.mono hbl.size).trans (hbx.mono (Nat.le_trans hbl.size hb2.size)))⟩
            case measure => simp [intOf]; omega
      · have HX := Lib.hid (show ts.take j = ts from List.take_of_length_le (by omega))
        have HFR := Lib.hid (show IRep wr u3 R by rw [HRR.out]; have := HRU.out; rwa [HX.out] at this)
        go_wp2_with fail
        go_ret
        exact ⟨_, rfl, HFR.out, HBL.out⟩
  · have hiu : iu = false := by rw [HIU.out]; cases hh : (decide (k = 9) && decide (n = 6) && decide (ts.length = 1) && decide ((ts.headD V0).k = 3)) with
      | false => rfl
      | true => simp only [Bool.and_eq_true, decide_eq_true_eq] at hh; exact absurd ⟨hh.1.1.1, hh.1.1.2, hh.1.2, hh.2⟩ hu
    rw [hiu, if_neg (by simp)] at HRR HLN
    obtain ⟨O0, hO0⟩ : ∃ O0 : List Int, O0 = [] := ⟨_, rfl⟩
    have R9 := Lib.hid (show IRow ((w.alloc (.cells #[.int .i64 k, .int .i64 n, .int .i64 e, .string s, .slice a ts.length cap] 30)).alloc (.cells #[] 3)) w.heap.size (.slice (some ⟨w.heap.size + 1, 0, none⟩) 0 0) O0 by rw [hO0]; exact R0.out)
    rw [← hO0] at HRR HLN
    have hhd : ∀ h : 0 < ts.length, ts.headD V0 = ts[0] := by cases ts with
      | nil => intro h; simp at h
      | cons x xs => intro h; rfl
    obtain ⟨W1, hW1⟩ : ∃ W : World, W = ((w.alloc (.cells #[.int .i64 k, .int .i64 n, .int .i64 e, .string s, .slice a ts.length cap] 30)).alloc (.cells #[] 3)) := ⟨_, rfl⟩
    have key : ((k == 9) = false) ∨ ((k == 9) = true ∧ (n == 6) = false) ∨ ((k == 9) = true ∧ (n == 6) = true ∧ ((ts.length : Int) == 1) = false) ∨ ((k == 9) = true ∧ (n == 6) = true ∧ ((ts.length : Int) == 1) = true ∧ ∃ h : 0 < ts.length, (ts[0].k == 3) = false) := by
      by_cases h9 : k = 9
      · by_cases h6 : n = 6
        · by_cases h1 : ts.length = 1
          · refine .inr (.inr (.inr ⟨by simpa using h9, by simpa using h6, by simp; omega, by omega, ?_⟩))
            have h0 : 0 < ts.length := by omega
            have : ¬ ts[0].k = 3 := fun e => hu ⟨h9, h6, h1, by rw [hhd h0]; exact e⟩
            simpa using this
          · exact .inr (.inr (.inl ⟨by simpa using h9, by simpa using h6, by simp; omega⟩))
        · exact .inr (.inl ⟨by simpa using h9, by simpa using h6⟩)
      · exact .inl (by simpa using h9)
    clear hiu HIU hO0 HUN hhd hu R0
    rcases key with t1 | ⟨t1, t2⟩ | ⟨t1, t2, t3⟩ | ⟨t1, t2, t3, hlt0, t4⟩
    case inr.inr.inr =>
      have hne : ts ≠ [] := by intro e; rw [e] at hlt0; simp at hlt0
      obtain ⟨haeq, hbw⟩ := HA.out hne
      have hcc := (HE.out 0 hlt0).1.keep (HW.out.block b hbw)
      obtain ⟨c0, -, -, -, -⟩ := hcc
      rw [Nat.zero_mul, Nat.add_zero] at c0
      have hbw' : b < w.heap.size := Nat.lt_of_lt_of_le hbw HW.out.size
      have hbn1 : b ≠ w.heap.size := by omega
      have hbn2 : b ≠ w.heap.size + 1 := by omega
      have hl0 : (0 : Int) < (ts.length : Int) := by omega
      generalize ts[0].k = k0 at *
      subst haeq
      clear hne
      go_enter Try.func5, Try.ntmps5
      go_wp2_with fail
      rw [← hW1] at R9 BX1 HW1
      simp only [← hW1]
      clear hW1 c0
      go_loopw [3, 4, 5, 6] (fun u i _ _ wr => ∃ j : Nat, j ≤ ts.length ∧ i = .int .i64 j ∧ IRep wr u (usesTs (ts.take j) O0) ∧ Below W1.heap.size W1 wr) (fun _ i _ _ _ => ts.length + 1 - (intOf i).toNat)
      case atStart => exact ⟨0, by omega, rfl, R9.out.rep, Below.refl _ _⟩
      case round =>
        obtain ⟨j, hj, rfl, hru, hbl⟩ := hrel
        have HRU := Lib.hid hru; clear hru
        obtain ⟨-, -, -, -, p4⟩ := (BX1.out.stay hbl).cells
        have HBL := Lib.hid (HW1.out.trans (hbl.mono HW1.out.size))
        by_cases hlt : j < ts.length
        · have hne : ts ≠ [] := by intro e; rw [e] at hlt; simp at hlt
          obtain ⟨haq, hbw⟩ := HA.out hne
          try subst haq
          have HWR := Lib.hid (HW.out.trans (HBL.out.mono HW.out.size))
          obtain ⟨c0, c1, c2, c3, c4⟩ := (HE.out j hlt).1.keep (HWR.out.block b hbw)
          have VJ := Lib.hid (fun (W : World) (hW : Below wr.heap.size wr W) => V1.out j hlt W (below_step HWR.out hW (by have := HWR.out.size; omega)))
          have HT := Lib.hid (usesTs_take ts O0 j hlt)
          have HLU := Lib.hid (HLN.out j hlt)
          obtain ⟨a3, cap3, hs3⟩ := (HE.out j hlt).2.2.slice
          rw [hs3] at c4 VJ
          clear hs3 V1
          unfold V.agg at VJ
          generalize usesT ts[j] = M at *
          generalize usesTs (ts.take j) O0 = O1 at *
          generalize ts[j] = tk at *
          go_wp2_with fail
          refine (VJ.out _ (Below.refl _ _)).mono ?_
          rintro x w2 ⟨mv, rfl, hm, hb2⟩
          have HM := Lib.hid hm; clear hm
          obtain ⟨ma, mb, moff, mcap, hmv, hma, hmc, hmm, hmcell⟩ := HM.out
          subst hmv
          have HMA := Lib.hid hma; have HMC := Lib.hid hmcell
          clear hma hmcell
          have HO1 := Lib.hid (HRU.out.keep hb2)
          have hm63 : M.length ≤ 9223372036854775807 := by omega
          clear c0 c1 c2 c3 c4 p4
          go_wp2_with fail
          go_loopw [3, 6] (fun u i wx => ∃ q : Nat, q ≤ M.length ∧ i = .int .i64 q ∧ IRep wx u ((M.take q).foldl insU O1) ∧ Below w2.heap.size w2 wx) (fun _ i _ => M.length + 1 - (intOf i).toNat)
          case atStart => exact ⟨0, by omega, rfl, HO1.out, Below.refl _ _⟩
          case round =>
            obtain ⟨q, hq, rfl, hrx, hbx⟩ := hrel
            by_cases hqt : q < M.length
            · have hneM : M ≠ [] := by intro e; rw [e] at hqt; simp at hqt
              obtain ⟨rfl, hmw⟩ := HMA.out hneM
              have d1 : wr.cell? ⟨mb, moff + q, none⟩ = some (.int .i64 M[q]) := by rw [hbx.cell (p := ⟨mb, moff + q, none⟩) hmw]; exact HMC.out q hqt
              have HF := Lib.hid (show (M.take (q + 1)).foldl insU O1 = insU ((M.take q).foldl insU O1) M[q] by rw [List.take_succ_eq_append_getElem hqt, List.foldl_append]; rfl)
              have AD := Lib.hid (l12Add_any _ _ M[q] wr hrx (by have h1 := foldl_length (M.take q) O1; have h2 := HLU.out; rw [List.length_take] at h1; omega))
              obtain ⟨xa, xcap, hxx⟩ := hrx.slice
              subst hxx
              clear hrx
              generalize M[q] = y at *
              generalize (M.take q).foldl insU O1 = O2 at *
              go_wp2_with fail
              refine AD.out.mono ?_
              rintro x w3 ⟨nv, rfl, hn, hb3⟩
              have HN := Lib.hid hn; clear hn
              go_wp2_with fail
              go_roundw
              case rel => exact ⟨q + 1, by omega, by go_num, by rw [HF.out]; exact HN.out, hbx.trans (hb3.mono hbx.size)⟩
              case measure => simp [intOf]; omega
            · have HX := Lib.hid (show M.take q = M from List.take_of_length_le (by omega))
              rw [HX.out] at hrx
              have HRX := Lib.hid hrx; clear hrx
              go_wp2_with fail
              go_roundw
              case rel => exact ⟨j + 1, by omega, by go_num, by rw [HT.out]; exact HRX.out, hbl.trans ((hb2.mono hbl.size).trans (hbx.mono (Nat.le_trans hbl.size hb2.size)))⟩
              case measure => simp [intOf]; omega
        · have HX := Lib.hid (show ts.take j = ts from List.take_of_length_le (by omega))
          have HFR := Lib.hid (show IRep wr u3 R by rw [HRR.out]; have := HRU.out; rwa [HX.out] at this)
          go_wp2_with fail
          go_ret
          exact ⟨_, rfl, HFR.out, HBL.out⟩
    all_goals
      go_enter Try.func5, Try.ntmps5
      go_wp2_with fail
      rw [← hW1] at R9 BX1 HW1
      simp only [← hW1]
      clear hW1
      go_loopw [3, 4, 5, 6] (fun u i _ _ wr => ∃ j : Nat, j ≤ ts.length ∧ i = .int .i64 j ∧ IRep wr u (usesTs (ts.take j) O0) ∧ Below W1.heap.size W1 wr) (fun _ i _ _ _ => ts.length + 1 - (intOf i).toNat)
      case atStart => exact ⟨0, by omega, rfl, R9.out.rep, Below.refl _ _⟩
      case round =>
        obtain ⟨j, hj, rfl, hru, hbl⟩ := hrel
        have HRU := Lib.hid hru; clear hru
        obtain ⟨-, -, -, -, p4⟩ := (BX1.out.stay hbl).cells
        have HBL := Lib.hid (HW1.out.trans (hbl.mono HW1.out.size))
        by_cases hlt : j < ts.length
        · have hne : ts ≠ [] := by intro e; rw [e] at hlt; simp at hlt
          obtain ⟨haq, hbw⟩ := HA.out hne
          try subst haq
          have HWR := Lib.hid (HW.out.trans (HBL.out.mono HW.out.size))
          obtain ⟨c0, c1, c2, c3, c4⟩ := (HE.out j hlt).1.keep (HWR.out.block b hbw)
          have VJ := Lib.hid (fun (W : World) (hW : Below wr.heap.size wr W) => V1.out j hlt W (below_step HWR.out hW (by have := HWR.out.size; omega)))
          have HT := Lib.hid (usesTs_take ts O0 j hlt)
          have HLU := Lib.hid (HLN.out j hlt)
          obtain ⟨a3, cap3, hs3⟩ := (HE.out j hlt).2.2.slice
          rw [hs3] at c4 VJ
          clear hs3 V1
          unfold V.agg at VJ
          generalize usesT ts[j] = M at *
          generalize usesTs (ts.take j) O0 = O1 at *
          generalize ts[j] = tk at *
          go_wp2_with fail
          refine (VJ.out _ (Below.refl _ _)).mono ?_
          rintro x w2 ⟨mv, rfl, hm, hb2⟩
          have HM := Lib.hid hm; clear hm
          obtain ⟨ma, mb, moff, mcap, hmv, hma, hmc, hmm, hmcell⟩ := HM.out
          subst hmv
          have HMA := Lib.hid hma; have HMC := Lib.hid hmcell
          clear hma hmcell
          have HO1 := Lib.hid (HRU.out.keep hb2)
          have hm63 : M.length ≤ 9223372036854775807 := by omega
          clear c0 c1 c2 c3 c4 p4
          go_wp2_with fail
          go_loopw [3, 6] (fun u i wx => ∃ q : Nat, q ≤ M.length ∧ i = .int .i64 q ∧ IRep wx u ((M.take q).foldl insU O1) ∧ Below w2.heap.size w2 wx) (fun _ i _ => M.length + 1 - (intOf i).toNat)
          case atStart => exact ⟨0, by omega, rfl, HO1.out, Below.refl _ _⟩
          case round =>
            obtain ⟨q, hq, rfl, hrx, hbx⟩ := hrel
            by_cases hqt : q < M.length
            · have hneM : M ≠ [] := by intro e; rw [e] at hqt; simp at hqt
              obtain ⟨rfl, hmw⟩ := HMA.out hneM
              have d1 : wr.cell? ⟨mb, moff + q, none⟩ = some (.int .i64 M[q]) := by rw [hbx.cell (p := ⟨mb, moff + q, none⟩) hmw]; exact HMC.out q hqt
              have HF := Lib.hid (show (M.take (q + 1)).foldl insU O1 = insU ((M.take q).foldl insU O1) M[q] by rw [List.take_succ_eq_append_getElem hqt, List.foldl_append]; rfl)
              have AD := Lib.hid (l12Add_any _ _ M[q] wr hrx (by have h1 := foldl_length (M.take q) O1; have h2 := HLU.out; rw [List.length_take] at h1; omega))
              obtain ⟨xa, xcap, hxx⟩ := hrx.slice
              subst hxx
              clear hrx
              generalize M[q] = y at *
              generalize (M.take q).foldl insU O1 = O2 at *
              go_wp2_with fail
              refine AD.out.mono ?_
              rintro x w3 ⟨nv, rfl, hn, hb3⟩
              have HN := Lib.hid hn; clear hn
              go_wp2_with fail
              go_roundw
              case rel => exact ⟨q + 1, by omega, by go_num, by rw [HF.out]; exact HN.out, hbx.trans (hb3.mono hbx.size)⟩
              case measure => simp [intOf]; omega
            · have HX := Lib.hid (show M.take q = M from List.take_of_length_le (by omega))
              rw [HX.out] at hrx
              have HRX := Lib.hid hrx; clear hrx
              go_wp2_with fail
              go_roundw
              case rel => exact ⟨j + 1, by omega, by go_num, by rw [HT.out]; exact HRX.out, hbl.trans ((hb2.mono hbl.size).trans (hbx.mono (Nat.le_trans hbl.size hb2.size)))⟩
              case measure => simp [intOf]; omega
        · have HX := Lib.hid (show ts.take j = ts from List.take_of_length_le (by omega))
          have HFR := Lib.hid (show IRep wr u3 R by rw [HRR.out]; have := HRU.out; rwa [HX.out] at this)
          go_wp2_with fail
          go_ret
          exact ⟨_, rfl, HFR.out, HBL.out⟩
end Go.Proofs.Ytllngpnhhpnjoaa
