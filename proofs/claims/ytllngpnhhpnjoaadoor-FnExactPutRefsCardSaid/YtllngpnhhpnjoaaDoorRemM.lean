/- What is remembered in a value: the reference's way, spec.l10All, Remembered. -/
import Derived.Test.YtllngpnhhpnjoaaDoorLeast0
import Derived.Test.YtllngpnhhpnjoaaDoorRight
import Derived.OwnWalk
namespace Go.Proofs.YtllngpnhhpnjoaaDoor
set_option linter.unusedVariables false
set_option maxRecDepth 100000
open Go.RowKit
def foldK (R L : List V) : List V := L.foldl keepR R
mutual
def allS : V → List V → List V
  | .mk k n e s ks, R => if isTx (.mk k n e s ks) then keepR R (.mk k n e s ks) else allSs ks R
def allSs : List V → List V → List V
  | [], R => R
  | t :: ts, R => allSs ts (allS t R)
 end
theorem allS_eq (t : V) (R : List V) : allS t R = if isTx t then keepR R t else allSs t.kids R := by cases t; rw [allS]; rfl
theorem allSs_snoc : ∀ (ts : List V) (t : V) (R : List V), allSs (ts ++ [t]) R = allS t (allSs ts R)
  | [], t, R => by simp [allSs]
  | u :: ts, t, R => by simp only [List.cons_append, allSs]; exact allSs_snoc ts t _
theorem allSs_take (ts : List V) (R : List V) (j : Nat) (hj : j < ts.length) : allSs (ts.take (j + 1)) R = allS ts[j] (allSs (ts.take j) R) := by
  rw [List.take_succ_eq_append_getElem hj, allSs_snoc]
mutual
theorem allS_length : ∀ (t : V) (R : List V), (allS t R).length ≤ R.length + (1 + t.sz)
  | .mk k n e s ks, R => by
    rw [allS]
    split
    · have := keepR_length R (.mk k n e s ks); omega
    · have := allSs_length ks R; simp only [V.sz]; omega
theorem allSs_length : ∀ (ts : List V) (R : List V), (allSs ts R).length ≤ R.length + szs ts
  | [], R => by simp [allSs]
  | t :: ts, R => by have h1 := allS_length t R; have h2 := allSs_length ts (allS t R); simp only [allSs, szs]; omega
 end
theorem rightB_text {t : V} {d : Int} (h : rightB t d = true) (hk : isTx t = true) : t.kids = [] := by
  rw [rightB_eq] at h
  simp only [Bool.and_eq_true, ownB] at h
  have h2 := h.1.2.2
  simp only [isTx, decide_eq_true_eq] at hk
  rw [if_neg (by omega), if_neg (by omega), if_neg (by omega)] at h2
  exact List.eq_nil_of_length_eq_zero (by simpa using h2)
mutual
theorem allS_fold : ∀ (t : V) (d : Int) (R : List V), rightB t d = true → allS t R = foldK R (txts t)
  | .mk k n e s ks, d, R, h => by
    rw [allS_eq, txts_eq]
    by_cases hx : isTx (.mk k n e s ks) = true
    · rw [if_pos hx, if_pos hx, rightB_text h hx]; rfl
    · rw [if_neg hx, if_neg hx, List.nil_append]
      rw [rightB_eq] at h
      simp only [Bool.and_eq_true] at h
      exact allSs_fold ks (d - 1) R h.2
theorem allSs_fold : ∀ (ts : List V) (d : Int) (R : List V), rightsB ts d = true → allSs ts R = foldK R (txtss ts)
  | [], d, R, h => rfl
  | t :: ts, d, R, h => by
    rw [rightsB, Bool.and_eq_true] at h
    have e : txtss (t :: ts) = txts t ++ txtss ts := by unfold txtss txts; rw [pres, List.filter_append]
    rw [allSs, allS_fold t d R h.1, allSs_fold ts d _ h.2, e]
    unfold foldK; rw [List.foldl_append]
 end
def remB (t : V) : List ByteArray := if okT t then (foldK [] (txts t)).map V.s else []
set_option maxHeartbeats 1000000 in
theorem l10All_any (w0 : World) : ∀ (N : Nat) (v : Value) (t : V), t.sz < N → Rep w0 v t → ∀ (lv : Value) (R : List V) (w : World), RepS w lv R → R.length + (1 + t.sz) ≤ 2097152 → Below w0.heap.size w0 w →
    Calls Tryd.prog 57 #[v, lv] w (KeepRet (allS t R) w) := by
  intro N
  induction N with
  | zero => intro v t h; omega
  | succ N ih =>
    intro v t hN h lv R w hR hlen hw
    obtain ⟨sl, rfl, hwf, hr⟩ := h
    have hks : t.kids.length ≤ 2097152 := by have := V.sz_eq t; have := szs_length t.kids; omega
    have KP := Lib.hid (fun (W : World) (hW : Below w.heap.size w W) => l10Keep_any R lv t sl W ((hR.toF.stay hW).rep) (by omega) hwf)
    have LT := Lib.hid (fun (W : World) => l10Text_any t.k t.n t.e t.s sl W)
    have HR := Lib.hid hR
    have HW := Lib.hid hw
    have HM := Lib.hid (allS_eq t R)
    obtain ⟨la, lcap, rfl⟩ := hR.slice
    obtain ⟨a, bb, off, cap, rfl, ha, hc, hm, sls, hel⟩ := hr.opened
    have HA := Lib.hid ha
    have IH := Lib.hid (fun (j : Nat) (hj : j < t.kids.length) => ih (t.kids[j].agg (sls j)) t.kids[j] (by have := V.sz_eq t; have := szs_mem (List.getElem_mem hj); omega) ⟨sls j, rfl, (hel j hj).2.1, (hel j hj).2.2⟩)
    have HE := Lib.hid hel
    have HLE := Lib.hid hlen
    clear ih hr hel ha hw hc hm hlen hwf hN
    have BX := Lib.hid (Box.new w t.k t.n t.e t.s (.slice a t.kids.length cap) 30)
    have HSZ := Lib.hid (V.sz_eq t)
    have HTX := Lib.hid (show isTx t = decide (t.k = 5 ∨ t.k = 6) from rfl)
    unfold V.agg at KP ⊢
    generalize allS t R = RR at *
    cases hx : isTx t
    · rw [hx, if_neg (by simp)] at HM
      rw [← HTX.out, hx] at LT
      rw [HM.out]
      clear KP HTX HM hx
      go_enter Tryd.func57, Tryd.ntmps57
      go_wp2_with fail
      refine (LT.out _).mono ?_
      rintro x w1 ⟨rfl, hb1⟩
      have hz1 := hb1.size
      simp at hz1
      have BX := Lib.hid (BX.out.stay hb1)
      have HB1 := Lib.hid (show Below w.heap.size w w1 from (by (repeat' (first | with_reducible exact Below.refl _ _ | with_reducible refine below_alloc ?_ _ ?_ | with_reducible refine Below.setCell ?_ ?_ _ | with_reducible refine Below.drew ?_ | with_reducible refine below_drewN ?_ _ | with_reducible refine below_step ?_ (by assumption) ?_ | with_reducible refine below_mark ?_ (by assumption) ?_)); all_goals (first | omega | (simp; done) | (simp; omega))))
      go_wp2_with fail
      go_loopw [1, 5] (fun u i wr => ∃ j : Nat, j ≤ t.kids.length ∧ i = .int .i64 j ∧ RepS wr u (allSs (t.kids.take j) R) ∧ Below w1.heap.size w1 wr) (fun _ i _ => t.kids.length + 1 - (intOf i).toNat)
      case atStart => exact ⟨0, by omega, rfl, (HR.out.toF.stay HB1.out).rep, Below.refl _ _⟩
      case round =>
        obtain ⟨j, hj, rfl, hru, hbl⟩ := hrel
        obtain ⟨-, -, -, -, c4⟩ := (BX.out.stay hbl).cells
        have HRU := Lib.hid hru
        clear hru
        by_cases hlt : j < t.kids.length
        · have hne : t.kids ≠ [] := by intro e; rw [e] at hlt; simp at hlt
          obtain ⟨rfl, hbw⟩ := HA.out hne
          have HWR := Lib.hid (show Below w0.heap.size w0 wr from HW.out.trans ((HB1.out.trans (hbl.mono (by omega))).mono HW.out.size))
          obtain ⟨d0, d1, d2, d3, d4⟩ := (HE.out j hlt).1.keep (HWR.out.block bb hbw)
          have HT := Lib.hid (allSs_take t.kids R j hlt)
          have hlq : (allSs (t.kids.take j) R).length + (1 + t.kids[j].sz) ≤ 2097152 := by
            have h1 := allSs_length (t.kids.take j) R
            have h2 := szs_append (t.kids.take j) (t.kids.drop j)
            rw [List.take_append_drop] at h2
            have h3 := szs_mem (show t.kids[j] ∈ t.kids.drop j from by rw [List.drop_eq_getElem_cons hlt]; exact List.mem_cons_self ..)
            have := HSZ.out; have := HLE.out; omega
          have IHJ := Lib.hid (fun (W : World) (hW : Below wr.heap.size wr W) => IH.out j hlt u1 (allSs (t.kids.take j) R) W ((HRU.out.toF.stay hW).rep) hlq (HWR.out.trans (hW.mono HWR.out.size)))
          obtain ⟨ak, kcap, hks2⟩ := (HE.out j hlt).2.2.slice
          rw [hks2] at d4 IHJ
          clear hks2 IH
          unfold V.agg at IHJ
          go_wp2_with fail
          refine (IHJ.out _ ((by (repeat' (first | with_reducible exact Below.refl _ _ | with_reducible refine below_alloc ?_ _ ?_ | with_reducible refine Below.setCell ?_ ?_ _ | with_reducible refine Below.drew ?_ | with_reducible refine below_drewN ?_ _ | with_reducible refine below_step ?_ (by assumption) ?_ | with_reducible refine below_mark ?_ (by assumption) ?_)); all_goals (first | omega | (simp; done) | (simp; omega))))).mono ?_
          rintro x wx ⟨u2, rfl, hr2, hbx⟩
          have HR2 := Lib.hid hr2
          clear hr2
          go_wp2_with fail
          go_roundw
          case rel => exact ⟨j + 1, by omega, by go_num, by rw [HT.out]; exact HR2.out, (by (repeat' (first | with_reducible exact Below.refl _ _ | with_reducible refine below_alloc ?_ _ ?_ | with_reducible refine Below.setCell ?_ ?_ _ | with_reducible refine Below.drew ?_ | with_reducible refine below_drewN ?_ _ | with_reducible refine below_step ?_ (by assumption) ?_ | with_reducible refine below_mark ?_ (by assumption) ?_)); all_goals (first | omega | (simp; done) | (simp; omega)))⟩
          case measure => simp [intOf]; omega
        · have HX := Lib.hid (show t.kids.take j = t.kids from List.take_of_length_le (by omega))
          go_wp2_with fail
          go_ret
          exact ⟨_, rfl, by have := HRU.out; rwa [HX.out] at this, (by (repeat' (first | with_reducible exact Below.refl _ _ | with_reducible refine below_alloc ?_ _ ?_ | with_reducible refine Below.setCell ?_ ?_ _ | with_reducible refine Below.drew ?_ | with_reducible refine below_drewN ?_ _ | with_reducible refine below_step ?_ (by assumption) ?_ | with_reducible refine below_mark ?_ (by assumption) ?_)); all_goals (first | omega | (simp; done) | (simp; omega)))⟩
    · rw [hx, if_pos rfl] at HM
      rw [← HTX.out, hx] at LT
      rw [HM.out]
      clear HTX HM hx IH HE HA
      go_enter Tryd.func57, Tryd.ntmps57
      go_wp2_with fail
      refine (LT.out _).mono ?_
      rintro x w1 ⟨rfl, hb1⟩
      have BX := Lib.hid (BX.out.stay hb1)
      obtain ⟨c0, c1, c2, c3, c4⟩ := BX.out.cells
      have HB1 := Lib.hid (show Below w.heap.size w w1 from (by (repeat' (first | with_reducible exact Below.refl _ _ | with_reducible refine below_alloc ?_ _ ?_ | with_reducible refine Below.setCell ?_ ?_ _ | with_reducible refine Below.drew ?_ | with_reducible refine below_drewN ?_ _ | with_reducible refine below_step ?_ (by assumption) ?_ | with_reducible refine below_mark ?_ (by assumption) ?_)); all_goals (first | omega | (simp; done) | (simp; omega))))
      go_wp2_with fail
      refine (KP.out _ HB1.out).mono ?_
      rintro x w2 ⟨u2, rfl, hr2, hb2⟩
      have HR2 := Lib.hid hr2
      clear hr2
      go_wp2_with fail
      go_ret
      exact ⟨_, rfl, HR2.out, (by (repeat' (first | with_reducible exact Below.refl _ _ | with_reducible refine below_alloc ?_ _ ?_ | with_reducible refine Below.setCell ?_ ?_ _ | with_reducible refine Below.drew ?_ | with_reducible refine below_drewN ?_ _ | with_reducible refine below_step ?_ (by assumption) ?_ | with_reducible refine below_mark ?_ (by assumption) ?_)); all_goals (first | omega | (simp; done) | (simp; omega)))⟩
theorem remB_yes {t : V} (h : okT t = true) : remB t = (allS t []).map V.s := by
  have h2 := h
  simp only [okT, Bool.and_eq_true] at h2
  rw [remB, if_pos h, allS_fold t 12 [] h2.1]
theorem remB_no {t : V} (h : okT t = false) : remB t = [] := by rw [remB, if_neg (by simp [h])]
set_option maxHeartbeats 1000000 in
theorem Remembered_spec (w0 : World) (v : Value) (t : V) (h : Rep w0 v t) (hsz : t.sz ≤ 1048576) (w : World) (hw : Below w0.heap.size w0 w) :
    Calls Tryd.prog 15 #[v] w (StrsRet w (remB t)) := by
  have VO := Lib.hid (fun (W : World) (hW : Below w.heap.size w W) => ValueOk_spec w0 v t h hsz W (hw.trans (hW.mono hw.size)))
  have LA := Lib.hid (fun (lv : Value) (W : World) (hl : RepS W lv []) (hW : Below w.heap.size w W) => l10All_any w0 _ v t (Nat.lt_succ_self _) h lv [] W hl (by simp; omega) (hw.trans (hW.mono hw.size)))
  have hlen : (allS t []).length ≤ 1048577 := by have := allS_length t []; simp at this; omega
  have RY := Lib.hid (fun h => remB_yes (t := t) h)
  have RN := Lib.hid (fun h => remB_no (t := t) h)
  obtain ⟨sl, rfl, hwf, hr⟩ := h
  have BX := Lib.hid (Box.new w t.k t.n t.e t.s sl 30)
  have R0 := Lib.hid (show SRow ((w.alloc (.cells #[.int .i64 t.k, .int .i64 t.n, .int .i64 t.e, .string t.s, sl] 30)).alloc (.cells #[] 9)) w.heap.size (.slice (some ⟨w.heap.size + 1, 0, none⟩) 0 0) [] by
    have := SRow.made0 (w := w.alloc (Obj.cells #[.int .i64 t.k, .int .i64 t.n, .int .i64 t.e, .string t.s, sl] 30)) (base := w.heap.size) (by simp)
    rw [show (w.alloc (Obj.cells #[.int .i64 t.k, .int .i64 t.n, .int .i64 t.e, .string t.s, sl] 30)).heap.size = w.heap.size + 1 by simp] at this
    exact this)
  have E0 := Lib.hid (show ((w.alloc (.cells #[.int .i64 t.k, .int .i64 t.n, .int .i64 t.e, .string t.s, sl] 30)).alloc (.cells #[] 9)).heap[w.heap.size + 1]? = some (.cells #[] 9 (0, 0)) from heap_alloc_at _ (by simp))
  clear hr hwf hsz
  unfold V.agg at *
  generalize remB t = RB at *
  generalize allS t [] = L at *
  generalize t.k = vk at *
  generalize t.n = vn at *
  generalize t.e = ve at *
  generalize t.s = vs at *
  cases hok : okT t
  · have H := Lib.hid (RN.out hok)
    rw [hok] at VO
    clear RY RN LA hok
    go_enter Tryd.func15, Tryd.ntmps15
    go_wp2_with fail
    refine (VO.out _ ((by (repeat' (first | with_reducible exact Below.refl _ _ | with_reducible refine below_alloc ?_ _ ?_ | with_reducible refine Below.setCell ?_ ?_ _ | with_reducible refine Below.drew ?_ | with_reducible refine below_drewN ?_ _ | with_reducible refine below_step ?_ (by assumption) ?_ | with_reducible refine below_mark ?_ (by assumption) ?_)); all_goals (first | omega | (simp; done) | (simp; omega))))).mono ?_
    rintro x w1 ⟨rfl, hb1⟩
    have R1 := Lib.hid (R0.out.keep (fun x hx => hb1.block x (R0.out.lt x hx).2))
    go_wp2_with fail
    go_ret
    exact ⟨_, rfl, by rw [H.out]; exact R1.out, (by (repeat' (first | with_reducible exact Below.refl _ _ | with_reducible refine below_alloc ?_ _ ?_ | with_reducible refine Below.setCell ?_ ?_ _ | with_reducible refine Below.drew ?_ | with_reducible refine below_drewN ?_ _ | with_reducible refine below_step ?_ (by assumption) ?_ | with_reducible refine below_mark ?_ (by assumption) ?_)); all_goals (first | omega | (simp; done) | (simp; omega)))⟩
  · have H := Lib.hid (RY.out hok)
    rw [hok] at VO
    rw [H.out]
    clear RY RN hok
    go_enter Tryd.func15, Tryd.ntmps15
    go_wp2_with fail
    refine (VO.out _ ((by (repeat' (first | with_reducible exact Below.refl _ _ | with_reducible refine below_alloc ?_ _ ?_ | with_reducible refine Below.setCell ?_ ?_ _ | with_reducible refine Below.drew ?_ | with_reducible refine below_drewN ?_ _ | with_reducible refine below_step ?_ (by assumption) ?_ | with_reducible refine below_mark ?_ (by assumption) ?_)); all_goals (first | omega | (simp; done) | (simp; omega))))).mono ?_
    rintro x w1 ⟨rfl, hb1⟩
    have hz1 := hb1.size
    simp at hz1
    have R1 := Lib.hid (R0.out.keep (fun x hx => hb1.block x (R0.out.lt x hx).2))
    have E1 := Lib.hid ((hb1.block (w.heap.size + 1) (by simp)).trans E0.out)
    have HB1 := Lib.hid (show Below w.heap.size w w1 from (by (repeat' (first | with_reducible exact Below.refl _ _ | with_reducible refine below_alloc ?_ _ ?_ | with_reducible refine Below.setCell ?_ ?_ _ | with_reducible refine Below.drew ?_ | with_reducible refine below_drewN ?_ _ | with_reducible refine below_step ?_ (by assumption) ?_ | with_reducible refine below_mark ?_ (by assumption) ?_)); all_goals (first | omega | (simp; done) | (simp; omega))))
    obtain ⟨c0, c1, c2, c3, c4⟩ := (((BX.out.alloc _).stay hb1)).cells
    go_wp2_with fail
    refine (LA.out _ _ ((PRow.at0 (base := 0) (Nat.zero_le _) (heap_alloc_at _ rfl)).rep) ((by (repeat' (first | with_reducible exact Below.refl _ _ | with_reducible refine below_alloc ?_ _ ?_ | with_reducible refine Below.setCell ?_ ?_ _ | with_reducible refine Below.drew ?_ | with_reducible refine below_drewN ?_ _ | with_reducible refine below_step ?_ (by assumption) ?_ | with_reducible refine below_mark ?_ (by assumption) ?_)); all_goals (first | omega | (simp; done) | (simp; omega))))).mono ?_
    rintro x w2 ⟨u2, rfl, hr2, hb2⟩
    have hz2 := hb2.size
    simp at hz2
    have R2 := Lib.hid (show SRow w2 w.heap.size (.slice (some ⟨w.heap.size + 1, 0, none⟩) 0 0) [] from R1.out.keep (fun x hx => (hb2.block x (by have := (R1.out.lt x hx).2; simp; omega)).trans (heap_alloc_old _ _ (R1.out.lt x hx).2)))
    have E2 := Lib.hid ((hb2.block (w.heap.size + 1) (by simp; omega)).trans ((heap_alloc_old _ _ (by omega)).trans E1.out))
    have HB2 := Lib.hid (show Below w.heap.size w w2 from (by (repeat' (first | with_reducible exact Below.refl _ _ | with_reducible refine below_alloc ?_ _ ?_ | with_reducible refine Below.setCell ?_ ?_ _ | with_reducible refine Below.drew ?_ | with_reducible refine below_drewN ?_ _ | with_reducible refine below_step ?_ (by assumption) ?_ | with_reducible refine below_mark ?_ (by assumption) ?_)); all_goals (first | omega | (simp; done) | (simp; omega))))
    obtain ⟨ka, kb, koff, kcap, rfl, hka, hkc, hkm, sls, hel⟩ := hr2.opened
    have HKA := Lib.hid hka; have HE := Lib.hid hel
    have HKB := Lib.hid (show L ≠ [] → kb ≠ w.heap.size + 1 from fun hne e => by
      have hpos : 0 < L.length := List.length_pos_iff.2 hne
      have h0 := (hel 0 hpos).1.1
      rw [e, cell_of_row _ _ _ _ _ (0, 0) E2.out] at h0
      simp at h0)
    clear hka hkc hkm hel hr2 VO LA c0 c1 c2 c3 c4 BX R1 E1 R0 E0 E2
    go_wp2_with fail
    go_loopw [3, 5] (fun o i wr => ∃ k : Nat, k ≤ L.length ∧ i = .int .i64 k ∧ SRow wr w.heap.size o ((L.take k).map V.s) ∧ Touch (ownR (.slice (some ⟨w.heap.size + 1, 0, none⟩) 0 0)) (ownR o) w2 wr) (fun _ i _ => L.length + 1 - (intOf i).toNat)
    case atStart => exact ⟨0, by omega, rfl, R2.out, Touch.refl _ _⟩
    case round =>
      obtain ⟨k, hk, rfl, hrow, hbl⟩ := hrel
      have HROW := Lib.hid hrow; clear hrow
      by_cases hlt : k < L.length
      · have hne : L ≠ [] := by intro e; rw [e] at hlt; simp at hlt
        obtain ⟨rfl, hbw⟩ := HKA.out hne
        obtain ⟨-, -, -, d3, -⟩ := (HE.out k hlt).1.keep (hbl.block kb hbw (fun e => HKB.out hne (by simpa [ownR, Value.ownBlock] using e.symm)))
        have hs3 := (HE.out k hlt).2.1.2.2.2
        have HN := Lib.hid (show (L.take (k + 1)).map V.s = (L.take k).map V.s ++ [L[k].s] by rw [List.take_succ_eq_append_getElem hlt, List.map_append]; rfl)
        have HLEN := Lib.hid (show ((L.take k).map V.s).length ≤ 1048577 by rw [List.length_map, List.length_take]; omega)
        generalize L[k].s = s at *
        generalize (L.take k).map V.s = L1 at *
        have hzr := hbl.size
        have S1 := Lib.hid (src_str1 wr s)
        have R1 := Lib.hid (show SRow (wr.alloc (.cells #[.string s] 9)) w.heap.size u3 L1 from HROW.out.keep (fun x hx => Below.heap_alloc _ _ _ (HROW.out.lt x hx).2))
        go_wp2_with (at_builtin; refine app_strs rfl _ _ _ rfl w.heap.size _ _ rfl R1.out _ rfl _ S1.out (by intro q hq; simp at hq; rw [hq]; exact hs3) (by have := HLEN.out; first | omega | (simp; omega)) (by simp; omega) ?_; intro v2 w2 hrow2 hg2 hfr2)
        go_roundw
        case rel => exact ⟨k + 1, by omega, by go_num, by rw [HN.out]; exact hrow2, hbl.trans (touch_row ((Below.refl _ _).alloc (Nat.le_refl _) _) hg2 hfr2)⟩
        case measure => simp [intOf]; omega
      · have H := Lib.hid (show L.take k = L from List.take_of_length_le (by omega))
        go_wp2_with fail
        go_ret
        refine ⟨_, rfl, by have := HROW.out; rw [H.out] at this; exact this, HB2.out.trans (hbl.below (fun x hx => by simp [ownR, Value.ownBlock] at hx; omega) (by omega))⟩
end Go.Proofs.YtllngpnhhpnjoaaDoor
