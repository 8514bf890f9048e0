/- The CBOR form of a right value, plainly. The reference's CBOR form: l05Num, l05Four, l05Put, PutCbor, CborSize. -/
import Derived.Test.YtiemlefmhleaeaaDoorHead
import Derived.Test.YtiemlefmhleaeaaDoorRefM
import Derived.Test.YtiemlefmhleaeaaDoorRight
import Derived.Deep.RegionHeld3
import Derived.Deep.RegionWith
namespace Go.Proofs.YtiemlefmhleaeaaDoor
set_option linter.unusedVariables false
set_option maxRecDepth 100000
open Go.RowKit
def numL (n : Int) : List UInt8 := if n < 0 then headL 1 (-1 - n).toNat else headL 0 n.toNat
/-- what a value begins with -/
def ownL (t : V) : List UInt8 :=
  if t.k = 0 then headL 7 22 else if t.k = 1 ∨ t.k = 2 then headL 7 (19 + t.k).toNat else if t.k = 3 then numL t.n
  else if t.k = 4 then headL 6 4 ++ headL 4 2 ++ numL t.e ++ numL t.n
  else if t.k = 5 then headL 3 t.s.size ++ t.s.data.toList else if t.k = 6 then headL 2 t.s.size ++ t.s.data.toList
  else if t.k = 7 then headL 4 t.kids.length else if t.k = 8 then headL 5 (t.kids.length / 2) else headL 6 t.n.toNat
mutual
def cborL : V → List UInt8
  | .mk k n e s ks => ownL (.mk k n e s ks) ++ cborsL ks
def cborsL : List V → List UInt8
  | [] => []
  | t :: ts => cborL t ++ cborsL ts
 end
theorem cborL_eq (t : V) : cborL t = ownL t ++ cborsL t.kids := by cases t; rw [cborL]; rfl
theorem cborsL_append : ∀ a b : List V, cborsL (a ++ b) = cborsL a ++ cborsL b
  | [], b => by simp [cborsL]
  | t :: a, b => by rw [List.cons_append, cborsL, cborsL, cborsL_append a b, List.append_assoc]
theorem cborsL_take (ts : List V) (j : Nat) (hj : j < ts.length) : cborsL (ts.take (j + 1)) = cborsL (ts.take j) ++ cborL ts[j] := by
  rw [List.take_succ_eq_append_getElem hj, cborsL_append, cborsL, cborsL, List.append_nil]
theorem numL_le (n : Int) : (numL n).length ≤ 9 := by unfold numL; split <;> exact headL_le _ _
theorem ownL_le (t : V) (h : t.s.size ≤ 2000) : (ownL t).length ≤ 2050 := by
  have h1 := fun a b => headL_le a b
  have h2 := fun n => numL_le n
  unfold ownL
  have hs : t.s.data.toList.length = t.s.size := Array.length_toList
  repeat' split
  all_goals first
    | (have := headL_le 7 22; omega)
    | (have := headL_le 7 (19 + t.k).toNat; omega)
    | (have := numL_le t.n; omega)
    | (have a := headL_le 6 4; have b := headL_le 4 2; have c := numL_le t.e; have d := numL_le t.n; simp only [List.length_append]; omega)
    | (have := headL_le 3 t.s.size; simp only [List.length_append]; omega)
    | (have := headL_le 2 t.s.size; simp only [List.length_append]; omega)
    | (have := headL_le 4 t.kids.length; omega)
    | (have := headL_le 5 (t.kids.length / 2); omega)
    | (have := headL_le 6 t.n.toNat; omega)
mutual
theorem cbor_le : ∀ (t : V) (d : Int), rightB t d = true → (cborL t).length ≤ 2050 * t.nodes
  | .mk k n e s ks, d, h => by
    have h1 := ownL_le (.mk k n e s ks) (node_small (rightB_leaf h).1)
    have h2 := cbors_le ks (d - 1) (right_kids h)
    rw [cborL_eq, List.length_append, V.nodes_eq]
    show (ownL (.mk k n e s ks)).length + (cborsL ks).length ≤ 2050 * (1 + nodess ks)
    omega
theorem cbors_le : ∀ (ts : List V) (d : Int), rightsB ts d = true → (cborsL ts).length ≤ 2050 * nodess ts
  | [], _, _ => by simp [cborsL]
  | t :: ts, d, h => by
    rw [rightsB, Bool.and_eq_true] at h
    have h1 := cbor_le t d h.1
    have h2 := cbors_le ts d h.2
    rw [cborsL, List.length_append, nodess]; omega
 end
theorem cbors_take_le (ts : List V) (j : Nat) : (cborsL (ts.take j)).length ≤ (cborsL ts).length := by
  have h := cborsL_append (ts.take j) (ts.drop j)
  rw [List.take_append_drop] at h
  rw [h, List.length_append]; omega
/-- a leaf's kind has no kids -/
theorem plain_kids {t : V} {d : Int} (h : rightB t d = true) (hk : t.k ≠ 7 ∧ t.k ≠ 8 ∧ t.k ≠ 9) : t.kids = [] := by
  rw [rightB_eq] at h
  simp only [Bool.and_eq_true, ownB] at h
  have h2 := h.1.2.2
  rw [if_neg hk.1, if_neg hk.2.2, if_neg hk.2.1] at h2
  exact List.eq_nil_of_length_eq_zero (by simpa using h2)
theorem kind_in {t : V} {d : Int} (h : rightB t d = true) : 0 ≤ t.k ∧ t.k ≤ 9 := by
  have h2 := (rightB_leaf h).1
  unfold nodeB at h2
  by_cases hk : 0 ≤ t.k ∧ t.k ≤ 9
  · exact hk
  · rw [if_neg (by omega), if_neg (by omega), if_neg (by omega), if_neg (by omega), if_neg (by omega), if_neg (by omega)] at h2
    cases h2
theorem tag_n {t : V} {d : Int} (h : rightB t d = true) (hk : t.k = 9) : 0 ≤ t.n ∧ t.n ≤ 1000000 := by
  have h2 := (rightB_leaf h).1
  unfold nodeB at h2
  rw [if_neg (by omega), if_neg (by omega), if_neg (by omega), if_neg (by omega), if_neg (by omega), if_pos hk] at h2
  have := of_decide_eq_true h2
  omega
def cborB (t : V) : List UInt8 := if okT t && !hasT 4 4 t then cborL t else []
theorem cborB_le (t : V) : (cborB t).length ≤ 615000 := by
  unfold cborB
  split
  · rename_i h
    simp only [Bool.and_eq_true, okT, decide_eq_true_eq] at h
    have := cbor_le t 12 h.1.1
    omega
  · simp
end Go.Proofs.YtiemlefmhleaeaaDoor
namespace Go.Proofs.YtiemlefmhleaeaaDoor
set_option linter.unusedVariables false
set_option maxRecDepth 100000
open Go.RowKit
theorem u64w (x : Int) (h0 : 0 ≤ x) (h1 : x < 18446744073709551616) : IntKind.u64.wrap x = x := by
  unfold IntKind.wrap; simp [IntKind.bits, IntKind.signed]; omega
set_option maxHeartbeats 400000 in
theorem l05Num_any (n : Int) (hn : In64 n) (w : World) : Calls Tryd.prog 188 #[.int .i64 n] w (TxtRet w (numL n)) := by
  obtain ⟨h1, h2⟩ := hn
  by_cases h : 0 ≤ n
  · have HR := Lib.hid (show numL n = headL 0 n.toNat by rw [numL, if_neg (by omega)])
    have t1 : decide (0 ≤ n) = true := decide_eq_true h
    have hw := u64w n h (by omega)
    have PH := Lib.hid (fun (W : World) => PutHead_spec 0 n W (by omega) (by omega) h (by omega))
    rw [HR.out]
    go_enter Tryd.func188, Tryd.ntmps188
    go_wp2_with fail
    refine (PH.out _).mono ?_
    rintro x w1 ⟨rfl, hb1⟩
    go_wp2_with fail
    go_ret
    exact ⟨rfl, hb1⟩
  · have HR := Lib.hid (show numL n = headL 1 (-1 - n).toNat by rw [numL, if_pos (by omega)])
    have t1 : decide (0 ≤ n) = false := decide_eq_false h
    have hw0 : wrap64 (-1 - n) = -1 - n := by unfold wrap64; omega
    have hw := u64w (-1 - n) (by omega) (by omega)
    have PH := Lib.hid (fun (W : World) => PutHead_spec 1 (-1 - n) W (by omega) (by omega) (by omega) (by omega))
    rw [HR.out]
    go_enter Tryd.func188, Tryd.ntmps188
    go_wp2_with fail
    refine (PH.out _).mono ?_
    rintro x w1 ⟨rfl, hb1⟩
    go_wp2_with fail
    go_ret
    exact ⟨rfl, hb1⟩
set_option maxHeartbeats 1000000 in
theorem l05Four_any (w0 : World) : ∀ (N : Nat) (v : Value) (t : V), t.sz < N → Rep w0 v t → t.sz ≤ 1048576 → ∀ (w : World), Below w0.heap.size w0 w →
    Calls Tryd.prog 123 #[v] w (BoolRet (hasT 4 4 t) w) := by
  intro N
  induction N with
  | zero => intro v t h; omega
  | succ N ih =>
  intro v t hN h hsz w hw
  obtain ⟨sl, rfl, hwf, hr⟩ := h
  have hts := V.sz_eq t
  have hlen := szs_length t.kids
  obtain ⟨a, b, off, cap, rfl, ha, hc, hm, sls, hel⟩ := hr.opened
  have HA := Lib.hid ha; have HE := Lib.hid hel; have HW := Lib.hid hw
  have V1 := Lib.hid (fun (j : Nat) (hj : j < t.kids.length) (W : World) (hW : Below w0.heap.size w0 W) => ih (t.kids[j].agg (sls j)) t.kids[j] (by have h1 := szs_mem (List.getElem_mem hj); omega) ⟨sls j, rfl, (HE.out j hj).2.1, (HE.out j hj).2.2⟩ (by have h1 := szs_mem (List.getElem_mem hj); omega) W hW)
  have hl : t.kids.length ≤ 1048576 := by omega
  have HT := Lib.hid (show hasT 4 4 t = ((decide (t.k = 9) && decide (t.n = 4)) || hasTs 4 4 t.kids) by rw [hasT_eq, Bool.or_self])
  have HTK := Lib.hid (fun (j : Nat) (hj : j < t.kids.length) => hasTs_take 4 4 t.kids j hj)
  have HST := Lib.hid (fun (j : Nat) (hj : j < t.kids.length) => hasTs_stuck 4 4 t.kids j hj)
  have BX := Lib.hid (Box.new w t.k t.n t.e t.s (.slice a t.kids.length cap) 28)
  clear ih hel ha hc hm hN hr hwf hlen hts hsz
  unfold V.agg
  generalize hasT 4 4 t = R at *
  generalize t.k = k at *
  generalize t.n = n at *
  generalize t.e = e at *
  generalize t.s = s at *
  generalize t.kids = ts at *
  by_cases hu : k = 9 ∧ n = 4
  · have t1 : (k == 9) = true := by simpa using hu.1
    have t2 : (n == 4) = true := by simpa using hu.2
    have HR := Lib.hid (show R = true by rw [HT.out]; simp [hu.1, hu.2])
    clear hu HT
    go_enter Tryd.func123, Tryd.ntmps123
    go_wp2_with fail
    go_ret
    exact ⟨by rw [HR.out]; rfl, (by (repeat' (first | with_reducible exact Below.refl _ _ | with_reducible refine below_alloc ?_ _ ?_ | with_reducible refine Below.setCell ?_ ?_ _ | with_reducible refine Below.drew ?_ | with_reducible refine below_drewN ?_ _ | with_reducible refine below_step ?_ (by assumption) ?_ | with_reducible refine below_mark ?_ (by assumption) ?_)); all_goals (first | omega | (simp; done) | (simp; omega)))⟩
  · have HR := Lib.hid (show R = hasTs 4 4 ts by rw [HT.out]; by_cases h9 : k = 9 <;> by_cases h4 : n = 4 <;> simp [h9, h4] <;> exact absurd ⟨h9, h4⟩ hu)
    have key : (k == 9) = false ∨ ((k == 9) = true ∧ (n == 4) = false) := by
      by_cases h9 : k = 9
      · exact .inr ⟨by simpa using h9, by simpa using fun e => hu ⟨h9, e⟩⟩
      · exact .inl (by simpa using h9)
    clear hu HT
    rcases key with t1 | ⟨t1, t2⟩
    all_goals
      go_enter Tryd.func123, Tryd.ntmps123
      go_wp2_with fail
      go_loopw [3] (fun i wr => ∃ j : Nat, j ≤ ts.length ∧ i = .int .i64 j ∧ hasTs 4 4 (ts.take j) = false ∧ Below (w.alloc (.cells #[.int .i64 k, .int .i64 n, .int .i64 e, .string s, .slice a ts.length cap] 28)).heap.size (w.alloc (.cells #[.int .i64 k, .int .i64 n, .int .i64 e, .string s, .slice a ts.length cap] 28)) wr) (fun i _ => ts.length + 1 - (intOf i).toNat)
      case atStart => exact ⟨0, by omega, rfl, rfl, Below.refl _ _⟩
      case round =>
        obtain ⟨j, hj, rfl, hq, hbl⟩ := hrel
        have HQ := Lib.hid hq; clear hq
        have HBL := Lib.hid (show Below w.heap.size w wr from Below.trans ((by (repeat' (first | with_reducible exact Below.refl _ _ | with_reducible refine below_alloc ?_ _ ?_ | with_reducible refine Below.setCell ?_ ?_ _ | with_reducible refine Below.drew ?_ | with_reducible refine below_drewN ?_ _ | with_reducible refine below_step ?_ (by assumption) ?_ | with_reducible refine below_mark ?_ (by assumption) ?_)); all_goals (first | omega | (simp; done) | (simp; omega)))) (hbl.mono (by simp)))
        obtain ⟨q0, -, -, -, q4⟩ := (BX.out.stay hbl).cells
        by_cases hlt : j < ts.length
        · have hne : ts ≠ [] := by intro e; rw [e] at hlt; simp at hlt
          obtain ⟨rfl, hbw⟩ := HA.out hne
          have HWR := Lib.hid (HW.out.trans (HBL.out.mono HW.out.size))
          obtain ⟨c0, c1, c2, c3, c4⟩ := (HE.out j hlt).1.keep (HWR.out.block b hbw)
          have VJ := Lib.hid (fun (W : World) (hW : Below wr.heap.size wr W) => V1.out j hlt W (below_step HWR.out hW (by have := HWR.out.size; omega)))
          have HTJ := Lib.hid (HTK.out j hlt)
          rw [HQ.out, Bool.false_or] at HTJ
          have HSJ := Lib.hid (HST.out j hlt)
          obtain ⟨a3, cap3, hs3⟩ := (HE.out j hlt).2.2.slice
          rw [hs3] at c4 VJ
          clear hs3 V1
          unfold V.agg at VJ
          generalize hasT 4 4 ts[j] = bj at *
          cases bj with
          | true =>
            have H := Lib.hid (show R = true by rw [HR.out]; exact HSJ.out rfl)
            clear HTJ HSJ
            go_wp2_with fail
            refine (VJ.out _ ((by (repeat' (first | with_reducible exact Below.refl _ _ | with_reducible refine below_alloc ?_ _ ?_ | with_reducible refine Below.setCell ?_ ?_ _ | with_reducible refine Below.drew ?_ | with_reducible refine below_drewN ?_ _ | with_reducible refine below_step ?_ (by assumption) ?_ | with_reducible refine below_mark ?_ (by assumption) ?_)); all_goals (first | omega | (simp; done) | (simp; omega))))).mono ?_
            rintro x w1 ⟨rfl, hb1⟩
            go_wp2_with fail
            go_ret
            exact ⟨by rw [H.out]; rfl, HBL.out.trans (Below.mono ((by (repeat' (first | with_reducible exact Below.refl _ _ | with_reducible refine below_alloc ?_ _ ?_ | with_reducible refine Below.setCell ?_ ?_ _ | with_reducible refine Below.drew ?_ | with_reducible refine below_drewN ?_ _ | with_reducible refine below_step ?_ (by assumption) ?_ | with_reducible refine below_mark ?_ (by assumption) ?_)); all_goals (first | omega | (simp; done) | (simp; omega)))) HBL.out.size)⟩
          | false =>
            clear HSJ
            go_wp2_with fail
            refine (VJ.out _ ((by (repeat' (first | with_reducible exact Below.refl _ _ | with_reducible refine below_alloc ?_ _ ?_ | with_reducible refine Below.setCell ?_ ?_ _ | with_reducible refine Below.drew ?_ | with_reducible refine below_drewN ?_ _ | with_reducible refine below_step ?_ (by assumption) ?_ | with_reducible refine below_mark ?_ (by assumption) ?_)); all_goals (first | omega | (simp; done) | (simp; omega))))).mono ?_
            rintro x w1 ⟨rfl, hb1⟩
            go_wp2_with fail
            go_roundw
            case rel => exact ⟨j + 1, by omega, by go_num, HTJ.out, hbl.trans (Below.mono ((by (repeat' (first | with_reducible exact Below.refl _ _ | with_reducible refine below_alloc ?_ _ ?_ | with_reducible refine Below.setCell ?_ ?_ _ | with_reducible refine Below.drew ?_ | with_reducible refine below_drewN ?_ _ | with_reducible refine below_step ?_ (by assumption) ?_ | with_reducible refine below_mark ?_ (by assumption) ?_)); all_goals (first | omega | (simp; done) | (simp; omega)))) hbl.size)⟩
            case measure => simp [intOf]; omega
        · have H := Lib.hid (show R = false by rw [HR.out]; have := HQ.out; rwa [List.take_of_length_le (by omega)] at this)
          go_wp2_with fail
          go_ret
          exact ⟨by rw [H.out]; rfl, HBL.out⟩
end Go.Proofs.YtiemlefmhleaeaaDoor
