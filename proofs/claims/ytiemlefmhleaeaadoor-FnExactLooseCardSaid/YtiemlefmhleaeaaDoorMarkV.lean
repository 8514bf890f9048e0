/- What the laws write into values and look for later: laws.markValueS, markValue, heldValueS, heldValue. -/
import Derived.Test.YtiemlefmhleaeaaDoorLens
import Derived.Test.YtiemlefmhleaeaaDoorMarks
namespace Go.Proofs.YtiemlefmhleaeaaDoor
set_option linter.unusedVariables false
set_option maxRecDepth 100000
open Go.RowKit
mutual
/-- how many marks a value takes -/
def V.cnt : V → Nat
  | .mk _ _ _ _ ks => 4 + cnts ks
def cnts : List V → Nat
  | [] => 0
  | t :: ts => t.cnt + cnts ts
 end
mutual
def mkV : Int → V → V
  | k, .mk _ _ _ _ ks => .mk k (k + 1) (k + 1 + 1) (mt (k + 1 + 1 + 1)) (mkVs (k + 1 + 1 + 1 + 1) ks)
def mkVs : Int → List V → List V
  | _, [] => []
  | k, t :: ts => mkV k t :: mkVs (k + t.cnt) ts
 end
theorem V.cnt_eq (t : V) : t.cnt = 4 + cnts t.kids := by cases t; rw [V.cnt]; rfl
theorem mkV_eq (k : Int) (t : V) : mkV k t = .mk k (k + 1) (k + 1 + 1) (mt (k + 1 + 1 + 1)) (mkVs (k + 1 + 1 + 1 + 1) t.kids) := by cases t; rw [mkV]; rfl
theorem mkVs_length : ∀ (k : Int) (ts : List V), (mkVs k ts).length = ts.length
  | _, [] => by simp [mkVs]
  | k, t :: ts => by simp only [mkVs, List.length_cons, mkVs_length (k + t.cnt) ts]
theorem cnts_append : ∀ a b : List V, cnts (a ++ b) = cnts a + cnts b
  | [], b => by simp [cnts]
  | t :: a, b => by simp only [List.cons_append, cnts, cnts_append a b]; omega
theorem cnts_take (ts : List V) (j : Nat) (h : j < ts.length) : cnts (ts.take (j + 1)) = cnts (ts.take j) + ts[j].cnt := by
  rw [List.take_succ_eq_append_getElem h, cnts_append, cnts, cnts]; rfl
theorem cnts_take_le (ts : List V) (j : Nat) : cnts (ts.take j) ≤ cnts ts := by
  have := cnts_append (ts.take j) (ts.drop j); rw [List.take_append_drop] at this; omega
theorem mkVs_get : ∀ (k : Int) (ts : List V) (j : Nat) (h : j < (mkVs k ts).length) (h' : j < ts.length), (mkVs k ts)[j] = mkV (k + cnts (ts.take j)) ts[j]
  | k, [], j, _, h => by simp at h
  | k, t :: ts, 0, _, _ => by simp [mkVs, cnts]
  | k, t :: ts, j + 1, h, h' => by
    simp only [mkVs, List.getElem_cons_succ, List.take_succ_cons, cnts]
    rw [mkVs_get (k + t.cnt) ts j (by rw [mkVs_length]; simpa using h') (by simpa using h')]
    congr 1; omega
mutual
theorem cnt_sz : ∀ t : V, t.cnt ≤ 4 + 4 * t.sz
  | .mk k n e s ks => by have := cnts_sz ks; simp only [V.cnt, V.sz]; omega
theorem cnts_sz : ∀ ts : List V, cnts ts ≤ 4 * szs ts
  | [] => by simp [cnts]
  | t :: ts => by have h1 := cnt_sz t; have h2 := cnts_sz ts; simp only [cnts, szs]; omega
 end
/-- the row behind j rounds -/
def mixV (k : Int) (ts : List V) (j : Nat) : List V := mkVs k (ts.take j) ++ ts.drop j
theorem mixV_length (k : Int) (ts : List V) (j : Nat) (h : j ≤ ts.length) : (mixV k ts j).length = ts.length := by
  unfold mixV; rw [List.length_append, mkVs_length, List.length_take, List.length_drop]; omega
theorem mkVs_append : ∀ (k : Int) (a b : List V), mkVs k (a ++ b) = mkVs k a ++ mkVs (k + cnts a) b
  | k, [], b => by simp [mkVs, cnts]
  | k, t :: a, b => by
    simp only [List.cons_append, mkVs, mkVs_append (k + t.cnt) a b, cnts]
    rw [show k + ↑t.cnt + ↑(cnts a) = k + ↑(t.cnt + cnts a) by omega]
theorem mixV_get (k : Int) (ts : List V) (j : Nat) (h : j < ts.length) (h' : j < (mixV k ts j).length) : (mixV k ts j)[j] = ts[j] := by
  revert h'
  unfold mixV
  intro h'
  rw [List.getElem_append_right (by rw [mkVs_length, List.length_take]; omega)]
  simp only [mkVs_length, List.length_take, List.getElem_drop]
  congr 1; omega
theorem mixV_set (k : Int) (ts : List V) (j : Nat) (h : j < ts.length) : (mixV k ts j).set j (mkV (k + cnts (ts.take j)) ts[j]) = mixV k ts (j + 1) := by
  unfold mixV
  rw [List.set_append, if_neg (by rw [mkVs_length, List.length_take]; omega), mkVs_length, List.length_take]
  rw [show j - min j ts.length = 0 by omega, List.drop_eq_getElem_cons h, List.set_cons_zero, List.take_succ_eq_append_getElem h, mkVs_append]
  simp [mkVs]
theorem mk_wf {k : Int} (t : V) (h0 : 0 ≤ k) (h : k ≤ 1152921504606846976) : (mkV k t).wf := by
  rw [mkV_eq]
  refine ⟨?_, ?_, ?_, ?_⟩
  · exact ⟨by show _ ≤ k; omega, by show k ≤ _; omega⟩
  · exact ⟨by show _ ≤ k + 1; omega, by show k + 1 ≤ _; omega⟩
  · exact ⟨by show _ ≤ k + 1 + 1; omega, by show k + 1 + 1 ≤ _; omega⟩
  · exact mt_size _ (by omega)
theorem In64.of {n : Int} (h0 : 0 ≤ n) (h : n ≤ 2305843009213693952) : In64 n := ⟨by omega, by omega⟩
/-- the four fields of an element, and its kids, one behind the other -/
theorem mark_elem {w w1 w2 : World} {F : Nat → Prop} {b off n cap j : Nat} {ts : List V} (K0 : Int) (h : OwnS w F (.slice (some ⟨b, off, none⟩) n cap) ts) (hj : j < ts.length) (h0 : 0 ≤ K0) (h1 : K0 ≤ 1152921504606846976)
    (hb : Below w.heap.size (((w.setCell ⟨b, off + j * 5, none⟩ (.int .i64 K0)).setCell ⟨b, off + j * 5 + 1, none⟩ (.int .i64 (K0 + 1))).setCell ⟨b, off + j * 5 + 2, none⟩ (.int .i64 (K0 + 1 + 1))) w1) :
    ∃ sl, w1.cell? ⟨b, off + j * 5 + 3, none⟩ = some (.string ts[j].s) ∧ w1.frozen? ⟨b, off + j * 5 + 3, none⟩ = false ∧ w1.cell? ⟨b, off + j * 5 + 4, none⟩ = some sl ∧ b < w.heap.size ∧
      ∃ F', OwnS (w1.setCell ⟨b, off + j * 5 + 3, none⟩ (.string (mt (K0 + 1 + 1 + 1)))) F' sl ts[j].kids ∧
        ∀ w', OwnS w' F' sl (mkVs (K0 + 1 + 1 + 1 + 1) ts[j].kids) → Touch F' F' (w1.setCell ⟨b, off + j * 5 + 3, none⟩ (.string (mt (K0 + 1 + 1 + 1)))) w' →
          OwnS w' F (.slice (some ⟨b, off, none⟩) n cap) (ts.set j (mkV K0 ts[j])) ∧ Touch F F w w' := by
  obtain ⟨hFb, hbw, hfz, hwf, sl, hc, _⟩ := h.elem hj
  obtain ⟨wk, wn, we, ws⟩ := hwf
  generalize hA : w.setCell ⟨b, off + j * 5, none⟩ (.int .i64 K0) = A at *
  generalize hB : A.setCell ⟨b, off + j * 5 + 1, none⟩ (.int .i64 (K0 + 1)) = B at *
  generalize hC : B.setCell ⟨b, off + j * 5 + 2, none⟩ (.int .i64 (K0 + 1 + 1)) = C at *
  have s1 : OwnS A F (.slice (some ⟨b, off, none⟩) n cap) (ts.set j (.mk K0 ts[j].n ts[j].e ts[j].s ts[j].kids)) := by
    rw [← hA]
    refine OwnS.field (c := 0) (t' := .mk K0 ts[j].n ts[j].e ts[j].s ts[j].kids) h hj rfl ⟨In64.of (n := K0) h0 (by omega), wn, we, ws⟩ (by omega) ?_
    rintro sl ⟨a0, a1, a2, a3, a4⟩
    refine ⟨World.cell?_setCell_same _ _ _ a0, ?_, ?_, ?_, ?_⟩
    · refine (World.cell?_setCell_other _ _ _ _ ?_).trans a1; intro e; simp only [Addr.mk.injEq, true_and, and_true] at e; omega
    · refine (World.cell?_setCell_other _ _ _ _ ?_).trans a2; intro e; simp only [Addr.mk.injEq, true_and, and_true] at e; omega
    · refine (World.cell?_setCell_other _ _ _ _ ?_).trans a3; intro e; simp only [Addr.mk.injEq, true_and, and_true] at e; omega
    · refine (World.cell?_setCell_other _ _ _ _ ?_).trans a4; intro e; simp only [Addr.mk.injEq, true_and, and_true] at e; omega
  have s2 : OwnS B F (.slice (some ⟨b, off, none⟩) n cap) (ts.set j (.mk K0 (K0 + 1) ts[j].e ts[j].s ts[j].kids)) := by
    rw [← hB]
    have := OwnS.field (c := 1) (u := .int .i64 (K0 + 1)) (t' := .mk K0 (K0 + 1) ts[j].e ts[j].s ts[j].kids) s1 (by simpa using hj) (by simp [V.kids]) ⟨In64.of (n := K0) h0 (by omega), In64.of (n := K0 + 1) (by omega) (by omega), we, ws⟩ (by omega) ?_
    · simpa using this
    · rintro sl ⟨a0, a1, a2, a3, a4⟩
      simp only [List.getElem_set_self] at a0 a1 a2 a3
      refine ⟨?_, World.cell?_setCell_same _ _ _ a1, ?_, ?_, ?_⟩
      · refine (World.cell?_setCell_other _ _ _ _ ?_).trans a0; intro e; simp only [Addr.mk.injEq, true_and, and_true] at e; omega
      · refine (World.cell?_setCell_other _ _ _ _ ?_).trans a2; intro e; simp only [Addr.mk.injEq, true_and, and_true] at e; omega
      · refine (World.cell?_setCell_other _ _ _ _ ?_).trans a3; intro e; simp only [Addr.mk.injEq, true_and, and_true] at e; omega
      · refine (World.cell?_setCell_other _ _ _ _ ?_).trans a4; intro e; simp only [Addr.mk.injEq, true_and, and_true] at e; omega
  have s3 : OwnS C F (.slice (some ⟨b, off, none⟩) n cap) (ts.set j (.mk K0 (K0 + 1) (K0 + 1 + 1) ts[j].s ts[j].kids)) := by
    rw [← hC]
    have := OwnS.field (c := 2) (u := .int .i64 (K0 + 1 + 1)) (t' := .mk K0 (K0 + 1) (K0 + 1 + 1) ts[j].s ts[j].kids) s2 (by simpa using hj) (by simp [V.kids]) ⟨In64.of (n := K0) h0 (by omega), In64.of (n := K0 + 1) (by omega) (by omega), In64.of (n := K0 + 1 + 1) (by omega) (by omega), ws⟩ (by omega) ?_
    · simpa using this
    · rintro sl ⟨a0, a1, a2, a3, a4⟩
      simp only [List.getElem_set_self] at a0 a1 a2 a3
      refine ⟨?_, ?_, World.cell?_setCell_same _ _ _ a2, ?_, ?_⟩
      · refine (World.cell?_setCell_other _ _ _ _ ?_).trans a0; intro e; simp only [Addr.mk.injEq, true_and, and_true] at e; omega
      · refine (World.cell?_setCell_other _ _ _ _ ?_).trans a1; intro e; simp only [Addr.mk.injEq, true_and, and_true] at e; omega
      · refine (World.cell?_setCell_other _ _ _ _ ?_).trans a3; intro e; simp only [Addr.mk.injEq, true_and, and_true] at e; omega
      · refine (World.cell?_setCell_other _ _ _ _ ?_).trans a4; intro e; simp only [Addr.mk.injEq, true_and, and_true] at e; omega
  have zC : C.heap.size = w.heap.size := by rw [← hC, ← hB, ← hA]; simp
  rw [← zC] at hb
  have s4 : OwnS w1 F (.slice (some ⟨b, off, none⟩) n cap) (ts.set j (.mk K0 (K0 + 1) (K0 + 1 + 1) ts[j].s ts[j].kids)) := s3.keep (fun x _ hx => hb.block x hx)
  have s5 : OwnS (w1.setCell ⟨b, off + j * 5 + 3, none⟩ (.string (mt (K0 + 1 + 1 + 1)))) F (.slice (some ⟨b, off, none⟩) n cap) (ts.set j (.mk K0 (K0 + 1) (K0 + 1 + 1) (mt (K0 + 1 + 1 + 1)) ts[j].kids)) := by
    have := OwnS.field (c := 3) (u := .string (mt (K0 + 1 + 1 + 1))) (t' := .mk K0 (K0 + 1) (K0 + 1 + 1) (mt (K0 + 1 + 1 + 1)) ts[j].kids) s4 (by simpa using hj) (by simp [V.kids]) ⟨In64.of (n := K0) h0 (by omega), In64.of (n := K0 + 1) (by omega) (by omega), In64.of (n := K0 + 1 + 1) (by omega) (by omega), mt_size _ (by omega)⟩ (by omega) ?_
    · simpa using this
    · rintro sl ⟨a0, a1, a2, a3, a4⟩
      simp only [List.getElem_set_self] at a0 a1 a2 a3
      refine ⟨?_, ?_, ?_, World.cell?_setCell_same _ _ _ a3, ?_⟩
      · refine (World.cell?_setCell_other _ _ _ _ ?_).trans a0; intro e; simp only [Addr.mk.injEq, true_and, and_true] at e; omega
      · refine (World.cell?_setCell_other _ _ _ _ ?_).trans a1; intro e; simp only [Addr.mk.injEq, true_and, and_true] at e; omega
      · refine (World.cell?_setCell_other _ _ _ _ ?_).trans a2; intro e; simp only [Addr.mk.injEq, true_and, and_true] at e; omega
      · refine (World.cell?_setCell_other _ _ _ _ ?_).trans a4; intro e; simp only [Addr.mk.injEq, true_and, and_true] at e; omega
  have hj4 : j < (ts.set j (.mk K0 (K0 + 1) (K0 + 1 + 1) ts[j].s ts[j].kids)).length := by simpa using hj
  have hj5 : j < (ts.set j (.mk K0 (K0 + 1) (K0 + 1 + 1) (mt (K0 + 1 + 1 + 1)) ts[j].kids)).length := by simpa using hj
  obtain ⟨_, hb1, hfz1, _, sl1, ⟨_, _, _, c3, c4⟩, _⟩ := s4.elem hj4
  obtain ⟨_, _, _, _, sl5, ⟨_, _, _, _, d4⟩, F', hF', hk5, back⟩ := s5.elem hj5
  have e4 : sl5 = sl1 := by
    have : (w1.setCell ⟨b, off + j * 5 + 3, none⟩ (.string (mt (K0 + 1 + 1 + 1)))).cell? ⟨b, off + j * 5 + 4, none⟩ = some sl1 := by
      refine (World.cell?_setCell_other _ _ _ _ ?_).trans c4; intro e; simp only [Addr.mk.injEq, true_and, and_true] at e; omega
    rw [this] at d4; exact (Option.some.inj d4).symm
  subst e4
  simp only [List.getElem_set_self] at c3 hk5
  refine ⟨sl5, c3, hfz1 _, c4, hbw, F', hk5, fun w' ho ht => ?_⟩
  have h9 := back w' _ ho ht
  simp only [List.getElem_set_self, List.set_set] at h9
  refine ⟨by rw [mkV_eq]; exact h9, ?_⟩
  have t1 : Touch F F w A := by rw [← hA]; exact touch_cell _ _ _ _ hFb
  have t2 : Touch F F A B := by rw [← hB]; exact touch_cell _ _ _ _ hFb
  have t3 : Touch F F B C := by rw [← hC]; exact touch_cell _ _ _ _ hFb
  exact t1.trans (t2.trans (t3.trans ((Touch.of_below hb).trans ((touch_cell _ _ _ _ hFb).trans (ht.mono (fun x hx => (hF' x hx).1) (fun x hx => .inr hx))))))
def MarkRet (F : Nat → Prop) (v : Value) (k : Int) (ts : List V) (w : World) (e : Ending) (w' : World) : Prop := e = .returned (.int .i64 (k + cnts ts)) ∧ OwnS w' F v (mkVs k ts) ∧ Touch F F w w'
set_option maxHeartbeats 1000000 in
theorem mark_list : ∀ (n : Nat) (ts : List V), szs ts ≤ n → ∀ (F : Nat → Prop) (v : Value) (k : Int) (w : World), OwnS w F v ts → 0 ≤ k → k + cnts ts ≤ 1152921504606846976 →
    Calls Tryd.prog 85 #[v, .int .i64 k] w (MarkRet F v k ts w) := by
  intro n
  induction n using Nat.strongRecOn with
  | ind n ih =>
  intro ts hn F v k w ho hk0 hk
  obtain ⟨a, b, off, cap, rfl, ha, hc, hm⟩ := ho.form
  have IH := Lib.hid ih; have HA := Lib.hid ha; have HO := Lib.hid ho; have HK := Lib.hid hk; have HN := Lib.hid hn
  have hlen : ts.length ≤ 9223372036854775807 := by omega
  clear ih ha ho hc hm hn
  have HKI := Lib.hid (show k ≤ 1152921504606846976 by omega)
  clear hk
  go_enter Tryd.func85, Tryd.ntmps85
  go_wp2_with fail
  go_loopw [1, 5] (fun x i wr => ∃ (j : Nat) (q : Int), j ≤ ts.length ∧ i = .int .i64 j ∧ x = .int .i64 q ∧ Hid (q = k + cnts (ts.take j)) ∧ OwnS wr F (.slice a ts.length cap) (mixV k ts j) ∧ Touch F F w wr) (fun _ i _ => ts.length - (intOf i).toNat)
  case atStart => exact ⟨0, k, by omega, rfl, rfl, Lib.hid (by simp [cnts]), by simpa [mixV, mkVs] using HO.out, Touch.refl _ _⟩
  case round =>
    obtain ⟨j, q, hj, rfl, rfl, HQ, ho, ht⟩ := hrel
    have HOR := Lib.hid ho; have HT := Lib.hid ht
    clear ho ht
    by_cases hlt : j < ts.length
    · have hne : ts ≠ [] := by intro e; rw [e] at hlt; simp at hlt
      obtain rfl := HA.out hne
      have hq0 : 0 ≤ q := by rw [HQ.out]; omega
      have hq1 : q + ts[j].cnt ≤ 1152921504606846976 := by
        have h1 := cnts_take ts j hlt; have h2 := cnts_take_le ts (j + 1); have h3 := HK.out; rw [HQ.out]; omega
      have hcn := V.cnt_eq ts[j]
      have hq2 : q ≤ 1152921504606846976 := by omega
      have hjm : j < (mixV k ts j).length := by rw [mixV_length k ts j hj]; exact hlt
      have HG := Lib.hid (mixV_get k ts j hlt hjm)
      obtain ⟨hFb, hbw, hfz, hwf, sl, ⟨c0, c1, c2, c3, c4⟩, _⟩ := HOR.out.elem hjm
      have ME := Lib.hid (fun w1 hb => mark_elem (w1 := w1) (w2 := w1) q HOR.out hjm hq0 hq2 hb)
      have MT := Lib.hid (fun W => markText_any (q + 1 + 1 + 1) W (by omega))
      have HS := Lib.hid (mixV_set k ts j hlt)
      have HQ2 := Lib.hid (show q + ts[j].cnt = k + cnts (ts.take (j + 1)) by rw [HQ.out, cnts_take ts j hlt]; omega)
      have HC := Lib.hid (show q + 1 + 1 + 1 + 1 + cnts ts[j].kids = q + ts[j].cnt by omega)
      have HLe := Lib.hid (show q + 1 + 1 + 1 + 1 + cnts ts[j].kids ≤ 1152921504606846976 by omega)
      have hzk : szs ts[j].kids < n := by have h1 := szs_mem (List.getElem_mem hlt); have h2 := V.sz_eq ts[j]; have := HN.out; omega
      have IHJ := Lib.hid (fun F' sl' (W : World) (hoo : OwnS W F' sl' ts[j].kids) => IH.out (szs ts[j].kids) hzk ts[j].kids (Nat.le_refl _) F' sl' (q + 1 + 1 + 1 + 1) W hoo (by omega) HLe.out)
      clear hq1 hcn hwf hFb hzk
      generalize hT0 : (mixV k ts j)[j] = T0 at *
      have HT0 := Lib.hid hT0; clear hT0
      go_wp2_with fail
      refine (MT.out _).mono ?_
      rintro e1 w1 ⟨rfl, hb1⟩
      obtain ⟨sl1, d3, df, d4, _, F', hk5, back⟩ := ME.out w1 (by simpa using hb1)
      rw [HG.out] at hk5 back
      have HK5 := Lib.hid hk5; have BK := Lib.hid back
      obtain ⟨ksa, _, _, kcap, rfl, _⟩ := hk5.form
      clear hk5 back c0 c1 c2 c3 c4
      go_wp2_with fail
      refine (IHJ.out F' _ _ HK5.out).mono ?_
      rintro e2 w2 ⟨rfl, ho2, ht2⟩
      obtain ⟨ho3, ht3⟩ := BK.out w2 ho2 ht2
      have HO3 := Lib.hid ho3; have HT3 := Lib.hid ht3
      rw [HC.out]
      clear ho2 ht2 ho3 ht3
      go_wp2_with fail
      go_roundw
      case rel => exact ⟨j + 1, q + ts[j].cnt, by omega, by go_num, rfl, HQ2, by have := HO3.out; rw [HQ.out, HS.out] at this; exact this, HT.out.trans HT3.out⟩
      case measure => simp [intOf]; omega
    · have hj' : j = ts.length := by omega
      subst hj'
      have H1 := Lib.hid (show q = k + cnts ts by rw [HQ.out, List.take_length])
      have H2 := Lib.hid (show mixV k ts ts.length = mkVs k ts by simp [mixV])
      go_wp2_with fail
      go_ret
      exact ⟨by rw [← H1.out]; rfl, by have := HOR.out; rw [H2.out] at this; exact this, HT.out⟩
def MarkVRet (F : Nat → Prop) (sl : Value) (k : Int) (ts : List V) (w : World) (e : Ending) (w' : World) : Prop := e = .returned (.int .i64 (k + cnts ts)) ∧ OwnS w' F sl (mkVs k ts) ∧ Touch F F w w'
set_option maxHeartbeats 400000 in
theorem mark_value (t : V) (sl : Value) (F : Nat → Prop) (k : Int) (w : World) (ho : OwnS w F sl t.kids) (hk0 : 0 ≤ k) (hk : k + cnts t.kids ≤ 1152921504606846976) :
    Calls Tryd.prog 19 #[t.agg sl, .int .i64 k] w (MarkVRet F sl k t.kids w) := by
  have HM := Lib.hid (fun (W : World) (hW : Below w.heap.size w W) => mark_list _ t.kids (Nat.le_refl _) F sl k W (ho.keep (fun x _ hx => hW.block x hx)) hk0 hk)
  obtain ⟨a, _, _, cap, rfl, _⟩ := ho.form
  have HP := Lib.hid (show ∀ e w', MarkRet F (.slice a t.kids.length cap) k t.kids (w.alloc (.cells #[.int .i64 t.k, .int .i64 t.n, .int .i64 t.e, .string t.s, .slice a t.kids.length cap] 28)) e w' → MarkVRet F (.slice a t.kids.length cap) k t.kids w e w' from
    fun e w' ⟨h1, h2, h3⟩ => ⟨h1, h2, (Touch.of_below ((Below.refl _ _).alloc (Nat.le_refl _) _)).trans h3⟩)
  clear hk ho
  unfold V.agg
  generalize t.k = vk at *
  generalize t.n = vn at *
  generalize t.e = ve at *
  generalize t.s = vs at *
  go_enter Tryd.func19, Tryd.ntmps19
  go_wp2_with fail
  refine (HM.out _ (by (repeat' (first | with_reducible exact Below.refl _ _ | with_reducible refine below_alloc ?_ _ ?_ | with_reducible refine Below.setCell ?_ ?_ _ | with_reducible refine Below.drew ?_ | with_reducible refine below_drewN ?_ _ | with_reducible refine below_step ?_ (by assumption) ?_ | with_reducible refine below_mark ?_ (by assumption) ?_)); all_goals (first | omega | (simp; done) | (simp; omega)))).mono ?_
  rintro e w1 ⟨rfl, h2, h3⟩
  have HP2 := Lib.hid (HP.out _ _ ⟨rfl, h2, h3⟩)
  clear h2 h3
  go_wp2_with fail
  go_ret
  exact HP2.out
theorem RepS.opened {w : World} {v : Value} {ts : List V} (h : RepS w v ts) : ∃ a b off cap, v = .slice a ts.length cap ∧ (ts ≠ [] → a = some ⟨b, off, none⟩ ∧ b < w.heap.size) ∧ ts.length ≤ cap ∧ cap ≤ 9223372036854775807 ∧
    ∃ sls : Nat → Value, ∀ i (h : i < ts.length), Cells5 w b (off + i * 5) ts[i] (sls i) ∧ ts[i].wf ∧ RepS w (sls i) ts[i].kids := by
  cases h with
  | mk a b off cap ts0 sls ha hc hm hbb cells wfs kids => exact ⟨a, b, off, cap, rfl, fun hne => ⟨ha hne, hbb hne⟩, hc, hm, sls, fun i hi => ⟨cells i hi, wfs i hi, kids i hi⟩⟩
def HeldRet (k : Int) (ts : List V) (w : World) (e : Ending) (w' : World) : Prop := e = .returned (.int .i64 (k + cnts ts)) ∧ Below w.heap.size w w'
set_option maxHeartbeats 1000000 in
theorem held_list (w0 : World) : ∀ (n : Nat) (ts : List V), szs ts ≤ n → ∀ (v : Value) (k : Int) (w : World), RepS w0 v (mkVs k ts) → Below w0.heap.size w0 w → 0 ≤ k → k + cnts ts ≤ 1152921504606846976 →
    Calls Tryd.prog 86 #[v, .int .i64 k] w (HeldRet k ts w) := by
  intro n
  induction n using Nat.strongRecOn with
  | ind n ih =>
  intro ts hn v k w ho hw hk0 hk
  obtain ⟨a, b, off, cap, hv, ha, hc, hm, sls, hel⟩ := ho.opened
  rw [mkVs_length] at hv hc
  subst hv
  have IH := Lib.hid ih; have HA := Lib.hid ha; have HE := Lib.hid hel; have HK := Lib.hid hk; have HN := Lib.hid hn
  have hlen : ts.length ≤ 9223372036854775807 := by omega
  clear ih ha ho hc hm hn hel
  have HKI := Lib.hid (show k ≤ 1152921504606846976 by omega)
  clear hk
  go_enter Tryd.func86, Tryd.ntmps86
  go_wp2_with fail
  go_loopw [1, 5] (fun x i wr => ∃ (j : Nat) (q : Int), j ≤ ts.length ∧ i = .int .i64 j ∧ x = .int .i64 q ∧ Hid (q = k + cnts (ts.take j)) ∧ Below w.heap.size w wr) (fun _ i _ => ts.length - (intOf i).toNat)
  case atStart => exact ⟨0, k, by omega, rfl, rfl, Lib.hid (by simp [cnts]), Below.refl _ _⟩
  case round =>
    obtain ⟨j, q, hj, rfl, rfl, HQ, hbl⟩ := hrel
    by_cases hlt : j < ts.length
    · have hjm : j < (mkVs k ts).length := by rw [mkVs_length]; exact hlt
      have hne : mkVs k ts ≠ [] := by intro e; rw [e] at hjm; simp at hjm
      obtain ⟨rfl, hbw⟩ := HA.out hne
      have hq0 : 0 ≤ q := by rw [HQ.out]; omega
      have hq1 : q + ts[j].cnt ≤ 1152921504606846976 := by
        have h1 := cnts_take ts j hlt; have h2 := cnts_take_le ts (j + 1); have h3 := HK.out; rw [HQ.out]; omega
      have hcn := V.cnt_eq ts[j]
      have hq2 : q ≤ 1152921504606846976 := by omega
      have HWR := Lib.hid (hw.trans (hbl.mono hw.size))
      obtain ⟨hcells, _, hkk⟩ := HE.out j hjm
      rw [mkVs_get k ts j hjm hlt, ← HQ.out, mkV_eq] at hcells hkk
      have hkk' : RepS w0 (sls j) (mkVs (q + 1 + 1 + 1 + 1) ts[j].kids) := hkk
      obtain ⟨c0, c1, c2, c3, c4⟩ := hcells.keep (HWR.out.block b hbw)
      have c0' : wr.cell? ⟨b, off + j * 5, none⟩ = some (.int .i64 q) := c0
      have c1' : wr.cell? ⟨b, off + j * 5 + 1, none⟩ = some (.int .i64 (q + 1)) := c1
      have c2' : wr.cell? ⟨b, off + j * 5 + 2, none⟩ = some (.int .i64 (q + 1 + 1)) := c2
      have c3' : wr.cell? ⟨b, off + j * 5 + 3, none⟩ = some (.string (mt (q + 1 + 1 + 1))) := c3
      clear c0 c1 c2 c3 hcells
      have MT := Lib.hid (fun W => markText_any (q + 1 + 1 + 1) W (by omega))
      have HQ2 := Lib.hid (show q + ts[j].cnt = k + cnts (ts.take (j + 1)) by rw [HQ.out, cnts_take ts j hlt]; omega)
      have HC := Lib.hid (show q + 1 + 1 + 1 + 1 + cnts ts[j].kids = q + ts[j].cnt by omega)
      have hpos : 0 ≤ q + ts[j].cnt := by omega
      have HLe := Lib.hid (show q + 1 + 1 + 1 + 1 + cnts ts[j].kids ≤ 1152921504606846976 by omega)
      have hzk : szs ts[j].kids < n := by have h1 := szs_mem (List.getElem_mem hlt); have h2 := V.sz_eq ts[j]; have := HN.out; omega
      obtain ⟨ka, _, _, kcap, hks, _⟩ := hkk'.opened
      rw [hks] at c4
      have IHJ := Lib.hid (fun (W : World) (hW : Below wr.heap.size wr W) => IH.out (szs ts[j].kids) hzk ts[j].kids (Nat.le_refl _) (sls j) (q + 1 + 1 + 1 + 1) W hkk' (below_step HWR.out hW (by have := HWR.out.size; omega)) (by omega) HLe.out)
      rw [hks] at IHJ
      clear hq1 hcn hzk hks hkk hkk'
      have t1 := ba_yes (rfl : mt (q + 1 + 1 + 1) = mt (q + 1 + 1 + 1))
      generalize mt (q + 1 + 1 + 1) = s at *
      have hbr : b < wr.heap.size := Nat.lt_of_lt_of_le hbw HWR.out.size
      go_wp2_with fail
      go_region_held3 (fun w' => w'.cell? ⟨b, off + j * 5 + 3, none⟩ = some (.string s)) (first | assumption | go_keep) ((go_at_call 113; refine (MT.out _).mono ?_; rintro e2 w2 ⟨rfl, hb2⟩; have hbc := (hb2.cell (p := ⟨b, off + j * 5 + 3, none⟩) (by simp; omega)); have hbc2 := hbc.trans ‹_›; have hbd := (hb2.cell (p := ⟨b, off + j * 5 + 4, none⟩) (by simp; omega))))
      go_wp2_with fail
      refine (IHJ.out _ (by (repeat' (first | with_reducible exact Below.refl _ _ | with_reducible refine below_alloc ?_ _ ?_ | with_reducible refine Below.setCell ?_ ?_ _ | with_reducible refine Below.drew ?_ | with_reducible refine below_drewN ?_ _ | with_reducible refine below_step ?_ (by assumption) ?_ | with_reducible refine below_mark ?_ (by assumption) ?_)); all_goals (first | omega | (simp; done) | (simp; omega)))).mono ?_
      rintro e3 w3 ⟨rfl, hb3⟩
      rw [HC.out]
      go_wp2_with fail
      go_roundw
      case rel => exact ⟨j + 1, q + ts[j].cnt, by omega, by go_num, rfl, HQ2, (by (repeat' (first | with_reducible exact Below.refl _ _ | with_reducible refine below_alloc ?_ _ ?_ | with_reducible refine Below.setCell ?_ ?_ _ | with_reducible refine Below.drew ?_ | with_reducible refine below_drewN ?_ _ | with_reducible refine below_step ?_ (by assumption) ?_ | with_reducible refine below_mark ?_ (by assumption) ?_)); all_goals (first | omega | (simp; done) | (simp; omega)))⟩
      case measure => simp [intOf]; omega
    · have hj' : j = ts.length := by omega
      subst hj'
      have H1 := Lib.hid (show q = k + cnts ts by rw [HQ.out, List.take_length])
      go_wp2_with fail
      go_ret
      exact ⟨by rw [← H1.out]; rfl, hbl⟩
set_option maxHeartbeats 400000 in
theorem held_value (w0 : World) (t : V) (sl : Value) (k : Int) (w : World) (ho : RepS w0 sl (mkVs k t.kids)) (hw : Below w0.heap.size w0 w) (vk vn ve : Int) (vs : ByteArray) (hk0 : 0 ≤ k) (hk : k + cnts t.kids ≤ 1152921504606846976) :
    Calls Tryd.prog 20 #[.agg #[.int .i64 vk, .int .i64 vn, .int .i64 ve, .string vs, sl], .int .i64 k] w (HeldRet k t.kids w) := by
  have HM := Lib.hid (fun (W : World) (hW : Below w.heap.size w W) => held_list w0 _ t.kids (Nat.le_refl _) sl k W ho (below_step hw hW (Nat.le_refl _)) hk0 hk)
  obtain ⟨a, _, _, cap, rfl, _⟩ := ho.opened
  rw [mkVs_length] at HM ⊢
  have hpos : 0 ≤ k + cnts t.kids := by omega
  clear hk ho hw
  go_enter Tryd.func20, Tryd.ntmps20
  go_wp2_with fail
  refine (HM.out _ (by (repeat' (first | with_reducible exact Below.refl _ _ | with_reducible refine below_alloc ?_ _ ?_ | with_reducible refine Below.setCell ?_ ?_ _ | with_reducible refine Below.drew ?_ | with_reducible refine below_drewN ?_ _ | with_reducible refine below_step ?_ (by assumption) ?_ | with_reducible refine below_mark ?_ (by assumption) ?_)); all_goals (first | omega | (simp; done) | (simp; omega)))).mono ?_
  rintro e w1 ⟨rfl, hb1⟩
  go_wp2_with fail
  go_ret
  exact ⟨rfl, (by (repeat' (first | with_reducible exact Below.refl _ _ | with_reducible refine below_alloc ?_ _ ?_ | with_reducible refine Below.setCell ?_ ?_ _ | with_reducible refine Below.drew ?_ | with_reducible refine below_drewN ?_ _ | with_reducible refine below_step ?_ (by assumption) ?_ | with_reducible refine below_mark ?_ (by assumption) ?_)); all_goals (first | omega | (simp; done) | (simp; omega)))⟩
end Go.Proofs.YtiemlefmhleaeaaDoor
