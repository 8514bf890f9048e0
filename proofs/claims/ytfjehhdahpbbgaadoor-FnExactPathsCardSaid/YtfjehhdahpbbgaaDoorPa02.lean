/- Lemmas for the statement of the last text of this claim: texts joined. -/
import Derived.Test.YtfjehhdahpbbgaaDoorPa01
import Derived.WalkSpells
import Derived.Lib.Hide
import Derived.Deep.QuietTactic
import Derived.BigQuiet
import Derived.IntWalk
import Derived.OwnWalk
import Derived.Deep.RegionWith
import Derived.Lib.MapLaws
import Derived.Lib.ValidLaws
import Derived.Deep.RegionHeld3
namespace Go.Proofs.YtfjehhdahpbbgaaDoor
set_option linter.unusedSimpArgs false
set_option linter.unusedVariables false
set_option maxRecDepth 100000
open Go.RowKit
mutual
def V.cnt : V → Nat
  | .mk _ _ _ _ ks => 4 + cnts ks
def cnts : List V → Nat
  | [] => 0
  | t :: ts => t.cnt + cnts ts
 end
mutual
def mkV : Int → V → V
  | k, .mk _ _ _ _ ks => .mk k (k + 1) (k + 1 + 1) (mt (k + 1 + 1 + 1)) (mkVs (k + 1 + 1 + 1 + 1) ks)
def mkVs : Int → List V → List V
  | _, [] => []
  | k, t :: ts => mkV k t :: mkVs (k + t.cnt) ts
 end
theorem V.cnt_eq (t : V) : t.cnt = 4 + cnts t.kids := by cases t; rw [V.cnt]; rfl
theorem mkV_eq (k : Int) (t : V) : mkV k t = .mk k (k + 1) (k + 1 + 1) (mt (k + 1 + 1 + 1)) (mkVs (k + 1 + 1 + 1 + 1) t.kids) := by cases t; rw [mkV]; rfl
theorem mkVs_length : ∀ (k : Int) (ts : List V), (mkVs k ts).length = ts.length
  | _, [] => by simp [mkVs]
  | k, t :: ts => by simp only [mkVs, List.length_cons, mkVs_length (k + t.cnt) ts]
theorem cnts_append : ∀ a b : List V, cnts (a ++ b) = cnts a + cnts b
  | [], b => by simp [cnts]
  | t :: a, b => by simp only [List.cons_append, cnts, cnts_append a b]; omega
theorem cnts_take (ts : List V) (j : Nat) (h : j < ts.length) : cnts (ts.take (j + 1)) = cnts (ts.take j) + ts[j].cnt := by
  rw [List.take_succ_eq_append_getElem h, cnts_append, cnts, cnts]; rfl
theorem cnts_take_le (ts : List V) (j : Nat) : cnts (ts.take j) ≤ cnts ts := by
  have := cnts_append (ts.take j) (ts.drop j); rw [List.take_append_drop] at this; omega
mutual
theorem cnt_sz : ∀ t : V, t.cnt ≤ 4 + 4 * t.sz
  | .mk k n e s ks => by have := cnts_sz ks; simp only [V.cnt, V.sz]; omega
theorem cnts_sz : ∀ ts : List V, cnts ts ≤ 4 * szs ts
  | [] => by simp [cnts]
  | t :: ts => by have h1 := cnt_sz t; have h2 := cnts_sz ts; simp only [cnts, szs]; omega
 end
def mixV (k : Int) (ts : List V) (j : Nat) : List V := mkVs k (ts.take j) ++ ts.drop j
theorem mixV_length (k : Int) (ts : List V) (j : Nat) (h : j ≤ ts.length) : (mixV k ts j).length = ts.length := by
  unfold mixV; rw [List.length_append, mkVs_length, List.length_take, List.length_drop]; omega
theorem mkVs_append : ∀ (k : Int) (a b : List V), mkVs k (a ++ b) = mkVs k a ++ mkVs (k + cnts a) b
  | k, [], b => by simp [mkVs, cnts]
  | k, t :: a, b => by
    simp only [List.cons_append, mkVs, mkVs_append (k + t.cnt) a b, cnts]
    rw [show k + ↑t.cnt + ↑(cnts a) = k + ↑(t.cnt + cnts a) by omega]
theorem mixV_get (k : Int) (ts : List V) (j : Nat) (h : j < ts.length) (h' : j < (mixV k ts j).length) : (mixV k ts j)[j] = ts[j] := by
  revert h'
  unfold mixV
  intro h'
  rw [List.getElem_append_right (by rw [mkVs_length, List.length_take]; omega)]
  simp only [mkVs_length, List.length_take, List.getElem_drop]
  congr 1; omega
theorem mixV_set (k : Int) (ts : List V) (j : Nat) (h : j < ts.length) : (mixV k ts j).set j (mkV (k + cnts (ts.take j)) ts[j]) = mixV k ts (j + 1) := by
  unfold mixV
  rw [List.set_append, if_neg (by rw [mkVs_length, List.length_take]; omega), mkVs_length, List.length_take]
  rw [show j - min j ts.length = 0 by omega, List.drop_eq_getElem_cons h, List.set_cons_zero, List.take_succ_eq_append_getElem h, mkVs_append]
  simp [mkVs]
theorem In64.of {n : Int} (h0 : 0 ≤ n) (h : n ≤ 2305843009213693952) : In64 n := ⟨by omega, by omega⟩
theorem mark_elem {w w1 w2 : World} {F : Nat → Prop} {b off n cap j : Nat} {ts : List V} (K0 : Int) (h : OwnS w F (.slice (some ⟨b, off, none⟩) n cap) ts) (hj : j < ts.length) (h0 : 0 ≤ K0) (h1 : K0 ≤ 1152921504606846976)
    (hb : Below w.heap.size (((w.setCell ⟨b, off + j * 5, none⟩ (.int .i64 K0)).setCell ⟨b, off + j * 5 + 1, none⟩ (.int .i64 (K0 + 1))).setCell ⟨b, off + j * 5 + 2, none⟩ (.int .i64 (K0 + 1 + 1))) w1) :
    ∃ sl, w1.cell? ⟨b, off + j * 5 + 3, none⟩ = some (.string ts[j].s) ∧ w1.frozen? ⟨b, off + j * 5 + 3, none⟩ = false ∧ w1.cell? ⟨b, off + j * 5 + 4, none⟩ = some sl ∧ b < w.heap.size ∧
      ∃ F', OwnS (w1.setCell ⟨b, off + j * 5 + 3, none⟩ (.string (mt (K0 + 1 + 1 + 1)))) F' sl ts[j].kids ∧
        ∀ w', OwnS w' F' sl (mkVs (K0 + 1 + 1 + 1 + 1) ts[j].kids) → Touch F' F' (w1.setCell ⟨b, off + j * 5 + 3, none⟩ (.string (mt (K0 + 1 + 1 + 1)))) w' →
          OwnS w' F (.slice (some ⟨b, off, none⟩) n cap) (ts.set j (mkV K0 ts[j])) ∧ Touch F F w w' := by
  obtain ⟨hFb, hbw, hfz, hwf, sl, hc, _⟩ := h.elem hj
  obtain ⟨wk, wn, we, ws⟩ := hwf
  generalize hA : w.setCell ⟨b, off + j * 5, none⟩ (.int .i64 K0) = A at *
  generalize hB : A.setCell ⟨b, off + j * 5 + 1, none⟩ (.int .i64 (K0 + 1)) = B at *
  generalize hC : B.setCell ⟨b, off + j * 5 + 2, none⟩ (.int .i64 (K0 + 1 + 1)) = C at *
  have s1 : OwnS A F (.slice (some ⟨b, off, none⟩) n cap) (ts.set j (.mk K0 ts[j].n ts[j].e ts[j].s ts[j].kids)) := by
    rw [← hA]
    refine OwnS.field (c := 0) (t' := .mk K0 ts[j].n ts[j].e ts[j].s ts[j].kids) h hj rfl ⟨In64.of (n := K0) h0 (by omega), wn, we, ws⟩ (by omega) ?_
    rintro sl ⟨a0, a1, a2, a3, a4⟩
    refine ⟨World.cell?_setCell_same _ _ _ a0, ?_, ?_, ?_, ?_⟩
    · refine (World.cell?_setCell_other _ _ _ _ ?_).trans a1; intro e; simp only [Addr.mk.injEq, true_and, and_true] at e; omega
    · refine (World.cell?_setCell_other _ _ _ _ ?_).trans a2; intro e; simp only [Addr.mk.injEq, true_and, and_true] at e; omega
    · refine (World.cell?_setCell_other _ _ _ _ ?_).trans a3; intro e; simp only [Addr.mk.injEq, true_and, and_true] at e; omega
    · refine (World.cell?_setCell_other _ _ _ _ ?_).trans a4; intro e; simp only [Addr.mk.injEq, true_and, and_true] at e; omega
  have s2 : OwnS B F (.slice (some ⟨b, off, none⟩) n cap) (ts.set j (.mk K0 (K0 + 1) ts[j].e ts[j].s ts[j].kids)) := by
    rw [← hB]
    have := OwnS.field (c := 1) (u := .int .i64 (K0 + 1)) (t' := .mk K0 (K0 + 1) ts[j].e ts[j].s ts[j].kids) s1 (by simpa using hj) (by simp [V.kids]) ⟨In64.of (n := K0) h0 (by omega), In64.of (n := K0 + 1) (by omega) (by omega), we, ws⟩ (by omega) ?_
    · simpa using this
    · rintro sl ⟨a0, a1, a2, a3, a4⟩
      simp only [List.getElem_set_self] at a0 a1 a2 a3
      refine ⟨?_, World.cell?_setCell_same _ _ _ a1, ?_, ?_, ?_⟩
      · refine (World.cell?_setCell_other _ _ _ _ ?_).trans a0; intro e; simp only [Addr.mk.injEq, true_and, and_true] at e; omega
      · refine (World.cell?_setCell_other _ _ _ _ ?_).trans a2; intro e; simp only [Addr.mk.injEq, true_and, and_true] at e; omega
      · refine (World.cell?_setCell_other _ _ _ _ ?_).trans a3; intro e; simp only [Addr.mk.injEq, true_and, and_true] at e; omega
      · refine (World.cell?_setCell_other _ _ _ _ ?_).trans a4; intro e; simp only [Addr.mk.injEq, true_and, and_true] at e; omega
  have s3 : OwnS C F (.slice (some ⟨b, off, none⟩) n cap) (ts.set j (.mk K0 (K0 + 1) (K0 + 1 + 1) ts[j].s ts[j].kids)) := by
    rw [← hC]
    have := OwnS.field (c := 2) (u := .int .i64 (K0 + 1 + 1)) (t' := .mk K0 (K0 + 1) (K0 + 1 + 1) ts[j].s ts[j].kids) s2 (by simpa using hj) (by simp [V.kids]) ⟨In64.of (n := K0) h0 (by omega), In64.of (n := K0 + 1) (by omega) (by omega), In64.of (n := K0 + 1 + 1) (by omega) (by omega), ws⟩ (by omega) ?_
    · simpa using this
    · rintro sl ⟨a0, a1, a2, a3, a4⟩
      simp only [List.getElem_set_self] at a0 a1 a2 a3
      refine ⟨?_, ?_, World.cell?_setCell_same _ _ _ a2, ?_, ?_⟩
      · refine (World.cell?_setCell_other _ _ _ _ ?_).trans a0; intro e; simp only [Addr.mk.injEq, true_and, and_true] at e; omega
      · refine (World.cell?_setCell_other _ _ _ _ ?_).trans a1; intro e; simp only [Addr.mk.injEq, true_and, and_true] at e; omega
      · refine (World.cell?_setCell_other _ _ _ _ ?_).trans a3; intro e; simp only [Addr.mk.injEq, true_and, and_true] at e; omega
      · refine (World.cell?_setCell_other _ _ _ _ ?_).trans a4; intro e; simp only [Addr.mk.injEq, true_and, and_true] at e; omega
  have zC : C.heap.size = w.heap.size := by rw [← hC, ← hB, ← hA]; simp
  rw [← zC] at hb
  have s4 : OwnS w1 F (.slice (some ⟨b, off, none⟩) n cap) (ts.set j (.mk K0 (K0 + 1) (K0 + 1 + 1) ts[j].s ts[j].kids)) := s3.keep (fun x _ hx => hb.block x hx)
  have s5 : OwnS (w1.setCell ⟨b, off + j * 5 + 3, none⟩ (.string (mt (K0 + 1 + 1 + 1)))) F (.slice (some ⟨b, off, none⟩) n cap) (ts.set j (.mk K0 (K0 + 1) (K0 + 1 + 1) (mt (K0 + 1 + 1 + 1)) ts[j].kids)) := by
    have := OwnS.field (c := 3) (u := .string (mt (K0 + 1 + 1 + 1))) (t' := .mk K0 (K0 + 1) (K0 + 1 + 1) (mt (K0 + 1 + 1 + 1)) ts[j].kids) s4 (by simpa using hj) (by simp [V.kids]) ⟨In64.of (n := K0) h0 (by omega), In64.of (n := K0 + 1) (by omega) (by omega), In64.of (n := K0 + 1 + 1) (by omega) (by omega), mt_size _ (by omega)⟩ (by omega) ?_
    · simpa using this
    · rintro sl ⟨a0, a1, a2, a3, a4⟩
      simp only [List.getElem_set_self] at a0 a1 a2 a3
      refine ⟨?_, ?_, ?_, World.cell?_setCell_same _ _ _ a3, ?_⟩
      · refine (World.cell?_setCell_other _ _ _ _ ?_).trans a0; intro e; simp only [Addr.mk.injEq, true_and, and_true] at e; omega
      · refine (World.cell?_setCell_other _ _ _ _ ?_).trans a1; intro e; simp only [Addr.mk.injEq, true_and, and_true] at e; omega
      · refine (World.cell?_setCell_other _ _ _ _ ?_).trans a2; intro e; simp only [Addr.mk.injEq, true_and, and_true] at e; omega
      · refine (World.cell?_setCell_other _ _ _ _ ?_).trans a4; intro e; simp only [Addr.mk.injEq, true_and, and_true] at e; omega
  have hj4 : j < (ts.set j (.mk K0 (K0 + 1) (K0 + 1 + 1) ts[j].s ts[j].kids)).length := by simpa using hj
  have hj5 : j < (ts.set j (.mk K0 (K0 + 1) (K0 + 1 + 1) (mt (K0 + 1 + 1 + 1)) ts[j].kids)).length := by simpa using hj
  obtain ⟨_, hb1, hfz1, _, sl1, ⟨_, _, _, c3, c4⟩, _⟩ := s4.elem hj4
  obtain ⟨_, _, _, _, sl5, ⟨_, _, _, _, d4⟩, F', hF', hk5, back⟩ := s5.elem hj5
  have e4 : sl5 = sl1 := by
    have : (w1.setCell ⟨b, off + j * 5 + 3, none⟩ (.string (mt (K0 + 1 + 1 + 1)))).cell? ⟨b, off + j * 5 + 4, none⟩ = some sl1 := by
      refine (World.cell?_setCell_other _ _ _ _ ?_).trans c4; intro e; simp only [Addr.mk.injEq, true_and, and_true] at e; omega
    rw [this] at d4; exact (Option.some.inj d4).symm
  subst e4
  simp only [List.getElem_set_self] at c3 hk5
  refine ⟨sl5, c3, hfz1 _, c4, hbw, F', hk5, fun w' ho ht => ?_⟩
  have h9 := back w' _ ho ht
  simp only [List.getElem_set_self, List.set_set] at h9
  refine ⟨by rw [mkV_eq]; exact h9, ?_⟩
  have t1 : Touch F F w A := by rw [← hA]; exact touch_cell _ _ _ _ hFb
  have t2 : Touch F F A B := by rw [← hB]; exact touch_cell _ _ _ _ hFb
  have t3 : Touch F F B C := by rw [← hC]; exact touch_cell _ _ _ _ hFb
  exact t1.trans (t2.trans (t3.trans ((Touch.of_below hb).trans ((touch_cell _ _ _ _ hFb).trans (ht.mono (fun x hx => (hF' x hx).1) (fun x hx => .inr hx))))))
def MarkRet (F : Nat → Prop) (v : Value) (k : Int) (ts : List V) (w : World) (e : Ending) (w' : World) : Prop := e = .returned (.int .i64 (k + cnts ts)) ∧ OwnS w' F v (mkVs k ts) ∧ Touch F F w w'
set_option maxHeartbeats 1000000 in
theorem mark_list : ∀ (n : Nat) (ts : List V), szs ts ≤ n → ∀ (F : Nat → Prop) (v : Value) (k : Int) (w : World), OwnS w F v ts → 0 ≤ k → k + cnts ts ≤ 1152921504606846976 →
    Calls Tryd.prog 28 #[v, .int .i64 k] w (MarkRet F v k ts w) := by
  intro n
  induction n using Nat.strongRecOn with
  | ind n ih =>
  intro ts hn F v k w ho hk0 hk
  obtain ⟨a, b, off, cap, rfl, ha, hc, hm⟩ := ho.form
  have IH := Lib.hid ih; have HA := Lib.hid ha; have HO := Lib.hid ho; have HK := Lib.hid hk; have HN := Lib.hid hn
  have hlen : ts.length ≤ 9223372036854775807 := by omega
  clear ih ha ho hc hm hn
  have HKI := Lib.hid (show k ≤ 1152921504606846976 by omega)
  clear hk
  go_enter Tryd.func28, Tryd.ntmps28
  go_wp2_with fail
  go_loopw [1, 5] (fun x i wr => ∃ (j : Nat) (q : Int), j ≤ ts.length ∧ i = .int .i64 j ∧ x = .int .i64 q ∧ Hid (q = k + cnts (ts.take j)) ∧ OwnS wr F (.slice a ts.length cap) (mixV k ts j) ∧ Touch F F w wr) (fun _ i _ => ts.length - (intOf i).toNat)
  case atStart => exact ⟨0, k, by omega, rfl, rfl, Lib.hid (by simp [cnts]), by simpa [mixV, mkVs] using HO.out, Touch.refl _ _⟩
  case round =>
    obtain ⟨j, q, hj, rfl, rfl, HQ, ho, ht⟩ := hrel
    have HOR := Lib.hid ho; have HT := Lib.hid ht
    clear ho ht
    by_cases hlt : j < ts.length
    · have hne : ts ≠ [] := by intro e; rw [e] at hlt; simp at hlt
      obtain rfl := HA.out hne
      have hq0 : 0 ≤ q := by rw [HQ.out]; omega
      have hq1 : q + ts[j].cnt ≤ 1152921504606846976 := by
        have h1 := cnts_take ts j hlt; have h2 := cnts_take_le ts (j + 1); have h3 := HK.out; rw [HQ.out]; omega
      have hcn := V.cnt_eq ts[j]
      have hq2 : q ≤ 1152921504606846976 := by omega
      have hjm : j < (mixV k ts j).length := by rw [mixV_length k ts j hj]; exact hlt
      have HG := Lib.hid (mixV_get k ts j hlt hjm)
      obtain ⟨hFb, hbw, hfz, hwf, sl, ⟨c0, c1, c2, c3, c4⟩, _⟩ := HOR.out.elem hjm
      have ME := Lib.hid (fun w1 hb => mark_elem (w1 := w1) (w2 := w1) q HOR.out hjm hq0 hq2 hb)
      have MT := Lib.hid (fun W => markText_any (q + 1 + 1 + 1) W (by omega))
      have HS := Lib.hid (mixV_set k ts j hlt)
      have HQ2 := Lib.hid (show q + ts[j].cnt = k + cnts (ts.take (j + 1)) by rw [HQ.out, cnts_take ts j hlt]; omega)
      have HC := Lib.hid (show q + 1 + 1 + 1 + 1 + cnts ts[j].kids = q + ts[j].cnt by omega)
      have HLe := Lib.hid (show q + 1 + 1 + 1 + 1 + cnts ts[j].kids ≤ 1152921504606846976 by omega)
      have hzk : szs ts[j].kids < n := by have h1 := szs_mem (List.getElem_mem hlt); have h2 := V.sz_eq ts[j]; have := HN.out; omega
      have IHJ := Lib.hid (fun F' sl' (W : World) (hoo : OwnS W F' sl' ts[j].kids) => IH.out (szs ts[j].kids) hzk ts[j].kids (Nat.le_refl _) F' sl' (q + 1 + 1 + 1 + 1) W hoo (by omega) HLe.out)
      clear hq1 hcn hwf hFb hzk
      generalize hT0 : (mixV k ts j)[j] = T0 at *
      have HT0 := Lib.hid hT0; clear hT0
      go_wp2_with fail
      refine (MT.out _).mono ?_
      rintro e1 w1 ⟨rfl, hb1⟩
      obtain ⟨sl1, d3, df, d4, _, F', hk5, back⟩ := ME.out w1 (by simpa using hb1)
      rw [HG.out] at hk5 back
      have HK5 := Lib.hid hk5; have BK := Lib.hid back
      obtain ⟨ksa, _, _, kcap, rfl, _⟩ := hk5.form
      clear hk5 back c0 c1 c2 c3 c4
      go_wp2_with fail
      refine (IHJ.out F' _ _ HK5.out).mono ?_
      rintro e2 w2 ⟨rfl, ho2, ht2⟩
      obtain ⟨ho3, ht3⟩ := BK.out w2 ho2 ht2
      have HO3 := Lib.hid ho3; have HT3 := Lib.hid ht3
      rw [HC.out]
      clear ho2 ht2 ho3 ht3
      go_wp2_with fail
      go_roundw
      case rel => exact ⟨j + 1, q + ts[j].cnt, by omega, by go_num, rfl, HQ2, by have := HO3.out; rw [HQ.out, HS.out] at this; exact this, HT.out.trans HT3.out⟩
      case measure => simp [intOf]; omega
    · have hj' : j = ts.length := by omega
      subst hj'
      have H1 := Lib.hid (show q = k + cnts ts by rw [HQ.out, List.take_length])
      have H2 := Lib.hid (show mixV k ts ts.length = mkVs k ts by simp [mixV])
      go_wp2_with fail
      go_ret
      exact ⟨by rw [← H1.out]; rfl, by have := HOR.out; rw [H2.out] at this; exact this, HT.out⟩
def MarkVRet (F : Nat → Prop) (sl : Value) (k : Int) (ts : List V) (w : World) (e : Ending) (w' : World) : Prop := e = .returned (.int .i64 (k + cnts ts)) ∧ OwnS w' F sl (mkVs k ts) ∧ Touch F F w w'
set_option maxHeartbeats 400000 in
theorem mark_value (t : V) (sl : Value) (F : Nat → Prop) (k : Int) (w : World) (ho : OwnS w F sl t.kids) (hk0 : 0 ≤ k) (hk : k + cnts t.kids ≤ 1152921504606846976) :
    Calls Tryd.prog 34 #[t.agg sl, .int .i64 k] w (MarkVRet F sl k t.kids w) := by
  have HM := Lib.hid (fun (W : World) (hW : Below w.heap.size w W) => mark_list _ t.kids (Nat.le_refl _) F sl k W (ho.keep (fun x _ hx => hW.block x hx)) hk0 hk)
  obtain ⟨a, _, _, cap, rfl, _⟩ := ho.form
  have HP := Lib.hid (show ∀ e w', MarkRet F (.slice a t.kids.length cap) k t.kids (w.alloc (.cells #[.int .i64 t.k, .int .i64 t.n, .int .i64 t.e, .string t.s, .slice a t.kids.length cap] 29)) e w' → MarkVRet F (.slice a t.kids.length cap) k t.kids w e w' from
    fun e w' ⟨h1, h2, h3⟩ => ⟨h1, h2, (Touch.of_below ((Below.refl _ _).alloc (Nat.le_refl _) _)).trans h3⟩)
  clear hk ho
  unfold V.agg
  generalize t.k = vk at *
  generalize t.n = vn at *
  generalize t.e = ve at *
  generalize t.s = vs at *
  go_enter Tryd.func34, Tryd.ntmps34
  go_wp2_with fail
  refine (HM.out _ (by (repeat' (first | with_reducible exact Below.refl _ _ | with_reducible refine below_alloc ?_ _ ?_ | with_reducible refine Below.setCell ?_ ?_ _ | with_reducible refine Below.drew ?_ | with_reducible refine Go.below_drewN ?_ _ | with_reducible refine below_step ?_ (by assumption) ?_ | with_reducible refine below_mark ?_ (by assumption) ?_)); all_goals (first | omega | (simp; done) | (simp; omega)))).mono ?_
  rintro e w1 ⟨rfl, h2, h3⟩
  have HP2 := Lib.hid (HP.out _ _ ⟨rfl, h2, h3⟩)
  clear h2 h3
  go_wp2_with fail
  go_ret
  exact HP2.out
theorem RepS.opened {w : World} {v : Value} {ts : List V} (h : RepS w v ts) : ∃ a b off cap, v = .slice a ts.length cap ∧ (ts ≠ [] → a = some ⟨b, off, none⟩ ∧ b < w.heap.size) ∧ ts.length ≤ cap ∧ cap ≤ 9223372036854775807 ∧
    ∃ sls : Nat → Value, ∀ i (h : i < ts.length), Cells5 w b (off + i * 5) ts[i] (sls i) ∧ ts[i].wf ∧ RepS w (sls i) ts[i].kids := by
  cases h with
  | mk a b off cap ts0 sls ha hc hm hbb cells wfs kids => exact ⟨a, b, off, cap, rfl, fun hne => ⟨ha hne, hbb hne⟩, hc, hm, sls, fun i hi => ⟨cells i hi, wfs i hi, kids i hi⟩⟩
end Go.Proofs.YtfjehhdahpbbgaaDoor
namespace Go.Proofs.YtfjehhdahpbbgaaDoor
set_option linter.unusedSimpArgs false
set_option linter.unusedVariables false
set_option maxRecDepth 100000
open Go.RowKit
def BoolRet (b : Bool) (w : World) (e : Ending) (w' : World) : Prop := e = .returned (.bool b) ∧ Below w.heap.size w w'
theorem V.ext_iff (t u : V) : t = u ↔ t.k = u.k ∧ t.n = u.n ∧ t.e = u.e ∧ t.s = u.s ∧ t.kids = u.kids := by
  cases t; cases u
  simp [V.k, V.n, V.e, V.s, V.kids]
set_option maxHeartbeats 1000000 in
theorem same_value (t u : V) (sl sm : Value) (w : World)
    (ih : ∀ (w' : World), Below w.heap.size w w' → Calls Tryd.prog 72 #[sl, sm, .func (.func 44) #[] #[]] w' (BoolRet (decide (t.kids = u.kids)) w')) :
    Calls Tryd.prog 44 #[t.agg sl, u.agg sm] w (BoolRet (decide (t = u)) w) := by
  have hpost : ∃ b : Bool, b = decide (t = u) := ⟨_, rfl⟩
  obtain ⟨b, hb⟩ := hpost
  rw [← hb]
  have HB := Lib.hid (show b = decide (t.k = u.k ∧ t.n = u.n ∧ t.e = u.e ∧ t.s = u.s ∧ t.kids = u.kids) by rw [hb]; simp only [V.ext_iff])
  clear hb
  have IH := Lib.hid ih; clear ih
  unfold V.agg
  generalize t.kids = tk at *
  generalize u.kids = uk at *
  generalize t.k = k at *
  generalize t.n = n at *
  generalize t.e = e at *
  generalize t.s = s at *
  generalize u.k = k2 at *
  generalize u.n = n2 at *
  generalize u.e = e2 at *
  generalize u.s = s2 at *
  by_cases h1 : k = k2
  case neg =>
    have H := Lib.hid (show b = false by rw [HB.out, decide_eq_false (fun h => h1 h.1)])
    have t1 : (k == k2) = false := by simpa using h1
    clear h1 IH HB
    go_enter Tryd.func44, Tryd.ntmps44
    go_wp2_with fail
    go_ret
    exact ⟨by rw [H.out]; rfl, (by (repeat' (first | with_reducible exact Below.refl _ _ | with_reducible refine below_alloc ?_ _ ?_ | with_reducible refine Below.setCell ?_ ?_ _ | with_reducible refine Below.drew ?_ | with_reducible refine Go.below_drewN ?_ _ | with_reducible refine below_step ?_ (by assumption) ?_ | with_reducible refine below_mark ?_ (by assumption) ?_)); all_goals (first | omega | (simp; done) | (simp; omega)))⟩
  have t1 : (k == k2) = true := by simpa using h1
  by_cases h2 : n = n2
  case neg =>
    have H := Lib.hid (show b = false by rw [HB.out, decide_eq_false (fun h => h2 h.2.1)])
    have t2 : (n == n2) = false := by simpa using h2
    clear h1 h2 IH HB
    go_enter Tryd.func44, Tryd.ntmps44
    go_wp2_with fail
    go_ret
    exact ⟨by rw [H.out]; rfl, (by (repeat' (first | with_reducible exact Below.refl _ _ | with_reducible refine below_alloc ?_ _ ?_ | with_reducible refine Below.setCell ?_ ?_ _ | with_reducible refine Below.drew ?_ | with_reducible refine Go.below_drewN ?_ _ | with_reducible refine below_step ?_ (by assumption) ?_ | with_reducible refine below_mark ?_ (by assumption) ?_)); all_goals (first | omega | (simp; done) | (simp; omega)))⟩
  have t2 : (n == n2) = true := by simpa using h2
  by_cases h3 : e = e2
  case neg =>
    have H := Lib.hid (show b = false by rw [HB.out, decide_eq_false (fun h => h3 h.2.2.1)])
    have t3 : (e == e2) = false := by simpa using h3
    clear h1 h2 h3 IH HB
    go_enter Tryd.func44, Tryd.ntmps44
    go_wp2_with fail
    go_ret
    exact ⟨by rw [H.out]; rfl, (by (repeat' (first | with_reducible exact Below.refl _ _ | with_reducible refine below_alloc ?_ _ ?_ | with_reducible refine Below.setCell ?_ ?_ _ | with_reducible refine Below.drew ?_ | with_reducible refine Go.below_drewN ?_ _ | with_reducible refine below_step ?_ (by assumption) ?_ | with_reducible refine below_mark ?_ (by assumption) ?_)); all_goals (first | omega | (simp; done) | (simp; omega)))⟩
  have t3 : (e == e2) = true := by simpa using h3
  by_cases h4 : s = s2
  case neg =>
    have H := Lib.hid (show b = false by rw [HB.out, decide_eq_false (fun h => h4 h.2.2.2.1)])
    have t4 := ba_no h4
    clear h1 h2 h3 h4 IH HB
    go_enter Tryd.func44, Tryd.ntmps44
    go_wp2_with fail
    go_ret
    exact ⟨by rw [H.out]; rfl, (by (repeat' (first | with_reducible exact Below.refl _ _ | with_reducible refine below_alloc ?_ _ ?_ | with_reducible refine Below.setCell ?_ ?_ _ | with_reducible refine Below.drew ?_ | with_reducible refine Go.below_drewN ?_ _ | with_reducible refine below_step ?_ (by assumption) ?_ | with_reducible refine below_mark ?_ (by assumption) ?_)); all_goals (first | omega | (simp; done) | (simp; omega)))⟩
  have t4 := ba_yes h4
  have H := Lib.hid (show b = decide (tk = uk) by rw [HB.out]; simp [h1, h2, h3, h4])
  clear h1 h2 h3 h4 HB
  go_enter Tryd.func44, Tryd.ntmps44
  go_wp2_with fail
  refine (IH.out _ (by (repeat' (first | with_reducible exact Below.refl _ _ | with_reducible refine below_alloc ?_ _ ?_ | with_reducible refine Below.setCell ?_ ?_ _ | with_reducible refine Below.drew ?_ | with_reducible refine Go.below_drewN ?_ _ | with_reducible refine below_step ?_ (by assumption) ?_ | with_reducible refine below_mark ?_ (by assumption) ?_)); all_goals (first | omega | (simp; done) | (simp; omega)))).mono ?_
  rintro x w1 ⟨rfl, hb1⟩
  rw [← H.out]
  go_wp2_with fail
  go_ret
  exact ⟨rfl, (by (repeat' (first | with_reducible exact Below.refl _ _ | with_reducible refine below_alloc ?_ _ ?_ | with_reducible refine Below.setCell ?_ ?_ _ | with_reducible refine Below.drew ?_ | with_reducible refine Go.below_drewN ?_ _ | with_reducible refine below_step ?_ (by assumption) ?_ | with_reducible refine below_mark ?_ (by assumption) ?_)); all_goals (first | omega | (simp; done) | (simp; omega)))⟩
set_option maxHeartbeats 1000000 in
theorem same_list (w0 : World) (v : Value) (ts : List V) (h : RepS w0 v ts) : ∀ (u : Value) (us : List V), RepS w0 u us → ∀ (w : World), Below w0.heap.size w0 w →
    Calls Tryd.prog 72 #[v, u, .func (.func 44) #[] #[]] w (BoolRet (decide (ts = us)) w) := by
  induction h with
  | mk a b off cap ts sls ha hc hm hbb cells wfs kids ih =>
  intro u us hu w hw
  obtain ⟨a2, b2, off2, cap2, rfl, ha2, hc2, hm2, sls2, hel⟩ := hu.opened
  have HP := Lib.hid (show ∃ b : Bool, b = decide (ts = us) from ⟨_, rfl⟩)
  by_cases hlen : ts.length = us.length
  case neg =>
    have H := Lib.hid (show decide (ts = us) = false from decide_eq_false (fun e => hlen (by rw [e])))
    have t1 : ((ts.length : Int) != us.length) = true := by simp; omega
    rw [H.out]
    clear ih cells wfs kids hel hlen HP
    go_enter Tryd.func72, Tryd.ntmps72
    go_wp2_with fail
    go_ret
    exact ⟨rfl, (by (repeat' (first | with_reducible exact Below.refl _ _ | with_reducible refine below_alloc ?_ _ ?_ | with_reducible refine Below.setCell ?_ ?_ _ | with_reducible refine Below.drew ?_ | with_reducible refine Go.below_drewN ?_ _ | with_reducible refine below_step ?_ (by assumption) ?_ | with_reducible refine below_mark ?_ (by assumption) ?_)); all_goals (first | omega | (simp; done) | (simp; omega)))⟩
  have HLEN := Lib.hid hlen
  have IH := Lib.hid ih; have CC := Lib.hid cells; have WF := Lib.hid wfs; have HA := Lib.hid ha; have HA2 := Lib.hid ha2; have HE := Lib.hid hel; have KK := Lib.hid kids
  have hl63 : ts.length ≤ 9223372036854775807 := by omega
  obtain ⟨bb, hbbe⟩ := HP.out
  rw [← hbbe]
  have HB := Lib.hid hbbe
  clear ih cells wfs kids ha ha2 hel hc hm hc2 hm2 HP hbbe
  rw [← hlen]
  clear hlen
  go_enter Tryd.func72, Tryd.ntmps72
  go_wp2_with fail
  go_loopw [17] (fun i wr => ∃ k : Nat, k ≤ ts.length ∧ i = .int .i64 k ∧ Hid (ts.take k = us.take k) ∧ Below w.heap.size w wr) (fun i _ => ts.length - (intOf i).toNat)
  case atStart => exact ⟨0, by omega, rfl, Lib.hid (by simp), Below.refl _ _⟩
  case round =>
    obtain ⟨k, hk, rfl, HT, hbl⟩ := hrel
    by_cases hlt : k < ts.length
    · have hlt2 : k < us.length := by rw [← HLEN.out]; exact hlt
      have hne : ts ≠ [] := by intro e; rw [e] at hlt; simp at hlt
      have hne2 : us ≠ [] := by intro e; rw [e] at hlt2; simp at hlt2
      obtain rfl := HA.out hne
      obtain ⟨rfl, hbw2⟩ := HA2.out hne2
      have hbw := hbb hne
      have HWR := Lib.hid (hw.trans (hbl.mono hw.size))
      have hzr := HWR.out.size
      obtain ⟨c0, c1, c2, c3, c4⟩ := (CC.out k hlt).keep (HWR.out.block b hbw)
      obtain ⟨d0, d1, d2, d3, d4⟩ := (HE.out k hlt2).1.keep (HWR.out.block b2 hbw2)
      have S1 := Lib.hid (fun (W : World) (hW : Below wr.heap.size wr W) => same_value ts[k] us[k] (sls k) (sls2 k) W (fun w' hb' => IH.out k hlt (sls2 k) us[k].kids (HE.out k hlt2).2.2 w' (HWR.out.trans ((hW.trans (hb'.mono hW.size)).mono hzr))))
      have HS := Lib.hid (show ts.take (k + 1) = ts.take k ++ [ts[k]] ∧ us.take (k + 1) = us.take k ++ [us[k]] from ⟨List.take_succ_eq_append_getElem hlt, List.take_succ_eq_append_getElem hlt2⟩)
      obtain ⟨a3, cap3, hs3⟩ := (KK.out k hlt).slice
      obtain ⟨a4, cap4, hs4⟩ := (HE.out k hlt2).2.2.slice
      rw [hs3] at c4 S1
      rw [hs4] at d4 S1
      unfold V.agg at S1
      clear hs3 hs4
      have hbr : b < wr.heap.size := Nat.lt_of_lt_of_le hbw hzr
      have hbr2 : b2 < wr.heap.size := Nat.lt_of_lt_of_le hbw2 hzr
      have hbn : b2 ≠ wr.heap.size := by omega
      have hbn' : wr.heap.size ≠ b2 := by omega
      by_cases heq : ts[k] = us[k]
      · rw [decide_eq_true heq] at S1
        have HX := Lib.hid (show ts.take (k + 1) = us.take (k + 1) by rw [HS.out.1, HS.out.2, HT.out, heq])
        clear heq HS HT
        go_wp2_with fail
        refine (S1.out _ (by (repeat' (first | with_reducible exact Below.refl _ _ | with_reducible refine below_alloc ?_ _ ?_ | with_reducible refine Below.setCell ?_ ?_ _ | with_reducible refine Below.drew ?_ | with_reducible refine Go.below_drewN ?_ _ | with_reducible refine below_step ?_ (by assumption) ?_ | with_reducible refine below_mark ?_ (by assumption) ?_)); all_goals (first | omega | (simp; done) | (simp; omega)))).mono ?_
        rintro e1 w1 ⟨rfl, hb1⟩
        go_wp2_with fail
        go_roundw
        case rel => exact ⟨k + 1, by omega, by go_num, HX, (by (repeat' (first | with_reducible exact Below.refl _ _ | with_reducible refine below_alloc ?_ _ ?_ | with_reducible refine Below.setCell ?_ ?_ _ | with_reducible refine Below.drew ?_ | with_reducible refine Go.below_drewN ?_ _ | with_reducible refine below_step ?_ (by assumption) ?_ | with_reducible refine below_mark ?_ (by assumption) ?_)); all_goals (first | omega | (simp; done) | (simp; omega)))⟩
        case measure => simp [intOf]; omega
      · rw [decide_eq_false heq] at S1
        have HX := Lib.hid (show bb = false by
          rw [HB.out]
          exact decide_eq_false (fun e => heq (by subst e; rfl)))
        clear heq HS HT
        go_wp2_with fail
        refine (S1.out _ (by (repeat' (first | with_reducible exact Below.refl _ _ | with_reducible refine below_alloc ?_ _ ?_ | with_reducible refine Below.setCell ?_ ?_ _ | with_reducible refine Below.drew ?_ | with_reducible refine Go.below_drewN ?_ _ | with_reducible refine below_step ?_ (by assumption) ?_ | with_reducible refine below_mark ?_ (by assumption) ?_)); all_goals (first | omega | (simp; done) | (simp; omega)))).mono ?_
        rintro e1 w1 ⟨rfl, hb1⟩
        go_wp2_with fail
        go_ret
        exact ⟨by rw [HX.out]; rfl, (by (repeat' (first | with_reducible exact Below.refl _ _ | with_reducible refine below_alloc ?_ _ ?_ | with_reducible refine Below.setCell ?_ ?_ _ | with_reducible refine Below.drew ?_ | with_reducible refine Go.below_drewN ?_ _ | with_reducible refine below_step ?_ (by assumption) ?_ | with_reducible refine below_mark ?_ (by assumption) ?_)); all_goals (first | omega | (simp; done) | (simp; omega)))⟩
    · have HX := Lib.hid (show bb = true by
        rw [HB.out]
        have h1 := HT.out
        rw [List.take_of_length_le (by omega), List.take_of_length_le (by rw [← HLEN.out]; omega)] at h1
        exact decide_eq_true h1)
      go_wp2_with fail
      go_ret
      exact ⟨by rw [HX.out]; rfl, hbl⟩
theorem same_any (w0 : World) (v u : Value) (t x : V) (h : Rep w0 v t) (h2 : Rep w0 u x) (w : World) (hw : Below w0.heap.size w0 w) : Calls Tryd.prog 44 #[v, u] w (BoolRet (decide (t = x)) w) := by
  obtain ⟨sl, rfl, _, hr⟩ := h
  obtain ⟨sm, rfl, _, hr2⟩ := h2
  exact same_value t x sl sm w (fun w' hb => same_list w0 sl t.kids hr sm x.kids hr2 w' (below_step hw hb (by have := hw.size; omega)))
end Go.Proofs.YtfjehhdahpbbgaaDoor
namespace Go.Proofs.YtfjehhdahpbbgaaDoor
set_option linter.unusedSimpArgs false
set_option linter.unusedVariables false
set_option maxRecDepth 100000
open Go.RowKit
theorem fits10_zero : ∀ k, fits10 0 k = some 0
  | 0 => rfl
  | k + 1 => by rw [fits10, if_pos (by omega)]; simpa using fits10_zero k
theorem fits10_step (n e : Int) (he : 0 < e) : fits10 n e.toNat = if -9223372036854775808 ≤ n * 10 ∧ n * 10 ≤ 9223372036854775807 then fits10 (n * 10) (e - 1).toNat else none := by
  obtain ⟨k, hk⟩ : ∃ k : Nat, e.toNat = k + 1 := ⟨e.toNat - 1, by omega⟩
  rw [hk, show (e - 1).toNat = k by omega]; rfl
def fitV (o : Option Int) : Int := o.getD 0
def FitRet (o : Option Int) (w : World) (e : Ending) (w' : World) : Prop := e = .returned (.tuple #[.int .i64 (fitV o), .bool o.isSome]) ∧ w' = w
set_option maxHeartbeats 400000 in
theorem fits_any (n e : Int) (hn : In64 n) (he : In64 e) (w : World) : Calls Tryd.prog 146 #[.int .i64 n, .int .i64 e] w (FitRet (fits10 n e.toNat) w) := by
  obtain ⟨hn0, hn1⟩ := hn
  obtain ⟨he0, he1⟩ := he
  generalize hG : fits10 n e.toNat = G
  have HG := Lib.hid hG; clear hG
  go_enter Tryd.func146, Tryd.ntmps146
  go_wp2_with fail
  go_loop [0, 1] (fun a b => ∃ x y : Int, a = .int .i64 x ∧ b = .int .i64 y ∧ -9223372036854775808 ≤ x ∧ x ≤ 9223372036854775807 ∧ -9223372036854775808 ≤ y ∧ y ≤ 9223372036854775807 ∧ Hid (G = fits10 x y.toNat)) (fun _ b => (intOf b).toNat)
  case atStart => exact ⟨n, e, rfl, rfl, hn0, hn1, he0, he1, Lib.hid HG.out.symm⟩
  case round =>
    obtain ⟨x, y, rfl, rfl, hx0, hx1, hy0, hy1, HX⟩ := hrel
    by_cases hy : 0 < y
    · have HS := Lib.hid (fits10_step x y hy)
      by_cases hx : x = 0
      · have H := Lib.hid (show G = some 0 by rw [HX.out, hx, fits10_zero])
        have t1 : (x != 0) = false := by simpa using hx
        clear HS
        go_wp2_with fail
        go_ret2
        exact ⟨by rw [H.out]; simp [fitV], rfl⟩
      · have t1 : (x != 0) = true := by simpa using hx
        have t2 : (x == 0) = false := by simpa using hx
        clear hx
        by_cases h1 : 922337203685477580 < x
        · have H := Lib.hid (show G = none by rw [HX.out, HS.out, if_neg (by omega)])
          clear HS
          go_wp2_with fail
          go_ret2
          exact ⟨by rw [H.out]; rfl, rfl⟩
        · by_cases h2 : x < -922337203685477580
          · have H := Lib.hid (show G = none by rw [HX.out, HS.out, if_neg (by omega)])
            clear HS
            go_wp2_with fail
            go_ret2
            exact ⟨by rw [H.out]; rfl, rfl⟩
          · have H := Lib.hid (show G = fits10 (x * 10) (y - 1).toNat by rw [HX.out, HS.out, if_pos (by omega)])
            have m0 : -9223372036854775808 ≤ x * 10 := by omega
            have m1 : x * 10 ≤ 9223372036854775807 := by omega
            clear HS
            go_wp2_with fail
            go_round
            case rel => exact ⟨x * 10, y - 1, rfl, rfl, m0, m1, by omega, by omega, H⟩
            case measure => simp [intOf]; omega
    · have H := Lib.hid (show G = some x by rw [HX.out, show y.toNat = 0 by omega]; rfl)
      go_wp2_with fail
      go_ret2
      exact ⟨by rw [H.out]; rfl, rfl⟩
set_option maxHeartbeats 400000 in
theorem isKey_any (k n e : Int) (s : ByteArray) (sl : Value) (w : World) : Calls Tryd.prog 132 #[.agg #[.int .i64 k, .int .i64 n, .int .i64 e, .string s, sl]] w
    fun x w' => x = .returned (.bool (decide (k = 5 ∨ k = 3))) ∧ Below w.heap.size w w' := by
  have hpost : ∃ b : Bool, b = decide (k = 5 ∨ k = 3) := ⟨_, rfl⟩
  obtain ⟨b, hb⟩ := hpost
  rw [← hb]
  have HB := Lib.hid hb; clear hb
  by_cases h5 : k = 5
  · have H := Lib.hid (show b = true by rw [HB.out]; simp [h5])
    have t1 : (k == 5) = true := by simpa using h5
    clear h5
    go_enter Tryd.func132, Tryd.ntmps132
    go_wp2_with fail
    go_ret
    exact ⟨by rw [H.out]; rfl, (by (repeat' (first | with_reducible exact Below.refl _ _ | with_reducible refine below_alloc ?_ _ ?_ | with_reducible refine Below.setCell ?_ ?_ _ | with_reducible refine Below.drew ?_ | with_reducible refine Go.below_drewN ?_ _ | with_reducible refine below_step ?_ (by assumption) ?_ | with_reducible refine below_mark ?_ (by assumption) ?_)); all_goals (first | omega | (simp; done) | (simp; omega)))⟩
  · have t1 : (k == 5) = false := by simpa using h5
    by_cases h6 : k = 3
    · have H := Lib.hid (show b = true by rw [HB.out]; simp [h6])
      have t2 : (k == 3) = true := by simpa using h6
      clear h5 h6
      go_enter Tryd.func132, Tryd.ntmps132
      go_wp2_with fail
      go_ret
      exact ⟨by rw [H.out]; rfl, (by (repeat' (first | with_reducible exact Below.refl _ _ | with_reducible refine below_alloc ?_ _ ?_ | with_reducible refine Below.setCell ?_ ?_ _ | with_reducible refine Below.drew ?_ | with_reducible refine Go.below_drewN ?_ _ | with_reducible refine below_step ?_ (by assumption) ?_ | with_reducible refine below_mark ?_ (by assumption) ?_)); all_goals (first | omega | (simp; done) | (simp; omega)))⟩
    · have H := Lib.hid (show b = false by rw [HB.out]; simp [h5, h6])
      have t2 : (k == 3) = false := by simpa using h6
      clear h5 h6
      go_enter Tryd.func132, Tryd.ntmps132
      go_wp2_with fail
      go_ret
      exact ⟨by rw [H.out]; rfl, (by (repeat' (first | with_reducible exact Below.refl _ _ | with_reducible refine below_alloc ?_ _ ?_ | with_reducible refine Below.setCell ?_ ?_ _ | with_reducible refine Below.drew ?_ | with_reducible refine Go.below_drewN ?_ _ | with_reducible refine below_step ?_ (by assumption) ?_ | with_reducible refine below_mark ?_ (by assumption) ?_)); all_goals (first | omega | (simp; done) | (simp; omega)))⟩
theorem decOk_eq (n e : Int) : decOk n e = (decide (n.tmod 10 ≠ 0) && decide (-999999999999999999 ≤ n ∧ n ≤ 999999999999999999) && decide (-20 ≤ e ∧ e ≤ 20) && decide (e ≠ 0) && !(decide (0 < e) && (fits10 n e.toNat).isSome)) := by
  unfold decOk
  congr 1
  rw [Bool.eq_iff_iff]
  simp only [Bool.and_eq_true, decide_eq_true_eq]
  constructor
  · rintro ⟨a, b, c, d, f, g⟩; exact ⟨⟨⟨a, b, c⟩, d, f⟩, g⟩
  · rintro ⟨⟨⟨a, b, c⟩, d, f⟩, g⟩; exact ⟨a, b, c, d, f, g⟩
set_option maxHeartbeats 1000000 in
theorem isDec_any (k n e : Int) (s : ByteArray) (sl : Value) (hn : In64 n) (he : In64 e) (w : World) : Calls Tryd.prog 131 #[.agg #[.int .i64 k, .int .i64 n, .int .i64 e, .string s, sl]] w
    fun x w' => x = .returned (.bool (decOk n e)) ∧ Below w.heap.size w w' := by
  have hpost : ∃ b : Bool, b = decOk n e := ⟨_, rfl⟩
  obtain ⟨b, hb⟩ := hpost
  rw [← hb]
  rw [decOk_eq] at hb
  have HB := Lib.hid hb; clear hb
  have FT := Lib.hid (fun W => fits_any n e hn he W)
  obtain ⟨hn0, hn1⟩ := hn
  obtain ⟨he0, he1⟩ := he
  by_cases c1 : -20 ≤ e ∧ e ≤ 20
  · have W1 := Lib.hid (fun W => within_yes e (-20) 20 W c1.1 c1.2)
    obtain ⟨c10, c11⟩ := c1
    by_cases c2 : e = 0
    · have H := Lib.hid (show b = false by rw [HB.out]; simp [c2])
      have t1 : (e == 0) = true := by simpa using c2
      clear c2 FT
      go_enter Tryd.func131, Tryd.ntmps131
      go_wp2_with fail
      refine (W1.out _).mono ?_
      rintro x w1 ⟨rfl, rfl⟩
      go_wp2_with fail
      go_ret
      exact ⟨by rw [H.out]; rfl, (by (repeat' (first | with_reducible exact Below.refl _ _ | with_reducible refine below_alloc ?_ _ ?_ | with_reducible refine Below.setCell ?_ ?_ _ | with_reducible refine Below.drew ?_ | with_reducible refine Go.below_drewN ?_ _ | with_reducible refine below_step ?_ (by assumption) ?_ | with_reducible refine below_mark ?_ (by assumption) ?_)); all_goals (first | omega | (simp; done) | (simp; omega)))⟩
    · have t1 : (e == 0) = false := by simpa using c2
      by_cases c3 : -999999999999999999 ≤ n ∧ n ≤ 999999999999999999
      · have W2 := Lib.hid (fun W => within_yes n (-999999999999999999) 999999999999999999 W c3.1 c3.2)
        by_cases c4 : n.tmod 10 = 0
        · have H := Lib.hid (show b = false by rw [HB.out]; simp [c4])
          have t2 : (n.tmod 10 == 0) = true := by simpa using c4
          clear c2 c3 c4 FT
          go_enter Tryd.func131, Tryd.ntmps131
          go_wp2_with fail
          refine (W1.out _).mono ?_
          rintro x w1 ⟨rfl, rfl⟩
          go_wp2_with fail
          refine (W2.out _).mono ?_
          rintro x w2 ⟨rfl, rfl⟩
          go_wp2_with fail
          go_ret
          exact ⟨by rw [H.out]; rfl, (by (repeat' (first | with_reducible exact Below.refl _ _ | with_reducible refine below_alloc ?_ _ ?_ | with_reducible refine Below.setCell ?_ ?_ _ | with_reducible refine Below.drew ?_ | with_reducible refine Go.below_drewN ?_ _ | with_reducible refine below_step ?_ (by assumption) ?_ | with_reducible refine below_mark ?_ (by assumption) ?_)); all_goals (first | omega | (simp; done) | (simp; omega)))⟩
        · have t2 : (n.tmod 10 == 0) = false := by simpa using c4
          have HH := Lib.hid (show b = !(decide (0 < e) && (fits10 n e.toNat).isSome) by rw [HB.out]; simp [c2, c3, c4, c10, c11])
          by_cases c5 : 0 < e
          · have H := Lib.hid (show b = !(fits10 n e.toNat).isSome by rw [HH.out]; simp [c5])
            clear c2 c3 c4 HH HB
            go_enter Tryd.func131, Tryd.ntmps131
            go_wp2_with fail
            refine (W1.out _).mono ?_
            rintro x w1 ⟨rfl, rfl⟩
            go_wp2_with fail
            refine (W2.out _).mono ?_
            rintro x w2 ⟨rfl, rfl⟩
            go_wp2_with fail
            refine (FT.out _).mono ?_
            rintro x w3 ⟨rfl, rfl⟩
            go_wp2_with fail
            go_ret
            exact ⟨by rw [H.out]; cases fits10 n e.toNat <;> rfl, (by (repeat' (first | with_reducible exact Below.refl _ _ | with_reducible refine below_alloc ?_ _ ?_ | with_reducible refine Below.setCell ?_ ?_ _ | with_reducible refine Below.drew ?_ | with_reducible refine Go.below_drewN ?_ _ | with_reducible refine below_step ?_ (by assumption) ?_ | with_reducible refine below_mark ?_ (by assumption) ?_)); all_goals (first | omega | (simp; done) | (simp; omega)))⟩
          · have H := Lib.hid (show b = true by rw [HH.out]; simp [c5])
            clear c2 c3 c4 HH HB FT
            go_enter Tryd.func131, Tryd.ntmps131
            go_wp2_with fail
            refine (W1.out _).mono ?_
            rintro x w1 ⟨rfl, rfl⟩
            go_wp2_with fail
            refine (W2.out _).mono ?_
            rintro x w2 ⟨rfl, rfl⟩
            go_wp2_with fail
            go_ret
            exact ⟨by rw [H.out]; rfl, (by (repeat' (first | with_reducible exact Below.refl _ _ | with_reducible refine below_alloc ?_ _ ?_ | with_reducible refine Below.setCell ?_ ?_ _ | with_reducible refine Below.drew ?_ | with_reducible refine Go.below_drewN ?_ _ | with_reducible refine below_step ?_ (by assumption) ?_ | with_reducible refine below_mark ?_ (by assumption) ?_)); all_goals (first | omega | (simp; done) | (simp; omega)))⟩
      · have W2 := Lib.hid (fun W => within_no n (-999999999999999999) 999999999999999999 W (by omega))
        have H := Lib.hid (show b = false by rw [HB.out, decide_eq_false c3]; simp)
        clear c2 c3 FT
        go_enter Tryd.func131, Tryd.ntmps131
        go_wp2_with fail
        refine (W1.out _).mono ?_
        rintro x w1 ⟨rfl, rfl⟩
        go_wp2_with fail
        refine (W2.out _).mono ?_
        rintro x w2 ⟨rfl, rfl⟩
        go_wp2_with fail
        go_ret
        exact ⟨by rw [H.out]; rfl, (by (repeat' (first | with_reducible exact Below.refl _ _ | with_reducible refine below_alloc ?_ _ ?_ | with_reducible refine Below.setCell ?_ ?_ _ | with_reducible refine Below.drew ?_ | with_reducible refine Go.below_drewN ?_ _ | with_reducible refine below_step ?_ (by assumption) ?_ | with_reducible refine below_mark ?_ (by assumption) ?_)); all_goals (first | omega | (simp; done) | (simp; omega)))⟩
  · have W1 := Lib.hid (fun W => within_no e (-20) 20 W (by omega))
    have H := Lib.hid (show b = false by rw [HB.out, decide_eq_false c1]; simp)
    clear c1 FT
    go_enter Tryd.func131, Tryd.ntmps131
    go_wp2_with fail
    refine (W1.out _).mono ?_
    rintro x w1 ⟨rfl, rfl⟩
    go_wp2_with fail
    go_ret
    exact ⟨by rw [H.out]; rfl, (by (repeat' (first | with_reducible exact Below.refl _ _ | with_reducible refine below_alloc ?_ _ ?_ | with_reducible refine Below.setCell ?_ ?_ _ | with_reducible refine Below.drew ?_ | with_reducible refine Go.below_drewN ?_ _ | with_reducible refine below_step ?_ (by assumption) ?_ | with_reducible refine below_mark ?_ (by assumption) ?_)); all_goals (first | omega | (simp; done) | (simp; omega)))⟩
theorem wrap_div (x : Int) (h0 : -9223372036854775808 ≤ x) (h1 : x ≤ 9223372036854775807) : ((wrap64 (x * 10)).tdiv 10 != x) = decide (¬ (-9223372036854775808 ≤ x * 10 ∧ x * 10 ≤ 9223372036854775807)) := by
  by_cases h : -9223372036854775808 ≤ x * 10 ∧ x * 10 ≤ 9223372036854775807
  · have hw : wrap64 (x * 10) = x * 10 := by unfold wrap64; omega
    rw [hw, Int.mul_tdiv_cancel _ (by decide)]
    simp [h]
  · have hne : (wrap64 (x * 10)).tdiv 10 ≠ x := by
      intro e
      have h2 : x * 10 - wrap64 (x * 10) ≤ 9 ∧ -9 ≤ x * 10 - wrap64 (x * 10) → False := by unfold wrap64; omega
      apply h2
      have h3 := Int.tdiv_mul_add_tmod (wrap64 (x * 10)) 10
      have h4 := Int.tmod_lt_of_pos (wrap64 (x * 10)) (show (0 : Int) < 10 by decide)
      have h5 := Int.lt_tmod_of_pos (wrap64 (x * 10)) (show (0 : Int) < 10 by decide)
      omega
    simp only [bne_iff_ne, ne_eq, hne, not_false_eq_true, h, decide_true]
set_option maxHeartbeats 400000 in
theorem l02Whole_any (n e : Int) (hn : In64 n) (he : In64 e) (w : World) : Calls Tryd.prog 129 #[.int .i64 n, .int .i64 e] w fun x w' => x = .returned (.bool (decide (0 < e) && (fits10 n e.toNat).isSome)) ∧ w' = w := by
  obtain ⟨hn0, hn1⟩ := hn
  obtain ⟨he0, he1⟩ := he
  generalize hG : fits10 n e.toNat = G
  have HG := Lib.hid hG; clear hG
  go_enter Tryd.func129, Tryd.ntmps129
  go_wp2_with fail
  go_loop [0, 5] (fun a b => ∃ (x : Int) (y : Int), a = .int .i64 x ∧ b = .int .i64 y ∧ -9223372036854775808 ≤ x ∧ x ≤ 9223372036854775807 ∧ 0 ≤ y ∧ (y ≤ e ∨ y = 0) ∧ Hid (G = fits10 x (e - y).toNat)) (fun _ b => (e - intOf b).toNat)
  case atStart => exact ⟨n, 0, rfl, rfl, hn0, hn1, by omega, .inr rfl, Lib.hid (by rw [← HG.out]; simp)⟩
  case round =>
    obtain ⟨x, y, rfl, rfl, hx0, hx1, hy0, hy1, HX⟩ := hrel
    by_cases hy : y < e
    · have HS := Lib.hid (fits10_step x (e - y) (by omega))
      have HW := wrap_div x hx0 hx1
      clear hy1
      by_cases hc : -9223372036854775808 ≤ x * 10 ∧ x * 10 ≤ 9223372036854775807
      · have H := Lib.hid (show G = fits10 (x * 10) (e - (y + 1)).toNat by rw [HX.out, HS.out, if_pos hc, show e - y - 1 = e - (y + 1) by omega])
        obtain ⟨m0, m1⟩ := hc
        have hd : (x * 10).tdiv 10 = x := Int.mul_tdiv_cancel _ (by decide)
        have hd2 : (x * 10) / 10 = x := Int.mul_ediv_cancel _ (by decide)
        have t1 : (x != x) = false := by simp
        clear HW HS
        go_wp2_with fail
        go_round
        case rel => exact ⟨x * 10, y + 1, rfl, rfl, m0, m1, by omega, .inl (by omega), H⟩
        case measure => simp [intOf]; omega
      · have H := Lib.hid (show G = none by rw [HX.out, HS.out, if_neg hc])
        have t0 : ((wrap64 (x * 10)).tdiv 10 != x) = true := by rw [HW]; exact decide_eq_true hc
        have t1 : (wrap64 ((wrap64 (x * 10)).tdiv 10) != x) = true := by
          have h2 : -9223372036854775808 ≤ wrap64 (x * 10) ∧ wrap64 (x * 10) ≤ 9223372036854775807 := by unfold wrap64; omega
          have h3 := Int.tdiv_mul_add_tmod (wrap64 (x * 10)) 10
          have h4 := Int.tmod_lt_of_pos (wrap64 (x * 10)) (show (0 : Int) < 10 by decide)
          have h5 := Int.lt_tmod_of_pos (wrap64 (x * 10)) (show (0 : Int) < 10 by decide)
          have h6 : wrap64 ((wrap64 (x * 10)).tdiv 10) = (wrap64 (x * 10)).tdiv 10 := by
            generalize (wrap64 (x * 10)).tdiv 10 = q at *
            unfold wrap64; omega
          rw [h6]; exact t0
        clear HW HS hc t0
        go_wp2_with fail
        go_ret
        exact ⟨by rw [H.out]; simp, rfl⟩
    · go_wp2_with fail
      go_ret
      refine ⟨?_, rfl⟩
      have h1 : G = some x := by rw [HX.out, show (e - y).toNat = 0 by omega]; rfl
      rw [h1]; simp
end Go.Proofs.YtfjehhdahpbbgaaDoor
namespace Go.Proofs.YtfjehhdahpbbgaaDoor
set_option linter.unusedSimpArgs false
set_option linter.unusedVariables false
set_option maxRecDepth 100000
open Go.RowKit
theorem evV_take : ∀ (ts : List V) (i : Nat), i % 2 = 0 → (h : i < ts.length) → evV (ts.take (i + 2)) = evV (ts.take i) ++ [ts[i]]
  | [], i, _, h => by simp at h
  | [t], i, _, h => by
    have : i = 0 := by simp at h; omega
    subst this; simp [evV]
  | t :: u :: ts, 0, _, _ => by simp [evV]
  | t :: u :: ts, 1, h, _ => by omega
  | t :: u :: ts, i + 2, h, hl => by
    have := evV_take ts i (by omega) (by simpa using hl)
    simp only [List.take_succ_cons, evV, this, List.cons_append, List.getElem_cons_succ]
theorem evV_split : ∀ (ts : List V) (i : Nat), i % 2 = 0 → evV ts = evV (ts.take i) ++ evV (ts.drop i)
  | [], i, _ => by simp [evV]
  | [t], 0, _ => by simp [evV]
  | [t], 1, h => by omega
  | [t], i + 2, _ => by simp [evV]
  | t :: u :: ts, 0, _ => by simp [evV]
  | t :: u :: ts, 1, h => by omega
  | t :: u :: ts, i + 2, h => by
    have := evV_split ts i (by omega)
    simp only [List.take_succ_cons, List.drop_succ_cons, evV, this, List.cons_append]
theorem mem_evV_take : ∀ (ts : List V) (i : Nat), i % 2 = 0 → ∀ x, x ∈ evV (ts.take i) ↔ ∃ q, ∃ h : q < ts.length, q < i ∧ q % 2 = 0 ∧ ts[q] = x := by
  intro ts i hi x
  constructor
  · intro h
    induction i using Nat.strongRecOn with
    | ind i ih =>
      by_cases h0 : i = 0
      · subst h0; simp [evV] at h
      · obtain ⟨j, rfl⟩ : ∃ j, i = j + 2 := ⟨i - 2, by omega⟩
        by_cases hl : j < ts.length
        · rw [evV_take ts j (by omega) hl, List.mem_append] at h
          rcases h with h | h
          · obtain ⟨q, hq, h1, h2⟩ := ih j (by omega) (by omega) h
            exact ⟨q, hq, by omega, h2⟩
          · exact ⟨j, hl, by omega, by omega, (List.mem_singleton.1 h).symm⟩
        · have e : ts.take (j + 2) = ts.take j := by rw [List.take_of_length_le (by omega), List.take_of_length_le (by omega)]
          rw [e] at h
          obtain ⟨q, hq, h1, h2⟩ := ih j (by omega) (by omega) h
          exact ⟨q, hq, by omega, h2⟩
  · rintro ⟨q, hq, h1, h2, rfl⟩
    have hq2 : ts[q] ∈ evV (ts.take (q + 2)) := by rw [evV_take ts q h2 hq]; simp
    have := evV_split (ts.take i) (q + 2) (by omega)
    rw [List.take_take, show min (q + 2) i = q + 2 by omega] at this
    rw [this]
    exact List.mem_append_left _ hq2
theorem keysB_append (eq : V → V → Bool) (L M : List V) (h : keysB eq (L ++ M) = true) : keysB eq L = true := by
  unfold keysB at *
  simp only [Bool.and_eq_true, decide_eq_true_eq, List.all_append, List.pairwise_append] at h ⊢
  exact ⟨h.1.1, h.2.1⟩
theorem keysB_snoc (eq : V → V → Bool) (L : List V) (x : V) : keysB eq (L ++ [x]) = (keysB eq L && isKeyB x && L.all fun y => !(eq y x)) := by
  unfold keysB
  rw [Bool.eq_iff_iff]
  simp only [Bool.and_eq_true, decide_eq_true_eq, List.all_append, List.pairwise_append, List.all_cons, List.all_nil, List.mem_singleton, forall_eq, List.pairwise_singleton, List.all_eq_true, Bool.not_eq_true', true_and, and_true]
  constructor
  · rintro ⟨⟨a, b⟩, c, d⟩; exact ⟨⟨⟨a, c⟩, b⟩, d⟩
  · rintro ⟨⟨⟨a, c⟩, b⟩, d⟩; exact ⟨⟨a, b⟩, c, d⟩
theorem keysB_stuck (eq : V → V → Bool) (ts : List V) (i : Nat) (hi : i % 2 = 0) (hl : i < ts.length) (h : isKeyB ts[i] = false ∨ ∃ q, ∃ hq : q < ts.length, q < i ∧ q % 2 = 0 ∧ eq ts[q] ts[i] = true) : keysB eq (evV ts) = false := by
  cases hk : keysB eq (evV ts)
  · rfl
  · exfalso
    have h1 := evV_split ts (i + 2) (by omega)
    rw [h1] at hk
    have h2 := keysB_append eq _ _ hk
    rw [evV_take ts i hi hl, keysB_snoc] at h2
    simp only [Bool.and_eq_true, List.all_eq_true, Bool.not_eq_true'] at h2
    rcases h with h | ⟨q, hq, hqi, hq2, he⟩
    · rw [h] at h2; simp at h2
    · have := h2.2 ts[q] ((mem_evV_take ts i hi _).2 ⟨q, hq, hqi, hq2, rfl⟩)
      rw [this] at he; cases he
def eqB (a b : V) : Bool := decide (a = b)
set_option maxHeartbeats 1000000 in
theorem areKids_plain (k n e : Int) (s : ByteArray) (a : Option Addr) (len cap : Nat) (w : World) (hlen : len ≤ 9223372036854775807) (h8 : k ≠ 8) :
    Calls Tryd.prog 107 #[.agg #[.int .i64 k, .int .i64 n, .int .i64 e, .string s, .slice a len cap]] w (BoolRet (if k = 7 then true else if k = 9 then decide (len = 1) else decide (len = 0)) w) := by
  obtain ⟨b, hb⟩ : ∃ b : Bool, b = (if k = 7 then true else if k = 9 then decide (len = 1) else decide (len = 0)) := ⟨_, rfl⟩
  rw [← hb]
  have HB := Lib.hid hb; clear hb
  have t8 : (k == 8) = false := by simpa using h8
  by_cases h7 : k = 7
  · have H := Lib.hid (show b = true by rw [HB.out, if_pos h7])
    have t7 : (k == 7) = true := by simpa using h7
    clear h8 h7 HB
    go_enter Tryd.func107, Tryd.ntmps107
    go_wp2_with fail
    go_ret
    exact ⟨by rw [H.out]; rfl, (by (repeat' (first | with_reducible exact Below.refl _ _ | with_reducible refine below_alloc ?_ _ ?_ | with_reducible refine Below.setCell ?_ ?_ _ | with_reducible refine Below.drew ?_ | with_reducible refine Go.below_drewN ?_ _ | with_reducible refine below_step ?_ (by assumption) ?_ | with_reducible refine below_mark ?_ (by assumption) ?_)); all_goals (first | omega | (simp; done) | (simp; omega)))⟩
  have t7 : (k == 7) = false := by simpa using h7
  by_cases h9 : k = 9
  · have H := Lib.hid (show b = ((len : Int) == 1) by rw [HB.out, if_neg h7, if_pos h9, Bool.eq_iff_iff]; simp; omega)
    have t9 : (k == 9) = true := by simpa using h9
    clear h8 h7 h9 HB
    go_enter Tryd.func107, Tryd.ntmps107
    go_wp2_with fail
    go_ret
    exact ⟨by rw [H.out]; first | rfl | (simp; done), (by (repeat' (first | with_reducible exact Below.refl _ _ | with_reducible refine below_alloc ?_ _ ?_ | with_reducible refine Below.setCell ?_ ?_ _ | with_reducible refine Below.drew ?_ | with_reducible refine Go.below_drewN ?_ _ | with_reducible refine below_step ?_ (by assumption) ?_ | with_reducible refine below_mark ?_ (by assumption) ?_)); all_goals (first | omega | (simp; done) | (simp; omega)))⟩
  have t9 : (k == 9) = false := by simpa using h9
  have H := Lib.hid (show b = ((len : Int) == 0) by rw [HB.out, if_neg h7, if_neg h9, Bool.eq_iff_iff]; simp)
  clear h8 h7 h9 HB
  go_enter Tryd.func107, Tryd.ntmps107
  go_wp2_with fail
  go_ret
  exact ⟨by rw [H.out]; first | rfl | (simp; done), (by (repeat' (first | with_reducible exact Below.refl _ _ | with_reducible refine below_alloc ?_ _ ?_ | with_reducible refine Below.setCell ?_ ?_ _ | with_reducible refine Below.drew ?_ | with_reducible refine Go.below_drewN ?_ _ | with_reducible refine below_step ?_ (by assumption) ?_ | with_reducible refine below_mark ?_ (by assumption) ?_)); all_goals (first | omega | (simp; done) | (simp; omega)))⟩
set_option maxHeartbeats 6000000 in
theorem areKids_map (w0 : World) (n e : Int) (s : ByteArray) (sl : Value) (ts : List V) (hr : RepS w0 sl ts) (w : World) (hw : Below w0.heap.size w0 w) (hlen : ts.length ≤ 1048576) :
    Calls Tryd.prog 107 #[.agg #[.int .i64 8, .int .i64 n, .int .i64 e, .string s, sl]] w (BoolRet (pairsI ts) w) := by
  obtain ⟨b, hb⟩ : ∃ b : Bool, b = pairsI ts := ⟨_, rfl⟩
  rw [← hb]
  have HB := Lib.hid (show b = (keysB eqB (evV ts) && decide (ts.length % 2 = 0)) from hb)
  clear hb
  obtain ⟨a, bb, off, cap, rfl, ha, hc, hm, sls, hel⟩ := hr.opened
  have HA := Lib.hid ha; have HE := Lib.hid hel; have HR := Lib.hid hr
  clear ha hel hr hc hm
  have HW := Lib.hid hw
  have B0 := Lib.hid (Box.new w 8 n e s (.slice a ts.length cap) 29)
  go_enter Tryd.func107, Tryd.ntmps107
  go_wp2_with fail
  generalize hW1 : w.alloc (.cells #[.int .i64 8, .int .i64 n, .int .i64 e, .string s, .slice a ts.length cap] 29) = W1 at *
  have HB1 := Lib.hid (show Below w.heap.size w W1 by rw [← hW1]; exact (Below.refl _ _).alloc (Nat.le_refl _) _)
  have hz1 : w.heap.size + 1 = W1.heap.size := by rw [← hW1]; simp
  have HZ1 := Lib.hid hz1
  clear hW1 hz1
  go_loopw [3, 4] (fun i q wr => ∃ j : Nat, j % 2 = 0 ∧ j ≤ ts.length + 1 ∧ i = .int .i64 j ∧ Hid (keysB eqB (evV (ts.take j)) = true) ∧ Below W1.heap.size W1 wr) (fun i _ _ => ts.length + 2 - (intOf i).toNat)
  case atStart => exact ⟨0, rfl, by omega, rfl, Lib.hid rfl, Below.refl _ _⟩
  case round =>
    obtain ⟨j, hj2, hj, rfl, HN, hbl⟩ := hrel
    obtain ⟨p0, p1, p2, p3, p4⟩ := (B0.out.stay hbl).cells
    by_cases hlt : j < ts.length
    · have hne : ts ≠ [] := by intro e; rw [e] at hlt; simp at hlt
      obtain ⟨rfl, hbw⟩ := HA.out hne
      have HWR := Lib.hid (show Below w0.heap.size w0 wr from HW.out.trans ((HB1.out.mono HW.out.size).trans (hbl.mono (by have := HW.out.size; have := HZ1.out; omega))))
      obtain ⟨c0, c1, c2, c3, c4⟩ := (HE.out j hlt).1.keep (HWR.out.block bb hbw)
      obtain ⟨ak, kcap, hks⟩ := (HE.out j hlt).2.2.slice
      rw [hks] at c4
      have HKJ := Lib.hid (isKey_any ts[j].k ts[j].n ts[j].e ts[j].s (.slice ak ts[j].kids.length kcap) wr)
      have HS := Lib.hid (show keysB eqB (evV (ts.take (j + 2))) = (keysB eqB (evV (ts.take j)) && isKeyB ts[j] && (evV (ts.take j)).all fun y => !(eqB y ts[j])) by rw [evV_take ts j hj2 hlt, keysB_snoc])
      have HST := Lib.hid (keysB_stuck eqB ts j hj2 hlt)
      have HSL := Lib.hid hks
      have hbr : bb < wr.heap.size := Nat.lt_of_lt_of_le hbw HWR.out.size
      clear hks
      cases hkey : isKeyB ts[j]
      · have HX := Lib.hid (show b = false by rw [HB.out, HST.out (.inl hkey)]; rfl)
        have hk' : decide (ts[j].k = 5 ∨ ts[j].k = 3) = false := hkey
        rw [hk'] at HKJ
        clear hkey hk' HS HST HN
        generalize ts[j].k = xk at *
        generalize ts[j].n = xn at *
        generalize ts[j].e = xe at *
        generalize ts[j].s = xs at *
        go_wp2_with fail
        refine HKJ.out.mono ?_
        rintro e1 w1 ⟨rfl, hb1⟩
        go_wp2_with fail
        go_ret
        exact ⟨by rw [HX.out]; rfl, HB1.out.trans ((hbl.trans (hb1.mono hbl.size)).mono (by have := HZ1.out; omega))⟩
      · have hk' : decide (ts[j].k = 5 ∨ ts[j].k = 3) = true := hkey
        rw [hk'] at HKJ
        rw [hkey] at HS
        clear hkey hk'
        have HRJ := Lib.hid (show ∀ W : World, Below wr.heap.size wr W → Rep W (ts[j].agg (.slice ak ts[j].kids.length kcap)) ts[j] from fun W hW => ⟨_, rfl, (HE.out j hlt).2.1, by rw [← HSL.out]; exact ((HE.out j hlt).2.2.keep (HWR.out.trans (hW.mono HWR.out.size)))⟩)
        generalize htj : ts[j] = tj at *
        have HTJ := Lib.hid htj; clear htj
        unfold V.agg at HRJ
        go_wp2_with fail
        refine HKJ.out.mono ?_
        rintro e1 w1 ⟨rfl, hb1⟩
        go_wp2_with fail
        have HW1B := Lib.hid (show Below W1.heap.size W1 w1 from hbl.trans (hb1.mono hbl.size))
        have HW10 := Lib.hid (show Below w0.heap.size w0 w1 from HWR.out.trans (hb1.mono HWR.out.size))
        have HRJ1 := Lib.hid (HRJ.out w1 hb1)
        have BX1 := Lib.hid ((B0.out.stay hbl).stay hb1)
        have HNJ := Lib.hid (show b = (keysB eqB (evV ts) && decide (ts.length % 2 = 0)) from HB.out)
        clear c0 c1 c2 c3 c4 p0 p1 p2 p3 p4 hb1 hbl HKJ HRJ HWR hbr
        go_loopw [4] (fun i w2 => ∃ q : Nat, q % 2 = 0 ∧ q ≤ j + 1 ∧ i = .int .i64 q ∧ Hid (∀ x, (hx : x < q) → (hl : x < ts.length) → x % 2 = 0 → ts[x] ≠ tj) ∧ Below w1.heap.size w1 w2) (fun i _ => j + 2 - (intOf i).toNat)
        case atStart => exact ⟨0, rfl, by omega, rfl, Lib.hid (by omega), Below.refl _ _⟩
        case round =>
          obtain ⟨q, hq2, hqj, rfl, HNE, hbl2⟩ := hrel
          obtain ⟨p0, p1, p2, p3, p4⟩ := (BX1.out.stay hbl2).cells
          by_cases hqlt : q < j
          · have hqts : q < ts.length := by omega
            have HWR2 := Lib.hid (show Below w0.heap.size w0 wr from HW10.out.trans (hbl2.mono HW10.out.size))
            obtain ⟨c0, c1, c2, c3, c4⟩ := (HE.out q hqts).1.keep (HWR2.out.block bb hbw)
            obtain ⟨d0, d1, d2, d3, d4⟩ := (HE.out j hlt).1.keep (HWR2.out.block bb hbw)
            obtain ⟨aq, qcap, hqs⟩ := (HE.out q hqts).2.2.slice
            rw [hqs] at c4
            rw [HSL.out] at d4
            have hRQ : Rep w1 (ts[q].agg (.slice aq ts[q].kids.length qcap)) ts[q] := ⟨_, rfl, (HE.out q hqts).2.1, by rw [← hqs]; exact (HE.out q hqts).2.2.keep HW10.out⟩
            have SM := Lib.hid (fun (W : World) (hW : Below wr.heap.size wr W) => same_any w1 _ _ tj ts[q] HRJ1.out hRQ W (hbl2.trans (hW.mono hbl2.size)))
            have HTQ := Lib.hid (show eqB ts[q] tj = decide (tj = ts[q]) by unfold eqB; rw [decide_eq_decide]; exact eq_comm)
            rw [HTJ.out] at d0 d1 d2 d3
            try simp only [HTJ.out] at d4
            unfold V.agg at SM
            clear hqs hRQ
            have hbr2 : bb < wr.heap.size := Nat.lt_of_lt_of_le hbw HWR2.out.size
            by_cases heq : tj = ts[q]
            · rw [decide_eq_true heq] at SM HTQ
              have HX := Lib.hid (show b = false by rw [HNJ.out, HST.out (.inr ⟨q, hqts, hqlt, hq2, HTQ.out⟩)]; rfl)
              clear heq HST HS HNE HTQ
              go_wp2_with fail
              go_region_with (go_at_call 44; refine (SM.out _ (by (repeat' (first | with_reducible exact Below.refl _ _ | with_reducible refine below_alloc ?_ _ ?_ | with_reducible refine Below.setCell ?_ ?_ _ | with_reducible refine Below.drew ?_ | with_reducible refine Go.below_drewN ?_ _ | with_reducible refine below_step ?_ (by assumption) ?_ | with_reducible refine below_mark ?_ (by assumption) ?_)); all_goals (first | omega | (simp; done) | (simp; omega)))).mono ?_; rintro e3 w3 ⟨rfl, hb3⟩)
              all_goals go_wp2_with fail
              all_goals go_ret
              all_goals exact ⟨by rw [HX.out]; rfl, HB1.out.trans ((HW1B.out.trans (Below.mono (show Below w1.heap.size w1 w3 by exact (by (repeat' (first | with_reducible exact Below.refl _ _ | with_reducible refine below_alloc ?_ _ ?_ | with_reducible refine Below.setCell ?_ ?_ _ | with_reducible refine Below.drew ?_ | with_reducible refine Go.below_drewN ?_ _ | with_reducible refine below_step ?_ (by assumption) ?_ | with_reducible refine below_mark ?_ (by assumption) ?_)); all_goals (first | omega | (simp; done) | (simp; omega)))) HW1B.out.size)).mono (by have := HZ1.out; omega))⟩
            · rw [decide_eq_false heq] at SM
              have HX := Lib.hid (show ∀ x, (hx : x < q + 2) → (hl : x < ts.length) → x % 2 = 0 → ts[x] ≠ tj from fun x hx hl hx2 => by
                by_cases hxq : x < q
                · exact HNE.out x hxq hl hx2
                · have : x = q := by omega
                  subst this; exact fun e => heq e.symm)
              clear heq HNE HTQ
              go_wp2_with fail
              go_region_with (go_at_call 44; refine (SM.out _ (by (repeat' (first | with_reducible exact Below.refl _ _ | with_reducible refine below_alloc ?_ _ ?_ | with_reducible refine Below.setCell ?_ ?_ _ | with_reducible refine Below.drew ?_ | with_reducible refine Go.below_drewN ?_ _ | with_reducible refine below_step ?_ (by assumption) ?_ | with_reducible refine below_mark ?_ (by assumption) ?_)); all_goals (first | omega | (simp; done) | (simp; omega)))).mono ?_; rintro e3 w3 ⟨rfl, hb3⟩)
              all_goals go_wp2_with fail
              all_goals go_roundw
              all_goals first
                | (simp [intOf]; omega)
                | exact ⟨q + 2, by omega, by omega, by go_num, HX, (by (repeat' (first | with_reducible exact Below.refl _ _ | with_reducible refine below_alloc ?_ _ ?_ | with_reducible refine Below.setCell ?_ ?_ _ | with_reducible refine Below.drew ?_ | with_reducible refine Go.below_drewN ?_ _ | with_reducible refine below_step ?_ (by assumption) ?_ | with_reducible refine below_mark ?_ (by assumption) ?_)); all_goals (first | omega | (simp; done) | (simp; omega)))⟩
          · have HX := Lib.hid (show keysB eqB (evV (ts.take (j + 2))) = true by
              rw [HS.out, HN.out, Bool.true_and, Bool.true_and, List.all_eq_true]
              intro y hy
              obtain ⟨x, hx, hxj, hx2, rfl⟩ := (mem_evV_take ts j hj2 y).1 hy
              have := HNE.out x (by omega) hx hx2
              simp only [eqB, Bool.not_eq_true', decide_eq_false_iff_not]
              exact this)
            clear HST HS HNE
            go_wp2_with fail
            go_roundw
            case rel => exact ⟨j + 2, by omega, by omega, by go_num, HX, HW1B.out.trans (hbl2.mono HW1B.out.size)⟩
            case measure => simp [intOf]; omega
    · have HX := Lib.hid (show b = decide (ts.length % 2 = 0) by
        rw [HB.out]
        have h1 := HN.out
        rw [List.take_of_length_le (by omega)] at h1
        rw [h1]; rfl)
      go_wp2_with fail
      go_ret
      exact ⟨by rw [HX.out]; simp; rw [Bool.eq_iff_iff]; simp; omega, HB1.out.trans (hbl.mono (by have := HZ1.out; omega))⟩
theorem areKids_any (w0 : World) (t : V) (sl : Value) (hr : RepS w0 sl t.kids) (hw0 : t.wf) (w : World) (hw : Below w0.heap.size w0 w) (hlen : t.kids.length ≤ 1048576) : Calls Tryd.prog 107 #[t.agg sl] w (BoolRet (areB t) w) := by
  unfold areB V.agg
  by_cases h8 : t.k = 8
  · rw [if_neg (by omega), if_neg (by omega), if_pos h8, h8]
    exact areKids_map w0 t.n t.e t.s sl t.kids hr w hw hlen
  · obtain ⟨a, cap, rfl⟩ := hr.slice
    have := areKids_plain t.k t.n t.e t.s a t.kids.length cap w (by omega) h8
    simp only [if_neg h8]
    exact this
end Go.Proofs.YtfjehhdahpbbgaaDoor
namespace Go.Proofs.YtfjehhdahpbbgaaDoor
set_option linter.unusedSimpArgs false
set_option linter.unusedVariables false
set_option maxRecDepth 100000
open Go.Lib
def isSg (n : Int) : Prop := 0 ≤ n ∧ n ≤ 1114111 ∧ ¬ (55296 ≤ n ∧ n ≤ 57343)
instance (n : Int) : Decidable (isSg n) := by unfold isSg; exact inferInstance
def putS (n : Int) : List UInt8 := if isSg n then encodeRune n else []
def manyOf (b : Nat) : Nat := if b < 128 then 1 else if b < 192 then 0 else if b < 224 then 2 else if b < 240 then 3 else if b < 248 then 4 else 0
def headOf (b : Nat) : Nat := if b < 128 then b else if b < 192 then 0 else if b < 224 then b % 32 else if b < 240 then b % 16 else if b < 248 then b % 8 else 0
def accV (n0 : Nat) (l : List UInt8) : Nat → Nat
  | 0 => n0
  | k + 1 => accV n0 l k * 64 + (l.getD (k + 1) 0).toNat % 64
theorem accV_lt (n0 : Nat) (l : List UInt8) (h : n0 < 128) : ∀ k, k ≤ 4 → accV n0 l k < 128 * 64 ^ k
  | 0, _ => by simpa [accV] using h
  | k + 1, hk => by
    have := accV_lt n0 l h k (by omega)
    have h2 := Nat.mod_lt (l.getD (k + 1) 0).toNat (show 64 > 0 by decide)
    simp only [accV, Nat.pow_succ]; omega
theorem headOf_lt (b : Nat) : headOf b < 128 := by unfold headOf; repeat' split
                                                   all_goals omega
theorem manyOf_le (b : Nat) : manyOf b ≤ 4 := by unfold manyOf; repeat' split
                                                 all_goals omega
theorem putS_1 {n : Nat} (h : n < 128) : putS n = [n.toUInt8] := by
  unfold putS
  rw [if_pos (by unfold isSg; omega)]
  unfold encodeRune
  rw [encodeRuneZ_one (by omega) (by omega)]
  simp
theorem u8_inj {a : Nat} (h : a < 256) {x : UInt8} : a.toUInt8 = x ↔ a = x.toNat := by
  constructor
  · intro e; subst e; simp; omega
  · intro e; subst e; simp
theorem putS_2 {n : Nat} (h : n < 2048) (h0 : 128 ≤ n) : putS n = [(192 + n / 64).toUInt8, (128 + n % 64).toUInt8] := by
  unfold putS
  rw [if_pos (by unfold isSg; omega)]
  unfold encodeRune
  rw [encodeRuneZ_two (by omega) (by omega)]
  simp only [List.map_cons, List.map_nil]
  rw [show ((192 + (n : Int) / 64).toNat) = 192 + n / 64 by omega, show ((128 + (n : Int) % 64).toNat) = 128 + n % 64 by omega]
theorem putS_3 {n : Nat} (h : n < 65536) (h0 : 2048 ≤ n) (hs : ¬ (55296 ≤ n ∧ n ≤ 57343)) : putS n = [(224 + n / 4096).toUInt8, (128 + n / 64 % 64).toUInt8, (128 + n % 64).toUInt8] := by
  unfold putS
  rw [if_pos (by unfold isSg; omega)]
  unfold encodeRune
  rw [encodeRuneZ_three (by omega)]
  simp only [List.map_cons, List.map_nil]
  rw [show ((224 + (n : Int) / 4096).toNat) = 224 + n / 4096 by omega, show ((128 + (n : Int) / 64 % 64).toNat) = 128 + n / 64 % 64 by omega, show ((128 + (n : Int) % 64).toNat) = 128 + n % 64 by omega]
theorem putS_4 {n : Nat} (h : n ≤ 1114111) (h0 : 65536 ≤ n) : putS n = [(240 + n / 262144).toUInt8, (128 + n / 4096 % 64).toUInt8, (128 + n / 64 % 64).toUInt8, (128 + n % 64).toUInt8] := by
  unfold putS
  rw [if_pos (by unfold isSg; omega)]
  unfold encodeRune
  rw [encodeRuneZ_four (by omega) (by omega)]
  simp only [List.map_cons, List.map_nil]
  rw [show ((240 + (n : Int) / 262144).toNat) = 240 + n / 262144 by omega, show ((128 + (n : Int) / 4096 % 64).toNat) = 128 + n / 4096 % 64 by omega, show ((128 + (n : Int) / 64 % 64).toNat) = 128 + n / 64 % 64 by omega, show ((128 + (n : Int) % 64).toNat) = 128 + n % 64 by omega]
theorem putS_no {n : Int} (h : ¬ isSg n) : putS n = [] := by unfold putS; rw [if_neg h]
theorem take1 (l : List UInt8) (h : 1 ≤ l.length) : l.take 1 = [l.getD 0 0] := by
  match l, h with
  | a :: l, _ => simp
theorem take2 (l : List UInt8) (h : 2 ≤ l.length) : l.take 2 = [l.getD 0 0, l.getD 1 0] := by
  match l, h with
  | a :: b :: l, _ => simp
theorem take3 (l : List UInt8) (h : 3 ≤ l.length) : l.take 3 = [l.getD 0 0, l.getD 1 0, l.getD 2 0] := by
  match l, h with
  | a :: b :: c :: l, _ => simp
theorem take4 (l : List UInt8) (h : 4 ≤ l.length) : l.take 4 = [l.getD 0 0, l.getD 1 0, l.getD 2 0, l.getD 3 0] := by
  match l, h with
  | a :: b :: c :: d :: l, _ => simp
def badD (l : List UInt8) : Prop := (decodeL l).1 = 65533 ∧ (decodeL l).2 = 1
instance (l : List UInt8) : Decidable (badD l) := by unfold badD; exact inferInstance
set_option maxRecDepth 100000 in
set_option maxHeartbeats 4000000 in
theorem get_none (l : List UInt8) (hne : 1 ≤ l.length) (h : manyOf (l.getD 0 0).toNat = 0 ∨ l.length < manyOf (l.getD 0 0).toNat) : badD l := by
  unfold badD
  rw [decodeL_N]
  have k0 := (l.getD 0 0).toNat_lt
  generalize (l.getD 0 0).toNat = b0 at *
  unfold manyOf at h
  unfold decodeN
  repeat' split
  all_goals first | exact ⟨rfl, rfl⟩ | (exfalso; split at h <;> (try split at h) <;> (try split at h) <;> (try split at h) <;> (try split at h) <;> omega)
set_option maxRecDepth 100000 in
set_option maxHeartbeats 4000000 in
theorem get_some (l : List UInt8) (h0 : manyOf (l.getD 0 0).toNat ≠ 0) (h1 : manyOf (l.getD 0 0).toNat ≤ l.length) :
    (¬ badD l ↔ putS (accV (headOf (l.getD 0 0).toNat) l (manyOf (l.getD 0 0).toNat - 1) : Nat) = l.take (manyOf (l.getD 0 0).toNat)) ∧
    (¬ badD l → decodeL l = (accV (headOf (l.getD 0 0).toNat) l (manyOf (l.getD 0 0).toNat - 1), manyOf (l.getD 0 0).toNat)) := by
  unfold badD
  rw [decodeL_N]
  have k0 := (l.getD 0 0).toNat_lt
  have k1 := (l.getD 1 0).toNat_lt
  have k2 := (l.getD 2 0).toNat_lt
  have k3 := (l.getD 3 0).toNat_lt
  by_cases c0 : (l.getD 0 0).toNat < 128
  · have hm : manyOf (l.getD 0 0).toNat = 1 := by unfold manyOf; rw [if_pos c0]
    have hh : headOf (l.getD 0 0).toNat = (l.getD 0 0).toNat := by unfold headOf; rw [if_pos c0]
    rw [hm] at h1 ⊢
    rw [hh]
    simp only [accV, Nat.sub_self]
    rw [putS_1 c0, take1 l h1]
    have hd : decodeN l.length (l.getD 0 0).toNat (l.getD 1 0).toNat (l.getD 2 0).toNat (l.getD 3 0).toNat = ((l.getD 0 0).toNat, 1) := by unfold decodeN; rw [if_pos c0]
    rw [hd]
    refine ⟨⟨fun _ => by simp, fun _ h => ?_⟩, fun _ => rfl⟩
    have h1 : (l.getD 0 0).toNat = 65533 := h.1
    omega
  by_cases c1 : (l.getD 0 0).toNat < 192
  · exfalso; apply h0; unfold manyOf; rw [if_neg c0, if_pos c1]
  by_cases c2 : (l.getD 0 0).toNat < 224
  · have hm : manyOf (l.getD 0 0).toNat = 2 := by unfold manyOf; rw [if_neg c0, if_neg c1, if_pos c2]
    have hh : headOf (l.getD 0 0).toNat = (l.getD 0 0).toNat % 32 := by unfold headOf; rw [if_neg c0, if_neg c1, if_pos c2]
    rw [hm] at h1 ⊢
    rw [hh]
    simp only [accV]
    rw [take2 l h1]
    have hd : decodeN l.length (l.getD 0 0).toNat (l.getD 1 0).toNat (l.getD 2 0).toNat (l.getD 3 0).toNat = if (l.getD 1 0).toNat / 64 = 2 ∧ 128 ≤ (l.getD 0 0).toNat % 32 * 64 + (l.getD 1 0).toNat % 64 then ((l.getD 0 0).toNat % 32 * 64 + (l.getD 1 0).toNat % 64, 2) else (65533, 1) := by
      unfold decodeN; rw [if_neg c0]
      by_cases q : (l.getD 1 0).toNat / 64 = 2
      · rw [if_pos ⟨by omega, by omega, q⟩]; simp only [q, true_and, ge_iff_le]
      · rw [if_neg (by omega), if_neg (by omega), if_neg (by omega), if_neg (by omega)]
    rw [hd]
    generalize hb0 : l.getD 0 0 = x0 at *
    generalize hb1 : l.getD 1 0 = x1 at *
    by_cases q : x1.toNat / 64 = 2 ∧ 128 ≤ x0.toNat % 32 * 64 + x1.toNat % 64
    · rw [if_pos q, putS_2 (by omega) q.2]
      refine ⟨⟨fun _ => ?_, fun _ => by simp⟩, fun _ => rfl⟩
      simp only [List.cons.injEq, and_true]
      rw [u8_inj (by omega), u8_inj (by omega)]; omega
    · rw [if_neg q]
      refine ⟨⟨fun h => absurd ⟨rfl, rfl⟩ h, fun h => ?_⟩, fun h => absurd ⟨rfl, rfl⟩ h⟩
      exfalso
      by_cases q2 : 128 ≤ x0.toNat % 32 * 64 + x1.toNat % 64
      · rw [putS_2 (by omega) q2] at h
        simp only [List.cons.injEq, and_true] at h
        rw [u8_inj (by omega), u8_inj (by omega)] at h
        omega
      · rw [putS_1 (by omega)] at h; simp at h
  by_cases c3 : (l.getD 0 0).toNat < 240
  · have hm : manyOf (l.getD 0 0).toNat = 3 := by unfold manyOf; rw [if_neg c0, if_neg c1, if_neg c2, if_pos c3]
    have hh : headOf (l.getD 0 0).toNat = (l.getD 0 0).toNat % 16 := by unfold headOf; rw [if_neg c0, if_neg c1, if_neg c2, if_pos c3]
    rw [hm] at h1 ⊢
    rw [hh]
    simp only [accV]
    rw [take3 l h1]
    generalize hb0 : l.getD 0 0 = x0 at *
    generalize hb1 : l.getD 1 0 = x1 at *
    generalize hb2 : l.getD 2 0 = x2 at *
    have hn : (x0.toNat % 16 * 64 + x1.toNat % 64) * 64 + x2.toNat % 64 = x0.toNat % 16 * 4096 + x1.toNat % 64 * 64 + x2.toNat % 64 := by omega
    rw [show ∀ a b : Nat, (a * 64 + b) = (a * 64 + b) from fun _ _ => rfl, hn]
    generalize hN : x0.toNat % 16 * 4096 + x1.toNat % 64 * 64 + x2.toNat % 64 = N at *
    have hd : decodeN l.length x0.toNat x1.toNat x2.toNat (l.getD 3 0).toNat = if x1.toNat / 64 = 2 ∧ x2.toNat / 64 = 2 ∧ 2048 ≤ N ∧ (N < 55296 ∨ (57344 ≤ N ∧ N ≤ 1114111)) then (N, 3) else (65533, 1) := by
      unfold decodeN; rw [if_neg c0, if_neg (by omega)]
      by_cases q : x1.toNat / 64 = 2 ∧ x2.toNat / 64 = 2
      · rw [if_pos ⟨by omega, ⟨by omega, q.1⟩, by omega, q.2⟩, hN]; simp only [q.1, q.2, true_and, ge_iff_le]
      · rw [if_neg (by omega), if_neg (by omega), if_neg (by omega)]
    rw [hd]
    by_cases q : x1.toNat / 64 = 2 ∧ x2.toNat / 64 = 2 ∧ 2048 ≤ N ∧ (N < 55296 ∨ (57344 ≤ N ∧ N ≤ 1114111))
    · rw [if_pos q, putS_3 (by omega) q.2.2.1 (by omega)]
      refine ⟨⟨fun _ => ?_, fun _ => by simp⟩, fun _ => rfl⟩
      simp only [List.cons.injEq, and_true]
      rw [u8_inj (by omega), u8_inj (by omega), u8_inj (by omega)]; omega
    · rw [if_neg q]
      refine ⟨⟨fun h => absurd ⟨rfl, rfl⟩ h, fun h => ?_⟩, fun h => absurd ⟨rfl, rfl⟩ h⟩
      exfalso
      by_cases q1 : N < 128
      · rw [putS_1 q1] at h; simp at h
      by_cases q2 : N < 2048
      · rw [putS_2 q2 (by omega)] at h; simp at h
      by_cases q3 : 55296 ≤ N ∧ N ≤ 57343
      · rw [putS_no (by unfold isSg; omega)] at h; simp at h
      · rw [putS_3 (by omega) (by omega) (by omega)] at h
        simp only [List.cons.injEq, and_true] at h
        rw [u8_inj (by omega), u8_inj (by omega), u8_inj (by omega)] at h
        omega
  by_cases c4 : (l.getD 0 0).toNat < 248
  · have hm : manyOf (l.getD 0 0).toNat = 4 := by unfold manyOf; rw [if_neg c0, if_neg c1, if_neg c2, if_neg c3, if_pos c4]
    have hh : headOf (l.getD 0 0).toNat = (l.getD 0 0).toNat % 8 := by unfold headOf; rw [if_neg c0, if_neg c1, if_neg c2, if_neg c3, if_pos c4]
    rw [hm] at h1 ⊢
    rw [hh]
    simp only [accV]
    rw [take4 l h1]
    generalize hb0 : l.getD 0 0 = x0 at *
    generalize hb1 : l.getD 1 0 = x1 at *
    generalize hb2 : l.getD 2 0 = x2 at *
    generalize hb3 : l.getD 3 0 = x3 at *
    have hn : ((x0.toNat % 8 * 64 + x1.toNat % 64) * 64 + x2.toNat % 64) * 64 + x3.toNat % 64 = x0.toNat % 8 * 262144 + x1.toNat % 64 * 4096 + x2.toNat % 64 * 64 + x3.toNat % 64 := by omega
    rw [show ∀ a b : Nat, (a * 64 + b) = (a * 64 + b) from fun _ _ => rfl, hn]
    generalize hN : x0.toNat % 8 * 262144 + x1.toNat % 64 * 4096 + x2.toNat % 64 * 64 + x3.toNat % 64 = N at *
    have hd : decodeN l.length x0.toNat x1.toNat x2.toNat x3.toNat = if x1.toNat / 64 = 2 ∧ x2.toNat / 64 = 2 ∧ x3.toNat / 64 = 2 ∧ 65536 ≤ N ∧ N ≤ 1114111 then (N, 4) else (65533, 1) := by
      unfold decodeN; rw [if_neg c0, if_neg (by omega), if_neg (by omega)]
      by_cases q : x1.toNat / 64 = 2 ∧ x2.toNat / 64 = 2 ∧ x3.toNat / 64 = 2
      · rw [if_pos ⟨by omega, ⟨by omega, q.1⟩, ⟨by omega, q.2.1⟩, by omega, q.2.2⟩, hN]
        by_cases q5 : 65536 ≤ N ∧ N ≤ 1114111
        · rw [if_pos (by omega), if_pos ⟨q.1, q.2.1, q.2.2, q5⟩]
        · rw [if_neg (by omega), if_neg (fun h => q5 h.2.2.2)]
      · rw [if_neg (by omega), if_neg (by omega)]
    rw [hd]
    by_cases q : x1.toNat / 64 = 2 ∧ x2.toNat / 64 = 2 ∧ x3.toNat / 64 = 2 ∧ 65536 ≤ N ∧ N ≤ 1114111
    · rw [if_pos q, putS_4 (by omega) q.2.2.2.1]
      refine ⟨⟨fun _ => ?_, fun _ => by simp⟩, fun _ => rfl⟩
      simp only [List.cons.injEq, and_true]
      rw [u8_inj (by omega), u8_inj (by omega), u8_inj (by omega), u8_inj (by omega)]; omega
    · rw [if_neg q]
      refine ⟨⟨fun h => absurd ⟨rfl, rfl⟩ h, fun h => ?_⟩, fun h => absurd ⟨rfl, rfl⟩ h⟩
      exfalso
      by_cases q1 : N < 128
      · rw [putS_1 q1] at h; simp at h
      by_cases q2 : N < 2048
      · rw [putS_2 q2 (by omega)] at h; simp at h
      by_cases q3 : 55296 ≤ N ∧ N ≤ 57343
      · rw [putS_no (by unfold isSg; omega)] at h; simp at h
      by_cases q4 : N < 65536
      · rw [putS_3 (by omega) (by omega) (by omega)] at h; simp at h
      by_cases q5 : N ≤ 1114111
      · rw [putS_4 q5 (by omega)] at h
        simp only [List.cons.injEq, and_true] at h
        rw [u8_inj (by omega), u8_inj (by omega), u8_inj (by omega), u8_inj (by omega)] at h
        omega
      · rw [putS_no (by unfold isSg; omega)] at h; simp at h
  · exfalso; apply h0; unfold manyOf; rw [if_neg c0, if_neg c1, if_neg c2, if_neg c3, if_neg c4]
end Go.Proofs.YtfjehhdahpbbgaaDoor
namespace Go.Proofs.YtfjehhdahpbbgaaDoor
set_option linter.unusedSimpArgs false
set_option linter.unusedVariables false
set_option maxRecDepth 100000
open Go.RowKit
theorem info_int : (Tryd.prog.info? 3).map (fun i => (i.zero, i.size, i.bytes)) = some (some (.int .i64 0), 1, 8) := by kernel_rfl
def IRow (w : World) (base : Nat) (v : Value) (l : List Int) : Prop := w.ownsRow base 3 1 v l.length (l.map (.int .i64))
theorem IRow.lt {w : World} {base : Nat} {v : Value} {l : List Int} (h : IRow w base v l) : ∀ k, v.ownBlock = some k → base ≤ k ∧ k < w.heap.size := World.ownsRow.lt h
theorem IRow.keep {w w' : World} {base : Nat} {v : Value} {l : List Int} (h : IRow w base v l) (hk : ∀ x, v.ownBlock = some x → w'.heap[x]? = w.heap[x]?) : IRow w' base v l := by
  obtain ⟨h1, h2⟩ := h
  refine ⟨h1, ?_⟩
  rcases h2 with h2 | ⟨g, cap, cur, rfl, hbg, hg, r⟩
  · exact .inl h2
  · exact .inr ⟨g, cap, cur, rfl, hbg, by rw [hk g rfl]; exact hg, r⟩
theorem IRow.made0 {w : World} {base : Nat} (hb : base ≤ w.heap.size) : IRow (w.alloc (.cells #[] 3)) base (.slice (some ⟨w.heap.size, 0, none⟩) 0 0) [] :=
  World.ownsRow_lit (w := w) #[] 0 hb (by simp [maxLen]) rfl
theorem IRow.form {w : World} {base : Nat} {v : Value} {l : List Int} (h : IRow w base v l) : ∃ a cap, v = .slice a l.length cap ∧ l.length ≤ cap ∧ cap ≤ 9223372036854775807 ∧ (l ≠ [] → ∃ g, a = some ⟨g, 0, none⟩ ∧ base ≤ g) := by
  rcases h.2 with ⟨rfl, hn⟩ | ⟨g, cap, cur, hv, hb, hg, hnc, hcm, _⟩
  · exact ⟨none, 0, by rw [hn], by omega, by omega, fun e => absurd (List.eq_nil_of_length_eq_zero hn) e⟩
  · exact ⟨_, _, hv, hnc, by simpa [maxLen] using hcm, fun _ => ⟨g, rfl, hb⟩⟩
theorem IRow.cells {w : World} {base g n cap i : Nat} {l : List Int} (h : IRow w base (.slice (some ⟨g, 0, none⟩) n cap) l) (hi : i < l.length) :
    w.cell? ⟨g, i, none⟩ = some (.int .i64 l[i]) ∧ w.frozen? ⟨g, i, none⟩ = false := by
  have hn : n = l.length := by
    rcases h.2 with ⟨h', _⟩ | ⟨g', cap', cur, h', _⟩ <;> simp at h'; exact h'.2.1
  subst hn
  refine ⟨?_, World.ownsRow.frozenAt h i⟩
  have := World.ownsRow.cells h (g := g) rfl i (.int .i64 l[i]) (by simp [List.getElem?_eq_getElem hi])
  rwa [addr_add _ _ rfl, Nat.zero_add] at this
section
variable {w : World} {ops : Array Oper} {rest : List Oper} {o : Oper} {a : Act} {Q : Exit → Act → World → Prop}
theorem app_ints (hgd : o.guard = none) (s x : Operand) (tx : TypeId)
    (ho : o.op = .call { callee := .builtin .append, args := #[s, x], argTypes := #[107, tx] })
    (base : Nat) (v : Value) (l : List Int) (hs : a.eval s = v) (hown : IRow w base v l) (xv : Value) (hx : a.eval x = xv) (news : List Int) (hsrc : Src Tryd.prog 1 tx xv news.length (news.map (.int .i64)) w)
    (h63 : l.length + news.length ≤ 1099511627776) (hbase : base ≤ w.heap.size)
    (h : ∀ v' w', IRow w' base v' (l ++ news) → w.grownBy w' v.ownBlock → FreshOr w v v' → wpList Tryd.prog ops Q rest (a.put o.dst v') w') : wpList Tryd.prog ops Q (o :: rest) a w := by
  obtain ⟨i0, hi, hz0, hz1, hz2⟩ := info_parts info_int
  exact wpList_app hgd s x 107 tx ho base 3 i0 (.int .i64 0) 1 8 Tryd.underlying107 hi hz0 hz1 hz2 rfl (by decide) v l.length (l.map (.int .i64)) hs hown xv hx news.length (news.map (.int .i64)) hsrc h63 hbase
    (fun v' w' h1 h2 h3 _ => h v' w' (by unfold IRow; rw [List.length_append, List.map_append]; exact h1) h2 h3)
end
theorem src_int1 (w : World) (x : Int) : Src Tryd.prog 1 107 (.slice (some ⟨w.heap.size, 0, none⟩) 1 1) [x].length ([x].map (.int .i64)) (w.alloc (.cells #[.int .i64 x] 3)) :=
  Src.ofSlice _ Tryd.underlying107 _ _ _ _ rfl (by intro j u hu; match j, hu with | 0, hu => (simp at hu; subst hu; exact cell_new_one _ _ _)) (by intro u hu; simp at hu; subst hu; rfl)
end Go.Proofs.YtfjehhdahpbbgaaDoor
namespace Go.Proofs.YtfjehhdahpbbgaaDoor
set_option linter.unusedSimpArgs false
set_option linter.unusedVariables false
set_option maxRecDepth 100000
open Go.RowKit
theorem and_i64 (x : Int) (k : Nat) (m : Int) (hm : m = ((2 ^ k - 1 : Nat) : Int)) (hk : k ≤ 8) (h0 : 0 ≤ x) (h1 : x < 9223372036854775808) : bits BinOp.and IntKind.i64 x m = x % (2 ^ k : Nat) := by
  obtain ⟨n, rfl⟩ := Int.eq_ofNat_of_zero_le h0
  subst hm
  have h2 : n < 2 ^ 64 := by omega
  have hk2 : 2 ^ k ≤ 2 ^ 8 := Nat.pow_le_pow_right (by decide) hk
  have h3 : 2 ^ k - 1 < 2 ^ 64 := by omega
  have hpos : 0 < 2 ^ k := Nat.pos_of_ne_zero (by simp)
  have key : (BitVec.ofInt 64 ((n : Nat) : Int) &&& BitVec.ofInt 64 (((2 ^ k - 1 : Nat)) : Int)).toNat = n % 2 ^ k := by
    rw [BitVec.toNat_and, BitVec.ofInt_natCast, BitVec.ofInt_natCast, BitVec.toNat_ofNat, BitVec.toNat_ofNat, Nat.mod_eq_of_lt h2, Nat.mod_eq_of_lt h3, Nat.and_two_pow_sub_one_eq_mod]
  have hlt : n % 2 ^ k < 2 ^ 8 := Nat.lt_of_lt_of_le (Nat.mod_lt _ hpos) hk2
  show IntKind.i64.wrap (((BitVec.ofInt 64 ((n : Nat) : Int) &&& BitVec.ofInt 64 (((2 ^ k - 1 : Nat)) : Int)).toNat : Nat) : Int) = ((n % 2 ^ k : Nat) : Int)
  rw [key]
  generalize n % 2 ^ k = q at *
  simp only [IntKind.wrap, IntKind.signed, IntKind.bits]
  simp
  omega
theorem u8w (x : Int) (h0 : 0 ≤ x) (h1 : x < 256) : IntKind.u8.wrap x = x := by
  simp only [IntKind.wrap, IntKind.signed, IntKind.bits]; simp; omega
theorem run_strL (W : World) (b n : Nat) (xs : List Int) (hn : xs.length = n) (h : ∀ j x, xs[j]? = some x → W.cell? ⟨b, j, none⟩ = some (.int .u8 x)) :
    (convert 83 9 (.slice (some ⟨b, 0, none⟩) n n)).run Tryd.prog W = .ok (bstr (xs.map fun x => UInt8.ofNat x.toNat)) W := by
  rw [run_convert_bytes_string W 83 9 5 _ _ _ Tryd.underlying83 Tryd.underlying5 Tryd.underlying9]
  subst hn
  rw [run_bytesToString W _ _ _ xs (by
    have h1 := run_loadCells_list (P := Tryd.prog) (w := W) ⟨b, 0, none⟩ (xs.map (Value.int .u8)) (by
      intro j v hv
      rw [List.getElem?_map] at hv
      obtain ⟨x, hx, rfl⟩ := Option.map_eq_some_iff.1 hv
      rw [addr_add _ _ rfl, Nat.zero_add]
      exact h j x hx)
    rw [List.length_map] at h1
    exact h1)]
  have : ∀ (xs : List Int) (s : ByteArray), xs.foldl (fun r n => r.push (UInt8.ofNat n.toNat)) s = ⟨s.data ++ (xs.map fun x => UInt8.ofNat x.toNat).toArray⟩ := by
    intro xs
    induction xs with
    | nil => intro s; simp
    | cons c l ih => intro s; simp only [List.foldl_cons, List.map_cons]; rw [ih]; simp [ByteArray.push]
  rw [this]
  simp [bstr]
theorem run_new1 (W : World) (x0 : Int) : (convert 83 9 (.slice (some ⟨W.heap.size, 0, none⟩) 1 1)).run Tryd.prog (W.alloc (.cells #[.int .u8 x0] 5)) = .ok (bstr [UInt8.ofNat x0.toNat]) (W.alloc (.cells #[.int .u8 x0] 5)) := by
  have hh := heap_alloc_new W (.cells #[.int .u8 x0] 5)
  refine run_strL _ W.heap.size 1 [x0] rfl (fun j x hx => ?_)
  match j, hx with
    | 0, hx => simp at hx; subst hx; rw [cell_of_row _ _ _ _ _ (0, 0) hh]; rfl
    | j + 1, hx => simp at hx
theorem run_new2 (W : World) (x0 x1 : Int) : (convert 83 9 (.slice (some ⟨W.heap.size, 0, none⟩) 2 2)).run Tryd.prog (W.alloc (.cells #[.int .u8 x0, .int .u8 x1] 5)) = .ok (bstr [UInt8.ofNat x0.toNat, UInt8.ofNat x1.toNat]) (W.alloc (.cells #[.int .u8 x0, .int .u8 x1] 5)) := by
  have hh := heap_alloc_new W (.cells #[.int .u8 x0, .int .u8 x1] 5)
  refine run_strL _ W.heap.size 2 [x0, x1] rfl (fun j x hx => ?_)
  match j, hx with
    | 0, hx => simp at hx; subst hx; rw [cell_of_row _ _ _ _ _ (0, 0) hh]; rfl
    | 1, hx => simp at hx; subst hx; rw [cell_of_row _ _ _ _ _ (0, 0) hh]; rfl
    | j + 2, hx => simp at hx
theorem run_new3 (W : World) (x0 x1 x2 : Int) : (convert 83 9 (.slice (some ⟨W.heap.size, 0, none⟩) 3 3)).run Tryd.prog (W.alloc (.cells #[.int .u8 x0, .int .u8 x1, .int .u8 x2] 5)) = .ok (bstr [UInt8.ofNat x0.toNat, UInt8.ofNat x1.toNat, UInt8.ofNat x2.toNat]) (W.alloc (.cells #[.int .u8 x0, .int .u8 x1, .int .u8 x2] 5)) := by
  have hh := heap_alloc_new W (.cells #[.int .u8 x0, .int .u8 x1, .int .u8 x2] 5)
  refine run_strL _ W.heap.size 3 [x0, x1, x2] rfl (fun j x hx => ?_)
  match j, hx with
    | 0, hx => simp at hx; subst hx; rw [cell_of_row _ _ _ _ _ (0, 0) hh]; rfl
    | 1, hx => simp at hx; subst hx; rw [cell_of_row _ _ _ _ _ (0, 0) hh]; rfl
    | 2, hx => simp at hx; subst hx; rw [cell_of_row _ _ _ _ _ (0, 0) hh]; rfl
    | j + 3, hx => simp at hx
theorem run_new4 (W : World) (x0 x1 x2 x3 : Int) : (convert 83 9 (.slice (some ⟨W.heap.size, 0, none⟩) 4 4)).run Tryd.prog (W.alloc (.cells #[.int .u8 x0, .int .u8 x1, .int .u8 x2, .int .u8 x3] 5)) = .ok (bstr [UInt8.ofNat x0.toNat, UInt8.ofNat x1.toNat, UInt8.ofNat x2.toNat, UInt8.ofNat x3.toNat]) (W.alloc (.cells #[.int .u8 x0, .int .u8 x1, .int .u8 x2, .int .u8 x3] 5)) := by
  have hh := heap_alloc_new W (.cells #[.int .u8 x0, .int .u8 x1, .int .u8 x2, .int .u8 x3] 5)
  refine run_strL _ W.heap.size 4 [x0, x1, x2, x3] rfl (fun j x hx => ?_)
  match j, hx with
    | 0, hx => simp at hx; subst hx; rw [cell_of_row _ _ _ _ _ (0, 0) hh]; rfl
    | 1, hx => simp at hx; subst hx; rw [cell_of_row _ _ _ _ _ (0, 0) hh]; rfl
    | 2, hx => simp at hx; subst hx; rw [cell_of_row _ _ _ _ _ (0, 0) hh]; rfl
    | 3, hx => simp at hx; subst hx; rw [cell_of_row _ _ _ _ _ (0, 0) hh]; rfl
    | j + 4, hx => simp at hx
def StrRet (l : List UInt8) (w : World) (e : Ending) (w' : World) : Prop := e = .returned (bstr l) ∧ Below w.heap.size w w'
set_option maxHeartbeats 400000 in
theorem putSign_no (n : Int) (w : World) (h : ¬ isSg n) : Calls Tryd.prog 158 #[.int .i64 n] w (StrRet [] w) := by
  by_cases h1 : n < 0 ∨ 1114111 < n
  · have HI1 := Lib.hid (fun W => l01In_no n 0 1114111 W h1)
    clear h h1
    go_enter Tryd.func158, Tryd.ntmps158
    go_wp2_with fail
    refine (HI1.out _).mono ?_
    rintro e w1 ⟨rfl, rfl⟩
    go_wp2_with fail
    go_ret
    exact ⟨rfl, (by (repeat' (first | with_reducible exact Below.refl _ _ | with_reducible refine below_alloc ?_ _ ?_ | with_reducible refine Below.setCell ?_ ?_ _ | with_reducible refine Below.drew ?_ | with_reducible refine Go.below_drewN ?_ _ | with_reducible refine below_step ?_ (by assumption) ?_ | with_reducible refine below_mark ?_ (by assumption) ?_)); all_goals (first | omega | (simp; done) | (simp; omega)))⟩
  · have HI1 := Lib.hid (fun W => l01In_yes n 0 1114111 W (by omega) (by omega))
    have HI2 := Lib.hid (fun W => l01In_yes n 55296 57343 W (by unfold isSg at h; omega) (by unfold isSg at h; omega))
    clear h h1
    go_enter Tryd.func158, Tryd.ntmps158
    go_wp2_with fail
    refine (HI1.out _).mono ?_
    rintro e w1 ⟨rfl, rfl⟩
    go_wp2_with fail
    refine (HI2.out _).mono ?_
    rintro e w2 ⟨rfl, rfl⟩
    go_wp2_with fail
    go_ret
    exact ⟨rfl, (by (repeat' (first | with_reducible exact Below.refl _ _ | with_reducible refine below_alloc ?_ _ ?_ | with_reducible refine Below.setCell ?_ ?_ _ | with_reducible refine Below.drew ?_ | with_reducible refine Go.below_drewN ?_ _ | with_reducible refine below_step ?_ (by assumption) ?_ | with_reducible refine below_mark ?_ (by assumption) ?_)); all_goals (first | omega | (simp; done) | (simp; omega)))⟩
theorem putZ_1 (n : Int) (h0 : 0 ≤ n) (h : n < 128) : putS n = [UInt8.ofNat n.toNat] := by
  obtain ⟨m, rfl⟩ := Int.eq_ofNat_of_zero_le h0
  rw [putS_1 (by omega)]; simp
theorem putZ_2 (n : Int) (h0 : 128 ≤ n) (h : n < 2048) : putS n = [UInt8.ofNat (192 + n / 64).toNat, UInt8.ofNat (128 + n % 64).toNat] := by
  obtain ⟨m, rfl⟩ := Int.eq_ofNat_of_zero_le (show 0 ≤ n by omega)
  rw [putS_2 (by omega) (by omega), show (192 + (m : Int) / 64).toNat = 192 + m / 64 by omega, show (128 + (m : Int) % 64).toNat = 128 + m % 64 by omega]
theorem putZ_3 (n : Int) (h0 : 2048 ≤ n) (h : n < 65536) (hs : ¬ (55296 ≤ n ∧ n ≤ 57343)) : putS n = [UInt8.ofNat (224 + n / 4096).toNat, UInt8.ofNat (128 + n / 64 % 64).toNat, UInt8.ofNat (128 + n % 64).toNat] := by
  obtain ⟨m, rfl⟩ := Int.eq_ofNat_of_zero_le (show 0 ≤ n by omega)
  rw [putS_3 (by omega) (by omega) (by omega), show (224 + (m : Int) / 4096).toNat = 224 + m / 4096 by omega, show (128 + (m : Int) / 64 % 64).toNat = 128 + m / 64 % 64 by omega, show (128 + (m : Int) % 64).toNat = 128 + m % 64 by omega]
theorem putZ_4 (n : Int) (h0 : 65536 ≤ n) (h : n ≤ 1114111) : putS n = [UInt8.ofNat (240 + n / 262144).toNat, UInt8.ofNat (128 + n / 4096 % 64).toNat, UInt8.ofNat (128 + n / 64 % 64).toNat, UInt8.ofNat (128 + n % 64).toNat] := by
  obtain ⟨m, rfl⟩ := Int.eq_ofNat_of_zero_le (show 0 ≤ n by omega)
  rw [putS_4 (by omega) (by omega), show (240 + (m : Int) / 262144).toNat = 240 + m / 262144 by omega, show (128 + (m : Int) / 4096 % 64).toNat = 128 + m / 4096 % 64 by omega, show (128 + (m : Int) / 64 % 64).toNat = 128 + m / 64 % 64 by omega, show (128 + (m : Int) % 64).toNat = 128 + m % 64 by omega]
set_option maxHeartbeats 1000000 in
theorem putSign_yes (n : Int) (w : World) (h : isSg n) : Calls Tryd.prog 158 #[.int .i64 n] w (StrRet (putS n) w) := by
  obtain ⟨h0, h1, h2⟩ := h
  have HI1 := Lib.hid (fun W => l01In_yes n 0 1114111 W h0 h1)
  have HI2 := Lib.hid (fun W => l01In_no n 55296 57343 W (by omega))
  have a1 : bits BinOp.and IntKind.i64 n 63 = n % 64 := and_i64 _ 6 63 (by decide) (by decide) (by omega) (by omega)
  have a2 : bits BinOp.and IntKind.i64 (n / 64) 63 = n / 64 % 64 := and_i64 _ 6 63 (by decide) (by decide) (by omega) (by omega)
  have a3 : bits BinOp.and IntKind.i64 (n / 4096) 63 = n / 4096 % 64 := and_i64 _ 6 63 (by decide) (by decide) (by omega) (by omega)
  by_cases c1 : n < 128
  · have H := Lib.hid (putZ_1 n h0 c1)
    have hc := run_new1
    have w1 := u8w n (by omega) (by omega)
    clear a1 a2 a3 h2
    rw [H.out]
    go_enter Tryd.func158, Tryd.ntmps158
    go_wp2_with fail
    refine (HI1.out _).mono ?_
    rintro e w1 ⟨rfl, rfl⟩
    go_wp2_with fail
    refine (HI2.out _).mono ?_
    rintro e w2 ⟨rfl, rfl⟩
    go_wp2_with fail
    go_ret
    exact ⟨rfl, (by (repeat' (first | with_reducible exact Below.refl _ _ | with_reducible refine below_alloc ?_ _ ?_ | with_reducible refine Below.setCell ?_ ?_ _ | with_reducible refine Below.drew ?_ | with_reducible refine Go.below_drewN ?_ _ | with_reducible refine below_step ?_ (by assumption) ?_ | with_reducible refine below_mark ?_ (by assumption) ?_)); all_goals (first | omega | (simp; done) | (simp; omega)))⟩
  · by_cases c2 : n < 2048
    · have H := Lib.hid (putZ_2 n (by omega) c2)
      have hc := run_new2
      have w1 := u8w (192 + n / 64) (by omega) (by omega)
      have w2 := u8w (128 + n % 64) (by omega) (by omega)
      clear a2 a3 h2
      rw [H.out]
      go_enter Tryd.func158, Tryd.ntmps158
      go_wp2_with fail
      refine (HI1.out _).mono ?_
      rintro e w1 ⟨rfl, rfl⟩
      go_wp2_with fail
      refine (HI2.out _).mono ?_
      rintro e w2 ⟨rfl, rfl⟩
      go_wp2_with fail
      go_ret
      exact ⟨rfl, (by (repeat' (first | with_reducible exact Below.refl _ _ | with_reducible refine below_alloc ?_ _ ?_ | with_reducible refine Below.setCell ?_ ?_ _ | with_reducible refine Below.drew ?_ | with_reducible refine Go.below_drewN ?_ _ | with_reducible refine below_step ?_ (by assumption) ?_ | with_reducible refine below_mark ?_ (by assumption) ?_)); all_goals (first | omega | (simp; done) | (simp; omega)))⟩
    · by_cases c3 : n < 65536
      · have H := Lib.hid (putZ_3 n (by omega) c3 h2)
        have hc := run_new3
        have w1 := u8w (224 + n / 4096) (by omega) (by omega)
        have w2 := u8w (128 + n / 64 % 64) (by omega) (by omega)
        have w3 := u8w (128 + n % 64) (by omega) (by omega)
        clear a3 h2
        rw [H.out]
        go_enter Tryd.func158, Tryd.ntmps158
        go_wp2_with fail
        refine (HI1.out _).mono ?_
        rintro e w1 ⟨rfl, rfl⟩
        go_wp2_with fail
        refine (HI2.out _).mono ?_
        rintro e w2 ⟨rfl, rfl⟩
        go_wp2_with fail
        go_ret
        exact ⟨rfl, (by (repeat' (first | with_reducible exact Below.refl _ _ | with_reducible refine below_alloc ?_ _ ?_ | with_reducible refine Below.setCell ?_ ?_ _ | with_reducible refine Below.drew ?_ | with_reducible refine Go.below_drewN ?_ _ | with_reducible refine below_step ?_ (by assumption) ?_ | with_reducible refine below_mark ?_ (by assumption) ?_)); all_goals (first | omega | (simp; done) | (simp; omega)))⟩
      · have H := Lib.hid (putZ_4 n (by omega) h1)
        have hc := run_new4
        have w1 := u8w (240 + n / 262144) (by omega) (by omega)
        have w2 := u8w (128 + n / 4096 % 64) (by omega) (by omega)
        have w3 := u8w (128 + n / 64 % 64) (by omega) (by omega)
        have w4 := u8w (128 + n % 64) (by omega) (by omega)
        clear h2
        rw [H.out]
        go_enter Tryd.func158, Tryd.ntmps158
        go_wp2_with fail
        refine (HI1.out _).mono ?_
        rintro e w1 ⟨rfl, rfl⟩
        go_wp2_with fail
        refine (HI2.out _).mono ?_
        rintro e w2 ⟨rfl, rfl⟩
        go_wp2_with fail
        go_ret
        exact ⟨rfl, (by (repeat' (first | with_reducible exact Below.refl _ _ | with_reducible refine below_alloc ?_ _ ?_ | with_reducible refine Below.setCell ?_ ?_ _ | with_reducible refine Below.drew ?_ | with_reducible refine Go.below_drewN ?_ _ | with_reducible refine below_step ?_ (by assumption) ?_ | with_reducible refine below_mark ?_ (by assumption) ?_)); all_goals (first | omega | (simp; done) | (simp; omega)))⟩
theorem putSign_any (n : Int) (w : World) : Calls Tryd.prog 158 #[.int .i64 n] w (StrRet (putS n) w) := by
  by_cases h : isSg n
  · exact putSign_yes n w h
  · rw [putS_no h]; exact putSign_no n w h
def Int2Ret (a b : Int) (w : World) (e : Ending) (w' : World) : Prop := e = .returned (.tuple #[.int .i64 a, .int .i64 b]) ∧ w' = w
set_option maxHeartbeats 1000000 in
theorem l01Many_any (b : Nat) (x : Int) (hx : x = b) (hb : b < 256) (w : World) : Calls Tryd.prog 157 #[.int .i64 x] w (Int2Ret (manyOf b) (headOf b) w) := by
  have h0 : 0 ≤ x := by omega
  have h1 : x < 256 := by omega
  have a1 : bits BinOp.and IntKind.i64 x 31 = x % 32 := and_i64 _ 5 31 (by decide) (by decide) (by omega) (by omega)
  have a2 : bits BinOp.and IntKind.i64 x 15 = x % 16 := and_i64 _ 4 15 (by decide) (by decide) (by omega) (by omega)
  have a3 : bits BinOp.and IntKind.i64 x 7 = x % 8 := and_i64 _ 3 7 (by decide) (by decide) (by omega) (by omega)
  have HX := Lib.hid hx
  by_cases c1 : b < 128
  · have H := Lib.hid (show (manyOf b : Int) = 1 ∧ (headOf b : Int) = x by rw [HX.out]; unfold manyOf headOf; rw [if_pos c1, if_pos c1]; simp)
    have h2 : x < 128 := by omega
    rw [H.out.1, H.out.2]
    clear hx c1
    go_enter Tryd.func157, Tryd.ntmps157
    go_wp2_with fail
    go_ret2
    exact ⟨rfl, rfl⟩
  have h2 : ¬ x < 128 := by omega
  by_cases c2 : b < 192
  · have H := Lib.hid (show (manyOf b : Int) = 0 ∧ (headOf b : Int) = 0 by unfold manyOf headOf; rw [if_neg c1, if_neg c1, if_pos c2, if_pos c2]; simp)
    have HI1 := Lib.hid (fun W => l01In_no x 192 223 W (by omega))
    have HI2 := Lib.hid (fun W => l01In_no x 224 239 W (by omega))
    have HI3 := Lib.hid (fun W => l01In_no x 240 247 W (by omega))
    rw [H.out.1, H.out.2]
    clear hx c1 c2
    go_enter Tryd.func157, Tryd.ntmps157
    go_wp2_with fail
    refine (HI1.out _).mono ?_
    rintro e w1 ⟨rfl, rfl⟩
    go_wp2_with fail
    refine (HI2.out _).mono ?_
    rintro e w2 ⟨rfl, rfl⟩
    go_wp2_with fail
    refine (HI3.out _).mono ?_
    rintro e w3 ⟨rfl, rfl⟩
    go_wp2_with fail
    go_ret2
    exact ⟨rfl, rfl⟩
  by_cases c3 : b < 224
  · have H := Lib.hid (show (manyOf b : Int) = 2 ∧ (headOf b : Int) = x % 32 by rw [HX.out]; unfold manyOf headOf; rw [if_neg c1, if_neg c1, if_neg c2, if_neg c2, if_pos c3, if_pos c3]; omega)
    have HI1 := Lib.hid (fun W => l01In_yes x 192 223 W (by omega) (by omega))
    rw [H.out.1, H.out.2]
    clear hx c1 c2 c3
    go_enter Tryd.func157, Tryd.ntmps157
    go_wp2_with fail
    refine (HI1.out _).mono ?_
    rintro e w1 ⟨rfl, rfl⟩
    go_wp2_with fail
    go_ret2
    exact ⟨rfl, rfl⟩
  by_cases c4 : b < 240
  · have H := Lib.hid (show (manyOf b : Int) = 3 ∧ (headOf b : Int) = x % 16 by rw [HX.out]; unfold manyOf headOf; rw [if_neg c1, if_neg c1, if_neg c2, if_neg c2, if_neg c3, if_neg c3, if_pos c4, if_pos c4]; omega)
    have HI1 := Lib.hid (fun W => l01In_no x 192 223 W (by omega))
    have HI2 := Lib.hid (fun W => l01In_yes x 224 239 W (by omega) (by omega))
    rw [H.out.1, H.out.2]
    clear hx c1 c2 c3 c4
    go_enter Tryd.func157, Tryd.ntmps157
    go_wp2_with fail
    refine (HI1.out _).mono ?_
    rintro e w1 ⟨rfl, rfl⟩
    go_wp2_with fail
    refine (HI2.out _).mono ?_
    rintro e w2 ⟨rfl, rfl⟩
    go_wp2_with fail
    go_ret2
    exact ⟨rfl, rfl⟩
  have HI1 := Lib.hid (fun W => l01In_no x 192 223 W (by omega))
  have HI2 := Lib.hid (fun W => l01In_no x 224 239 W (by omega))
  by_cases c5 : b < 248
  · have H := Lib.hid (show (manyOf b : Int) = 4 ∧ (headOf b : Int) = x % 8 by rw [HX.out]; unfold manyOf headOf; rw [if_neg c1, if_neg c1, if_neg c2, if_neg c2, if_neg c3, if_neg c3, if_neg c4, if_neg c4, if_pos c5, if_pos c5]; omega)
    have HI3 := Lib.hid (fun W => l01In_yes x 240 247 W (by omega) (by omega))
    rw [H.out.1, H.out.2]
    clear hx c1 c2 c3 c4 c5
    go_enter Tryd.func157, Tryd.ntmps157
    go_wp2_with fail
    refine (HI1.out _).mono ?_
    rintro e w1 ⟨rfl, rfl⟩
    go_wp2_with fail
    refine (HI2.out _).mono ?_
    rintro e w2 ⟨rfl, rfl⟩
    go_wp2_with fail
    refine (HI3.out _).mono ?_
    rintro e w3 ⟨rfl, rfl⟩
    go_wp2_with fail
    go_ret2
    exact ⟨rfl, rfl⟩
  · have H := Lib.hid (show (manyOf b : Int) = 0 ∧ (headOf b : Int) = 0 by unfold manyOf headOf; rw [if_neg c1, if_neg c1, if_neg c2, if_neg c2, if_neg c3, if_neg c3, if_neg c4, if_neg c4, if_neg c5, if_neg c5]; simp)
    have HI3 := Lib.hid (fun W => l01In_no x 240 247 W (by omega))
    rw [H.out.1, H.out.2]
    clear hx c1 c2 c3 c4 c5
    go_enter Tryd.func157, Tryd.ntmps157
    go_wp2_with fail
    refine (HI1.out _).mono ?_
    rintro e w1 ⟨rfl, rfl⟩
    go_wp2_with fail
    refine (HI2.out _).mono ?_
    rintro e w2 ⟨rfl, rfl⟩
    go_wp2_with fail
    refine (HI3.out _).mono ?_
    rintro e w3 ⟨rfl, rfl⟩
    go_wp2_with fail
    go_ret2
    exact ⟨rfl, rfl⟩
def getSg (s : ByteArray) (i : Int) : Int × Int :=
  if i < 0 ∨ (s.size : Int) ≤ i then (-1, -1) else if badD (s.data.toList.drop i.toNat) then (-1, -1) else (((Lib.decodeL (s.data.toList.drop i.toNat)).1 : Int), i + (Lib.decodeL (s.data.toList.drop i.toNat)).2)
def SgRet (p : Int × Int) (w : World) (e : Ending) (w' : World) : Prop := e = .returned (.tuple #[.int .i64 p.1, .int .i64 p.2]) ∧ Below w.heap.size w w'
set_option maxHeartbeats 400000 in
theorem getSign_out (s : ByteArray) (i : Int) (w : World) (hs : s.size ≤ 9223372036854775807) (hi0 : -9223372036854775808 ≤ i) (hi1 : i ≤ 9223372036854775807) (h : i < 0 ∨ (s.size : Int) ≤ i) :
    Calls Tryd.prog 149 #[.string s, .int .i64 i] w (SgRet (getSg s i) w) := by
  have H := Lib.hid (show getSg s i = (-1, -1) by unfold getSg; rw [if_pos h])
  rw [H.out]
  by_cases h0 : i < 0
  · clear h
    go_enter Tryd.func149, Tryd.ntmps149
    go_wp2_with fail
    go_ret2
    exact ⟨rfl, (by (repeat' (first | with_reducible exact Below.refl _ _ | with_reducible refine below_alloc ?_ _ ?_ | with_reducible refine Below.setCell ?_ ?_ _ | with_reducible refine Below.drew ?_ | with_reducible refine Go.below_drewN ?_ _ | with_reducible refine below_step ?_ (by assumption) ?_ | with_reducible refine below_mark ?_ (by assumption) ?_)); all_goals (first | omega | (simp; done) | (simp; omega)))⟩
  · have h2 : (s.size : Int) ≤ i := by omega
    clear h
    go_enter Tryd.func149, Tryd.ntmps149
    go_wp2_with fail
    go_ret2
    exact ⟨rfl, (by (repeat' (first | with_reducible exact Below.refl _ _ | with_reducible refine below_alloc ?_ _ ?_ | with_reducible refine Below.setCell ?_ ?_ _ | with_reducible refine Below.drew ?_ | with_reducible refine Go.below_drewN ?_ _ | with_reducible refine below_step ?_ (by assumption) ?_ | with_reducible refine below_mark ?_ (by assumption) ?_)); all_goals (first | omega | (simp; done) | (simp; omega)))⟩
theorem getD_drop (s : ByteArray) (p j : Nat) (h : p + j < s.size) : (s.data.toList.drop p).getD j 0 = s[p + j] := by
  have hl : p + j < s.data.toList.length := by rw [Array.length_toList]; exact h
  rw [List.getD_eq_getElem?_getD, List.getElem?_drop, List.getElem?_eq_getElem hl]
  rfl
set_option maxHeartbeats 1000000 in
theorem getSign_in (s : ByteArray) (p : Nat) (w : World) (hs : s.size ≤ 9223372036854775807) (h : p < s.size) :
    Calls Tryd.prog 149 #[.string s, .int .i64 p] w (SgRet (getSg s p) w) := by
  have hl : (s.data.toList.drop p).length = s.size - p := by rw [List.length_drop, Array.length_toList]; rfl
  have hb0 : ((s.data.toList.drop p).getD 0 0).toNat = (s[p]).toNat := by rw [getD_drop s p 0 h]; rfl
  have HN := Lib.hid (get_none (s.data.toList.drop p) (by omega))
  have HS := Lib.hid (get_some (s.data.toList.drop p))
  rw [hb0] at HN HS
  have hlt := (s[p]).toNat_lt
  have MA := Lib.hid (fun W => l01Many_any (s[p]).toNat ((s[p]).toNat : Int) rfl (by omega) W)
  have hm4 := manyOf_le (s[p]).toNat
  have HG := Lib.hid (show getSg s p = if badD (s.data.toList.drop p) then (-1, -1) else (((Lib.decodeL (s.data.toList.drop p)).1 : Int), (p : Int) + (Lib.decodeL (s.data.toList.drop p)).2) by
    unfold getSg; rw [if_neg (by omega)]; rfl)
  have HH := Lib.hid (headOf_lt (s[p]).toNat)
  have HL := Lib.hid hl
  clear hl
  generalize getSg s p = g at *
  generalize hm : manyOf (s[p]).toNat = m at *
  generalize headOf (s[p]).toNat = h0 at *
  have HM := Lib.hid hm; clear hm
  have hsp : (p : Int) < s.size := by omega
  by_cases hc : m = 0 ∨ s.size - p < m
  · have HB := Lib.hid (HN.out (by rw [HL.out]; exact hc))
    have HV := Lib.hid (show g = (-1, -1) by rw [HG.out, if_pos HB.out])
    by_cases hm0 : m = 0
    · subst hm0
      clear hc HS HN
      go_enter Tryd.func149, Tryd.ntmps149
      go_wp2_with fail
      refine (MA.out _).mono ?_
      rintro e w1 ⟨rfl, rfl⟩
      go_wp2_with fail
      go_ret2
      exact ⟨by rw [HV.out]; rfl, (by (repeat' (first | with_reducible exact Below.refl _ _ | with_reducible refine below_alloc ?_ _ ?_ | with_reducible refine Below.setCell ?_ ?_ _ | with_reducible refine Below.drew ?_ | with_reducible refine Go.below_drewN ?_ _ | with_reducible refine below_step ?_ (by assumption) ?_ | with_reducible refine below_mark ?_ (by assumption) ?_)); all_goals (first | omega | (simp; done) | (simp; omega)))⟩
    · have h2 : ((s.size : Int) - p) < m := by omega
      have h3 : ¬ (m : Int) = 0 := by omega
      have h4 : ((m : Int) == 0) = false := by simpa using hm0
      clear hc HS HN
      go_enter Tryd.func149, Tryd.ntmps149
      go_wp2_with fail
      refine (MA.out _).mono ?_
      rintro e w1 ⟨rfl, rfl⟩
      go_wp2_with fail
      go_ret2
      exact ⟨by rw [HV.out]; rfl, (by (repeat' (first | with_reducible exact Below.refl _ _ | with_reducible refine below_alloc ?_ _ ?_ | with_reducible refine Below.setCell ?_ ?_ _ | with_reducible refine Below.drew ?_ | with_reducible refine Go.below_drewN ?_ _ | with_reducible refine below_step ?_ (by assumption) ?_ | with_reducible refine below_mark ?_ (by assumption) ?_)); all_goals (first | omega | (simp; done) | (simp; omega)))⟩
  · have h1 : m ≠ 0 := by omega
    have h2 : m ≤ s.size - p := by omega
    have h3 : ¬ ((s.size : Int) - p) < m := by omega
    have h4 : ((m : Int) == 0) = false := by simpa using h1
    have HQ := Lib.hid (HS.out h1 (by rw [HL.out]; exact h2))
    clear hc HS HN
    go_enter Tryd.func149, Tryd.ntmps149
    go_wp2_with fail
    refine (MA.out _).mono ?_
    rintro e w1 ⟨rfl, rfl⟩
    go_wp2_with fail
    go_loop [7, 8] (fun n k => ∃ (j : Nat) (q : Int), 1 ≤ j ∧ j ≤ m ∧ k = .int .i64 j ∧ n = .int .i64 q ∧ 0 ≤ q ∧ q < 134217728 ∧ Hid (q = (accV h0 (s.data.toList.drop p) (j - 1) : Nat) ∧ h0 < 128)) (fun _ k => m - (intOf k).toNat)
    case atStart => exact ⟨1, h0, by omega, by omega, rfl, rfl, by omega, by have := HH.out; omega, Lib.hid ⟨rfl, HH.out⟩⟩
    case round =>
      obtain ⟨j, q, hj1, hjm, rfl, rfl, hq1, hq2, HQJ⟩ := hrel
      by_cases hlt2 : j < m
      · have hpj : p + j < s.size := by omega
        have HX := Lib.hid (show q * 64 + ((s[p + j]).toNat : Int) % 64 = (accV h0 (s.data.toList.drop p) (j + 1 - 1) : Nat) by
          rw [show j + 1 - 1 = (j - 1) + 1 by omega]
          simp only [accV]
          rw [show j - 1 + 1 = j by omega, getD_drop s p j hpj, HQJ.out.1]
          simp)
        have HY := Lib.hid (show q * 64 + ((s[p + j]).toNat : Int) % 64 < 134217728 by
          have h1 := accV_lt h0 (s.data.toList.drop p) HQJ.out.2 (j + 1 - 1) (by omega)
          rw [HX.out]
          have h2 : 64 ^ (j + 1 - 1) ≤ 64 ^ 3 := Nat.pow_le_pow_right (by decide) (by omega)
          omega)
        have hx2 := (s[p + j]).toNat_lt
        have hx3 : ((s[p + j]).toNat : Int) < 256 := by omega
        have a1 : bits BinOp.and IntKind.i64 ((s[p + j]).toNat : Int) 63 = ((s[p + j]).toNat : Int) % 64 := and_i64 _ 6 63 (by decide) (by decide) (by omega) (by omega)
        go_wp2_with fail
        go_round
        case rel => exact ⟨j + 1, _, by omega, by omega, by go_num, rfl, by omega, HY.out, Lib.hid ⟨HX.out, HQJ.out.2⟩⟩
        case measure => simp [intOf]; omega
      · have hjm' : j = m := by omega
        subst hjm'
        have HP := Lib.hid (fun W => putSign_any q W)
        have hE : (s.extract p (p + j)).data.toList = (s.data.toList.drop p).take j := by
          simp [ByteArray.data_extract, List.take_drop]
        have HD := Lib.hid (show (¬ badD (s.data.toList.drop p) ↔ putS q = (s.data.toList.drop p).take j) ∧ (¬ badD (s.data.toList.drop p) → ((Lib.decodeL (s.data.toList.drop p)).1 : Int) = q ∧ (Lib.decodeL (s.data.toList.drop p)).2 = j) by
          have h1 := HQ.out
          rw [← HQJ.out.1] at h1
          refine ⟨h1.1, fun hh => ?_⟩
          rw [h1.2 hh]
          exact ⟨HQJ.out.1.symm, rfl⟩)
        clear HQ
        unfold StrRet at HP
        unfold bstr at HP
        by_cases hbd : badD (s.data.toList.drop p)
        · have HV := Lib.hid (show g = (-1, -1) by rw [HG.out, if_pos hbd])
          have t1 : ((⟨(putS q).toArray⟩ : ByteArray).toList == (s.extract p (p + j)).toList) = false := ba_no (fun e => by
            have : putS q = (s.data.toList.drop p).take j := by rw [← hE, ← e]
            exact absurd hbd (HD.out.1.2 this))
          clear hE hbd HD
          generalize (⟨(putS q).toArray⟩ : ByteArray) = X at *
          go_wp2_with fail
          have u1 : (0 : Int) ≤ (p : Int) := by omega
          have u2 : (p : Int) ≤ (p : Int) + (j : Int) := by omega
          have u3 : (p : Int) + (j : Int) ≤ (s.size : Int) := by omega
          have u4 : ((p : Int) + (j : Int)).toNat = p + j := by omega
          have u5 : IntKind.i64.wrap ((p : Int) + (j : Int)) = (p : Int) + (j : Int) := IntWalk.i64_in _ (by omega)
          have u6 : p ≤ p + j := by omega
          have u7 : p + j ≤ s.size := by omega
          go_region_held3 (fun w' => True) (first | exact trivial | go_keep) ((go_at_call 158; refine (HP.out _).mono ?_; rintro e2 w2 ⟨rfl, hb2⟩))
          go_wp2_with fail
          go_ret2
          exact ⟨by rw [HV.out]; first | rfl | (go_num), (by (repeat' (first | with_reducible exact Below.refl _ _ | with_reducible refine below_alloc ?_ _ ?_ | with_reducible refine Below.setCell ?_ ?_ _ | with_reducible refine Below.drew ?_ | with_reducible refine Go.below_drewN ?_ _ | with_reducible refine below_step ?_ (by assumption) ?_ | with_reducible refine below_mark ?_ (by assumption) ?_)); all_goals (first | omega | (simp; done) | (simp; omega)))⟩
        · have HV := Lib.hid (show g = (q, (p : Int) + j) by rw [HG.out, if_neg hbd, (HD.out.2 hbd).1, (HD.out.2 hbd).2])
          have t1 : ((⟨(putS q).toArray⟩ : ByteArray).toList == (s.extract p (p + j)).toList) = true := ba_yes (ba_ext (by
            show putS q = _
            rw [hE]; exact HD.out.1.1 hbd))
          clear hE hbd HD
          generalize (⟨(putS q).toArray⟩ : ByteArray) = X at *
          go_wp2_with fail
          have u1 : (0 : Int) ≤ (p : Int) := by omega
          have u2 : (p : Int) ≤ (p : Int) + (j : Int) := by omega
          have u3 : (p : Int) + (j : Int) ≤ (s.size : Int) := by omega
          have u4 : ((p : Int) + (j : Int)).toNat = p + j := by omega
          have u5 : IntKind.i64.wrap ((p : Int) + (j : Int)) = (p : Int) + (j : Int) := IntWalk.i64_in _ (by omega)
          have u6 : p ≤ p + j := by omega
          have u7 : p + j ≤ s.size := by omega
          go_region_held3 (fun w' => True) (first | exact trivial | go_keep) ((go_at_call 158; refine (HP.out _).mono ?_; rintro e2 w2 ⟨rfl, hb2⟩))
          go_wp2_with fail
          go_ret2
          exact ⟨by rw [HV.out]; first | rfl | (go_num), (by (repeat' (first | with_reducible exact Below.refl _ _ | with_reducible refine below_alloc ?_ _ ?_ | with_reducible refine Below.setCell ?_ ?_ _ | with_reducible refine Below.drew ?_ | with_reducible refine Go.below_drewN ?_ _ | with_reducible refine below_step ?_ (by assumption) ?_ | with_reducible refine below_mark ?_ (by assumption) ?_)); all_goals (first | omega | (simp; done) | (simp; omega)))⟩
theorem getSign_any (s : ByteArray) (i : Int) (w : World) (hs : s.size ≤ 9223372036854775807) (hi0 : -9223372036854775808 ≤ i) (hi1 : i ≤ 9223372036854775807) :
    Calls Tryd.prog 149 #[.string s, .int .i64 i] w (SgRet (getSg s i) w) := by
  by_cases h : i < 0 ∨ (s.size : Int) ≤ i
  · exact getSign_out s i w hs hi0 hi1 h
  · obtain ⟨p, rfl⟩ := Int.eq_ofNat_of_zero_le (show 0 ≤ i by omega)
    exact getSign_in s p w hs (by omega)
theorem validStep (s : ByteArray) (p : Nat) (h : p < s.size) : Lib.validD (s.data.toList.drop p) = if badD (s.data.toList.drop p) then false else Lib.validD (s.data.toList.drop (p + (Lib.decodeL (s.data.toList.drop p)).2)) := by
  have hl : s.data.toList.drop p ≠ [] := by
    intro e
    have := congrArg List.length e
    rw [List.length_drop, Array.length_toList] at this
    simp only [List.length_nil] at this
    have h2 : s.data.size = s.size := rfl
    omega
  rw [Lib.validD_step _ hl, List.drop_drop]
  rfl
theorem decLe (s : ByteArray) (p : Nat) (h : p < s.size) : 1 ≤ (Lib.decodeL (s.data.toList.drop p)).2 ∧ p + (Lib.decodeL (s.data.toList.drop p)).2 ≤ s.size := by
  have hl : (s.data.toList.drop p).length = s.size - p := by rw [List.length_drop, Array.length_toList]; rfl
  have h2 := Lib.decodeL_le (s.data.toList.drop p) (by intro e; rw [e] at hl; simp at hl; omega)
  exact ⟨Lib.decodeL_width _, by omega⟩
def SignsRet (s : ByteArray) (w : World) (e : Ending) (w' : World) : Prop := ∃ a n cap, e = .returned (.slice a n cap) ∧ decide (0 < n) = (txt s && decide (s.size ≠ 0)) ∧ Below w.heap.size w w'
set_option maxHeartbeats 1000000 in
theorem Signs_any (s : ByteArray) (w : World) (hs : s.size ≤ 1099511627776) : Calls Tryd.prog 140 #[.string s] w (SignsRet s w) := by
  have GS := Lib.hid (fun W (p : Nat) (hp : p < s.size) => getSign_any s p W (by omega) (by omega) (by omega))
  go_enter Tryd.func140, Tryd.ntmps140
  go_wp2_with fail
  go_loopw [3, 4] (fun o i wr => ∃ (p : Nat) (l : List Int), p ≤ s.size ∧ i = .int .i64 p ∧ l.length ≤ p ∧ Hid (txt s = Lib.validD (s.data.toList.drop p) ∧ (l = [] ↔ p = 0)) ∧ IRow wr w.heap.size o l ∧ Below w.heap.size w wr) (fun _ i _ => s.size - (intOf i).toNat)
  case atStart => exact ⟨0, [], by omega, rfl, by simp, Lib.hid ⟨rfl, by simp⟩, IRow.made0 (Nat.le_refl _), (by (repeat' (first | with_reducible exact Below.refl _ _ | with_reducible refine below_alloc ?_ _ ?_ | with_reducible refine Below.setCell ?_ ?_ _ | with_reducible refine Below.drew ?_ | with_reducible refine Go.below_drewN ?_ _ | with_reducible refine below_step ?_ (by assumption) ?_ | with_reducible refine below_mark ?_ (by assumption) ?_)); all_goals (first | omega | (simp; done) | (simp; omega)))⟩
  case round =>
    obtain ⟨p, l, hp, rfl, hl, HI, hrow, hbl⟩ := hrel
    have hzr := hbl.size
    have HROW := Lib.hid hrow; clear hrow
    by_cases hlt : p < s.size
    · have HV := Lib.hid (validStep s p hlt)
      have HL := Lib.hid (decLe s p hlt)
      have HG := Lib.hid (show getSg s p = if badD (s.data.toList.drop p) then (-1, -1) else (((Lib.decodeL (s.data.toList.drop p)).1 : Int), (p : Int) + (Lib.decodeL (s.data.toList.drop p)).2) by
        unfold getSg; rw [if_neg (by omega)]; rfl)
      have G1 := Lib.hid (fun W => GS.out W p hlt)
      obtain ⟨so, no, co, rfl⟩ : ∃ a n c, u3 = .slice a n c := by obtain ⟨a, c, e, _⟩ := HROW.out.form; exact ⟨a, _, c, e⟩
      by_cases hbd : badD (s.data.toList.drop p)
      · have HGV := Lib.hid (show getSg s p = (-1, -1) by rw [HG.out, if_pos hbd])
        have HF := Lib.hid (show txt s = false by rw [HI.out.1, HV.out, if_pos hbd])
        rw [HGV.out] at G1
        clear HG HV hbd
        go_wp2_with fail
        refine (G1.out _).mono ?_
        rintro e1 w1 ⟨rfl, hb1⟩
        go_wp2_with fail
        go_ret
        exact ⟨_, _, _, rfl, by rw [HF.out]; rfl, (by (repeat' (first | with_reducible exact Below.refl _ _ | with_reducible refine below_alloc ?_ _ ?_ | with_reducible refine Below.setCell ?_ ?_ _ | with_reducible refine Below.drew ?_ | with_reducible refine Go.below_drewN ?_ _ | with_reducible refine below_step ?_ (by assumption) ?_ | with_reducible refine below_mark ?_ (by assumption) ?_)); all_goals (first | omega | (simp; done) | (simp; omega)))⟩
      · have HN := Lib.hid (show txt s = Lib.validD (s.data.toList.drop (p + (Lib.decodeL (s.data.toList.drop p)).2)) by rw [HI.out.1, HV.out, if_neg hbd])
        rw [HG.out, if_neg hbd] at G1
        clear HG HV hbd
        obtain ⟨hL1, hL2⟩ := HL.out
        generalize (Lib.decodeL (s.data.toList.drop p)).2 = wd at *
        generalize (((Lib.decodeL (s.data.toList.drop p)).1 : Nat) : Int) = rv at *
        go_wp2_with fail
        refine (G1.out _).mono ?_
        rintro e1 w1 ⟨rfl, hb1⟩
        have hz1 := hb1.size
        have S1 := Lib.hid (src_int1 w1 rv)
        have R1 := Lib.hid (show IRow (w1.alloc (.cells #[.int .i64 rv] 3)) w.heap.size (.slice so no co) l from HROW.out.keep (fun x hx => (Below.heap_alloc w1 _ _ (by have := (HROW.out.lt x hx).2; omega)).trans (hb1.block x (HROW.out.lt x hx).2)))
        have hpos : ¬ ((p : Int) + wd) < 0 := by omega
        go_wp2_with (at_builtin; go_loud (refine app_ints rfl _ _ _ rfl w.heap.size _ _ rfl R1.out _ rfl [rv] S1.out (by simp only [List.length_cons, List.length_nil]; omega) (by simp; omega) ?_); intro v2 w2 hrow2 hg2 hfr2; have hb2 : Below w.heap.size w1 w2 := ((Below.refl _ _).alloc (by omega) _).grown hg2 (by simp; omega) (fun k' hk' => (HROW.out.lt k' hk').1); have R2 := Lib.hid hrow2; clear hrow2)
        go_roundw
        case rel => exact ⟨p + wd, l ++ [rv], by omega, by go_num, by simp; omega, Lib.hid ⟨HN.out, by simp; omega⟩, R2.out, (hbl.trans (hb1.mono (by omega))).trans hb2⟩
        case measure => simp [intOf]; omega
    · have hpe : p = s.size := by omega
      have HF := Lib.hid (show txt s = true by
        rw [HI.out.1, List.drop_of_length_le (by rw [Array.length_toList]; show s.size ≤ p; omega)]; rfl)
      obtain ⟨a, cap, e, _⟩ := HROW.out.form
      subst e
      go_wp2_with fail
      go_ret
      refine ⟨_, _, _, rfl, ?_, hbl⟩
      rw [HF.out, Bool.true_and, decide_eq_decide, ← hpe]
      have h1 := HI.out.2
      have h2 : l = [] ↔ l.length = 0 := ⟨fun e => by rw [e]; rfl, List.eq_nil_of_length_eq_zero⟩
      have h3 := h2.symm.trans h1
      omega
set_option maxHeartbeats 400000 in
theorem textOk_spec (s : ByteArray) (w : World) (hs : s.size ≤ 1099511627776) : Calls Tryd.prog 120 #[.string s] w fun e w' => e = .returned (.bool (txt s)) ∧ Below w.heap.size w w' := by
  have SG := Lib.hid (fun W => Signs_any s W hs)
  by_cases h0 : s.size = 0
  · obtain rfl := ba_empty h0
    have H := Lib.hid (show txt ⟨#[]⟩ = true from rfl)
    rw [H.out]
    go_enter Tryd.func120, Tryd.ntmps120
    go_wp2_with fail
    go_ret
    exact ⟨rfl, (by (repeat' (first | with_reducible exact Below.refl _ _ | with_reducible refine below_alloc ?_ _ ?_ | with_reducible refine Below.setCell ?_ ?_ _ | with_reducible refine Below.drew ?_ | with_reducible refine Go.below_drewN ?_ _ | with_reducible refine below_step ?_ (by assumption) ?_ | with_reducible refine below_mark ?_ (by assumption) ?_)); all_goals (first | omega | (simp; done) | (simp; omega)))⟩
  · have hne : s.toList = [] ↔ False := ⟨fun e => h0 (by have := congrArg List.length e; rw [ByteArray.toList_eq] at this; simpa using this), False.elim⟩
    have hne2 : s.toList.isEmpty = false := by
      rcases h : s.toList with _ | ⟨x, l⟩
      · exact absurd (hne.1 h) id
      · rfl
    have h0' : decide (s.size ≠ 0) = true := decide_eq_true h0
    have HH := Lib.hid h0'
    clear h0' h0
    go_enter Tryd.func120, Tryd.ntmps120
    go_wp2_with fail
    refine (SG.out _).mono ?_
    rintro e1 w1 ⟨a, n, cap, rfl, hn, hb1⟩
    have HN := Lib.hid (show txt s = decide (0 < n) by rw [hn, HH.out, Bool.and_true])
    clear hn
    go_wp2_with fail
    go_ret
    exact ⟨by rw [HN.out]; simp, hb1⟩
end Go.Proofs.YtfjehhdahpbbgaaDoor
