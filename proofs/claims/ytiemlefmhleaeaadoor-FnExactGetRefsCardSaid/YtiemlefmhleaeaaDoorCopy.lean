/- A value copied: the reference's l02Copy, l02CopyAll, and the program's own. -/
import Derived.Test.YtiemlefmhleaeaaDoorOwnApp
import Derived.Test.YtiemlefmhleaeaaDoorLawAid
import Derived.Test.YtiemlefmhleaeaaDoorLens
import Derived.Test.YtiemlefmhleaeaaDoorMarkV
import Derived.WalkSpells
import Derived.Lib.Hide
import Derived.Deep.RegionWith
namespace Go.Proofs.YtiemlefmhleaeaaDoor
set_option linter.unusedVariables false
set_option maxRecDepth 100000
open Go.RowKit
theorem OwnS.low {w : World} {B B' : Nat} {v : Value} {ts : List V} (h : OwnS w (fun x => B' ≤ x) v ts) (hB : B ≤ B') : OwnS w (fun x => B ≤ x) v ts := h.mono (fun x hx => Nat.le_trans hB hx)
set_option maxHeartbeats 400000 in
theorem copy_value (t : V) (sl : Value) (w : World) (hwf : t.wf) (hsl : ∃ a n c, sl = .slice a n c)
    (hall : ∀ W : World, Below w.heap.size w W → Calls Tryd.prog 124 #[sl] W (ListRet W t.kids)) :
    Calls Tryd.prog 78 #[t.agg sl] w (ValRet w t) := by
  obtain ⟨a0, n0, c0, rfl⟩ := hsl
  have IH := Lib.hid hall; clear hall
  have HP := Lib.hid (show ∀ e w', (∃ sl, e = .returned (t.agg sl) ∧ OwnS w' (fun x => w.heap.size ≤ x) sl t.kids ∧ Below w.heap.size w w') → ValRet w t e w' from fun e w' ⟨sl, h1, h2, h3⟩ => ⟨sl, h1, hwf, h2, h3⟩)
  clear hwf
  unfold V.agg at HP ⊢
  generalize t.k = k at *
  generalize t.n = n at *
  generalize t.e = e at *
  generalize t.s = s at *
  go_enter Tryd.func78, Tryd.ntmps78
  go_wp2_with fail
  refine (IH.out _ (by (repeat' (first | with_reducible exact Below.refl _ _ | with_reducible refine below_alloc ?_ _ ?_ | with_reducible refine Below.setCell ?_ ?_ _ | with_reducible refine Below.drew ?_ | with_reducible refine below_drewN ?_ _ | with_reducible refine below_step ?_ (by assumption) ?_ | with_reducible refine below_mark ?_ (by assumption) ?_)); all_goals (first | omega | (simp; done) | (simp; omega)))).mono ?_
  rintro e1 w1 ⟨v, rfl, ho, hb⟩
  obtain ⟨a, cap, rfl⟩ := ho.slice
  have hz := hb.size
  simp at hz
  obtain ⟨hc, hf⟩ := bcell hb
  have HO := Lib.hid ho; clear ho
  go_wp2_with fail
  refine bodyPost_ret (v := .agg #[.int .i64 k, .int .i64 n, .int .i64 e, .string s, .slice a t.kids.length cap]) (by simp [results, Tryd.results78, go_sem, hc]) rfl (HP.out _ _ ⟨_, rfl, ?_, (by (repeat' (first | with_reducible exact Below.refl _ _ | with_reducible refine below_alloc ?_ _ ?_ | with_reducible refine Below.setCell ?_ ?_ _ | with_reducible refine Below.drew ?_ | with_reducible refine below_drewN ?_ _ | with_reducible refine below_step ?_ (by assumption) ?_ | with_reducible refine below_mark ?_ (by assumption) ?_)); all_goals (first | omega | (simp; done) | (simp; omega)))⟩)
  refine OwnS.mono (F := fun x => w.heap.size + 1 + 1 + 1 ≤ x) ?_ (fun x hx => by omega)
  repeat refine OwnS.set ?_ _ _ (by first | omega | (simp; done) | (simp; omega))
  simpa using HO.out
set_option maxHeartbeats 1000000 in
theorem copy_all (w0 : World) : ∀ (N : Nat) (v : Value) (ts : List V), szs ts ≤ N → RepS w0 v ts → szs ts ≤ 1048576 → ∀ (w : World), Below w0.heap.size w0 w →
    Calls Tryd.prog 124 #[v] w (ListRet w ts) := by
  intro N
  induction N using Nat.strongRecOn with
  | ind N ih =>
  intro v ts hN h hsz w hw
  obtain ⟨a, b, off, cap, rfl, ha, hc, hm, sls, hel⟩ := h.opened
  have hlen := szs_length ts
  have HA := Lib.hid ha; have HE := Lib.hid hel; have HW := Lib.hid hw
  have V1 := Lib.hid (fun (j : Nat) (hj : j < ts.length) (W : World) (hW : Below w0.heap.size w0 W) => copy_value ts[j] (sls j) W (HE.out j hj).2.1 (by obtain ⟨a, c, e⟩ := (HE.out j hj).2.2.slice; exact ⟨a, _, c, e⟩)
    (fun W' hW' => ih (szs ts[j].kids) (by have h1 := szs_mem (List.getElem_mem hj); have h2 := V.sz_eq ts[j]; omega) (sls j) ts[j].kids (Nat.le_refl _) (HE.out j hj).2.2 (by have h1 := szs_mem (List.getElem_mem hj); have h2 := V.sz_eq ts[j]; omega) W' (below_step hW hW' (Nat.le_refl _))))
  clear ih h hel ha hc hm hN
  have R0 := Lib.hid (VRows.made0 (w := w.alloc (.cells #[] 28)) (base := w.heap.size) (Nat.le_refl _) (heap_alloc_new w (.cells #[] 28)))
  go_enter Tryd.func124, Tryd.ntmps124
  go_wp2_with fail
  go_loopw [3, 4] (fun o i wr => ∃ (k : Nat) (G : Nat → Prop), k ≤ ts.length ∧ i = .int .i64 k ∧ VRows wr w.heap.size 28 G o (ts.take k) ∧ Below w.heap.size w wr) (fun _ i _ => ts.length + 1 - (intOf i).toNat)
  case atStart => exact ⟨0, _, by omega, rfl, R0.out, (by (repeat' (first | with_reducible exact Below.refl _ _ | with_reducible refine below_alloc ?_ _ ?_ | with_reducible refine Below.setCell ?_ ?_ _ | with_reducible refine Below.drew ?_ | with_reducible refine below_drewN ?_ _ | with_reducible refine below_step ?_ (by assumption) ?_ | with_reducible refine below_mark ?_ (by assumption) ?_)); all_goals (first | omega | (simp; done) | (simp; omega)))⟩
  case round =>
    obtain ⟨k, G, hk, rfl, hrow, hbl⟩ := hrel
    have HROW := Lib.hid hrow; clear hrow
    by_cases hlt : k < ts.length
    · have hne : ts ≠ [] := by intro e; rw [e] at hlt; simp at hlt
      obtain ⟨rfl, hbw⟩ := HA.out hne
      have HWR := Lib.hid (HW.out.trans (hbl.mono HW.out.size))
      obtain ⟨c0, c1, c2, c3, c4⟩ := (HE.out k hlt).1.keep (HWR.out.block b hbw)
      have VJ := Lib.hid (fun (W : World) (hW : Below wr.heap.size wr W) => V1.out k hlt W (below_step HWR.out hW (by have := HWR.out.size; omega)))
      have HT := Lib.hid (show ts.take (k + 1) = ts.take k ++ [ts[k]] from List.take_succ_eq_append_getElem hlt)
      have HLEN := Lib.hid (show (ts.take k).length ≤ 1048576 by rw [List.length_take]; omega)
      obtain ⟨a3, cap3, hs3⟩ := (HE.out k hlt).2.2.slice
      rw [hs3] at c4 VJ
      clear hs3
      have HG := Lib.hid hbl.size
      have hz9 := hbl.size
      unfold V.agg at VJ
      generalize hgn : ts[k] = tk at *
      generalize ts.take k = L at *
      go_wp2_with fail
      refine (VJ.out _ (Below.refl _ _)).mono ?_
      rintro x w1 ⟨s2, rfl, twf, ho, hb1⟩
      obtain ⟨sa, sn, sc, rfl⟩ : ∃ sa sn sc, s2 = .slice sa sn sc := by obtain ⟨p, q, e⟩ := ho.slice; exact ⟨p, _, q, e⟩
      unfold V.agg
      have hz1 := hb1.size
      have HO := Lib.hid ho.bound; clear ho
      have HWF := Lib.hid twf; clear twf
      have B1 := Lib.hid (heap_alloc_new w1 (.cells #[.int .i64 tk.k, .int .i64 tk.n, .int .i64 tk.e, .string tk.s, .slice sa sn sc] 28))
      have R1 := Lib.hid ((HROW.out.keep hb1).keep ((Below.refl _ _).alloc (Nat.le_refl w1.heap.size) (.cells #[.int .i64 tk.k, .int .i64 tk.n, .int .i64 tk.e, .string tk.s, .slice sa sn sc] 28)))
      have O1 := Lib.hid (HO.out.alloc (.cells #[.int .i64 tk.k, .int .i64 tk.n, .int .i64 tk.e, .string tk.s, .slice sa sn sc] 28))
      have HF1 := Lib.hid (show ∀ x, (wr.heap.size ≤ x ∧ x < w1.heap.size) → w.heap.size ≤ x ∧ x < (w1.alloc (.cells #[.int .i64 tk.k, .int .i64 tk.n, .int .i64 tk.e, .string tk.s, .slice sa sn sc] 28)).heap.size ∧ ¬ G x ∧ u3.ownBlock ≠ some x from
        fun x ⟨h1, h2⟩ => ⟨by omega, by simp; omega, fun hG => by have := (HROW.out.inG x hG).2; omega, fun e => by have := (HROW.out.lt x e).2; omega⟩)
      go_wp2_with (at_builtin; refine app_own rfl _ _ rfl w.heap.size G (fun x => wr.heap.size ≤ x ∧ x < w1.heap.size) _ L rfl R1.out tk (.slice sa sn sc) w1.heap.size rfl B1.out HWF.out O1.out HF1.out (by have := HLEN.out; omega) (by simp; omega) ?_; intro v2 w2 hrow2 hg2 hfr2; have HR2 := Lib.hid hrow2; have HG2 := Lib.hid hg2; clear hrow2 hg2 hfr2)
      go_roundw
      case rel => exact ⟨k + 1, _, by omega, by go_num, by rw [HT.out]; exact HR2.out, Below.grown ((by (repeat' (first | with_reducible exact Below.refl _ _ | with_reducible refine below_alloc ?_ _ ?_ | with_reducible refine Below.setCell ?_ ?_ _ | with_reducible refine Below.drew ?_ | with_reducible refine below_drewN ?_ _ | with_reducible refine below_step ?_ (by assumption) ?_ | with_reducible refine below_mark ?_ (by assumption) ?_)); all_goals (first | omega | (simp; done) | (simp; omega)))) HG2.out (by simp; omega) (fun x hx => (HROW.out.lt x hx).1)⟩
      case measure => simp [intOf]; omega
    · have H := Lib.hid (show ts.take k = ts from List.take_of_length_le (by omega))
      go_wp2_with fail
      go_ret
      exact ⟨_, rfl, by have := HROW.out.own; rwa [H.out] at this, hbl⟩
theorem copy_any (w0 : World) (v : Value) (t : V) (h : Rep w0 v t) (hsz : t.sz ≤ 1048576) (w : World) (hw : Below w0.heap.size w0 w) : Calls Tryd.prog 78 #[v] w (ValRet w t) := by
  obtain ⟨sl, rfl, hwf, hr⟩ := h
  exact copy_value t sl w hwf (by obtain ⟨a, c, e⟩ := hr.slice; exact ⟨a, _, c, e⟩) (fun W hW => copy_all w0 _ sl t.kids (Nat.le_refl _) hr (by have := V.sz_eq t; omega) W (hw.trans (hW.mono hw.size)))
theorem VRows.made0c {w : World} {base b cap : Nat} {E : TypeId} {cur : Array Value} (hb : base ≤ b) (h : w.heap[b]? = some (.cells cur E (0, 0))) (hc : cur.size = cap * 5) (hm : cap ≤ maxLen) : VRows w base E (fun _ => False) (.slice (some ⟨b, 0, none⟩) 0 cap) [] := by
  refine ⟨[], fun _ _ => False, ⟨?_, rfl, by simp, by simp, by simp, by simp, by simp, by simp⟩⟩
  exact ⟨rfl, .inr ⟨b, cap, cur, rfl, hb, h, Nat.zero_le _, hm, hc, by simp [flat]⟩⟩
set_option maxHeartbeats 1000000 in
theorem own_all (w0 : World) : ∀ (N : Nat) (v : Value) (t : V), t.sz < N → Rep w0 v t → t.sz ≤ 1048576 → ∀ (w : World), Below w0.heap.size w0 w →
    Calls Tryd.prog 82 #[v] w (ValRet w t) := by
  intro N
  induction N with
  | zero => intro v t h; omega
  | succ N ih =>
  intro v t hN h hsz w hw
  obtain ⟨sl, rfl, hwf, hr⟩ := h
  have hts := V.sz_eq t
  have HP := Lib.hid (show ∀ e w', (∃ sl, e = .returned (t.agg sl) ∧ OwnS w' (fun x => w.heap.size ≤ x) sl t.kids ∧ Below w.heap.size w w') → ValRet w t e w' from fun e w' ⟨sl, h1, h2, h3⟩ => ⟨sl, h1, hwf, h2, h3⟩)
  obtain ⟨a, b, off, cap, rfl, ha, hc, hm, sls, hel⟩ := hr.opened
  have hlen := szs_length t.kids
  have HA := Lib.hid ha; have HE := Lib.hid hel; have HW := Lib.hid hw
  have V1 := Lib.hid (fun (j : Nat) (hj : j < t.kids.length) (W : World) (hW : Below w0.heap.size w0 W) => ih (t.kids[j].agg (sls j)) t.kids[j] (by have h1 := szs_mem (List.getElem_mem hj); omega) ⟨sls j, rfl, (HE.out j hj).2.1, (HE.out j hj).2.2⟩ (by have h1 := szs_mem (List.getElem_mem hj); omega) W hW)
  have hl : t.kids.length ≤ 1048576 := by omega
  clear ih hel ha hc hm hN hr hwf hlen hts hsz
  unfold V.agg at HP ⊢
  generalize t.k = k at *
  generalize t.n = n at *
  generalize t.e = e at *
  generalize t.s = s at *
  generalize t.kids = ts at *
  obtain ⟨i0, hi, hz0, hz1, hz2⟩ := info_parts info_impl
  have hmk := Lib.hid (fun (W : World) => run_make (P := Tryd.prog) W 26 28 i0 _ Tryd.underlying26 hi hz0 .i64 .i64 0 ts.length (by omega) (by omega) (by rw [hz2]; omega) (by omega))
  rw [hz1] at hmk
  clear hi hz0 hz1 hz2
  by_cases hk0 : ts.length = 0
  · obtain rfl := List.eq_nil_of_length_eq_zero hk0
    clear hmk V1 HE HA
    go_enter Tryd.func82, Tryd.ntmps82
    go_wp2_with fail
    refine bodyPost_ret (v := .agg #[.int .i64 k, .int .i64 n, .int .i64 e, .string s, .slice none 0 0]) (by simp [results, Tryd.results82, go_sem]) rfl (HP.out _ _ ⟨_, rfl, OwnS.nil _ _, (by (repeat' (first | with_reducible exact Below.refl _ _ | with_reducible refine below_alloc ?_ _ ?_ | with_reducible refine Below.setCell ?_ ?_ _ | with_reducible refine Below.drew ?_ | with_reducible refine below_drewN ?_ _ | with_reducible refine below_step ?_ (by assumption) ?_ | with_reducible refine below_mark ?_ (by assumption) ?_)); all_goals (first | omega | (simp; done) | (simp; omega)))⟩)
  · have t1 : ((ts.length : Int) == 0) = false := by simp; exact fun e => hk0 (by simp [e])
    have R0 := Lib.hid (VRows.made0c (w := ((w.alloc (.cells #[.int .i64 k, .int .i64 n, .int .i64 e, .string s, .slice a ts.length cap] 28)).alloc (.cells #[.int .i64 0, .int .i64 0, .int .i64 0, .string ⟨#[]⟩, .slice none 0 0] 28)).alloc (.cells (madeCells (Value.agg #[.int .i64 0, .int .i64 0, .int .i64 0, .string ⟨#[]⟩, .slice none 0 0]).cells ((ts.length : Int).toNat * 5)) 28))
      (base := w.heap.size + 1 + 1) (b := w.heap.size + 1 + 1) (cap := ts.length) (Nat.le_refl _) (by
        have := heap_alloc_new ((w.alloc (.cells #[.int .i64 k, .int .i64 n, .int .i64 e, .string s, .slice a ts.length cap] 28)).alloc (.cells #[.int .i64 0, .int .i64 0, .int .i64 0, .string ⟨#[]⟩, .slice none 0 0] 28)) (.cells (madeCells (Value.agg #[.int .i64 0, .int .i64 0, .int .i64 0, .string ⟨#[]⟩, .slice none 0 0]).cells ((ts.length : Int).toNat * 5)) 28)
        rw [show ((w.alloc (.cells #[.int .i64 k, .int .i64 n, .int .i64 e, .string s, .slice a ts.length cap] 28)).alloc (.cells #[.int .i64 0, .int .i64 0, .int .i64 0, .string ⟨#[]⟩, .slice none 0 0] 28)).heap.size = w.heap.size + 1 + 1 by simp] at this
        exact this) (by rw [size_madeCells]; simp) (by simp [maxLen]; omega))
    clear hk0
    go_enter Tryd.func82, Tryd.ntmps82
    have hmk2 := hmk.out
    go_wp2_with fail
    clear hmk2 hmk
    have HBW := Lib.hid (show Below w.heap.size w (((w.alloc (.cells #[.int .i64 k, .int .i64 n, .int .i64 e, .string s, .slice a ts.length cap] 28)).alloc (.cells #[.int .i64 0, .int .i64 0, .int .i64 0, .string ⟨#[]⟩, .slice none 0 0] 28)).alloc (.cells (madeCells (Value.agg #[.int .i64 0, .int .i64 0, .int .i64 0, .string ⟨#[]⟩, .slice none 0 0]).cells ((ts.length : Int).toNat * 5)) 28)) from (by (repeat' (first | with_reducible exact Below.refl _ _ | with_reducible refine below_alloc ?_ _ ?_ | with_reducible refine Below.setCell ?_ ?_ _ | with_reducible refine Below.drew ?_ | with_reducible refine below_drewN ?_ _ | with_reducible refine below_step ?_ (by assumption) ?_ | with_reducible refine below_mark ?_ (by assumption) ?_)); all_goals (first | omega | (simp; done) | (simp; omega))))
    have HZW := Lib.hid (show (((w.alloc (.cells #[.int .i64 k, .int .i64 n, .int .i64 e, .string s, .slice a ts.length cap] 28)).alloc (.cells #[.int .i64 0, .int .i64 0, .int .i64 0, .string ⟨#[]⟩, .slice none 0 0] 28)).alloc (.cells (madeCells (Value.agg #[.int .i64 0, .int .i64 0, .int .i64 0, .string ⟨#[]⟩, .slice none 0 0]).cells ((ts.length : Int).toNat * 5)) 28)).heap.size = w.heap.size + 1 + 1 + 1 by simp)
    have BXW := Lib.hid (((Box.new w k n e s (.slice a ts.length cap) 28).alloc (.cells #[.int .i64 0, .int .i64 0, .int .i64 0, .string ⟨#[]⟩, .slice none 0 0] 28)).alloc (.cells (madeCells (Value.agg #[.int .i64 0, .int .i64 0, .int .i64 0, .string ⟨#[]⟩, .slice none 0 0]).cells ((ts.length : Int).toNat * 5)) 28))
    have BZ0 := (Box.new (w.alloc (.cells #[.int .i64 k, .int .i64 n, .int .i64 e, .string s, .slice a ts.length cap] 28)) 0 0 0 ⟨#[]⟩ (.slice none 0 0) 28).alloc (.cells (madeCells (Value.agg #[.int .i64 0, .int .i64 0, .int .i64 0, .string ⟨#[]⟩, .slice none 0 0]).cells ((ts.length : Int).toNat * 5)) 28)
    rw [show (w.alloc (.cells #[.int .i64 k, .int .i64 n, .int .i64 e, .string s, .slice a ts.length cap] 28)).heap.size = w.heap.size + 1 by simp] at BZ0
    have BZW := Lib.hid BZ0; clear BZ0
    go_loopw [3, 19, 5] (fun o i _ wr => ∃ (j : Nat) (G : Nat → Prop), j ≤ ts.length ∧ i = .int .i64 j ∧ VRows wr (w.heap.size + 1 + 1) 28 G o (ts.take j) ∧ Below (w.heap.size + 1 + 1) (((w.alloc (.cells #[.int .i64 k, .int .i64 n, .int .i64 e, .string s, .slice a ts.length cap] 28)).alloc (.cells #[.int .i64 0, .int .i64 0, .int .i64 0, .string ⟨#[]⟩, .slice none 0 0] 28)).alloc (.cells (madeCells (Value.agg #[.int .i64 0, .int .i64 0, .int .i64 0, .string ⟨#[]⟩, .slice none 0 0]).cells ((ts.length : Int).toNat * 5)) 28)) wr) (fun _ i _ _ => ts.length - (intOf i).toNat)
    case atStart => exact ⟨0, _, by omega, rfl, R0.out, Below.refl _ _⟩
    case round =>
      obtain ⟨j, G, hj, rfl, hrow, hbl⟩ := hrel
      have HROW := Lib.hid hrow; clear hrow
      have HBL := Lib.hid (HBW.out.trans (hbl.mono (by omega)))
      have hz9 := hbl.size
      rw [HZW.out] at hz9
      by_cases hlt : j < ts.length
      · have hne : ts ≠ [] := by intro e; rw [e] at hlt; simp at hlt
        obtain ⟨rfl, hbw⟩ := HA.out hne
        have HWR := Lib.hid (HW.out.trans (HBL.out.mono HW.out.size))
        obtain ⟨c0, c1, c2, c3, c4⟩ := (HE.out j hlt).1.keep (HWR.out.block b hbw)
        have VJ := Lib.hid (fun (W : World) (hW : Below wr.heap.size wr W) => V1.out j hlt W (below_step HWR.out hW (by have := HWR.out.size; omega)))
        have HT := Lib.hid (show ts.take (j + 1) = ts.take j ++ [ts[j]] from List.take_succ_eq_append_getElem hlt)
        have HLEN := Lib.hid (show (ts.take j).length ≤ 1048576 by rw [List.length_take]; omega)
        obtain ⟨a3, cap3, hs3⟩ := (HE.out j hlt).2.2.slice
        rw [hs3] at c4 VJ
        clear hs3 V1
        unfold V.agg at VJ
        generalize ts[j] = tk at *
        generalize ts.take j = L at *
        go_wp2_with fail
        refine (VJ.out _ ((by (repeat' (first | with_reducible exact Below.refl _ _ | with_reducible refine below_alloc ?_ _ ?_ | with_reducible refine Below.setCell ?_ ?_ _ | with_reducible refine Below.drew ?_ | with_reducible refine below_drewN ?_ _ | with_reducible refine below_step ?_ (by assumption) ?_ | with_reducible refine below_mark ?_ (by assumption) ?_)); all_goals (first | omega | (simp; done) | (simp; omega))))).mono ?_
        rintro x w1 ⟨s2, rfl, twf, ho, hb1⟩
        obtain ⟨sa, sn, sc, rfl⟩ : ∃ sa sn sc, s2 = .slice sa sn sc := by obtain ⟨p, q, e⟩ := ho.slice; exact ⟨p, _, q, e⟩
        unfold V.agg
        have hz1 := hb1.size
        simp at hz1
        have HO := Lib.hid ho.bound; clear ho
        have HWF := Lib.hid twf; clear twf
        have B1 := Lib.hid (heap_alloc_new w1 (.cells #[.int .i64 tk.k, .int .i64 tk.n, .int .i64 tk.e, .string tk.s, .slice sa sn sc] 28))
        have R1 := Lib.hid ((HROW.out.keep (show Below wr.heap.size wr w1 from (by (repeat' (first | with_reducible exact Below.refl _ _ | with_reducible refine below_alloc ?_ _ ?_ | with_reducible refine Below.setCell ?_ ?_ _ | with_reducible refine Below.drew ?_ | with_reducible refine below_drewN ?_ _ | with_reducible refine below_step ?_ (by assumption) ?_ | with_reducible refine below_mark ?_ (by assumption) ?_)); all_goals (first | omega | (simp; done) | (simp; omega))))).keep ((Below.refl _ _).alloc (Nat.le_refl w1.heap.size) (.cells #[.int .i64 tk.k, .int .i64 tk.n, .int .i64 tk.e, .string tk.s, .slice sa sn sc] 28)))
        have O1 := Lib.hid ((HO.out.mono (F' := fun x => wr.heap.size ≤ x ∧ x < w1.heap.size) (fun x hx => ⟨by have := hx.1; simp at this; omega, hx.2⟩)).alloc (.cells #[.int .i64 tk.k, .int .i64 tk.n, .int .i64 tk.e, .string tk.s, .slice sa sn sc] 28))
        have HF1 := Lib.hid (show ∀ x, (wr.heap.size ≤ x ∧ x < w1.heap.size) → w.heap.size + 1 + 1 ≤ x ∧ x < (w1.alloc (.cells #[.int .i64 tk.k, .int .i64 tk.n, .int .i64 tk.e, .string tk.s, .slice sa sn sc] 28)).heap.size ∧ ¬ G x ∧ u3.ownBlock ≠ some x from
          fun x ⟨h1, h2⟩ => ⟨by omega, by simp; omega, fun hG => by have := (HROW.out.inG x hG).2; omega, fun e => by have := (HROW.out.lt x e).2; omega⟩)
        go_wp2_with (at_builtin; refine app_own rfl _ _ rfl (w.heap.size + 1 + 1) G (fun x => wr.heap.size ≤ x ∧ x < w1.heap.size) _ L rfl R1.out tk (.slice sa sn sc) w1.heap.size rfl B1.out HWF.out O1.out HF1.out (by have := HLEN.out; omega) (by simp; omega) ?_; intro v2 w2 hrow2 hg2 hfr2; have HR2 := Lib.hid hrow2; have HG2 := Lib.hid hg2; clear hrow2 hg2 hfr2)
        go_roundw
        case rel => exact ⟨j + 1, _, by omega, by go_num, by rw [HT.out]; exact HR2.out, hbl.trans (Below.grown ((by (repeat' (first | with_reducible exact Below.refl _ _ | with_reducible refine below_alloc ?_ _ ?_ | with_reducible refine Below.setCell ?_ ?_ _ | with_reducible refine Below.drew ?_ | with_reducible refine below_drewN ?_ _ | with_reducible refine below_step ?_ (by assumption) ?_ | with_reducible refine below_mark ?_ (by assumption) ?_)); all_goals (first | omega | (simp; done) | (simp; omega)))) HG2.out (by simp; omega) (fun x hx => (HROW.out.lt x hx).1))⟩
        case measure => simp [intOf]; omega
      · have H := Lib.hid (show ts.take j = ts from List.take_of_length_le (by omega))
        obtain ⟨oa, on, oc, rfl⟩ := HROW.out.slice3
        obtain ⟨hc, hf⟩ := bcell hbl
        have HO := Lib.hid (show OwnS wr (fun x => w.heap.size + 1 + 1 ≤ x) (.slice oa on oc) ts by have := HROW.out.own; rwa [H.out] at this)
        obtain ⟨d0, d1, d2, d3, d4⟩ := (show Box wr w.heap.size k n e s (.slice a ts.length cap) 28 from (hbl.block w.heap.size (by omega)).trans (BXW.out)).cells
        obtain ⟨z0, z1, z2, z3, z4⟩ := (show Box wr (w.heap.size + 1) 0 0 0 ⟨#[]⟩ (.slice none 0 0) 28 from (hbl.block (w.heap.size + 1) (by omega)).trans (BZW.out)).cells
        clear H HROW HE HA V1
        go_wp2_with fail
        refine bodyPost_ret (v := .agg #[.int .i64 k, .int .i64 n, .int .i64 e, .string s, .slice oa on oc]) (by simp [results, Tryd.results82, go_sem, z0, z1, z2, z3, z4]) rfl (HP.out _ _ ⟨_, rfl, ?_, ?_⟩)
        · refine OwnS.mono (F := fun x => w.heap.size + 1 + 1 ≤ x) ?_ (fun x hx => by omega)
          repeat refine OwnS.set ?_ _ _ (by first | omega | (simp; done) | (simp; omega))
          exact HO.out
        · repeat' (refine Below.setCell ?_ ?_ _)
          all_goals (first | exact HBL.out | (simp; done) | (simp; omega))
theorem own_any (w0 : World) (v : Value) (t : V) (h : Rep w0 v t) (hsz : t.sz ≤ 1048576) (w : World) (hw : Below w0.heap.size w0 w) : Calls Tryd.prog 82 #[v] w (ValRet w t) :=
  own_all w0 _ v t (Nat.lt_succ_self _) h hsz w hw
end Go.Proofs.YtiemlefmhleaeaaDoor
