/- The program's MapKeys and UnmapKeys, and the reference's. -/
import Derived.Test.YtllngpnhhpnjoaaDoorKeyI
import Derived.Test.YtllngpnhhpnjoaaDoorIsValue
import Derived.Test.YtllngpnhhpnjoaaDoorRight
import Derived.Test.YtllngpnhhpnjoaaDoorRefM
namespace Go.Proofs.YtllngpnhhpnjoaaDoor
set_option linter.unusedVariables false
set_option maxRecDepth 100000
open Go.RowKit
/-- a value in memory of its own, and a truth -/
def VBRet (w : World) (t : V) (b : Bool) (e : Ending) (w' : World) : Prop := ∃ sl, e = .returned (.tuple #[t.agg sl, .bool b]) ∧ t.wf ∧ OwnS w' (fun x => w.heap.size ≤ x) sl t.kids ∧ Below w.heap.size w w'
def kyR (by0 : V → Option V) (l : List ByteArray) (t : V) : Option V := if okT t && namesB l then (trn (byF by0) t).filter (fun u => okT u) else none
/-- a name's cell, and what stands in it -/
def NameAt (w : World) (c : Nat) (nv : Value) : Prop := w.heap[c]? = some (.cells #[nv] 40 (0, 0))
theorem key5 {t : V} (hk : t.kids = []) (h : isKeyB t = true) (h5 : t.k = 5) : True := trivial
set_option maxHeartbeats 1000000 in
theorem MapKeys1_any (w0 : World) (nv : Value) (l : List ByteArray) (hl : RepSs w0 nv l) (c : Nat) (hc : NameAt w0 c nv) (t : V) (sl : Value) (w : World) (hwf : t.wf) (hk : t.kids = []) (hr : RepS w0 sl t.kids) (hw : Below w0.heap.size w0 w) :
    Calls Tryd.prog 80 #[t.agg sl, .pointer (some ⟨c, 0, none⟩)] w (ByRet (byMap l t) w) := by
  have IX := Lib.hid (fun (W : World) (hW : Below w.heap.size w W) => IndexN_any w0 nv l t.s hl W (hw.trans (hW.mono hw.size)))
  have hclt := lt_of_heap hc
  have D1 := Lib.hid (fun (W : World) (hW : Below w.heap.size w W) => show W.cell? ⟨c, 0, none⟩ = some nv from cell_of_one ((hW.block c (Nat.lt_of_lt_of_le hclt hw.size)).trans ((hw.block c hclt).trans hc)))
  have hclw : c < w.heap.size := Nat.lt_of_lt_of_le hclt hw.size
  have hcn : c ≠ w.heap.size := by omega
  have hcm : c ≠ w.heap.size + 1 := by omega
  obtain ⟨na, nn, nc, rfl⟩ : ∃ a n c, nv = .slice a n c := by obtain ⟨a, _, _, c, h, _⟩ := hl; exact ⟨a, _, c, h⟩
  have HIN : In64 (atS l t.s) := by
    rcases Int.lt_or_le (atS l t.s) 0 with h | h
    · have := atS_lo l t.s; exact ⟨by omega, by omega⟩
    · obtain ⟨k, hk, e, _⟩ := atS_at h
      obtain ⟨_, _, _, _, _, _, hc, hm, _⟩ := hl
      exact ⟨by omega, by omega⟩
  have HY := Lib.hid (show t.k = 5 → 0 ≤ atS l t.s → ∀ e w', (e = .returned (.tuple #[.agg #[.int .i64 3, .int .i64 (atS l t.s), .int .i64 0, .string ⟨#[]⟩, .slice none 0 0], .bool true]) ∧ Below w.heap.size w w') → ByRet (byMap l t) w e w' from fun h5 h0 e w' ⟨h1, h2⟩ => by
    unfold byMap; rw [if_pos h5]; unfold keyM; rw [if_pos ⟨rfl, h5, h0⟩]
    exact ⟨.slice none 0 0, h1, zero5_wf 3 _ ⟨#[]⟩ ⟨by omega, by omega⟩ HIN (by simp [ByteArray.size]), OwnS.nil _ _, h2⟩)
  have HZ := Lib.hid (show t.k = 5 → ¬ 0 ≤ atS l t.s → ∀ e w', (e = .returned (.tuple #[t.agg sl, .bool true]) ∧ Below w.heap.size w w') → ByRet (byMap l t) w e w' from fun h5 h0 e w' ⟨h1, h2⟩ => by
    unfold byMap; rw [if_pos h5]; unfold keyM; rw [if_neg (fun e => h0 e.2.2)]
    refine ⟨sl, h1, hwf, ?_, h2⟩
    rw [hk] at hr ⊢
    exact ((hr.keep hw).keep h2).empty _)
  have HN := Lib.hid (show ¬ t.k = 5 → ∀ e w', ((∃ a n c, e = .returned (.tuple #[t.agg (.slice a n c), .bool false])) ∧ Below w.heap.size w w') → ByRet (byMap l t) w e w' from fun h5 e w' ⟨⟨a, n, c, h1⟩, h2⟩ => by
    unfold byMap; rw [if_neg h5]; exact ⟨t, a, n, c, h1, h2⟩)
  obtain ⟨sa, sc, rfl⟩ := hr.slice
  clear hr hk hwf hl hc hclt hw
  unfold V.agg at *
  generalize byMap l t = R at *
  generalize atS l t.s = q at *
  generalize t.k = k at *
  generalize t.n = n at *
  generalize t.e = e at *
  generalize t.s = s at *
  generalize t.kids.length = len at *
  have d1 := D1.out w (Below.refl _ _)
  by_cases h5 : k = 5
  · have t2 : (k == 5) = true := by simpa using h5
    by_cases h0 : 0 ≤ q
    · have t1 : decide (0 ≤ q) = true := decide_eq_true h0
      have H := Lib.hid (HY.out h5 h0)
      clear HY HZ HN h5 h0
      go_enter Tryd.func80, Tryd.ntmps80
      go_wp2_with fail
      refine (IX.out _ ((by (repeat' (first | with_reducible exact Below.refl _ _ | with_reducible refine below_alloc ?_ _ ?_ | with_reducible refine Below.setCell ?_ ?_ _ | with_reducible refine Below.drew ?_ | with_reducible refine below_drewN ?_ _ | with_reducible refine below_step ?_ (by assumption) ?_ | with_reducible refine below_mark ?_ (by assumption) ?_)); all_goals (first | omega | (simp; done) | (simp; omega))))).mono ?_
      rintro x w1 ⟨rfl, rfl⟩
      go_wp2_with fail
      refine bodyPost_ret (v := .tuple #[.agg #[.int .i64 3, .int .i64 q, .int .i64 0, .string ⟨#[]⟩, .slice none 0 0], .bool true]) (by simp [results, Tryd.results80, go_sem]) rfl (H.out _ _ ⟨rfl, ?_⟩)
      exact (by (repeat' (first | with_reducible exact Below.refl _ _ | with_reducible refine below_alloc ?_ _ ?_ | with_reducible refine Below.setCell ?_ ?_ _ | with_reducible refine Below.drew ?_ | with_reducible refine below_drewN ?_ _ | with_reducible refine below_step ?_ (by assumption) ?_ | with_reducible refine below_mark ?_ (by assumption) ?_)); all_goals (first | omega | (simp; done) | (simp; omega)))
    · have t1 : decide (0 ≤ q) = false := decide_eq_false h0
      have H := Lib.hid (HZ.out h5 h0)
      clear HY HZ HN h5 h0
      go_enter Tryd.func80, Tryd.ntmps80
      go_wp2_with fail
      refine (IX.out _ ((by (repeat' (first | with_reducible exact Below.refl _ _ | with_reducible refine below_alloc ?_ _ ?_ | with_reducible refine Below.setCell ?_ ?_ _ | with_reducible refine Below.drew ?_ | with_reducible refine below_drewN ?_ _ | with_reducible refine below_step ?_ (by assumption) ?_ | with_reducible refine below_mark ?_ (by assumption) ?_)); all_goals (first | omega | (simp; done) | (simp; omega))))).mono ?_
      rintro x w1 ⟨rfl, rfl⟩
      go_wp2_with fail
      go_region
      all_goals go_wp2_with fail
      all_goals refine bodyPost_ret (v := .tuple #[.agg #[.int .i64 k, .int .i64 n, .int .i64 e, .string s, .slice sa len sc], .bool true]) (by simp [results, Tryd.results80, go_sem]) rfl (H.out _ _ ⟨rfl, ?_⟩)
      all_goals exact (by (repeat' (first | with_reducible exact Below.refl _ _ | with_reducible refine below_alloc ?_ _ ?_ | with_reducible refine Below.setCell ?_ ?_ _ | with_reducible refine Below.drew ?_ | with_reducible refine below_drewN ?_ _ | with_reducible refine below_step ?_ (by assumption) ?_ | with_reducible refine below_mark ?_ (by assumption) ?_)); all_goals (first | omega | (simp; done) | (simp; omega)))
  · have t2 : (k == 5) = false := by simpa using h5
    have H := Lib.hid (HN.out h5)
    by_cases h0 : 0 ≤ q
    · have t1 : decide (0 ≤ q) = true := decide_eq_true h0
      clear HY HZ HN h5 h0
      go_enter Tryd.func80, Tryd.ntmps80
      go_wp2_with fail
      refine (IX.out _ ((by (repeat' (first | with_reducible exact Below.refl _ _ | with_reducible refine below_alloc ?_ _ ?_ | with_reducible refine Below.setCell ?_ ?_ _ | with_reducible refine Below.drew ?_ | with_reducible refine below_drewN ?_ _ | with_reducible refine below_step ?_ (by assumption) ?_ | with_reducible refine below_mark ?_ (by assumption) ?_)); all_goals (first | omega | (simp; done) | (simp; omega))))).mono ?_
      rintro x w1 ⟨rfl, rfl⟩
      go_wp2_with fail
      go_region
      all_goals go_wp2_with fail
      all_goals refine bodyPost_ret (v := .tuple #[.agg #[.int .i64 k, .int .i64 n, .int .i64 e, .string s, .slice sa len sc], .bool false]) (by simp [results, Tryd.results80, go_sem]) rfl (H.out _ _ ⟨⟨_, _, _, rfl⟩, ?_⟩)
      all_goals exact (by (repeat' (first | with_reducible exact Below.refl _ _ | with_reducible refine below_alloc ?_ _ ?_ | with_reducible refine Below.setCell ?_ ?_ _ | with_reducible refine Below.drew ?_ | with_reducible refine below_drewN ?_ _ | with_reducible refine below_step ?_ (by assumption) ?_ | with_reducible refine below_mark ?_ (by assumption) ?_)); all_goals (first | omega | (simp; done) | (simp; omega)))
    · have t1 : decide (0 ≤ q) = false := decide_eq_false h0
      clear HY HZ HN h5 h0
      go_enter Tryd.func80, Tryd.ntmps80
      go_wp2_with fail
      refine (IX.out _ ((by (repeat' (first | with_reducible exact Below.refl _ _ | with_reducible refine below_alloc ?_ _ ?_ | with_reducible refine Below.setCell ?_ ?_ _ | with_reducible refine Below.drew ?_ | with_reducible refine below_drewN ?_ _ | with_reducible refine below_step ?_ (by assumption) ?_ | with_reducible refine below_mark ?_ (by assumption) ?_)); all_goals (first | omega | (simp; done) | (simp; omega))))).mono ?_
      rintro x w1 ⟨rfl, rfl⟩
      go_wp2_with fail
      go_region
      all_goals go_wp2_with fail
      all_goals refine bodyPost_ret (v := .tuple #[.agg #[.int .i64 k, .int .i64 n, .int .i64 e, .string s, .slice sa len sc], .bool false]) (by simp [results, Tryd.results80, go_sem]) rfl (H.out _ _ ⟨⟨_, _, _, rfl⟩, ?_⟩)
      all_goals exact (by (repeat' (first | with_reducible exact Below.refl _ _ | with_reducible refine below_alloc ?_ _ ?_ | with_reducible refine Below.setCell ?_ ?_ _ | with_reducible refine Below.drew ?_ | with_reducible refine below_drewN ?_ _ | with_reducible refine below_step ?_ (by assumption) ?_ | with_reducible refine below_mark ?_ (by assumption) ?_)); all_goals (first | omega | (simp; done) | (simp; omega)))
theorem within_any (n lo hi : Int) (w : World) : Calls Tryd.prog 84 #[.int .i64 n, .int .i64 lo, .int .i64 hi] w fun e w' => e = .returned (.bool (decide (lo ≤ n ∧ n ≤ hi))) ∧ w' = w := by
  by_cases h : lo ≤ n ∧ n ≤ hi
  · rw [decide_eq_true h]; exact within_yes n lo hi w h.1 h.2
  · rw [decide_eq_false h]; exact within_no n lo hi w (by omega)
set_option maxHeartbeats 1000000 in
theorem UnmapKeys1_any (w0 : World) (nv : Value) (l : List ByteArray) (hl : RepSs w0 nv l) (c : Nat) (hc : NameAt w0 c nv) (t : V) (sl : Value) (w : World) (hwf : t.wf) (hk : t.kids = []) (hr : RepS w0 sl t.kids) (hw : Below w0.heap.size w0 w) :
    Calls Tryd.prog 83 #[t.agg sl, .pointer (some ⟨c, 0, none⟩)] w (ByRet (byUn l t) w) := by
  have hclt := lt_of_heap hc
  have d1 : w.cell? ⟨c, 0, none⟩ = some nv := cell_of_one ((hw.block c hclt).trans hc)
  have hclw : c < w.heap.size := Nat.lt_of_lt_of_le hclt hw.size
  have hcn : c ≠ w.heap.size := by omega
  have hcm : c ≠ w.heap.size + 1 := by omega
  have LK := Lib.hid (fun (a : Option Addr) (n k : Nat) (h : nv = .slice a n k) => show n = l.length ∧ l.length ≤ 9223372036854775807 ∧ _ from (by have := hl.keep hw; rw [h] at this; exact this.getB : _))
  obtain ⟨na, nn, nc, rfl⟩ : ∃ a n c, nv = .slice a n c := by obtain ⟨a, _, _, c, h, _⟩ := hl; exact ⟨a, _, c, h⟩
  have LK2 := Lib.hid ((hl.keep hw).getB)
  have HZ := Lib.hid (show t.k = 5 → ∀ e w', (e = .returned (.tuple #[t.agg sl, .bool true]) ∧ Below w.heap.size w w') → ByRet (byUn l t) w e w' from fun h5 e w' ⟨h1, h2⟩ => by
    unfold byUn; rw [if_pos h5]
    refine ⟨sl, h1, hwf, ?_, h2⟩
    rw [hk] at hr ⊢
    exact ((hr.keep hw).keep h2).empty _)
  have HY := Lib.hid (show ¬ t.k = 5 → ∀ (hin : 0 ≤ t.n ∧ t.n ≤ (l.length : Int) - 1) (s : ByteArray), l.getD t.n.toNat ⟨#[]⟩ = s → s.size ≤ 9223372036854775807 → ∀ e w', (e = .returned (.tuple #[.agg #[.int .i64 5, .int .i64 0, .int .i64 0, .string s, .slice none 0 0], .bool true]) ∧ Below w.heap.size w w') → ByRet (byUn l t) w e w' from fun h5 hin s hs hsz e w' ⟨h1, h2⟩ => by
    unfold byUn; rw [if_neg h5]; unfold unkey; rw [if_pos hin, hs]
    exact ⟨.slice none 0 0, h1, zero5_wf 5 0 s ⟨by omega, by omega⟩ ⟨by omega, by omega⟩ hsz, OwnS.nil _ _, h2⟩)
  have HN := Lib.hid (show ¬ t.k = 5 → ¬ (0 ≤ t.n ∧ t.n ≤ (l.length : Int) - 1) → ∀ e w', (e = .returned (.tuple #[.agg #[.int .i64 0, .int .i64 0, .int .i64 0, .string ⟨#[]⟩, .slice none 0 0], .bool false]) ∧ Below w.heap.size w w') → ByRet (byUn l t) w e w' from fun h5 hin e w' ⟨h1, h2⟩ => by
    unfold byUn; rw [if_neg h5]; unfold unkey; rw [if_neg hin]; exact ⟨.mk 0 0 0 ⟨#[]⟩ [], none, 0, 0, h1, h2⟩)
  obtain ⟨sa, sc, rfl⟩ := hr.slice
  have hn64 : In64 t.n := hwf.2.1
  clear hr hk hwf hl hc hclt hw LK
  unfold V.agg at *
  generalize byUn l t = R at *
  generalize t.k = k at *
  generalize t.n = n at *
  generalize t.e = e at *
  generalize t.s = s at *
  generalize t.kids.length = len at *
  obtain ⟨rfl, hl63, LG⟩ := LK2.out
  have LG := Lib.hid LG
  clear LK2
  have hm1 : wrap64 ((l.length : Int) - 1) = (l.length : Int) - 1 := by unfold wrap64; omega
  by_cases h5 : k = 5
  · have t2 : (k == 5) = true := by simpa using h5
    have H := Lib.hid (HZ.out h5)
    clear HY HZ HN h5
    go_enter Tryd.func83, Tryd.ntmps83
    go_wp2_with fail
    refine bodyPost_ret (v := .tuple #[.agg #[.int .i64 k, .int .i64 n, .int .i64 e, .string s, .slice sa len sc], .bool true]) (by simp [results, Tryd.results83, go_sem]) rfl (H.out _ _ ⟨rfl, ?_⟩)
    exact (by (repeat' (first | with_reducible exact Below.refl _ _ | with_reducible refine below_alloc ?_ _ ?_ | with_reducible refine Below.setCell ?_ ?_ _ | with_reducible refine Below.drew ?_ | with_reducible refine below_drewN ?_ _ | with_reducible refine below_step ?_ (by assumption) ?_ | with_reducible refine below_mark ?_ (by assumption) ?_)); all_goals (first | omega | (simp; done) | (simp; omega)))
  · have t2 : (k == 5) = false := by simpa using h5
    have WI := Lib.hid (fun W => within_any n 0 ((l.length : Int) - 1) W)
    by_cases hin : 0 ≤ n ∧ n ≤ (l.length : Int) - 1
    · have hix : n.toNat < l.length := by omega
      obtain ⟨nb, noff, rfl, hcell, hsz2⟩ := LG.out _ hix
      have e9 : l.getD n.toNat ⟨#[]⟩ = l[n.toNat] := by rw [List.getD_eq_getElem?_getD, List.getElem?_eq_getElem hix]; rfl
      have H := Lib.hid (HY.out h5 hin _ e9 hsz2)
      have hnb : nb < w.heap.size := World.block_lt_of_cell? _ _ hcell
      have hnb2 : nb ≠ w.heap.size := by omega
      have hnb3 : nb ≠ w.heap.size + 1 := by omega
      have hi1 := hin.1
      have hi2 : n < (l.length : Int) := by omega
      rw [decide_eq_true hin] at WI
      clear HY HZ HN h5 LG hin e9
      generalize l[n.toNat] = ls at *
      go_enter Tryd.func83, Tryd.ntmps83
      go_wp2_with fail
      refine (WI.out _).mono ?_
      rintro x w1 ⟨rfl, rfl⟩
      go_wp2_with fail
      refine bodyPost_ret (v := .tuple #[.agg #[.int .i64 5, .int .i64 0, .int .i64 0, .string ls, .slice none 0 0], .bool true]) (by simp [results, Tryd.results83, go_sem]) rfl (H.out _ _ ⟨rfl, ?_⟩)
      exact (by (repeat' (first | with_reducible exact Below.refl _ _ | with_reducible refine below_alloc ?_ _ ?_ | with_reducible refine Below.setCell ?_ ?_ _ | with_reducible refine Below.drew ?_ | with_reducible refine below_drewN ?_ _ | with_reducible refine below_step ?_ (by assumption) ?_ | with_reducible refine below_mark ?_ (by assumption) ?_)); all_goals (first | omega | (simp; done) | (simp; omega)))
    · have H := Lib.hid (HN.out h5 hin)
      rw [decide_eq_false hin] at WI
      clear HY HZ HN h5 LG hin
      go_enter Tryd.func83, Tryd.ntmps83
      go_wp2_with fail
      refine (WI.out _).mono ?_
      rintro x w1 ⟨rfl, rfl⟩
      go_wp2_with fail
      refine bodyPost_ret (v := .tuple #[.agg #[.int .i64 0, .int .i64 0, .int .i64 0, .string ⟨#[]⟩, .slice none 0 0], .bool false]) (by simp [results, Tryd.results83, go_sem]) rfl (H.out _ _ ⟨rfl, ?_⟩)
      exact (by (repeat' (first | with_reducible exact Below.refl _ _ | with_reducible refine below_alloc ?_ _ ?_ | with_reducible refine Below.setCell ?_ ?_ _ | with_reducible refine Below.drew ?_ | with_reducible refine below_drewN ?_ _ | with_reducible refine below_step ?_ (by assumption) ?_ | with_reducible refine below_mark ?_ (by assumption) ?_)); all_goals (first | omega | (simp; done) | (simp; omega)))
set_option maxHeartbeats 2000000 in
theorem keyed_any (w0 : World) (hE : Env w0) (v : Value) (t : V) (h : Rep w0 v t) (hsz : t.sz ≤ 1048576) (nv : Value) (l : List ByteArray) (hl : RepSs w0 nv l) (hlz : szl l ≤ 1048576) (fv : Value) (by0 : V → Option V) (w : World) (hw : Below w0.heap.size w0 w)
    (TK : okT t = true → ∀ W : World, Below w.heap.size w W → Calls Tryd.prog 118 #[v, fv] W (ByRet (trn (byF by0) t) W)) (hsm : okT t = true → namesB l = true → ∀ u, trn (byF by0) t = some u → u.sz ≤ 1048576) :
    Calls Tryd.prog 79 #[v, nv, fv] w (VBRet w ((kyR by0 l t).getD t) (kyR by0 l t).isSome) := by
  have VO := Lib.hid (fun (W : World) (hW : Below w.heap.size w W) => ValueOk_impl w0 hE v t h hsz W (hw.trans (hW.mono hw.size)))
  have NO := Lib.hid (fun (W : World) (hW : Below w.heap.size w W) => NamesOk_impl w0 nv l hl hlz W (hw.trans (hW.mono hw.size)) hE)
  have OW := Lib.hid (fun (W : World) (hW : Below w.heap.size w W) => own_any w0 v t h hsz W (hw.trans (hW.mono hw.size)))
  have VU := Lib.hid (fun (u : V) (x : Value) (W W2 : World) (hu : okT t = true) (hn : namesB l = true) (e : trn (byF by0) t = some u) (hW : Below w.heap.size w W) (hr : Rep W x u) (hW2 : Below W.heap.size W W2) => ValueOk_impl W (Env.keep (Env.keep hE hw) hW) x u hr (hsm hu hn u e) W2 hW2)
  have HP := Lib.hid (show kyR by0 l t = none → ∀ e w', (∃ sl, e = .returned (.tuple #[t.agg sl, .bool false]) ∧ OwnS w' (fun x => w.heap.size ≤ x) sl t.kids ∧ Below w.heap.size w w') → VBRet w ((kyR by0 l t).getD t) (kyR by0 l t).isSome e w' from fun hn e w' ⟨sl, h1, h2, h3⟩ => by
    rw [hn]; obtain ⟨_, _, hwf, _⟩ := h; exact ⟨sl, h1, hwf, h2, h3⟩)
  have HS := Lib.hid (show ∀ u, kyR by0 l t = some u → u.wf → ∀ e w', (∃ sl, e = .returned (.tuple #[u.agg sl, .bool true]) ∧ OwnS w' (fun x => w.heap.size ≤ x) sl u.kids ∧ Below w.heap.size w w') → VBRet w ((kyR by0 l t).getD t) (kyR by0 l t).isSome e w' from fun u hn hwf e w' ⟨sl, h1, h2, h3⟩ => by
    rw [hn]; exact ⟨sl, h1, hwf, h2, h3⟩)
  have HK := Lib.hid (show kyR by0 l t = if okT t && namesB l then (trn (byF by0) t).filter (fun u => okT u) else none from rfl)
  have TK := Lib.hid TK
  obtain ⟨na, nn, nc, rfl⟩ : ∃ a n c, nv = .slice a n c := by obtain ⟨a, _, _, c, h, _⟩ := hl; exact ⟨a, _, c, h⟩
  obtain ⟨sl, rfl, hwf, hr⟩ := h
  obtain ⟨sa, sc, rfl⟩ := hr.slice
  have BX := Lib.hid (Box.new w t.k t.n t.e t.s (.slice sa t.kids.length sc) 30)
  clear hr hwf hE hl hlz hsz hsm
  unfold ValRet at OW
  unfold V.agg at *
  generalize kyR by0 l t = KR at *
  generalize hb : okT t = b at *
  clear hb
  generalize namesB l = nb at *
  generalize trn (byF by0) t = ou at *
  generalize t.k = k at *
  generalize t.n = n at *
  generalize t.e = e at *
  generalize t.s = s at *
  generalize t.kids = ts at *
  have BZ := Lib.hid (show Box ((w.alloc (.cells #[.int .i64 k, .int .i64 n, .int .i64 e, .string s, .slice sa ts.length sc] 30)).alloc (.cells #[.int .i64 0, .int .i64 0, .int .i64 0, .string ⟨#[]⟩, .slice none 0 0] 30)) (w.heap.size + 1) 0 0 0 ⟨#[]⟩ (.slice none 0 0) 30 by
    have := Box.new (w.alloc (.cells #[.int .i64 k, .int .i64 n, .int .i64 e, .string s, .slice sa ts.length sc] 30)) 0 0 0 ⟨#[]⟩ (.slice none 0 0) 30
    rwa [show (w.alloc (.cells #[.int .i64 k, .int .i64 n, .int .i64 e, .string s, .slice sa ts.length sc] 30)).heap.size = w.heap.size + 1 by simp] at this)
  cases b
  · have H := Lib.hid (HP.out (by rw [HK.out]; rfl))
    clear HP HS HK VU TK NO
    go_enter Tryd.func79, Tryd.ntmps79
    go_wp2_with fail
    refine (VO.out _ ((by (repeat' (first | with_reducible exact Below.refl _ _ | with_reducible refine below_alloc ?_ _ ?_ | with_reducible refine Below.setCell ?_ ?_ _ | with_reducible refine Below.drew ?_ | with_reducible refine below_drewN ?_ _ | with_reducible refine below_step ?_ (by assumption) ?_ | with_reducible refine below_mark ?_ (by assumption) ?_)); all_goals (first | omega | (simp; done) | (simp; omega))))).mono ?_
    rintro x w1 ⟨rfl, hb1⟩
    have hz1 := hb1.size
    simp at hz1
    obtain ⟨p0, p1, p2, p3, p4⟩ := ((BX.out.alloc _).stay hb1).cells
    go_wp2_with fail
    refine (OW.out _ ((by (repeat' (first | with_reducible exact Below.refl _ _ | with_reducible refine below_alloc ?_ _ ?_ | with_reducible refine Below.setCell ?_ ?_ _ | with_reducible refine Below.drew ?_ | with_reducible refine below_drewN ?_ _ | with_reducible refine below_step ?_ (by assumption) ?_ | with_reducible refine below_mark ?_ (by assumption) ?_)); all_goals (first | omega | (simp; done) | (simp; omega))))).mono ?_
    rintro x w9 ⟨s9, rfl, wf9, ho9, hb9⟩
    obtain ⟨oa, on, oc, rfl⟩ : ∃ sa sn sc, s9 = .slice sa sn sc := by obtain ⟨p, q, e⟩ := ho9.slice; exact ⟨p, _, q, e⟩
    have hz9 := hb9.size
    try simp at hz9
    have HO := Lib.hid (show OwnS w9 (fun x => w.heap.size + 1 + 1 ≤ x) (.slice oa on oc) ts from ho9.mono (fun x hx => Nat.le_trans (by first | omega | (simp; omega)) hx)); clear ho9
    have BZ9 := Lib.hid (BZ.out.stay (show Below ((w.alloc (.cells #[.int .i64 k, .int .i64 n, .int .i64 e, .string s, .slice sa ts.length sc] 30)).alloc (.cells #[.int .i64 0, .int .i64 0, .int .i64 0, .string ⟨#[]⟩, .slice none 0 0] 30)).heap.size ((w.alloc (.cells #[.int .i64 k, .int .i64 n, .int .i64 e, .string s, .slice sa ts.length sc] 30)).alloc (.cells #[.int .i64 0, .int .i64 0, .int .i64 0, .string ⟨#[]⟩, .slice none 0 0] 30)) w9 from (by (repeat' (first | with_reducible exact Below.refl _ _ | with_reducible refine below_alloc ?_ _ ?_ | with_reducible refine Below.setCell ?_ ?_ _ | with_reducible refine Below.drew ?_ | with_reducible refine below_drewN ?_ _ | with_reducible refine below_step ?_ (by assumption) ?_ | with_reducible refine below_mark ?_ (by assumption) ?_)); all_goals (first | omega | (simp; done) | (simp; omega)))))
    obtain ⟨z0, z1, z2, z3, z4⟩ := BZ9.out.cells
    have zf0 := BZ9.out.free (i := 0); have zf1 := BZ9.out.free (i := 1); have zf2 := BZ9.out.free (i := 2); have zf3 := BZ9.out.free (i := 3); have zf4 := BZ9.out.free (i := 4)
    go_wp2_with fail
    refine bodyPost_ret (v := .tuple #[.agg #[.int .i64 k, .int .i64 n, .int .i64 e, .string s, .slice oa on oc], .bool false]) (by simp [results, Tryd.results79, go_sem, z0, z1, z2, z3, z4]) rfl (H.out _ _ ⟨_, rfl, ?_, (by (repeat' (first | with_reducible exact Below.refl _ _ | with_reducible refine below_alloc ?_ _ ?_ | with_reducible refine Below.setCell ?_ ?_ _ | with_reducible refine Below.drew ?_ | with_reducible refine below_drewN ?_ _ | with_reducible refine below_step ?_ (by assumption) ?_ | with_reducible refine below_mark ?_ (by assumption) ?_)); all_goals (first | omega | (simp; done) | (simp; omega)))⟩)
    refine OwnS.mono (F := fun x => w.heap.size + 1 + 1 ≤ x) ?_ (fun x hx => by omega)
    repeat refine OwnS.set ?_ _ _ (by first | omega | (simp; done) | (simp; omega))
    exact HO.out
  · cases nb
    · have H := Lib.hid (HP.out (by rw [HK.out]; rfl))
      clear HP HS HK VU TK
      go_enter Tryd.func79, Tryd.ntmps79
      go_wp2_with fail
      refine (VO.out _ ((by (repeat' (first | with_reducible exact Below.refl _ _ | with_reducible refine below_alloc ?_ _ ?_ | with_reducible refine Below.setCell ?_ ?_ _ | with_reducible refine Below.drew ?_ | with_reducible refine below_drewN ?_ _ | with_reducible refine below_step ?_ (by assumption) ?_ | with_reducible refine below_mark ?_ (by assumption) ?_)); all_goals (first | omega | (simp; done) | (simp; omega))))).mono ?_
      rintro x w1 ⟨rfl, hb1⟩
      have hz1 := hb1.size
      simp at hz1
      go_wp2_with fail
      refine (NO.out _ ((by (repeat' (first | with_reducible exact Below.refl _ _ | with_reducible refine below_alloc ?_ _ ?_ | with_reducible refine Below.setCell ?_ ?_ _ | with_reducible refine Below.drew ?_ | with_reducible refine below_drewN ?_ _ | with_reducible refine below_step ?_ (by assumption) ?_ | with_reducible refine below_mark ?_ (by assumption) ?_)); all_goals (first | omega | (simp; done) | (simp; omega))))).mono ?_
      rintro x w2 ⟨rfl, hb2⟩
      have hz2 := hb2.size
      obtain ⟨p0, p1, p2, p3, p4⟩ := (((BX.out.alloc _).stay hb1).stay hb2).cells
      go_wp2_with fail
      refine (OW.out _ ((by (repeat' (first | with_reducible exact Below.refl _ _ | with_reducible refine below_alloc ?_ _ ?_ | with_reducible refine Below.setCell ?_ ?_ _ | with_reducible refine Below.drew ?_ | with_reducible refine below_drewN ?_ _ | with_reducible refine below_step ?_ (by assumption) ?_ | with_reducible refine below_mark ?_ (by assumption) ?_)); all_goals (first | omega | (simp; done) | (simp; omega))))).mono ?_
      rintro x w9 ⟨s9, rfl, wf9, ho9, hb9⟩
      obtain ⟨oa, on, oc, rfl⟩ : ∃ sa sn sc, s9 = .slice sa sn sc := by obtain ⟨p, q, e⟩ := ho9.slice; exact ⟨p, _, q, e⟩
      have hz9 := hb9.size
      try simp at hz9
      have HO := Lib.hid (show OwnS w9 (fun x => w.heap.size + 1 + 1 ≤ x) (.slice oa on oc) ts from ho9.mono (fun x hx => Nat.le_trans (by first | omega | (simp; omega)) hx)); clear ho9
      have BZ9 := Lib.hid (BZ.out.stay (show Below ((w.alloc (.cells #[.int .i64 k, .int .i64 n, .int .i64 e, .string s, .slice sa ts.length sc] 30)).alloc (.cells #[.int .i64 0, .int .i64 0, .int .i64 0, .string ⟨#[]⟩, .slice none 0 0] 30)).heap.size ((w.alloc (.cells #[.int .i64 k, .int .i64 n, .int .i64 e, .string s, .slice sa ts.length sc] 30)).alloc (.cells #[.int .i64 0, .int .i64 0, .int .i64 0, .string ⟨#[]⟩, .slice none 0 0] 30)) w9 from (by (repeat' (first | with_reducible exact Below.refl _ _ | with_reducible refine below_alloc ?_ _ ?_ | with_reducible refine Below.setCell ?_ ?_ _ | with_reducible refine Below.drew ?_ | with_reducible refine below_drewN ?_ _ | with_reducible refine below_step ?_ (by assumption) ?_ | with_reducible refine below_mark ?_ (by assumption) ?_)); all_goals (first | omega | (simp; done) | (simp; omega)))))
      obtain ⟨z0, z1, z2, z3, z4⟩ := BZ9.out.cells
      have zf0 := BZ9.out.free (i := 0); have zf1 := BZ9.out.free (i := 1); have zf2 := BZ9.out.free (i := 2); have zf3 := BZ9.out.free (i := 3); have zf4 := BZ9.out.free (i := 4)
      go_wp2_with fail
      refine bodyPost_ret (v := .tuple #[.agg #[.int .i64 k, .int .i64 n, .int .i64 e, .string s, .slice oa on oc], .bool false]) (by simp [results, Tryd.results79, go_sem, z0, z1, z2, z3, z4]) rfl (H.out _ _ ⟨_, rfl, ?_, (by (repeat' (first | with_reducible exact Below.refl _ _ | with_reducible refine below_alloc ?_ _ ?_ | with_reducible refine Below.setCell ?_ ?_ _ | with_reducible refine Below.drew ?_ | with_reducible refine below_drewN ?_ _ | with_reducible refine below_step ?_ (by assumption) ?_ | with_reducible refine below_mark ?_ (by assumption) ?_)); all_goals (first | omega | (simp; done) | (simp; omega)))⟩)
      refine OwnS.mono (F := fun x => w.heap.size + 1 + 1 ≤ x) ?_ (fun x hx => by omega)
      repeat refine OwnS.set ?_ _ _ (by first | omega | (simp; done) | (simp; omega))
      exact HO.out
    · go_enter Tryd.func79, Tryd.ntmps79
      go_wp2_with fail
      refine (VO.out _ ((by (repeat' (first | with_reducible exact Below.refl _ _ | with_reducible refine below_alloc ?_ _ ?_ | with_reducible refine Below.setCell ?_ ?_ _ | with_reducible refine Below.drew ?_ | with_reducible refine below_drewN ?_ _ | with_reducible refine below_step ?_ (by assumption) ?_ | with_reducible refine below_mark ?_ (by assumption) ?_)); all_goals (first | omega | (simp; done) | (simp; omega))))).mono ?_
      rintro x w1 ⟨rfl, hb1⟩
      have hz1 := hb1.size
      simp at hz1
      go_wp2_with fail
      refine (NO.out _ ((by (repeat' (first | with_reducible exact Below.refl _ _ | with_reducible refine below_alloc ?_ _ ?_ | with_reducible refine Below.setCell ?_ ?_ _ | with_reducible refine Below.drew ?_ | with_reducible refine below_drewN ?_ _ | with_reducible refine below_step ?_ (by assumption) ?_ | with_reducible refine below_mark ?_ (by assumption) ?_)); all_goals (first | omega | (simp; done) | (simp; omega))))).mono ?_
      rintro x w2 ⟨rfl, hb2⟩
      have hz2 := hb2.size
      have BX2 := Lib.hid (((BX.out.alloc (.cells #[.int .i64 0, .int .i64 0, .int .i64 0, .string ⟨#[]⟩, .slice none 0 0] 30)).stay hb1).stay hb2)
      obtain ⟨p0, p1, p2, p3, p4⟩ := BX2.out.cells
      go_wp2_with fail
      refine (TK.out (by trivial) _ ((by (repeat' (first | with_reducible exact Below.refl _ _ | with_reducible refine below_alloc ?_ _ ?_ | with_reducible refine Below.setCell ?_ ?_ _ | with_reducible refine Below.drew ?_ | with_reducible refine below_drewN ?_ _ | with_reducible refine below_step ?_ (by assumption) ?_ | with_reducible refine below_mark ?_ (by assumption) ?_)); all_goals (first | omega | (simp; done) | (simp; omega))))).mono ?_
      rintro x w3 hret
      cases hou : ou with
      | none =>
        have H := Lib.hid (HP.out (by rw [HK.out, hou]; rfl))
        rw [hou] at hret
        obtain ⟨t', ta, tn, tc, rfl, hb3⟩ := hret
        unfold V.agg
        have hz3 := hb3.size
        clear p0 p1 p2 p3 p4
        obtain ⟨p0, p1, p2, p3, p4⟩ := (BX2.out.stay hb3).cells
        have hn3 : w.heap.size ≠ w3.heap.size := by omega
        have hn4 : w3.heap.size ≠ w.heap.size := by omega
        have hn5 : w.heap.size < w3.heap.size := by omega
        clear HP HS HK VU TK VO NO hou
        go_wp2_with fail
        refine (OW.out _ ((by (repeat' (first | with_reducible exact Below.refl _ _ | with_reducible refine below_alloc ?_ _ ?_ | with_reducible refine Below.setCell ?_ ?_ _ | with_reducible refine Below.drew ?_ | with_reducible refine below_drewN ?_ _ | with_reducible refine below_step ?_ (by assumption) ?_ | with_reducible refine below_mark ?_ (by assumption) ?_)); all_goals (first | omega | (simp; done) | (simp; omega))))).mono ?_
        rintro x w9 ⟨s9, rfl, wf9, ho9, hb9⟩
        obtain ⟨oa, on, oc, rfl⟩ : ∃ sa sn sc, s9 = .slice sa sn sc := by obtain ⟨p, q, e⟩ := ho9.slice; exact ⟨p, _, q, e⟩
        have hz9 := hb9.size
        try simp at hz9
        have HO := Lib.hid (show OwnS w9 (fun x => w.heap.size + 1 + 1 ≤ x) (.slice oa on oc) ts from ho9.mono (fun x hx => Nat.le_trans (by first | omega | (simp; omega)) hx)); clear ho9
        have BZ9 := Lib.hid (BZ.out.stay (show Below ((w.alloc (.cells #[.int .i64 k, .int .i64 n, .int .i64 e, .string s, .slice sa ts.length sc] 30)).alloc (.cells #[.int .i64 0, .int .i64 0, .int .i64 0, .string ⟨#[]⟩, .slice none 0 0] 30)).heap.size ((w.alloc (.cells #[.int .i64 k, .int .i64 n, .int .i64 e, .string s, .slice sa ts.length sc] 30)).alloc (.cells #[.int .i64 0, .int .i64 0, .int .i64 0, .string ⟨#[]⟩, .slice none 0 0] 30)) w9 from (by (repeat' (first | with_reducible exact Below.refl _ _ | with_reducible refine below_alloc ?_ _ ?_ | with_reducible refine Below.setCell ?_ ?_ _ | with_reducible refine Below.drew ?_ | with_reducible refine below_drewN ?_ _ | with_reducible refine below_step ?_ (by assumption) ?_ | with_reducible refine below_mark ?_ (by assumption) ?_)); all_goals (first | omega | (simp; done) | (simp; omega)))))
        obtain ⟨z0, z1, z2, z3, z4⟩ := BZ9.out.cells
        have zf0 := BZ9.out.free (i := 0); have zf1 := BZ9.out.free (i := 1); have zf2 := BZ9.out.free (i := 2); have zf3 := BZ9.out.free (i := 3); have zf4 := BZ9.out.free (i := 4)
        go_wp2_with fail
        refine bodyPost_ret (v := .tuple #[.agg #[.int .i64 k, .int .i64 n, .int .i64 e, .string s, .slice oa on oc], .bool false]) (by simp [results, Tryd.results79, go_sem, z0, z1, z2, z3, z4]) rfl (H.out _ _ ⟨_, rfl, ?_, (by (repeat' (first | with_reducible exact Below.refl _ _ | with_reducible refine below_alloc ?_ _ ?_ | with_reducible refine Below.setCell ?_ ?_ _ | with_reducible refine Below.drew ?_ | with_reducible refine below_drewN ?_ _ | with_reducible refine below_step ?_ (by assumption) ?_ | with_reducible refine below_mark ?_ (by assumption) ?_)); all_goals (first | omega | (simp; done) | (simp; omega)))⟩)
        refine OwnS.mono (F := fun x => w.heap.size + 1 + 1 ≤ x) ?_ (fun x hx => by omega)
        repeat refine OwnS.set ?_ _ _ (by first | omega | (simp; done) | (simp; omega))
        exact HO.out
      | some u =>
        rw [hou] at hret
        obtain ⟨us, rfl, uwf, uo, hb3⟩ := hret
        obtain ⟨ua, un, uc, rfl⟩ : ∃ a n c, us = .slice a n c := by obtain ⟨p, q, e⟩ := uo.slice; exact ⟨p, _, q, e⟩
        have hz3 := hb3.size
        have HU := Lib.hid (show Rep w3 (u.agg (.slice ua un uc)) u from ⟨_, rfl, uwf, uo.rep⟩)
        have UO := Lib.hid uo.bound; clear uo
        have VUX := Lib.hid (fun (W2 : World) (hW2 : Below w3.heap.size w3 W2) => VU.out u _ w3 W2 (by trivial) (by trivial) hou ((by (repeat' (first | with_reducible exact Below.refl _ _ | with_reducible refine below_alloc ?_ _ ?_ | with_reducible refine Below.setCell ?_ ?_ _ | with_reducible refine Below.drew ?_ | with_reducible refine below_drewN ?_ _ | with_reducible refine below_step ?_ (by assumption) ?_ | with_reducible refine below_mark ?_ (by assumption) ?_)); all_goals (first | omega | (simp; done) | (simp; omega)))) HU.out hW2)
        clear p0 p1 p2 p3 p4
        obtain ⟨p0, p1, p2, p3, p4⟩ := (BX2.out.stay hb3).cells
        have hn3 : w.heap.size ≠ w3.heap.size := by omega
        have hn4 : w3.heap.size ≠ w.heap.size := by omega
        have hn5 : w.heap.size < w3.heap.size := by omega
        have BU := Lib.hid (Box.new w3 u.k u.n u.e u.s (.slice ua un uc) 30)
        have HSU := Lib.hid (fun h => HS.out u h uwf)
        unfold V.agg at *
        clear VU HU TK VO NO HS
        go_wp2_with fail
        refine (VUX.out _ ((by (repeat' (first | with_reducible exact Below.refl _ _ | with_reducible refine below_alloc ?_ _ ?_ | with_reducible refine Below.setCell ?_ ?_ _ | with_reducible refine Below.drew ?_ | with_reducible refine below_drewN ?_ _ | with_reducible refine below_step ?_ (by assumption) ?_ | with_reducible refine below_mark ?_ (by assumption) ?_)); all_goals (first | omega | (simp; done) | (simp; omega))))).mono ?_
        rintro x w4 ⟨rfl, hb4⟩
        have hz4 := hb4.size
        simp at hz4
        clear p0 p1 p2 p3 p4
        cases hok : okT u
        · have H := Lib.hid (HP.out (by rw [HK.out, hou]; simp [Option.filter, hok]))
          obtain ⟨p0, p1, p2, p3, p4⟩ := (((BX2.out.stay hb3).alloc _).stay hb4).cells
          clear HP HSU HK VUX hok hou
          go_wp2_with fail
          refine (OW.out _ ((by (repeat' (first | with_reducible exact Below.refl _ _ | with_reducible refine below_alloc ?_ _ ?_ | with_reducible refine Below.setCell ?_ ?_ _ | with_reducible refine Below.drew ?_ | with_reducible refine below_drewN ?_ _ | with_reducible refine below_step ?_ (by assumption) ?_ | with_reducible refine below_mark ?_ (by assumption) ?_)); all_goals (first | omega | (simp; done) | (simp; omega))))).mono ?_
          rintro x w9 ⟨s9, rfl, wf9, ho9, hb9⟩
          obtain ⟨oa, on, oc, rfl⟩ : ∃ sa sn sc, s9 = .slice sa sn sc := by obtain ⟨p, q, e⟩ := ho9.slice; exact ⟨p, _, q, e⟩
          have hz9 := hb9.size
          try simp at hz9
          have HO := Lib.hid (show OwnS w9 (fun x => w.heap.size + 1 + 1 ≤ x) (.slice oa on oc) ts from ho9.mono (fun x hx => Nat.le_trans (by first | omega | (simp; omega)) hx)); clear ho9
          have BZ9 := Lib.hid (BZ.out.stay (show Below ((w.alloc (.cells #[.int .i64 k, .int .i64 n, .int .i64 e, .string s, .slice sa ts.length sc] 30)).alloc (.cells #[.int .i64 0, .int .i64 0, .int .i64 0, .string ⟨#[]⟩, .slice none 0 0] 30)).heap.size ((w.alloc (.cells #[.int .i64 k, .int .i64 n, .int .i64 e, .string s, .slice sa ts.length sc] 30)).alloc (.cells #[.int .i64 0, .int .i64 0, .int .i64 0, .string ⟨#[]⟩, .slice none 0 0] 30)) w9 from (by (repeat' (first | with_reducible exact Below.refl _ _ | with_reducible refine below_alloc ?_ _ ?_ | with_reducible refine Below.setCell ?_ ?_ _ | with_reducible refine Below.drew ?_ | with_reducible refine below_drewN ?_ _ | with_reducible refine below_step ?_ (by assumption) ?_ | with_reducible refine below_mark ?_ (by assumption) ?_)); all_goals (first | omega | (simp; done) | (simp; omega)))))
          obtain ⟨z0, z1, z2, z3, z4⟩ := BZ9.out.cells
          have zf0 := BZ9.out.free (i := 0); have zf1 := BZ9.out.free (i := 1); have zf2 := BZ9.out.free (i := 2); have zf3 := BZ9.out.free (i := 3); have zf4 := BZ9.out.free (i := 4)
          go_wp2_with fail
          refine bodyPost_ret (v := .tuple #[.agg #[.int .i64 k, .int .i64 n, .int .i64 e, .string s, .slice oa on oc], .bool false]) (by simp [results, Tryd.results79, go_sem, z0, z1, z2, z3, z4]) rfl (H.out _ _ ⟨_, rfl, ?_, (by (repeat' (first | with_reducible exact Below.refl _ _ | with_reducible refine below_alloc ?_ _ ?_ | with_reducible refine Below.setCell ?_ ?_ _ | with_reducible refine Below.drew ?_ | with_reducible refine below_drewN ?_ _ | with_reducible refine below_step ?_ (by assumption) ?_ | with_reducible refine below_mark ?_ (by assumption) ?_)); all_goals (first | omega | (simp; done) | (simp; omega)))⟩)
          refine OwnS.mono (F := fun x => w.heap.size + 1 + 1 ≤ x) ?_ (fun x hx => by omega)
          repeat refine OwnS.set ?_ _ _ (by first | omega | (simp; done) | (simp; omega))
          exact HO.out
        · have H := Lib.hid (HSU.out (by rw [HK.out, hou]; simp [Option.filter, hok]))
          obtain ⟨p0, p1, p2, p3, p4⟩ := (BU.out.stay hb4).cells
          have BZ9 := Lib.hid (BZ.out.stay (show Below ((w.alloc (.cells #[.int .i64 k, .int .i64 n, .int .i64 e, .string s, .slice sa ts.length sc] 30)).alloc (.cells #[.int .i64 0, .int .i64 0, .int .i64 0, .string ⟨#[]⟩, .slice none 0 0] 30)).heap.size ((w.alloc (.cells #[.int .i64 k, .int .i64 n, .int .i64 e, .string s, .slice sa ts.length sc] 30)).alloc (.cells #[.int .i64 0, .int .i64 0, .int .i64 0, .string ⟨#[]⟩, .slice none 0 0] 30)) w4 from (by (repeat' (first | with_reducible exact Below.refl _ _ | with_reducible refine below_alloc ?_ _ ?_ | with_reducible refine Below.setCell ?_ ?_ _ | with_reducible refine Below.drew ?_ | with_reducible refine below_drewN ?_ _ | with_reducible refine below_step ?_ (by assumption) ?_ | with_reducible refine below_mark ?_ (by assumption) ?_)); all_goals (first | omega | (simp; done) | (simp; omega)))))
          obtain ⟨z0, z1, z2, z3, z4⟩ := BZ9.out.cells
          have zf0 := BZ9.out.free (i := 0); have zf1 := BZ9.out.free (i := 1); have zf2 := BZ9.out.free (i := 2); have zf3 := BZ9.out.free (i := 3); have zf4 := BZ9.out.free (i := 4)
          have HO := Lib.hid (show OwnS w4 (fun x => w.heap.size + 1 + 1 ≤ x) (.slice ua un uc) u.kids from (UO.out.keep (fun x hx hxs => (show Below w3.heap.size w3 w4 from (by (repeat' (first | with_reducible exact Below.refl _ _ | with_reducible refine below_alloc ?_ _ ?_ | with_reducible refine Below.setCell ?_ ?_ _ | with_reducible refine Below.drew ?_ | with_reducible refine below_drewN ?_ _ | with_reducible refine below_step ?_ (by assumption) ?_ | with_reducible refine below_mark ?_ (by assumption) ?_)); all_goals (first | omega | (simp; done) | (simp; omega)))).block x hxs)).mono (fun x hx => by have := hx.1; omega))
          clear HP HSU HK VUX hok hou
          go_wp2_with fail
          refine bodyPost_ret (v := .tuple #[.agg #[.int .i64 u.k, .int .i64 u.n, .int .i64 u.e, .string u.s, .slice ua un uc], .bool true]) (by simp [results, Tryd.results79, go_sem, z0, z1, z2, z3, z4]) rfl (H.out _ _ ⟨_, rfl, ?_, (by (repeat' (first | with_reducible exact Below.refl _ _ | with_reducible refine below_alloc ?_ _ ?_ | with_reducible refine Below.setCell ?_ ?_ _ | with_reducible refine Below.drew ?_ | with_reducible refine below_drewN ?_ _ | with_reducible refine below_step ?_ (by assumption) ?_ | with_reducible refine below_mark ?_ (by assumption) ?_)); all_goals (first | omega | (simp; done) | (simp; omega)))⟩)
          refine OwnS.mono (F := fun x => w.heap.size + 1 + 1 ≤ x) ?_ (fun x hx => by omega)
          repeat refine OwnS.set ?_ _ _ (by first | omega | (simp; done) | (simp; omega))
          exact HO.out
end Go.Proofs.YtllngpnhhpnjoaaDoor
