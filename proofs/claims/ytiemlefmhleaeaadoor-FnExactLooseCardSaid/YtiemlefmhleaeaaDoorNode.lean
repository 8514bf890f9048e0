/- What a value holds but for its kids: impl.isNode. Written by gen_node.py. -/
import Derived.Test.YtiemlefmhleaeaaDoorDec
import Derived.Test.YtiemlefmhleaeaaDoorEnv
import Derived.Test.YtiemlefmhleaeaaDoorLawAid
import Derived.Deep.RegionHeld3
import Derived.Deep.RegionLaw
import Derived.BigRegion
namespace Go.Proofs.YtiemlefmhleaeaaDoor
set_option linter.unusedVariables false
set_option maxRecDepth 100000
open Go.RowKit
theorem str_ne {s : ByteArray} (h : ¬ s.size = 0) : (s.toList = [] ↔ False) ∧ s.toList.isEmpty = false ∧ (s.toList == []) = false := by
  have h1 : s.toList ≠ [] := fun e => h (by have := congrArg List.length e; rw [ByteArray.toList_eq] at this; simpa using this)
  refine ⟨⟨h1, False.elim⟩, ?_, ?_⟩
  · rcases h2 : s.toList with _ | ⟨x, l⟩
    · exact absurd h2 h1
    · rfl
  · rcases h2 : s.toList with _ | ⟨x, l⟩
    · exact absurd h2 h1
    · rfl
def NodeRet (b : Bool) (w : World) (e : Ending) (w' : World) : Prop := e = .returned (.bool b) ∧ Below w.heap.size w w'

set_option maxHeartbeats 1000000 in
theorem node_a (k n e : Int) (s : ByteArray) (sl : Value) (w : World) (hk : k = 0 ∨ k = 1 ∨ k = 2 ∨ k = 7 ∨ k = 8) : Calls Tryd.prog 190 #[.agg #[.int .i64 k, .int .i64 n, .int .i64 e, .string s, sl]] w (NodeRet (decide (n = 0 ∧ e = 0 ∧ s.size = 0)) w) := by
  by_cases hn : n = 0
  case neg =>
    have t1 : (n == 0) = false := by simpa using hn
    rw [decide_eq_false (fun h => hn h.1)]
    clear hn
    rcases hk with rfl | rfl | rfl | rfl | rfl
    all_goals
      go_enter Tryd.func190, Tryd.ntmps190
      go_wp2_with fail
      go_ret
      exact ⟨rfl, (by (repeat' (first | with_reducible exact Below.refl _ _ | with_reducible refine below_alloc ?_ _ ?_ | with_reducible refine Below.setCell ?_ ?_ _ | with_reducible refine Below.drew ?_ | with_reducible refine below_drewN ?_ _ | with_reducible refine below_step ?_ (by assumption) ?_ | with_reducible refine below_mark ?_ (by assumption) ?_)); all_goals (first | omega | (simp; done) | (simp; omega)))⟩
  by_cases he : e = 0
  case neg =>
    have t2 : (e == 0) = false := by simpa using he
    rw [decide_eq_false (fun h => he h.2.1)]
    clear he
    subst hn
    rcases hk with rfl | rfl | rfl | rfl | rfl
    all_goals
      go_enter Tryd.func190, Tryd.ntmps190
      go_wp2_with fail
      go_ret
      exact ⟨rfl, (by (repeat' (first | with_reducible exact Below.refl _ _ | with_reducible refine below_alloc ?_ _ ?_ | with_reducible refine Below.setCell ?_ ?_ _ | with_reducible refine Below.drew ?_ | with_reducible refine below_drewN ?_ _ | with_reducible refine below_step ?_ (by assumption) ?_ | with_reducible refine below_mark ?_ (by assumption) ?_)); all_goals (first | omega | (simp; done) | (simp; omega)))⟩
  by_cases hs : s.size = 0
  case neg =>
    obtain ⟨s1, s2, s3⟩ := str_ne hs
    rw [decide_eq_false (fun h => hs h.2.2)]
    clear hs
    subst hn
    subst he
    rcases hk with rfl | rfl | rfl | rfl | rfl
    all_goals
      go_enter Tryd.func190, Tryd.ntmps190
      go_wp2_with fail
      go_ret
      exact ⟨rfl, (by (repeat' (first | with_reducible exact Below.refl _ _ | with_reducible refine below_alloc ?_ _ ?_ | with_reducible refine Below.setCell ?_ ?_ _ | with_reducible refine Below.drew ?_ | with_reducible refine below_drewN ?_ _ | with_reducible refine below_step ?_ (by assumption) ?_ | with_reducible refine below_mark ?_ (by assumption) ?_)); all_goals (first | omega | (simp; done) | (simp; omega)))⟩
  obtain rfl := ba_empty hs
  subst hn
  subst he
  rw [decide_eq_true ⟨rfl, rfl, rfl⟩]
  rcases hk with rfl | rfl | rfl | rfl | rfl
  all_goals
    go_enter Tryd.func190, Tryd.ntmps190
    go_wp2_with fail
    go_ret
    exact ⟨rfl, (by (repeat' (first | with_reducible exact Below.refl _ _ | with_reducible refine below_alloc ?_ _ ?_ | with_reducible refine Below.setCell ?_ ?_ _ | with_reducible refine Below.drew ?_ | with_reducible refine below_drewN ?_ _ | with_reducible refine below_step ?_ (by assumption) ?_ | with_reducible refine below_mark ?_ (by assumption) ?_)); all_goals (first | omega | (simp; done) | (simp; omega)))⟩

set_option maxHeartbeats 1000000 in
theorem node_b (k n e : Int) (s : ByteArray) (sl : Value) (w : World) (hk : k = 3) : Calls Tryd.prog 190 #[.agg #[.int .i64 k, .int .i64 n, .int .i64 e, .string s, sl]] w (NodeRet (decide (e = 0 ∧ s.size = 0)) w) := by
  by_cases he : e = 0
  case neg =>
    have t2 : (e == 0) = false := by simpa using he
    rw [decide_eq_false (fun h => he h.1)]
    clear he
    rcases hk with rfl
    all_goals
      go_enter Tryd.func190, Tryd.ntmps190
      go_wp2_with fail
      go_ret
      exact ⟨rfl, (by (repeat' (first | with_reducible exact Below.refl _ _ | with_reducible refine below_alloc ?_ _ ?_ | with_reducible refine Below.setCell ?_ ?_ _ | with_reducible refine Below.drew ?_ | with_reducible refine below_drewN ?_ _ | with_reducible refine below_step ?_ (by assumption) ?_ | with_reducible refine below_mark ?_ (by assumption) ?_)); all_goals (first | omega | (simp; done) | (simp; omega)))⟩
  by_cases hs : s.size = 0
  case neg =>
    obtain ⟨s1, s2, s3⟩ := str_ne hs
    rw [decide_eq_false (fun h => hs h.2)]
    clear hs
    subst he
    rcases hk with rfl
    all_goals
      go_enter Tryd.func190, Tryd.ntmps190
      go_wp2_with fail
      go_ret
      exact ⟨rfl, (by (repeat' (first | with_reducible exact Below.refl _ _ | with_reducible refine below_alloc ?_ _ ?_ | with_reducible refine Below.setCell ?_ ?_ _ | with_reducible refine Below.drew ?_ | with_reducible refine below_drewN ?_ _ | with_reducible refine below_step ?_ (by assumption) ?_ | with_reducible refine below_mark ?_ (by assumption) ?_)); all_goals (first | omega | (simp; done) | (simp; omega)))⟩
  obtain rfl := ba_empty hs
  subst he
  rw [decide_eq_true ⟨rfl, rfl⟩]
  rcases hk with rfl
  all_goals
    go_enter Tryd.func190, Tryd.ntmps190
    go_wp2_with fail
    go_ret
    exact ⟨rfl, (by (repeat' (first | with_reducible exact Below.refl _ _ | with_reducible refine below_alloc ?_ _ ?_ | with_reducible refine Below.setCell ?_ ?_ _ | with_reducible refine Below.drew ?_ | with_reducible refine below_drewN ?_ _ | with_reducible refine below_step ?_ (by assumption) ?_ | with_reducible refine below_mark ?_ (by assumption) ?_)); all_goals (first | omega | (simp; done) | (simp; omega)))⟩

set_option maxHeartbeats 1000000 in
theorem node_c (n e : Int) (s : ByteArray) (sl : Value) (w : World) (hn : In64 n) (he : In64 e) : Calls Tryd.prog 190 #[.agg #[.int .i64 4, .int .i64 n, .int .i64 e, .string s, sl]] w (NodeRet (decOk n e && decide (s.size = 0)) w) := by
  have DC := Lib.hid (fun W => isDec_any 4 n e s sl hn he W)
  have B0 := Lib.hid (Box.new w 4 n e s sl 28)
  cases hd : decOk n e
  case false =>
    rw [hd] at DC
    rw [Bool.false_and]
    clear hd
    go_enter Tryd.func190, Tryd.ntmps190
    go_wp2_with fail
    refine (DC.out _).mono ?_
    rintro x w1 ⟨rfl, hb1⟩
    go_wp2_with fail
    go_ret
    exact ⟨rfl, (by (repeat' (first | with_reducible exact Below.refl _ _ | with_reducible refine below_alloc ?_ _ ?_ | with_reducible refine Below.setCell ?_ ?_ _ | with_reducible refine Below.drew ?_ | with_reducible refine below_drewN ?_ _ | with_reducible refine below_step ?_ (by assumption) ?_ | with_reducible refine below_mark ?_ (by assumption) ?_)); all_goals (first | omega | (simp; done) | (simp; omega)))⟩
  case true =>
    rw [hd] at DC
    rw [Bool.true_and]
    clear hd
    have P0 := Lib.hid (Box.new (w.alloc (.cells #[.int .i64 4, .int .i64 n, .int .i64 e, .string s, sl] 28)) 4 0 0 ⟨#[]⟩ (.slice none 0 0) 28)
    rw [show (w.alloc (.cells #[.int .i64 4, .int .i64 n, .int .i64 e, .string s, sl] 28)).heap.size = w.heap.size + 1 by simp] at P0
    have hss : ∃ b : Bool, b = decide (s.size = 0) := ⟨_, rfl⟩
    obtain ⟨b, hb⟩ := hss
    rw [← hb]
    have HB := Lib.hid hb; clear hb
    have t1 : (n == n) = true := by simp
    have t2 : (e == e) = true := by simp
    by_cases hs : s.size = 0
    case neg =>
      have H := Lib.hid (show b = false by rw [HB.out, decide_eq_false hs])
      obtain ⟨s1, s2, s3⟩ := str_ne hs
      clear hs
      go_enter Tryd.func190, Tryd.ntmps190
      go_wp2_with fail
      refine (DC.out _).mono ?_
      rintro x w1 ⟨rfl, hb1⟩
      have hz1 := hb1.size
      simp at hz1
      obtain ⟨p0, p1, p2, p3, p4⟩ := ((B0.out.alloc _).stay hb1).cells
      have PX := Lib.hid (P0.out.stay hb1)
      obtain ⟨q0, q1, q2, q3, q4⟩ := PX.out.cells
      have f0 : ∀ o, w1.frozen? ⟨w.heap.size + 1, o, none⟩ = false := fun o => frozen_of_row w1 _ o _ _ PX.out
      go_wp2_with fail
      go_region
      all_goals go_wp2_with fail
      all_goals go_ret
      all_goals exact ⟨by rw [H.out]; rfl, (by (repeat' (first | with_reducible exact Below.refl _ _ | with_reducible refine below_alloc ?_ _ ?_ | with_reducible refine Below.setCell ?_ ?_ _ | with_reducible refine Below.drew ?_ | with_reducible refine below_drewN ?_ _ | with_reducible refine below_step ?_ (by assumption) ?_ | with_reducible refine below_mark ?_ (by assumption) ?_)); all_goals (first | omega | (simp; done) | (simp; omega)))⟩
    case pos =>
      have H := Lib.hid (show b = true by rw [HB.out, decide_eq_true hs])
      obtain rfl := ba_empty hs
      clear hs
      go_enter Tryd.func190, Tryd.ntmps190
      go_wp2_with fail
      refine (DC.out _).mono ?_
      rintro x w1 ⟨rfl, hb1⟩
      have hz1 := hb1.size
      simp at hz1
      obtain ⟨p0, p1, p2, p3, p4⟩ := ((B0.out.alloc _).stay hb1).cells
      have PX := Lib.hid (P0.out.stay hb1)
      obtain ⟨q0, q1, q2, q3, q4⟩ := PX.out.cells
      have f0 : ∀ o, w1.frozen? ⟨w.heap.size + 1, o, none⟩ = false := fun o => frozen_of_row w1 _ o _ _ PX.out
      go_wp2_with fail
      go_region
      all_goals go_wp2_with fail
      all_goals go_ret
      all_goals exact ⟨by rw [H.out]; rfl, (by (repeat' (first | with_reducible exact Below.refl _ _ | with_reducible refine below_alloc ?_ _ ?_ | with_reducible refine Below.setCell ?_ ?_ _ | with_reducible refine Below.drew ?_ | with_reducible refine below_drewN ?_ _ | with_reducible refine below_step ?_ (by assumption) ?_ | with_reducible refine below_mark ?_ (by assumption) ?_)); all_goals (first | omega | (simp; done) | (simp; omega)))⟩

set_option maxHeartbeats 2000000 in
theorem node_d (n e : Int) (s : ByteArray) (sl : Value) (w : World) (hsz : s.size ≤ 9223372036854775807) (hE : Env w) : Calls Tryd.prog 190 #[.agg #[.int .i64 5, .int .i64 n, .int .i64 e, .string s, sl]] w (NodeRet (decide (n = 0 ∧ e = 0 ∧ s.size ≤ 2000) && txt s) w) := by
  have TX := Lib.hid (fun W (hW : Below w.heap.size w W) => textOk_impl s W hsz (hE.keep hW))
  clear hE
  have B0 := Lib.hid (Box.new w 5 n e s sl 28)
  have P0 := Lib.hid (Box.new (w.alloc (.cells #[.int .i64 5, .int .i64 n, .int .i64 e, .string s, sl] 28)) 5 0 0 ⟨#[]⟩ (.slice none 0 0) 28)
  rw [show (w.alloc (.cells #[.int .i64 5, .int .i64 n, .int .i64 e, .string s, sl] 28)).heap.size = w.heap.size + 1 by simp] at P0
  have ts := ba_yes (rfl : s = s)
  obtain ⟨b, hb⟩ : ∃ b : Bool, b = (decide (n = 0 ∧ e = 0 ∧ s.size ≤ 2000) && txt s) := ⟨_, rfl⟩
  rw [← hb]
  have HB := Lib.hid hb; clear hb
  by_cases h1 : s.size ≤ 2000
  case neg =>
    have H := Lib.hid (show b = false by rw [HB.out, decide_eq_false (fun h => h1 h.2.2)]; rfl)
    have h2 : (2000 : Int) < s.size := by omega
    clear h1 HB TX
    go_enter Tryd.func190, Tryd.ntmps190
    go_wp2_with fail
    go_ret
    exact ⟨by rw [H.out]; rfl, (by (repeat' (first | with_reducible exact Below.refl _ _ | with_reducible refine below_alloc ?_ _ ?_ | with_reducible refine Below.setCell ?_ ?_ _ | with_reducible refine Below.drew ?_ | with_reducible refine below_drewN ?_ _ | with_reducible refine below_step ?_ (by assumption) ?_ | with_reducible refine below_mark ?_ (by assumption) ?_)); all_goals (first | omega | (simp; done) | (simp; omega)))⟩
  have h2 : ¬ (2000 : Int) < s.size := by omega
  cases ht : txt s
  case false =>
    rw [ht] at TX HB
    have H := Lib.hid (show b = false by rw [HB.out]; simp)
    clear h1 HB ht
    go_enter Tryd.func190, Tryd.ntmps190
    go_wp2_with fail
    refine (TX.out _ (by (repeat' (first | with_reducible exact Below.refl _ _ | with_reducible refine below_alloc ?_ _ ?_ | with_reducible refine Below.setCell ?_ ?_ _ | with_reducible refine Below.drew ?_ | with_reducible refine below_drewN ?_ _ | with_reducible refine below_step ?_ (by assumption) ?_ | with_reducible refine below_mark ?_ (by assumption) ?_)); all_goals (first | omega | (simp; done) | (simp; omega)))).mono ?_
    rintro x0 w1 ⟨rfl, hb1⟩
    have hz1 := hb1.size
    simp at hz1
    obtain ⟨p0, p1, p2, p3, p4⟩ := ((B0.out.alloc _).stay hb1).cells
    have PX := Lib.hid (P0.out.stay hb1)
    obtain ⟨q0, q1, q2, q3, q4⟩ := PX.out.cells
    have f0 : ∀ o, w1.frozen? ⟨w.heap.size + 1, o, none⟩ = false := fun o => frozen_of_row w1 _ o _ _ PX.out
    go_wp2_with fail
    go_ret
    exact ⟨by rw [H.out]; rfl, (by (repeat' (first | with_reducible exact Below.refl _ _ | with_reducible refine below_alloc ?_ _ ?_ | with_reducible refine Below.setCell ?_ ?_ _ | with_reducible refine Below.drew ?_ | with_reducible refine below_drewN ?_ _ | with_reducible refine below_step ?_ (by assumption) ?_ | with_reducible refine below_mark ?_ (by assumption) ?_)); all_goals (first | omega | (simp; done) | (simp; omega)))⟩
  case true =>
    rw [ht] at TX HB
    clear ht
    by_cases hn : n = 0
    case neg =>
      have H := Lib.hid (show b = false by rw [HB.out]; simp [hn])
      have t1 : (n == 0) = false := by simpa using hn
      clear h1 HB hn
      go_enter Tryd.func190, Tryd.ntmps190
      go_wp2_with fail
      refine (TX.out _ (by (repeat' (first | with_reducible exact Below.refl _ _ | with_reducible refine below_alloc ?_ _ ?_ | with_reducible refine Below.setCell ?_ ?_ _ | with_reducible refine Below.drew ?_ | with_reducible refine below_drewN ?_ _ | with_reducible refine below_step ?_ (by assumption) ?_ | with_reducible refine below_mark ?_ (by assumption) ?_)); all_goals (first | omega | (simp; done) | (simp; omega)))).mono ?_
      rintro x0 w1 ⟨rfl, hb1⟩
      have hz1 := hb1.size
      simp at hz1
      obtain ⟨p0, p1, p2, p3, p4⟩ := ((B0.out.alloc _).stay hb1).cells
      have PX := Lib.hid (P0.out.stay hb1)
      obtain ⟨q0, q1, q2, q3, q4⟩ := PX.out.cells
      have f0 : ∀ o, w1.frozen? ⟨w.heap.size + 1, o, none⟩ = false := fun o => frozen_of_row w1 _ o _ _ PX.out
      go_wp2_with fail
      go_ret
      exact ⟨by rw [H.out]; rfl, (by (repeat' (first | with_reducible exact Below.refl _ _ | with_reducible refine below_alloc ?_ _ ?_ | with_reducible refine Below.setCell ?_ ?_ _ | with_reducible refine Below.drew ?_ | with_reducible refine below_drewN ?_ _ | with_reducible refine below_step ?_ (by assumption) ?_ | with_reducible refine below_mark ?_ (by assumption) ?_)); all_goals (first | omega | (simp; done) | (simp; omega)))⟩
    by_cases he : e = 0
    case neg =>
      have H := Lib.hid (show b = false by rw [HB.out]; simp [he])
      have t2 : (e == 0) = false := by simpa using he
      subst hn
      clear h1 HB he
      go_enter Tryd.func190, Tryd.ntmps190
      go_wp2_with fail
      refine (TX.out _ (by (repeat' (first | with_reducible exact Below.refl _ _ | with_reducible refine below_alloc ?_ _ ?_ | with_reducible refine Below.setCell ?_ ?_ _ | with_reducible refine Below.drew ?_ | with_reducible refine below_drewN ?_ _ | with_reducible refine below_step ?_ (by assumption) ?_ | with_reducible refine below_mark ?_ (by assumption) ?_)); all_goals (first | omega | (simp; done) | (simp; omega)))).mono ?_
      rintro x0 w1 ⟨rfl, hb1⟩
      have hz1 := hb1.size
      simp at hz1
      obtain ⟨p0, p1, p2, p3, p4⟩ := ((B0.out.alloc _).stay hb1).cells
      have PX := Lib.hid (P0.out.stay hb1)
      obtain ⟨q0, q1, q2, q3, q4⟩ := PX.out.cells
      have f0 : ∀ o, w1.frozen? ⟨w.heap.size + 1, o, none⟩ = false := fun o => frozen_of_row w1 _ o _ _ PX.out
      go_wp2_with fail
      go_ret
      exact ⟨by rw [H.out]; rfl, (by (repeat' (first | with_reducible exact Below.refl _ _ | with_reducible refine below_alloc ?_ _ ?_ | with_reducible refine Below.setCell ?_ ?_ _ | with_reducible refine Below.drew ?_ | with_reducible refine below_drewN ?_ _ | with_reducible refine below_step ?_ (by assumption) ?_ | with_reducible refine below_mark ?_ (by assumption) ?_)); all_goals (first | omega | (simp; done) | (simp; omega)))⟩
    have H := Lib.hid (show b = true by rw [HB.out]; simp [hn, he, h1])
    subst hn
    subst he
    clear h1 HB
    go_enter Tryd.func190, Tryd.ntmps190
    go_wp2_with fail
    refine (TX.out _ (by (repeat' (first | with_reducible exact Below.refl _ _ | with_reducible refine below_alloc ?_ _ ?_ | with_reducible refine Below.setCell ?_ ?_ _ | with_reducible refine Below.drew ?_ | with_reducible refine below_drewN ?_ _ | with_reducible refine below_step ?_ (by assumption) ?_ | with_reducible refine below_mark ?_ (by assumption) ?_)); all_goals (first | omega | (simp; done) | (simp; omega)))).mono ?_
    rintro x0 w1 ⟨rfl, hb1⟩
    have hz1 := hb1.size
    simp at hz1
    obtain ⟨p0, p1, p2, p3, p4⟩ := ((B0.out.alloc _).stay hb1).cells
    have PX := Lib.hid (P0.out.stay hb1)
    obtain ⟨q0, q1, q2, q3, q4⟩ := PX.out.cells
    have f0 : ∀ o, w1.frozen? ⟨w.heap.size + 1, o, none⟩ = false := fun o => frozen_of_row w1 _ o _ _ PX.out
    go_wp2_with fail
    go_ret
    exact ⟨by rw [H.out]; rfl, (by (repeat' (first | with_reducible exact Below.refl _ _ | with_reducible refine below_alloc ?_ _ ?_ | with_reducible refine Below.setCell ?_ ?_ _ | with_reducible refine Below.drew ?_ | with_reducible refine below_drewN ?_ _ | with_reducible refine below_step ?_ (by assumption) ?_ | with_reducible refine below_mark ?_ (by assumption) ?_)); all_goals (first | omega | (simp; done) | (simp; omega)))⟩

set_option maxHeartbeats 2000000 in
theorem node_e (n e : Int) (s : ByteArray) (sl : Value) (w : World) (hsz : s.size ≤ 9223372036854775807) : Calls Tryd.prog 190 #[.agg #[.int .i64 6, .int .i64 n, .int .i64 e, .string s, sl]] w (NodeRet (decide (n = 0 ∧ e = 0 ∧ s.size ≤ 2000)) w) := by
  have B0 := Lib.hid (Box.new w 6 n e s sl 28)
  have P0 := Lib.hid (Box.new (w.alloc (.cells #[.int .i64 6, .int .i64 n, .int .i64 e, .string s, sl] 28)) 6 0 0 ⟨#[]⟩ (.slice none 0 0) 28)
  rw [show (w.alloc (.cells #[.int .i64 6, .int .i64 n, .int .i64 e, .string s, sl] 28)).heap.size = w.heap.size + 1 by simp] at P0
  have ts := ba_yes (rfl : s = s)
  obtain ⟨b, hb⟩ : ∃ b : Bool, b = decide (n = 0 ∧ e = 0 ∧ s.size ≤ 2000) := ⟨_, rfl⟩
  rw [← hb]
  have HB := Lib.hid hb; clear hb
  by_cases h1 : s.size ≤ 2000
  case neg =>
    have H := Lib.hid (show b = false by rw [HB.out, decide_eq_false (fun h => h1 h.2.2)])
    have h2 : (2000 : Int) < s.size := by omega
    clear h1 HB
    go_enter Tryd.func190, Tryd.ntmps190
    go_wp2_with fail
    go_ret
    exact ⟨by rw [H.out]; rfl, (by (repeat' (first | with_reducible exact Below.refl _ _ | with_reducible refine below_alloc ?_ _ ?_ | with_reducible refine Below.setCell ?_ ?_ _ | with_reducible refine Below.drew ?_ | with_reducible refine below_drewN ?_ _ | with_reducible refine below_step ?_ (by assumption) ?_ | with_reducible refine below_mark ?_ (by assumption) ?_)); all_goals (first | omega | (simp; done) | (simp; omega)))⟩
  have h2 : ¬ (2000 : Int) < s.size := by omega
  by_cases hn : n = 0
  case neg =>
    have H := Lib.hid (show b = false by rw [HB.out]; simp [hn])
    have t1 : (n == 0) = false := by simpa using hn
    clear h1 HB hn
    go_enter Tryd.func190, Tryd.ntmps190
    go_wp2_with fail
    go_ret
    exact ⟨by rw [H.out]; rfl, (by (repeat' (first | with_reducible exact Below.refl _ _ | with_reducible refine below_alloc ?_ _ ?_ | with_reducible refine Below.setCell ?_ ?_ _ | with_reducible refine Below.drew ?_ | with_reducible refine below_drewN ?_ _ | with_reducible refine below_step ?_ (by assumption) ?_ | with_reducible refine below_mark ?_ (by assumption) ?_)); all_goals (first | omega | (simp; done) | (simp; omega)))⟩
  by_cases he : e = 0
  case neg =>
    have H := Lib.hid (show b = false by rw [HB.out]; simp [he])
    have t2 : (e == 0) = false := by simpa using he
    subst hn
    clear h1 HB he
    go_enter Tryd.func190, Tryd.ntmps190
    go_wp2_with fail
    go_ret
    exact ⟨by rw [H.out]; rfl, (by (repeat' (first | with_reducible exact Below.refl _ _ | with_reducible refine below_alloc ?_ _ ?_ | with_reducible refine Below.setCell ?_ ?_ _ | with_reducible refine Below.drew ?_ | with_reducible refine below_drewN ?_ _ | with_reducible refine below_step ?_ (by assumption) ?_ | with_reducible refine below_mark ?_ (by assumption) ?_)); all_goals (first | omega | (simp; done) | (simp; omega)))⟩
  have H := Lib.hid (show b = true by rw [HB.out]; simp [hn, he, h1])
  subst hn
  subst he
  clear h1 HB
  go_enter Tryd.func190, Tryd.ntmps190
  go_wp2_with fail
  go_ret
  exact ⟨by rw [H.out]; rfl, (by (repeat' (first | with_reducible exact Below.refl _ _ | with_reducible refine below_alloc ?_ _ ?_ | with_reducible refine Below.setCell ?_ ?_ _ | with_reducible refine Below.drew ?_ | with_reducible refine below_drewN ?_ _ | with_reducible refine below_step ?_ (by assumption) ?_ | with_reducible refine below_mark ?_ (by assumption) ?_)); all_goals (first | omega | (simp; done) | (simp; omega)))⟩

set_option maxHeartbeats 2000000 in
theorem node_f (n e : Int) (s : ByteArray) (sl : Value) (w : World) : Calls Tryd.prog 190 #[.agg #[.int .i64 9, .int .i64 n, .int .i64 e, .string s, sl]] w (NodeRet (decide (0 ≤ n ∧ n ≤ 1000000 ∧ e = 0 ∧ s.size = 0)) w) := by
  obtain ⟨b, hb⟩ : ∃ b : Bool, b = decide (0 ≤ n ∧ n ≤ 1000000 ∧ e = 0 ∧ s.size = 0) := ⟨_, rfl⟩
  rw [← hb]
  have HB := Lib.hid hb; clear hb
  have tn : (n == n) = true := by simp
  by_cases h1 : 0 ≤ n ∧ n ≤ 1000000
  case neg =>
    have H := Lib.hid (show b = false by rw [HB.out, decide_eq_false (fun h => h1 ⟨h.1, h.2.1⟩)])
    have W1 := Lib.hid (fun W => within_no n 0 1000000 W (by omega))
    clear h1 HB
    go_enter Tryd.func190, Tryd.ntmps190
    go_wp2_with fail
    refine (W1.out _).mono ?_
    rintro x0 w1 ⟨rfl, rfl⟩
    go_wp2_with fail
    go_ret
    exact ⟨by rw [H.out]; rfl, (by (repeat' (first | with_reducible exact Below.refl _ _ | with_reducible refine below_alloc ?_ _ ?_ | with_reducible refine Below.setCell ?_ ?_ _ | with_reducible refine Below.drew ?_ | with_reducible refine below_drewN ?_ _ | with_reducible refine below_step ?_ (by assumption) ?_ | with_reducible refine below_mark ?_ (by assumption) ?_)); all_goals (first | omega | (simp; done) | (simp; omega)))⟩
  have W1 := Lib.hid (fun W => within_yes n 0 1000000 W h1.1 h1.2)
  by_cases he : e = 0
  case neg =>
    have H := Lib.hid (show b = false by rw [HB.out, decide_eq_false (fun h => he h.2.2.1)])
    have t2 : (e == 0) = false := by simpa using he
    clear h1 HB he
    go_enter Tryd.func190, Tryd.ntmps190
    go_wp2_with fail
    refine (W1.out _).mono ?_
    rintro x0 w1 ⟨rfl, rfl⟩
    go_wp2_with fail
    go_ret
    exact ⟨by rw [H.out]; rfl, (by (repeat' (first | with_reducible exact Below.refl _ _ | with_reducible refine below_alloc ?_ _ ?_ | with_reducible refine Below.setCell ?_ ?_ _ | with_reducible refine Below.drew ?_ | with_reducible refine below_drewN ?_ _ | with_reducible refine below_step ?_ (by assumption) ?_ | with_reducible refine below_mark ?_ (by assumption) ?_)); all_goals (first | omega | (simp; done) | (simp; omega)))⟩
  by_cases hs : s.size = 0
  case neg =>
    have H := Lib.hid (show b = false by rw [HB.out, decide_eq_false (fun h => hs h.2.2.2)])
    obtain ⟨s1, s2, s3⟩ := str_ne hs
    subst he
    clear h1 HB hs
    go_enter Tryd.func190, Tryd.ntmps190
    go_wp2_with fail
    refine (W1.out _).mono ?_
    rintro x0 w1 ⟨rfl, rfl⟩
    go_wp2_with fail
    go_ret
    exact ⟨by rw [H.out]; rfl, (by (repeat' (first | with_reducible exact Below.refl _ _ | with_reducible refine below_alloc ?_ _ ?_ | with_reducible refine Below.setCell ?_ ?_ _ | with_reducible refine Below.drew ?_ | with_reducible refine below_drewN ?_ _ | with_reducible refine below_step ?_ (by assumption) ?_ | with_reducible refine below_mark ?_ (by assumption) ?_)); all_goals (first | omega | (simp; done) | (simp; omega)))⟩
  have H := Lib.hid (show b = true by rw [HB.out]; simp [h1, he, hs])
  obtain rfl := ba_empty hs
  subst he
  clear h1 HB hs
  go_enter Tryd.func190, Tryd.ntmps190
  go_wp2_with fail
  refine (W1.out _).mono ?_
  rintro x0 w1 ⟨rfl, rfl⟩
  go_wp2_with fail
  go_ret
  exact ⟨by rw [H.out]; rfl, (by (repeat' (first | with_reducible exact Below.refl _ _ | with_reducible refine below_alloc ?_ _ ?_ | with_reducible refine Below.setCell ?_ ?_ _ | with_reducible refine Below.drew ?_ | with_reducible refine below_drewN ?_ _ | with_reducible refine below_step ?_ (by assumption) ?_ | with_reducible refine below_mark ?_ (by assumption) ?_)); all_goals (first | omega | (simp; done) | (simp; omega)))⟩

set_option maxHeartbeats 2000000 in
theorem node_g (k n e : Int) (s : ByteArray) (sl : Value) (w : World) (hk : k < 0 ∨ 9 < k) : Calls Tryd.prog 190 #[.agg #[.int .i64 k, .int .i64 n, .int .i64 e, .string s, sl]] w (NodeRet false w) := by
  have t0 : (k == 0) = false := by simp; omega
  have t1 : (k == 1) = false := by simp; omega
  have t2 : (k == 2) = false := by simp; omega
  have t3 : (k == 3) = false := by simp; omega
  have t4 : (k == 4) = false := by simp; omega
  have t5 : (k == 5) = false := by simp; omega
  have t6 : (k == 6) = false := by simp; omega
  have t7 : (k == 7) = false := by simp; omega
  have t8 : (k == 8) = false := by simp; omega
  have t9 : (k == 9) = false := by simp; omega
  clear hk
  go_enter Tryd.func190, Tryd.ntmps190
  go_wp2_with fail
  go_ret
  exact ⟨rfl, (by (repeat' (first | with_reducible exact Below.refl _ _ | with_reducible refine below_alloc ?_ _ ?_ | with_reducible refine Below.setCell ?_ ?_ _ | with_reducible refine Below.drew ?_ | with_reducible refine below_drewN ?_ _ | with_reducible refine below_step ?_ (by assumption) ?_ | with_reducible refine below_mark ?_ (by assumption) ?_)); all_goals (first | omega | (simp; done) | (simp; omega)))⟩
theorem isNode_any (t : V) (sl : Value) (w : World) (hw : t.wf) (hE : Env w) : Calls Tryd.prog 190 #[t.agg sl] w (NodeRet (nodeB t) w) := by
  obtain ⟨wk, wn, we, ws⟩ := hw
  unfold nodeB V.agg
  by_cases h1 : t.k = 0 ∨ t.k = 1 ∨ t.k = 2 ∨ t.k = 7 ∨ t.k = 8
  · rw [if_pos h1]; exact node_a t.k t.n t.e t.s sl w h1
  rw [if_neg h1]
  by_cases h2 : t.k = 3
  · rw [if_pos h2]; exact node_b t.k t.n t.e t.s sl w h2
  rw [if_neg h2]
  by_cases h3 : t.k = 4
  · rw [if_pos h3, h3]; exact node_c t.n t.e t.s sl w wn we
  rw [if_neg h3]
  by_cases h4 : t.k = 5
  · rw [if_pos h4, h4]; exact node_d t.n t.e t.s sl w ws hE
  rw [if_neg h4]
  by_cases h5 : t.k = 6
  · rw [if_pos h5, h5]; exact node_e t.n t.e t.s sl w ws
  rw [if_neg h5]
  by_cases h6 : t.k = 9
  · rw [if_pos h6, h6]; exact node_f t.n t.e t.s sl w
  rw [if_neg h6]
  exact node_g t.k t.n t.e t.s sl w (by omega)

end Go.Proofs.YtiemlefmhleaeaaDoor