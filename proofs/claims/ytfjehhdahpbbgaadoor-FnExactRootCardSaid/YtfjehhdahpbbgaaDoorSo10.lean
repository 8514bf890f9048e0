/- Lemmas for the statement of the last text of this claim: texts joined. -/
import Derived.Test.YtfjehhdahpbbgaaDoorSo05
import Derived.Test.YtfjehhdahpbbgaaDoorSo09
import Derived.Deep.RegionWith
namespace Go.Proofs.YtfjehhdahpbbgaaDoor
set_option linter.unusedSimpArgs false
set_option linter.unusedVariables false
set_option maxRecDepth 100000
open Go.RowKit
theorem bigZ_one (x : Int) (h0 : 0 ≤ x) (h1 : x < 256) : bigZ 1 x = [UInt8.ofNat x.toNat] := by
  simp [bigZ]; congr 1; omega
set_option maxRecDepth 100000 in
set_option maxHeartbeats 2000000 in
theorem putNumber_p0 (n : Int) (hn : In64 n) (h1 : 128 ≤ n) (h2 : n < 256) (w : World) : Calls Tryd.prog 112 #[.int .i64 n] w (TxtRet w (204 :: bigZ 1 n)) := by
  obtain ⟨hl, hh⟩ := hn
  have IN := Lib.hid (fun W => within_no n (-32) 127 W (by omega))
  have PW := Lib.hid (fun W => PutWide_any n 1 W (by omega) (by omega))
  have hc := fun (W : World) (b : Nat) => run_str1 W b 204
  have hy : IntKind.i64.wrap 204 = 204 := by rfl
  have hx : IntKind.u8.wrap 204 = 204 := by rfl
  have g0 : decide (0 ≤ n) = true := decide_eq_true (by omega)
  have t0 : decide (n < 256) = true := decide_eq_true (by omega)
  have g1 : decide (n < 0) = false := decide_eq_false (by omega)
  clear h1 h2 hl hh
  go_enter Tryd.func112, Tryd.ntmps112
  go_wp2_with fail
  refine (IN.out _).mono ?_
  rintro e w1 ⟨rfl, rfl⟩
  go_wp2_with fail
  refine wp_loop_rounds 1 ?_
  rw [rounds_succ]
  go_wp2_with fail
  go_region_with (go_at_call 114; refine (PW.out _).mono ?_; rintro e w9 ⟨rfl, hb⟩; obtain ⟨hb1, hb2⟩ := bcell hb; have hz := hb.size; simp at hz)
  all_goals go_wp2_with fail
  all_goals go_ret
  all_goals exact ⟨ret_str (bstr_append [204] _), (by (with_reducible (repeat' (first | exact Below.refl _ _ | refine below_alloc ?_ _ ?_ | refine Below.setCell ?_ ?_ _ | refine Below.drew ?_ | refine below_drewN ?_ _ | refine below_step ?_ (by assumption) ?_ | refine below_mark ?_ (by assumption) ?_))); all_goals (first | omega | (simp; done) | (simp; omega)))⟩
set_option maxRecDepth 100000 in
set_option maxHeartbeats 2000000 in
theorem putNumber_p1 (n : Int) (hn : In64 n) (h1 : 256 ≤ n) (h2 : n < 65536) (w : World) : Calls Tryd.prog 112 #[.int .i64 n] w (TxtRet w (205 :: bigZ 2 n)) := by
  obtain ⟨hl, hh⟩ := hn
  have IN := Lib.hid (fun W => within_no n (-32) 127 W (by omega))
  have PW := Lib.hid (fun W => PutWide_any n 2 W (by omega) (by omega))
  have hc := fun (W : World) (b : Nat) => run_str1 W b 205
  have hy : IntKind.i64.wrap 205 = 205 := by rfl
  have hx : IntKind.u8.wrap 205 = 205 := by rfl
  have g0 : decide (0 ≤ n) = true := decide_eq_true (by omega)
  have t0 : decide (n < 256) = false := decide_eq_false (by omega)
  have t1 : decide (n < 65536) = true := decide_eq_true (by omega)
  have g1 : decide (n < 0) = false := decide_eq_false (by omega)
  clear h1 h2 hl hh
  go_enter Tryd.func112, Tryd.ntmps112
  go_wp2_with fail
  refine (IN.out _).mono ?_
  rintro e w1 ⟨rfl, rfl⟩
  go_wp2_with fail
  refine wp_loop_rounds 2 ?_
  rw [rounds_succ]
  go_wp2_with fail
  rw [rounds_succ]
  go_wp2_with fail
  go_region_with (go_at_call 114; refine (PW.out _).mono ?_; rintro e w9 ⟨rfl, hb⟩; obtain ⟨hb1, hb2⟩ := bcell hb; have hz := hb.size; simp at hz)
  all_goals go_wp2_with fail
  all_goals go_ret
  all_goals exact ⟨ret_str (bstr_append [205] _), (by (with_reducible (repeat' (first | exact Below.refl _ _ | refine below_alloc ?_ _ ?_ | refine Below.setCell ?_ ?_ _ | refine Below.drew ?_ | refine below_drewN ?_ _ | refine below_step ?_ (by assumption) ?_ | refine below_mark ?_ (by assumption) ?_))); all_goals (first | omega | (simp; done) | (simp; omega)))⟩
set_option maxRecDepth 100000 in
set_option maxHeartbeats 2000000 in
theorem putNumber_p2 (n : Int) (hn : In64 n) (h1 : 65536 ≤ n) (h2 : n < 4294967296) (w : World) : Calls Tryd.prog 112 #[.int .i64 n] w (TxtRet w (206 :: bigZ 4 n)) := by
  obtain ⟨hl, hh⟩ := hn
  have IN := Lib.hid (fun W => within_no n (-32) 127 W (by omega))
  have PW := Lib.hid (fun W => PutWide_any n 4 W (by omega) (by omega))
  have hc := fun (W : World) (b : Nat) => run_str1 W b 206
  have hy : IntKind.i64.wrap 206 = 206 := by rfl
  have hx : IntKind.u8.wrap 206 = 206 := by rfl
  have g0 : decide (0 ≤ n) = true := decide_eq_true (by omega)
  have t0 : decide (n < 256) = false := decide_eq_false (by omega)
  have t1 : decide (n < 65536) = false := decide_eq_false (by omega)
  have t2 : decide (n < 4294967296) = true := decide_eq_true (by omega)
  have g1 : decide (n < 0) = false := decide_eq_false (by omega)
  clear h1 h2 hl hh
  go_enter Tryd.func112, Tryd.ntmps112
  go_wp2_with fail
  refine (IN.out _).mono ?_
  rintro e w1 ⟨rfl, rfl⟩
  go_wp2_with fail
  refine wp_loop_rounds 3 ?_
  rw [rounds_succ]
  go_wp2_with fail
  rw [rounds_succ]
  go_wp2_with fail
  rw [rounds_succ]
  go_wp2_with fail
  go_region_with (go_at_call 114; refine (PW.out _).mono ?_; rintro e w9 ⟨rfl, hb⟩; obtain ⟨hb1, hb2⟩ := bcell hb; have hz := hb.size; simp at hz)
  all_goals go_wp2_with fail
  all_goals go_ret
  all_goals exact ⟨ret_str (bstr_append [206] _), (by (with_reducible (repeat' (first | exact Below.refl _ _ | refine below_alloc ?_ _ ?_ | refine Below.setCell ?_ ?_ _ | refine Below.drew ?_ | refine below_drewN ?_ _ | refine below_step ?_ (by assumption) ?_ | refine below_mark ?_ (by assumption) ?_))); all_goals (first | omega | (simp; done) | (simp; omega)))⟩
set_option maxRecDepth 100000 in
set_option maxHeartbeats 2000000 in
theorem putNumber_p3 (n : Int) (hn : In64 n) (h1 : 4294967296 ≤ n)  (w : World) : Calls Tryd.prog 112 #[.int .i64 n] w (TxtRet w (207 :: bigZ 8 n)) := by
  obtain ⟨hl, hh⟩ := hn
  have IN := Lib.hid (fun W => within_no n (-32) 127 W (by omega))
  have PW := Lib.hid (fun W => PutWide_any n 8 W (by omega) (by omega))
  have hc := fun (W : World) (b : Nat) => run_str1 W b 207
  have hy : IntKind.i64.wrap 207 = 207 := by rfl
  have hx : IntKind.u8.wrap 207 = 207 := by rfl
  have g0 : decide (0 ≤ n) = true := decide_eq_true (by omega)
  have t0 : decide (n < 256) = false := decide_eq_false (by omega)
  have t1 : decide (n < 65536) = false := decide_eq_false (by omega)
  have t2 : decide (n < 4294967296) = false := decide_eq_false (by omega)
  have g1 : decide (n < 0) = false := decide_eq_false (by omega)
  clear h1 hl hh
  go_enter Tryd.func112, Tryd.ntmps112
  go_wp2_with fail
  refine (IN.out _).mono ?_
  rintro e w1 ⟨rfl, rfl⟩
  go_wp2_with fail
  refine wp_loop_rounds 4 ?_
  rw [rounds_succ]
  go_wp2_with fail
  rw [rounds_succ]
  go_wp2_with fail
  rw [rounds_succ]
  go_wp2_with fail
  rw [rounds_succ]
  go_wp2_with fail
  go_region_with (go_at_call 114; refine (PW.out _).mono ?_; rintro e w9 ⟨rfl, hb⟩; obtain ⟨hb1, hb2⟩ := bcell hb; have hz := hb.size; simp at hz)
  all_goals go_wp2_with fail
  all_goals go_ret
  all_goals exact ⟨ret_str (bstr_append [207] _), (by (with_reducible (repeat' (first | exact Below.refl _ _ | refine below_alloc ?_ _ ?_ | refine Below.setCell ?_ ?_ _ | refine Below.drew ?_ | refine below_drewN ?_ _ | refine below_step ?_ (by assumption) ?_ | refine below_mark ?_ (by assumption) ?_))); all_goals (first | omega | (simp; done) | (simp; omega)))⟩
set_option maxRecDepth 100000 in
set_option maxHeartbeats 2000000 in
theorem putNumber_n0 (n : Int) (hn : In64 n) (h1 : n < -32) (h2 : -128 ≤ n) (w : World) : Calls Tryd.prog 112 #[.int .i64 n] w (TxtRet w (208 :: bigZ 1 n)) := by
  obtain ⟨hl, hh⟩ := hn
  have IN := Lib.hid (fun W => within_no n (-32) 127 W (by omega))
  have PW := Lib.hid (fun W => PutWide_any n 1 W (by omega) (by omega))
  have hc := fun (W : World) (b : Nat) => run_str1 W b 208
  have hy : IntKind.i64.wrap 208 = 208 := by rfl
  have hx : IntKind.u8.wrap 208 = 208 := by rfl
  have g0 : decide (0 ≤ n) = false := decide_eq_false (by omega)
  have g1 : decide (n < 0) = true := decide_eq_true (by omega)
  have SG0 := Lib.hid (fun W => SignOf_impl n 1 W (by omega) (by omega) ⟨hl, hh⟩)
  have s0 : (signN n 1 == n) = true := by simp [signN]; split <;> omega
  clear h1 h2 hl hh
  go_enter Tryd.func112, Tryd.ntmps112
  go_wp2_with fail
  refine (IN.out _).mono ?_
  rintro e w1 ⟨rfl, rfl⟩
  go_wp2_with fail
  refine wp_loop_rounds 1 ?_
  rw [rounds_succ]
  go_wp2_with fail
  refine (SG0.out _).mono ?_
  rintro e w2 ⟨rfl, rfl⟩
  go_wp2_with fail
  go_region_with (go_at_call 114; refine (PW.out _).mono ?_; rintro e w9 ⟨rfl, hb⟩; obtain ⟨hb1, hb2⟩ := bcell hb; have hz := hb.size; simp at hz)
  all_goals go_wp2_with fail
  all_goals go_ret
  all_goals exact ⟨ret_str (bstr_append [208] _), (by (with_reducible (repeat' (first | exact Below.refl _ _ | refine below_alloc ?_ _ ?_ | refine Below.setCell ?_ ?_ _ | refine Below.drew ?_ | refine below_drewN ?_ _ | refine below_step ?_ (by assumption) ?_ | refine below_mark ?_ (by assumption) ?_))); all_goals (first | omega | (simp; done) | (simp; omega)))⟩
set_option maxRecDepth 100000 in
set_option maxHeartbeats 2000000 in
theorem putNumber_n1 (n : Int) (hn : In64 n) (h1 : n < -128) (h2 : -32768 ≤ n) (w : World) : Calls Tryd.prog 112 #[.int .i64 n] w (TxtRet w (209 :: bigZ 2 n)) := by
  obtain ⟨hl, hh⟩ := hn
  have IN := Lib.hid (fun W => within_no n (-32) 127 W (by omega))
  have PW := Lib.hid (fun W => PutWide_any n 2 W (by omega) (by omega))
  have hc := fun (W : World) (b : Nat) => run_str1 W b 209
  have hy : IntKind.i64.wrap 209 = 209 := by rfl
  have hx : IntKind.u8.wrap 209 = 209 := by rfl
  have g0 : decide (0 ≤ n) = false := decide_eq_false (by omega)
  have g1 : decide (n < 0) = true := decide_eq_true (by omega)
  have SG0 := Lib.hid (fun W => SignOf_impl n 1 W (by omega) (by omega) ⟨hl, hh⟩)
  have s0 : (signN n 1 == n) = false := by simp [signN]; split <;> omega
  have SG1 := Lib.hid (fun W => SignOf_impl n 2 W (by omega) (by omega) ⟨hl, hh⟩)
  have s1 : (signN n 2 == n) = true := by simp [signN]; split <;> omega
  clear h1 h2 hl hh
  go_enter Tryd.func112, Tryd.ntmps112
  go_wp2_with fail
  refine (IN.out _).mono ?_
  rintro e w1 ⟨rfl, rfl⟩
  go_wp2_with fail
  refine wp_loop_rounds 2 ?_
  rw [rounds_succ]
  go_wp2_with fail
  refine (SG0.out _).mono ?_
  rintro e w2 ⟨rfl, rfl⟩
  go_wp2_with fail
  rw [rounds_succ]
  go_wp2_with fail
  refine (SG1.out _).mono ?_
  rintro e w2 ⟨rfl, rfl⟩
  go_wp2_with fail
  go_region_with (go_at_call 114; refine (PW.out _).mono ?_; rintro e w9 ⟨rfl, hb⟩; obtain ⟨hb1, hb2⟩ := bcell hb; have hz := hb.size; simp at hz)
  all_goals go_wp2_with fail
  all_goals go_ret
  all_goals exact ⟨ret_str (bstr_append [209] _), (by (with_reducible (repeat' (first | exact Below.refl _ _ | refine below_alloc ?_ _ ?_ | refine Below.setCell ?_ ?_ _ | refine Below.drew ?_ | refine below_drewN ?_ _ | refine below_step ?_ (by assumption) ?_ | refine below_mark ?_ (by assumption) ?_))); all_goals (first | omega | (simp; done) | (simp; omega)))⟩
set_option maxRecDepth 100000 in
set_option maxHeartbeats 2000000 in
theorem putNumber_n2 (n : Int) (hn : In64 n) (h1 : n < -32768) (h2 : -2147483648 ≤ n) (w : World) : Calls Tryd.prog 112 #[.int .i64 n] w (TxtRet w (210 :: bigZ 4 n)) := by
  obtain ⟨hl, hh⟩ := hn
  have IN := Lib.hid (fun W => within_no n (-32) 127 W (by omega))
  have PW := Lib.hid (fun W => PutWide_any n 4 W (by omega) (by omega))
  have hc := fun (W : World) (b : Nat) => run_str1 W b 210
  have hy : IntKind.i64.wrap 210 = 210 := by rfl
  have hx : IntKind.u8.wrap 210 = 210 := by rfl
  have g0 : decide (0 ≤ n) = false := decide_eq_false (by omega)
  have g1 : decide (n < 0) = true := decide_eq_true (by omega)
  have SG0 := Lib.hid (fun W => SignOf_impl n 1 W (by omega) (by omega) ⟨hl, hh⟩)
  have s0 : (signN n 1 == n) = false := by simp [signN]; split <;> omega
  have SG1 := Lib.hid (fun W => SignOf_impl n 2 W (by omega) (by omega) ⟨hl, hh⟩)
  have s1 : (signN n 2 == n) = false := by simp [signN]; split <;> omega
  have SG2 := Lib.hid (fun W => SignOf_impl n 4 W (by omega) (by omega) ⟨hl, hh⟩)
  have s2 : (signN n 4 == n) = true := by simp [signN]; split <;> omega
  clear h1 h2 hl hh
  go_enter Tryd.func112, Tryd.ntmps112
  go_wp2_with fail
  refine (IN.out _).mono ?_
  rintro e w1 ⟨rfl, rfl⟩
  go_wp2_with fail
  refine wp_loop_rounds 3 ?_
  rw [rounds_succ]
  go_wp2_with fail
  refine (SG0.out _).mono ?_
  rintro e w2 ⟨rfl, rfl⟩
  go_wp2_with fail
  rw [rounds_succ]
  go_wp2_with fail
  refine (SG1.out _).mono ?_
  rintro e w2 ⟨rfl, rfl⟩
  go_wp2_with fail
  rw [rounds_succ]
  go_wp2_with fail
  refine (SG2.out _).mono ?_
  rintro e w2 ⟨rfl, rfl⟩
  go_wp2_with fail
  go_region_with (go_at_call 114; refine (PW.out _).mono ?_; rintro e w9 ⟨rfl, hb⟩; obtain ⟨hb1, hb2⟩ := bcell hb; have hz := hb.size; simp at hz)
  all_goals go_wp2_with fail
  all_goals go_ret
  all_goals exact ⟨ret_str (bstr_append [210] _), (by (with_reducible (repeat' (first | exact Below.refl _ _ | refine below_alloc ?_ _ ?_ | refine Below.setCell ?_ ?_ _ | refine Below.drew ?_ | refine below_drewN ?_ _ | refine below_step ?_ (by assumption) ?_ | refine below_mark ?_ (by assumption) ?_))); all_goals (first | omega | (simp; done) | (simp; omega)))⟩
set_option maxRecDepth 100000 in
set_option maxHeartbeats 2000000 in
theorem putNumber_n3 (n : Int) (hn : In64 n) (h1 : n < -2147483648)  (w : World) : Calls Tryd.prog 112 #[.int .i64 n] w (TxtRet w (211 :: bigZ 8 n)) := by
  obtain ⟨hl, hh⟩ := hn
  have IN := Lib.hid (fun W => within_no n (-32) 127 W (by omega))
  have PW := Lib.hid (fun W => PutWide_any n 8 W (by omega) (by omega))
  have hc := fun (W : World) (b : Nat) => run_str1 W b 211
  have hy : IntKind.i64.wrap 211 = 211 := by rfl
  have hx : IntKind.u8.wrap 211 = 211 := by rfl
  have g0 : decide (0 ≤ n) = false := decide_eq_false (by omega)
  have g1 : decide (n < 0) = true := decide_eq_true (by omega)
  have SG0 := Lib.hid (fun W => SignOf_impl n 1 W (by omega) (by omega) ⟨hl, hh⟩)
  have s0 : (signN n 1 == n) = false := by simp [signN]; split <;> omega
  have SG1 := Lib.hid (fun W => SignOf_impl n 2 W (by omega) (by omega) ⟨hl, hh⟩)
  have s1 : (signN n 2 == n) = false := by simp [signN]; split <;> omega
  have SG2 := Lib.hid (fun W => SignOf_impl n 4 W (by omega) (by omega) ⟨hl, hh⟩)
  have s2 : (signN n 4 == n) = false := by simp [signN]; split <;> omega
  have SG3 := Lib.hid (fun W => SignOf_impl n 8 W (by omega) (by omega) ⟨hl, hh⟩)
  have s3 : (signN n 8 == n) = true := by simp [signN]
  clear h1 hl hh
  go_enter Tryd.func112, Tryd.ntmps112
  go_wp2_with fail
  refine (IN.out _).mono ?_
  rintro e w1 ⟨rfl, rfl⟩
  go_wp2_with fail
  refine wp_loop_rounds 4 ?_
  rw [rounds_succ]
  go_wp2_with fail
  refine (SG0.out _).mono ?_
  rintro e w2 ⟨rfl, rfl⟩
  go_wp2_with fail
  rw [rounds_succ]
  go_wp2_with fail
  refine (SG1.out _).mono ?_
  rintro e w2 ⟨rfl, rfl⟩
  go_wp2_with fail
  rw [rounds_succ]
  go_wp2_with fail
  refine (SG2.out _).mono ?_
  rintro e w2 ⟨rfl, rfl⟩
  go_wp2_with fail
  rw [rounds_succ]
  go_wp2_with fail
  refine (SG3.out _).mono ?_
  rintro e w2 ⟨rfl, rfl⟩
  go_wp2_with fail
  go_region_with (go_at_call 114; refine (PW.out _).mono ?_; rintro e w9 ⟨rfl, hb⟩; obtain ⟨hb1, hb2⟩ := bcell hb; have hz := hb.size; simp at hz)
  all_goals go_wp2_with fail
  all_goals go_ret
  all_goals exact ⟨ret_str (bstr_append [211] _), (by (with_reducible (repeat' (first | exact Below.refl _ _ | refine below_alloc ?_ _ ?_ | refine Below.setCell ?_ ?_ _ | refine Below.drew ?_ | refine below_drewN ?_ _ | refine below_step ?_ (by assumption) ?_ | refine below_mark ?_ (by assumption) ?_))); all_goals (first | omega | (simp; done) | (simp; omega)))⟩
theorem putNumber_small (n : Int) (h : -32 ≤ n ∧ n ≤ 127) (w : World) : Calls Tryd.prog 112 #[.int .i64 n] w (TxtRet w (bigZ 1 n)) := by
  have IN := Lib.hid (fun W => within_yes n (-32) 127 W h.1 h.2)
  have PW := Lib.hid (fun W => PutWide_any n 1 W (by omega) (by omega))
  clear h
  go_enter Tryd.func112, Tryd.ntmps112
  go_wp2_with fail
  refine (IN.out _).mono ?_
  rintro e w1 ⟨rfl, rfl⟩
  go_wp2_with fail
  refine (PW.out _).mono ?_
  rintro e w1 ⟨rfl, hb⟩
  go_wp2_with fail
  go_ret
  exact ⟨rfl, hb⟩
theorem putNumber_any (n : Int) (hn : In64 n) (w : World) : Calls Tryd.prog 112 #[.int .i64 n] w (TxtRet w (mpNum n)) := by
  unfold mpNum
  by_cases h0 : -32 ≤ n ∧ n ≤ 127
  · rw [if_pos h0]; exact putNumber_small n h0 w
  rw [if_neg h0]
  by_cases h1 : 0 ≤ n ∧ n ≤ 255
  · rw [if_pos h1]; exact putNumber_p0 n hn (by omega) (by omega) w
  rw [if_neg h1]
  by_cases h2 : 0 ≤ n ∧ n ≤ 65535
  · rw [if_pos h2]; exact putNumber_p1 n hn (by omega) (by omega) w
  rw [if_neg h2]
  by_cases h3 : 0 ≤ n ∧ n ≤ 4294967295
  · rw [if_pos h3]; exact putNumber_p2 n hn (by omega) (by omega) w
  rw [if_neg h3]
  by_cases h4 : 0 ≤ n
  · rw [if_pos h4]; exact putNumber_p3 n hn (by omega) w
  rw [if_neg h4]
  by_cases h5 : -128 ≤ n
  · rw [if_pos h5]; exact putNumber_n0 n hn (by omega) (by omega) w
  rw [if_neg h5]
  by_cases h6 : -32768 ≤ n
  · rw [if_pos h6]; exact putNumber_n1 n hn (by omega) (by omega) w
  rw [if_neg h6]
  by_cases h7 : -2147483648 ≤ n
  · rw [if_pos h7]; exact putNumber_n2 n hn (by omega) (by omega) w
  rw [if_neg h7]
  exact putNumber_n3 n hn (by omega) w
set_option maxHeartbeats 1000000 in
theorem putLength_any (n least low one two : Int) (hn : 0 ≤ n ∧ n ≤ 2000) (hl : 0 ≤ low ∧ low + least ≤ 256) (h1 : 0 ≤ one ∧ one ≤ 255) (h2 : 0 ≤ two ∧ two ≤ 255) (w : World) :
    Calls Tryd.prog 113 #[.int .i64 n, .int .i64 low, .int .i64 least, .int .i64 one, .int .i64 two] w (TxtRet w (mpMany n least low one two)) := by
  unfold mpMany
  by_cases c1 : n < least
  · rw [if_pos c1]
    have H := Lib.hid (bigZ_one (low + n) (by omega) (by omega))
    have hw0 : wrap64 (low + n) = low + n := by unfold wrap64; omega
    have hx : IntKind.u8.wrap (low + n) = low + n := by simp [IntKind.wrap, IntKind.signed, IntKind.bits]; omega
    have hc := fun (W : World) (b : Nat) => run_str1 W b (low + n)
    have t1 : decide (n < least) = true := decide_eq_true c1
    clear c1 hn hl h1 h2
    go_enter Tryd.func113, Tryd.ntmps113
    go_wp2_with fail
    go_ret
    exact ⟨ret_str (by rw [H.out]), (by (with_reducible (repeat' (first | exact Below.refl _ _ | refine below_alloc ?_ _ ?_ | refine Below.setCell ?_ ?_ _ | refine Below.drew ?_ | refine below_drewN ?_ _ | refine below_step ?_ (by assumption) ?_ | refine below_mark ?_ (by assumption) ?_))); all_goals (first | omega | (simp; done) | (simp; omega)))⟩
  · rw [if_neg c1]
    have t1 : decide (n < least) = false := decide_eq_false c1
    by_cases c2 : n < 256 ∧ 0 < one
    · rw [if_pos c2]
      have H := Lib.hid (bigZ_one one (by omega) (by omega))
      have t2 : decide (n < 256) = true := decide_eq_true c2.1
      have t3 : decide (0 < one) = true := decide_eq_true c2.2
      have hx : IntKind.u8.wrap one = one := by simp [IntKind.wrap, IntKind.signed, IntKind.bits]; omega
      have hc := fun (W : World) (b : Nat) => run_str1 W b one
      have PW := Lib.hid (fun W => PutWide_any n 1 W (by omega) (by omega))
      have S1 : ¬ 9223372036854775807 < (bigZ 1 one).length + (bigZ 1 n).length := by rw [bigZ_length, bigZ_length]; omega
      clear c1 c2 hn hl h1 h2
      go_enter Tryd.func113, Tryd.ntmps113
      go_wp2_with fail
      go_region_with (go_at_call 114; refine (PW.out _).mono ?_; rintro e w9 ⟨rfl, hb⟩; obtain ⟨hb1, hb2⟩ := bcell hb; have hz := hb.size; simp at hz)
      all_goals go_wp2_with fail
      all_goals go_ret
      all_goals exact ⟨ret_str (by rw [H.out]; exact bstr_append _ _), (by (with_reducible (repeat' (first | exact Below.refl _ _ | refine below_alloc ?_ _ ?_ | refine Below.setCell ?_ ?_ _ | refine Below.drew ?_ | refine below_drewN ?_ _ | refine below_step ?_ (by assumption) ?_ | refine below_mark ?_ (by assumption) ?_))); all_goals (first | omega | (simp; done) | (simp; omega)))⟩
    · rw [if_neg c2]
      have H := Lib.hid (bigZ_one two (by omega) (by omega))
      have hx : IntKind.u8.wrap two = two := by simp [IntKind.wrap, IntKind.signed, IntKind.bits]; omega
      have hc := fun (W : World) (b : Nat) => run_str1 W b two
      have PW := Lib.hid (fun W => PutWide_any n 2 W (by omega) (by omega))
      have S1 : ¬ 9223372036854775807 < (bigZ 1 two).length + (bigZ 2 n).length := by rw [bigZ_length, bigZ_length]; omega
      by_cases c3 : n < 256
      · have t2 : decide (n < 256) = true := decide_eq_true c3
        have t3 : decide (0 < one) = false := decide_eq_false (fun h => c2 ⟨c3, h⟩)
        clear c1 c2 c3 hn hl h1 h2
        go_enter Tryd.func113, Tryd.ntmps113
        go_wp2_with fail
        go_region_with (go_at_call 114; refine (PW.out _).mono ?_; rintro e w9 ⟨rfl, hb⟩; obtain ⟨hb1, hb2⟩ := bcell hb; have hz := hb.size; simp at hz)
        all_goals go_wp2_with fail
        all_goals go_ret
        all_goals exact ⟨ret_str (by rw [H.out]; exact bstr_append _ _), (by (with_reducible (repeat' (first | exact Below.refl _ _ | refine below_alloc ?_ _ ?_ | refine Below.setCell ?_ ?_ _ | refine Below.drew ?_ | refine below_drewN ?_ _ | refine below_step ?_ (by assumption) ?_ | refine below_mark ?_ (by assumption) ?_))); all_goals (first | omega | (simp; done) | (simp; omega)))⟩
      · have t2 : decide (n < 256) = false := decide_eq_false c3
        clear c1 c2 c3 hn hl h1 h2
        go_enter Tryd.func113, Tryd.ntmps113
        go_wp2_with fail
        go_region_with (go_at_call 114; refine (PW.out _).mono ?_; rintro e w9 ⟨rfl, hb⟩; obtain ⟨hb1, hb2⟩ := bcell hb; have hz := hb.size; simp at hz)
        all_goals go_wp2_with fail
        all_goals go_ret
        all_goals exact ⟨ret_str (by rw [H.out]; exact bstr_append _ _), (by (with_reducible (repeat' (first | exact Below.refl _ _ | refine below_alloc ?_ _ ?_ | refine Below.setCell ?_ ?_ _ | refine Below.drew ?_ | refine below_drewN ?_ _ | refine below_step ?_ (by assumption) ?_ | refine below_mark ?_ (by assumption) ?_))); all_goals (first | omega | (simp; done) | (simp; omega)))⟩
end Go.Proofs.YtfjehhdahpbbgaaDoor
namespace Go.Proofs.YtfjehhdahpbbgaaDoor
set_option linter.unusedSimpArgs false
set_option linter.unusedVariables false
set_option maxRecDepth 100000
open Go.RowKit Go.Shelf
theorem run_str3 (W : World) (b : Nat) (x y z : Int) (h0 : W.cell? ⟨b, 0, none⟩ = some (.int .u8 x)) (h1 : W.cell? ⟨b, 1, none⟩ = some (.int .u8 y)) (h2 : W.cell? ⟨b, 2, none⟩ = some (.int .u8 z)) :
    (convert 83 9 (.slice (some ⟨b, 0, none⟩) 3 3)).run Tryd.prog W = .ok (bstr [UInt8.ofNat x.toNat, UInt8.ofNat y.toNat, UInt8.ofNat z.toNat]) W := by
  rw [run_convert_bytes_string W 83 9 5 _ _ _ Tryd.underlying83 Tryd.underlying5 Tryd.underlying9]
  rw [run_bytesToString W _ 3 3 [x, y, z] (by
    have h1 := run_loadCells_list (P := Tryd.prog) (w := W) ⟨b, 0, none⟩ [.int .u8 x, .int .u8 y, .int .u8 z] (by
      intro j v hv
      match j, hv with
      | 0, hv => (simp at hv; subst hv; exact h0)
      | 1, hv => (simp at hv; subst hv; exact h1)
      | 2, hv => (simp at hv; subst hv; exact h2))
    exact h1)]
  rfl
set_option maxHeartbeats 2000000 in
theorem WriteByte_any (B b : Nat) (bs : List Value) (x : Int) (w : World) (h : Bld B b bs w) (hlen : bs.length + 1 ≤ 140737488355328) (hBw : B ≤ w.heap.size) :
    Calls Tryd.prog 110 #[.pointer (some ⟨b, 0, none⟩), .int .u8 x] w fun e w' => e = .returned .nilIface ∧ BRet B b (bs ++ [.int .u8 x]) w w' := by
  obtain ⟨i0, hi, hz0, hz1, hz2⟩ := info_parts extraB.infoByte
  have CC := Lib.hid (copyCheck_any B b bs w h)
  go_enter Tryd.func110, Tryd.ntmps110
  go_wp2_with (go_at_call 134; refine CC.out.mono ?_)
  rintro e w1 ⟨rfl, h1, hb1, hk1⟩
  obtain ⟨hB, v, hbk, hown, hne⟩ := h1
  have c0 : w1.cell? ⟨b, 0, none⟩ = some (.pointer (some ⟨b, 0, none⟩)) := by rw [Lib.cell_of_heap hbk]; rfl
  have c1 : w1.cell? ⟨b, 1, none⟩ = some v := by rw [Lib.cell_of_heap hbk]; rfl
  go_wp2_with (at_builtin; refine wpList_append_ownF _ rfl _ _ 83 rfl B 5 i0 (.int .u8 0) 1 1 Tryd.underlying83 hi hz0 hz1 hz2 rfl (by decide) _ _ _ rfl (hown.alloc _) ⟨w1.heap.size, 0, none⟩ 1 1 [.int .u8 x] rfl rfl ?c1 ?c2 ?c3 ?c4 ?c5 ?_)
  case c1 =>
    intro j u hj
    match j, hj with
    | 0, hj => simp at hj; subst hj; simp [Addr.add]
  case c2 => intro u hu; simp at hu; subst hu; rfl
  case c3 => unfold maxLen; omega
  case c4 => omega
  case c5 => have := hb1.size; simp; omega
  intro v' w2 hown' hgrow _
  have hlt : b < w1.heap.size := by
    rcases Nat.lt_or_ge b w1.heap.size with h' | h'
    · exact h'
    · simp [Array.getElem?_eq_none h'] at hbk
  have hb2 : w2.heap[b]? = some (.cells #[.pointer (some ⟨b, 0, none⟩), v] 85 (0, 0)) := by
    rw [hgrow.block b (by simp; omega) (fun e => hne e.symm), heap_alloc_old _ _ hlt]
    exact hbk
  have d0 : w2.cell? ⟨b, 0, none⟩ = some (.pointer (some ⟨b, 0, none⟩)) := by rw [Lib.cell_of_heap hb2]; rfl
  have d1 : w2.cell? ⟨b, 1, none⟩ = some v := by rw [Lib.cell_of_heap hb2]; rfl
  have f1 : w2.frozen? ⟨b, 1, none⟩ = false := Lib.frozen_of_heap hb2 1
  obtain ⟨ao, n', cap, rfl⟩ : ∃ ao n' cap, v' = .slice ao n' cap := by
    rcases hown'.2 with ⟨hv, _⟩ | ⟨g, cap, cur, fz, hv, _⟩
    · exact ⟨_, _, _, hv⟩
    · exact ⟨_, _, _, hv⟩
  go_wp2_with fail
  go_ret
  refine ⟨rfl, .inr ?_, ?_, ((hk1.alloc _).grown hgrow (Lib.ownsRowF_kind (hown.alloc _))).setCell ⟨b, 1, none⟩ rfl _⟩
  · exact Lib.BuilderAtF.put (T := 85) (e := 5) hB hb2 (bs' := bs ++ [.int .u8 x]) (by simpa using hown') extraB.neB5
  · exact ((hb1.alloc (by have := hb1.size; omega) _).grown hgrow (by have := hb1.size; simp; omega) (fun k hk => (hown.lt k hk).1)).setCell (p := ⟨b, 1, none⟩) hB _
theorem byte_good (B b : Nat) (bs : List Value) (w0 : World) (hB0 : B ≤ w0.heap.size) (x : Int) (hlen : bs.length + 1 ≤ 140737488355328) (w : World) (h : Good B b bs w0 w) :
    Calls Tryd.prog 110 #[.pointer (some ⟨b, 0, none⟩), .int .u8 x] w fun e w' => e = .returned .nilIface ∧ Good B b (bs ++ [.int .u8 x]) w0 w' :=
  (WriteByte_any B b bs x w h.bld hlen (Nat.le_trans hB0 h.below.size)).mono fun e w' ⟨h1, h2⟩ => ⟨h1, h.ret h2⟩
set_option maxHeartbeats 4000000 in
theorem putMsg_any (w0 : World) (B b : Nat) (hB0 : w0.heap.size ≤ B) : ∀ (N : Nat) (v : Value) (t : V) (d : Int), t.sz < N → rightB t d = true → Rep w0 v t → t.sz ≤ 1048576 → t.nodes ≤ 300 → ∀ (bs : List Value) (w : World), Below w0.heap.size w0 w → Bld B b bs w → B ≤ w.heap.size → bs.length + (mpL t).length ≤ 1000000 →
    Calls Tryd.prog 77 #[.pointer (some ⟨b, 0, none⟩), v] w fun e w' => e = .returned (.tuple #[]) ∧ BRet B b (bs ++ Lib.byteCells (mpL t)) w w' := by
  intro N
  induction N with
  | zero => intro v t d h; omega
  | succ N ih =>
  intro v t d hN hright h hsz hnd bs w hw hbd hBw hcl
  obtain ⟨sl, rfl, hwf, hr⟩ := h
  have hts := V.sz_eq t
  have htn := V.nodes_eq t
  have hlen := szs_length t.kids
  obtain ⟨hn64, he64, hss⟩ : In64 t.n ∧ In64 t.e ∧ t.s.size ≤ 2000 := ⟨hwf.2.1, hwf.2.2.1, node_small (rightB_leaf hright).1⟩
  have hkin := kind_in hright
  have htg := fun hk => tag_n hright hk
  have hC := mpL_eq t
  have hkr := right_kids hright
  obtain ⟨a, b2, off, cap, rfl, ha, hc, hm, sls, hel⟩ := hr.opened
  have HA := Lib.hid ha; have HE := Lib.hid hel; have HW := Lib.hid hw
  have hl : t.kids.length ≤ 1048576 := by omega
  have hle := mps_le t.kids (d - 1) hkr
  have hnk := nodess_ge t.kids
  have hbl := hbd.lt
  have hcl2 : bs.length + ((mpOwn t).length + (mpsL t.kids).length) ≤ 1000000 := by rw [hC, List.length_append] at hcl; exact hcl
  have V1 := Lib.hid (fun (j : Nat) (hj : j < t.kids.length) (W : World) (hW : Below w0.heap.size w0 W) (bs2 : List Value) (hb2 : Bld B b bs2 W) (hBW : B ≤ W.heap.size) (hcl : bs2.length + (mpL t.kids[j]).length ≤ 1000000) => ih (t.kids[j].agg (sls j)) t.kids[j] (d - 1) (by have h1 := szs_mem (List.getElem_mem hj); omega) (rightsB_get hkr j hj) ⟨sls j, rfl, (HE.out j hj).2.1, (HE.out j hj).2.2⟩ (by have h1 := szs_mem (List.getElem_mem hj); omega) (by have h1 := nodess_mem (List.getElem_mem hj); omega) bs2 W hW hb2 hBW hcl)
  have HR := Lib.hid (show ∀ W, Good B b ((bs ++ Lib.byteCells (mpOwn t)) ++ Lib.byteCells (mpsL t.kids)) (w.alloc (.cells #[.int .i64 t.k, .int .i64 t.n, .int .i64 t.e, .string t.s, .slice a t.kids.length cap] 29)) W → BRet B b (bs ++ Lib.byteCells (mpL t)) w W from fun W hg => by
    rw [List.append_assoc, ← byte_app, ← hC] at hg
    exact ⟨hg.bld, ((Below.refl B w).alloc hBw _).trans hg.below, ((Lib.OthersKept.refl _ _ w).alloc _).trans hg.kept⟩)
  have HG0 := Lib.hid (show Good B b bs (w.alloc (.cells #[.int .i64 t.k, .int .i64 t.n, .int .i64 t.e, .string t.s, .slice a t.kids.length cap] 29)) (w.alloc (.cells #[.int .i64 t.k, .int .i64 t.n, .int .i64 t.e, .string t.s, .slice a t.kids.length cap] 29)) from ⟨hbd.stay ((Below.refl _ _).alloc (Nat.le_refl _) _), Below.refl _ _, Lib.OthersKept.refl _ _ _⟩)
  have HWR := Lib.hid (fun (bs2 : List Value) (W : World) (hg : Good B b bs2 (w.alloc (.cells #[.int .i64 t.k, .int .i64 t.n, .int .i64 t.e, .string t.s, .slice a t.kids.length cap] 29)) W) => show Below w0.heap.size w0 W from hw.trans ((((Below.refl w.heap.size w).alloc (Nat.le_refl _) _).mono hw.size).trans (hg.below.mono hB0)))
  have HL := Lib.hid (fun (j : Nat) (hj : j < t.kids.length) => show ((bs ++ Lib.byteCells (mpOwn t)) ++ Lib.byteCells (mpsL (t.kids.take j))).length + (mpL t.kids[j]).length ≤ 1000000 by
    have e1 := mpsL_take t.kids j hj
    have e2 := mps_take_le t.kids (j + 1)
    have e3 := congrArg List.length e1
    rw [List.length_append] at e3
    rw [List.length_append, List.length_append, Lib.byteCells_length, Lib.byteCells_length]; omega)
  have HT := Lib.hid (fun (j : Nat) (hj : j < t.kids.length) => mpsL_take t.kids j hj)
  have hBz : B ≤ (w.alloc (.cells #[.int .i64 t.k, .int .i64 t.n, .int .i64 t.e, .string t.s, .slice a t.kids.length cap] 29)).heap.size := by simp; omega
  have BOX := Lib.hid (fun (bs2 : List Value) (W : World) (hg : Good B b bs2 (w.alloc (.cells #[.int .i64 t.k, .int .i64 t.n, .int .i64 t.e, .string t.s, .slice a t.kids.length cap] 29)) W) => good_box hbl hg)
  have WS := Lib.hid (fun (bs2 : List Value) (s2 : ByteArray) (hlen : bs2.length + s2.size ≤ 140737488355328) (W : World) (hg : Good B b bs2 (w.alloc (.cells #[.int .i64 t.k, .int .i64 t.n, .int .i64 t.e, .string t.s, .slice a t.kids.length cap] 29)) W) => write_good B b bs2 _ hBz s2 hlen W hg)
  have HOS := Lib.hid (show (t.k = 0 → mpOwn t = [192]) ∧ (t.k = 1 → mpOwn t = [194]) ∧ (t.k = 2 → mpOwn t = [195]) ∧ (t.k = 3 → mpOwn t = mpNum t.n) ∧ (t.k = 4 → mpOwn t = [199, 9, 4] ++ bigZ 1 t.e ++ bigZ 8 t.n) ∧ (t.k = 5 → mpOwn t = mpMany t.s.size 32 160 217 218 ++ t.s.data.toList) ∧ (t.k = 6 → mpOwn t = mpMany t.s.size 0 0 196 197 ++ t.s.data.toList) ∧ (t.k = 7 → mpOwn t = mpMany t.kids.length 16 144 0 220) ∧ (t.k = 8 → mpOwn t = mpMany (t.kids.length / 2 : Nat) 16 128 0 222) ∧ (t.k = 9 → mpOwn t = [199, 4, 6] ++ bigZ 4 t.n) by
    unfold mpOwn
    refine ⟨fun h => ?_, fun h => ?_, fun h => ?_, fun h => ?_, fun h => ?_, fun h => ?_, fun h => ?_, fun h => ?_, fun h => ?_, fun h => ?_⟩ <;> rw [h] <;> rfl)
  have WB := Lib.hid (fun (bs2 : List Value) (x : Int) (hlen : bs2.length + 1 ≤ 140737488355328) (W : World) (hg : Good B b bs2 (w.alloc (.cells #[.int .i64 t.k, .int .i64 t.n, .int .i64 t.e, .string t.s, .slice a t.kids.length cap] 29)) W) => byte_good B b bs2 _ hBz x hlen W hg)
  have hlt3 : t.kids.length ≤ 300 := by omega
  have hcase : t.k = 0 ∨ t.k = 1 ∨ t.k = 2 ∨ t.k = 3 ∨ t.k = 4 ∨ t.k = 5 ∨ t.k = 6 ∨ t.k = 7 ∨ t.k = 8 ∨ t.k = 9 := by omega
  clear ih hel ha hc hm hN hr hwf hlen hts htn hsz hnd hright hkr hle hkin hw hcl hC hnk htg
  unfold V.agg
  generalize mpL t = R at *
  generalize mpOwn t = O at *
  generalize t.k = k at *
  generalize t.n = n at *
  generalize t.e = e at *
  generalize t.s = s at *
  generalize t.kids = ts at *
  rcases hcase with rfl | rfl | rfl | rfl | rfl | rfl | rfl | rfl | rfl | rfl
  case' inl =>
    have HO := Lib.hid (show O = [192] from HOS.out.1 rfl)
    clear HOS
    have HCS := Lib.hid (show bs.length + 1 ≤ 140737488355328 by omega)
    clear hcl2 hn64 he64 hss hlt3 WS
    go_enter Tryd.func77, Tryd.ntmps77
    obtain ⟨q0, q1, q2, q3, q4⟩ := BOX.out _ _ HG0.out
    go_wp2_with fail
    refine (WB.out _ 192 HCS.out _ HG0.out).mono ?_
    rintro x2 w2 ⟨rfl, hg2⟩
    clear q0 q1 q2 q3 q4 WB
    have HG2 := Lib.hid (show Good B b (bs ++ Lib.byteCells O) (w.alloc (.cells #[.int .i64 0, .int .i64 n, .int .i64 e, .string s, .slice a ts.length cap] 29)) w2 by rw [HO.out]; exact hg2)
    obtain ⟨q0, q1, q2, q3, q4⟩ := BOX.out _ _ HG2.out
    clear BOX HG0
    generalize (w.alloc (.cells #[.int .i64 0, .int .i64 n, .int .i64 e, .string s, .slice a ts.length cap] 29)) = W0 at HG2 HR HWR hBz
    clear HO
  case' inr.inl =>
    have HO := Lib.hid (show O = [194] from HOS.out.2.1 rfl)
    clear HOS
    have HCS := Lib.hid (show bs.length + 1 ≤ 140737488355328 by omega)
    clear hcl2 hn64 he64 hss hlt3 WS
    go_enter Tryd.func77, Tryd.ntmps77
    obtain ⟨q0, q1, q2, q3, q4⟩ := BOX.out _ _ HG0.out
    go_wp2_with fail
    refine (WB.out _ 194 HCS.out _ HG0.out).mono ?_
    rintro x2 w2 ⟨rfl, hg2⟩
    clear q0 q1 q2 q3 q4 WB
    have HG2 := Lib.hid (show Good B b (bs ++ Lib.byteCells O) (w.alloc (.cells #[.int .i64 1, .int .i64 n, .int .i64 e, .string s, .slice a ts.length cap] 29)) w2 by rw [HO.out]; exact hg2)
    obtain ⟨q0, q1, q2, q3, q4⟩ := BOX.out _ _ HG2.out
    clear BOX HG0
    generalize (w.alloc (.cells #[.int .i64 1, .int .i64 n, .int .i64 e, .string s, .slice a ts.length cap] 29)) = W0 at HG2 HR HWR hBz
    clear HO
  case' inr.inr.inl =>
    have HO := Lib.hid (show O = [195] from HOS.out.2.2.1 rfl)
    clear HOS
    have HCS := Lib.hid (show bs.length + 1 ≤ 140737488355328 by omega)
    clear hcl2 hn64 he64 hss hlt3 WS
    go_enter Tryd.func77, Tryd.ntmps77
    obtain ⟨q0, q1, q2, q3, q4⟩ := BOX.out _ _ HG0.out
    go_wp2_with fail
    refine (WB.out _ 195 HCS.out _ HG0.out).mono ?_
    rintro x2 w2 ⟨rfl, hg2⟩
    clear q0 q1 q2 q3 q4 WB
    have HG2 := Lib.hid (show Good B b (bs ++ Lib.byteCells O) (w.alloc (.cells #[.int .i64 2, .int .i64 n, .int .i64 e, .string s, .slice a ts.length cap] 29)) w2 by rw [HO.out]; exact hg2)
    obtain ⟨q0, q1, q2, q3, q4⟩ := BOX.out _ _ HG2.out
    clear BOX HG0
    generalize (w.alloc (.cells #[.int .i64 2, .int .i64 n, .int .i64 e, .string s, .slice a ts.length cap] 29)) = W0 at HG2 HR HWR hBz
    clear HO
  case' inr.inr.inr.inl =>
    have HO := Lib.hid (show O = mpNum n from HOS.out.2.2.2.1 rfl)
    clear HOS
    have PH := Lib.hid (fun (W : World) => putNumber_any n hn64 W)
    have L1 := mpNum_le n
    have hcs : bs.length + (mpNum n).length ≤ 140737488355328 := by omega
    have HCS := Lib.hid hcs; clear hcs L1 hcl2 hn64 he64 hss hlt3 WB
    go_enter Tryd.func77, Tryd.ntmps77
    obtain ⟨q0, q1, q2, q3, q4⟩ := BOX.out _ _ HG0.out
    go_wp2_with fail
    refine (PH.out _).mono ?_
    rintro x1 w1 ⟨rfl, hb1⟩
    have HG1 := Lib.hid (Good.stay hBz hb1 HG0.out)
    clear q0 q1 q2 q3 q4 hb1
    obtain ⟨q0, q1, q2, q3, q4⟩ := BOX.out _ _ HG1.out
    go_wp2_with fail
    refine (WS.out _ _ HCS.out _ HG1.out).mono ?_
    rintro x2 w2 ⟨rfl, hg2⟩
    clear q0 q1 q2 q3 q4 HG1
    rw [str_cells] at hg2
    have HG2 := Lib.hid (show Good B b (bs ++ Lib.byteCells O) (w.alloc (.cells #[.int .i64 3, .int .i64 n, .int .i64 e, .string s, .slice a ts.length cap] 29)) w2 by rw [HO.out]; exact hg2)
    obtain ⟨q0, q1, q2, q3, q4⟩ := BOX.out _ _ HG2.out
    clear BOX WS HG0
    generalize (w.alloc (.cells #[.int .i64 3, .int .i64 n, .int .i64 e, .string s, .slice a ts.length cap] 29)) = W0 at HG2 HR HWR hBz
    clear PH HO
  case inr.inr.inr.inr.inl =>
    have HO := Lib.hid (show O = [199, 9, 4] ++ bigZ 1 e ++ bigZ 8 n from HOS.out.2.2.2.2.1 rfl)
    clear HOS
    have PE := Lib.hid (fun (W : World) => PutWide_any e 1 W (by omega) (by omega))
    have PN := Lib.hid (fun (W : World) => PutWide_any n 8 W (by omega) (by omega))
    have hc3 := fun (W : World) (b : Nat) => run_str3 W b 199 9 4
    have S1 : ¬ 9223372036854775807 < 3 + (bigZ 1 e).length := by rw [bigZ_length]; omega
    have S2 : ¬ 9223372036854775807 < 3 + (bigZ 1 e).length + (bigZ 8 n).length := by rw [bigZ_length, bigZ_length]; omega
    have HCS := Lib.hid (show bs.length + ((⟨[199, 9, 4].toArray⟩ : ByteArray) ++ ⟨(bigZ 1 e).toArray⟩ ++ ⟨(bigZ 8 n).toArray⟩).size ≤ 140737488355328 by rw [cat3, ← HO.out]; show bs.length + O.length ≤ _; omega)
    have HOS := Lib.hid (show Lib.strCells ((⟨[199, 9, 4].toArray⟩ : ByteArray) ++ ⟨(bigZ 1 e).toArray⟩ ++ ⟨(bigZ 8 n).toArray⟩) = Lib.byteCells O by rw [HO.out, cat3]; rfl)
    clear hcl2 hn64 he64 hss hlt3 WB
    go_enter Tryd.func77, Tryd.ntmps77
    obtain ⟨q0, q1, q2, q3, q4⟩ := BOX.out _ _ HG0.out
    go_wp2_with fail
    have hgd : Good B b bs (w.alloc (.cells #[.int .i64 4, .int .i64 n, .int .i64 e, .string s, .slice a ts.length cap] 29)) (w.alloc (.cells #[.int .i64 4, .int .i64 n, .int .i64 e, .string s, .slice a ts.length cap] 29)).drew := ⟨HG0.out.bld, HG0.out.below.drew, HG0.out.kept.drew⟩
    have SK := Lib.hid (fun (bs2 : List Value) (W : World) (hg : Good B b bs2 (w.alloc (.cells #[.int .i64 4, .int .i64 n, .int .i64 e, .string s, .slice a ts.length cap] 29)) W) => And.intro (BOX.out _ _ hg).2.1 (BOX.out _ _ hg).2.2.1)
    refine wp_region_held_drew (S := (fun w' => w'.cell? ⟨w.heap.size, 1, none⟩ = some (.int .i64 n) ∧ w'.cell? ⟨w.heap.size, 2, none⟩ = some (.int .i64 e))) (by kernel_rfl) ?_ (fun hHeld => ?_)
    · exact SK.out _ _ hgd
    have GD := Lib.hid hgd
    refine wpAnyH_take (i := 0) (v := ?_) rfl (by kernel_rfl) (by kernel_rfl) (by kernel_rfl) (fun _ _ _ h => h) (Or.inl ⟨by rfl, ?_⟩) hHeld ?_
    rotate_left
    · (intro w hSw; (try dsimp only at hSw); (try simp only [List.getElem_toArray, List.getElem_cons_succ, List.getElem_cons_zero]); go_simp <;> with_reducible rfl)
    try simp only [List.getElem_toArray, List.getElem_cons_succ, List.getElem_cons_zero, Act.put, List.setIfInBounds_toArray, List.set_cons_zero, List.set_cons_succ]
    refine wpAnyH_take (i := 3) (v := ?_) rfl (by kernel_rfl) (by kernel_rfl) (by kernel_rfl) (fun _ _ _ h => h) (Or.inl ⟨by rfl, ?_⟩) hHeld ?_
    rotate_left
    · (intro w hSw; (try dsimp only at hSw); (try simp only [List.getElem_toArray, List.getElem_cons_succ, List.getElem_cons_zero]); go_simp <;> with_reducible rfl)
    try simp only [List.getElem_toArray, List.getElem_cons_succ, List.getElem_cons_zero, Act.put, List.setIfInBounds_toArray, List.set_cons_zero, List.set_cons_succ]
    refine wpAnyH_take (i := 4) (v := ?_) rfl (by kernel_rfl) (by kernel_rfl) (by kernel_rfl) (fun _ _ _ h => h) (Or.inl ⟨by rfl, ?_⟩) hHeld ?_
    rotate_left
    · (intro w hSw; (try dsimp only at hSw); (try simp only [List.getElem_toArray, List.getElem_cons_succ, List.getElem_cons_zero]); go_simp <;> with_reducible rfl)
    try simp only [List.getElem_toArray, List.getElem_cons_succ, List.getElem_cons_zero, Act.put, List.setIfInBounds_toArray, List.set_cons_zero, List.set_cons_succ]
    refine wpAnyH_take (i := 7) (v := ?_) rfl (by kernel_rfl) (by kernel_rfl) (by kernel_rfl) (fun _ _ _ h => h) (Or.inl ⟨by rfl, ?_⟩) hHeld ?_
    rotate_left
    · (intro w hSw; (try dsimp only at hSw); (try simp only [List.getElem_toArray, List.getElem_cons_succ, List.getElem_cons_zero]); go_simp <;> with_reducible rfl)
    try simp only [List.getElem_toArray, List.getElem_cons_succ, List.getElem_cons_zero, Act.put, List.setIfInBounds_toArray, List.set_cons_zero, List.set_cons_succ]
    refine wpAnyH_take (i := 8) (v := ?_) rfl (by kernel_rfl) (by kernel_rfl) (by kernel_rfl) (fun _ _ _ h => h) (Or.inl ⟨by rfl, ?_⟩) hHeld ?_
    rotate_left
    · (intro w hSw; (try dsimp only at hSw); (try simp only [List.getElem_toArray, List.getElem_cons_succ, List.getElem_cons_zero]); go_simp <;> with_reducible rfl)
    try simp only [List.getElem_toArray, List.getElem_cons_succ, List.getElem_cons_zero, Act.put, List.setIfInBounds_toArray, List.set_cons_zero, List.set_cons_succ]
    refine wpAnyH_ready (rs := [1, 5]) (by kernel_rfl) (by simp) ?_
    refine AllReadyH.cons rfl (fun K hK => ?_) ?_
    · go_simp
      have X1 := Lib.hid (show ((w.alloc (.cells #[.int .i64 4, .int .i64 n, .int .i64 e, .string s, .slice a ts.length cap] 29)).alloc (.cells #[.int .u8 199, .int .u8 9, .int .u8 4] 5)).drew.cell? ⟨(w.heap.size + 1), 0, none⟩ = some (.int .u8 199) ∧ ((w.alloc (.cells #[.int .i64 4, .int .i64 n, .int .i64 e, .string s, .slice a ts.length cap] 29)).alloc (.cells #[.int .u8 199, .int .u8 9, .int .u8 4] 5)).drew.cell? ⟨(w.heap.size + 1), 1, none⟩ = some (.int .u8 9) ∧ ((w.alloc (.cells #[.int .i64 4, .int .i64 n, .int .i64 e, .string s, .slice a ts.length cap] 29)).alloc (.cells #[.int .u8 199, .int .u8 9, .int .u8 4] 5)).drew.cell? ⟨(w.heap.size + 1), 2, none⟩ = some (.int .u8 4) from by refine ⟨?_, ?_, ?_⟩ <;> simp)
      have G1 := Lib.hid (show Good B b bs (w.alloc (.cells #[.int .i64 4, .int .i64 n, .int .i64 e, .string s, .slice a ts.length cap] 29)) ((w.alloc (.cells #[.int .i64 4, .int .i64 n, .int .i64 e, .string s, .slice a ts.length cap] 29)).alloc (.cells #[.int .u8 199, .int .u8 9, .int .u8 4] 5)).drew from Good.stay hBz ((by (with_reducible (repeat' (first | exact Below.refl _ _ | refine below_alloc ?_ _ ?_ | refine Below.setCell ?_ ?_ _ | refine Below.drew ?_ | refine below_drewN ?_ _ | refine below_step ?_ (by assumption) ?_ | refine below_mark ?_ (by assumption) ?_))); all_goals (first | omega | (simp; done) | (simp; omega)))) HG0.out)
      refine hK.out _ _ ?_ (fun hHeld => ?_)
      · exact SK.out _ _ G1.out
      clear hK K
      try simp only [List.getElem_toArray, List.getElem_cons_succ, List.getElem_cons_zero, Act.put, List.setIfInBounds_toArray, List.set_cons_zero, List.set_cons_succ]
      refine wpAnyH_ready (rs := [2, 5]) (by kernel_rfl) (by simp) ?_
      refine AllReadyH.cons rfl (fun K hK => ?_) ?_
      · have hcv := run_str3 ((w.alloc (.cells #[.int .i64 4, .int .i64 n, .int .i64 e, .string s, .slice a ts.length cap] 29)).alloc (.cells #[.int .u8 199, .int .u8 9, .int .u8 4] 5)).drew (w.heap.size + 1) 199 9 4 X1.out.1 X1.out.2.1 X1.out.2.2
        go_simp
        clear hcv
        refine hK.out _ _ ?_ (fun hHeld => ?_)
        · exact SK.out _ _ G1.out
        clear hK K
        try simp only [List.getElem_toArray, List.getElem_cons_succ, List.getElem_cons_zero, Act.put, List.setIfInBounds_toArray, List.set_cons_zero, List.set_cons_succ]
        refine wpAnyH_ready (rs := [5]) (by kernel_rfl) (by simp) ?_
        refine AllReadyH.cons rfl (fun K hK => ?_) ?_
        · go_simp
          refine (PE.out _).mono ?_
          rintro x3 wa3 ⟨rfl, hb3⟩
          have G3 := Lib.hid (Good.stay hBz hb3 G1.out)
          clear hb3
          refine hK.out _ _ ?_ (fun hHeld => ?_)
          · exact SK.out _ _ G3.out
          clear hK K
          try simp only [List.getElem_toArray, List.getElem_cons_succ, List.getElem_cons_zero, Act.put, List.setIfInBounds_toArray, List.set_cons_zero, List.set_cons_succ]
          refine wpAnyH_take (i := 6) (v := ?_) rfl (by kernel_rfl) (by kernel_rfl) (by kernel_rfl) (fun _ _ _ h => h) (Or.inl ⟨by rfl, ?_⟩) hHeld ?_
          rotate_left
          · (intro w hSw; (try dsimp only at hSw); (try simp only [List.getElem_toArray, List.getElem_cons_succ, List.getElem_cons_zero]); go_simp <;> with_reducible rfl)
          try simp only [List.getElem_toArray, List.getElem_cons_succ, List.getElem_cons_zero, Act.put, List.setIfInBounds_toArray, List.set_cons_zero, List.set_cons_succ]
          refine wpAnyH_ready (rs := [9]) (by kernel_rfl) (by simp) ?_
          refine AllReadyH.cons rfl (fun K hK => ?_) ?_
          · go_simp
            refine (PN.out _).mono ?_
            rintro x4 wa4 ⟨rfl, hb4⟩
            have G4 := Lib.hid (Good.stay hBz hb4 G3.out)
            clear hb4
            refine hK.out _ _ ?_ (fun hHeld => ?_)
            · exact SK.out _ _ G4.out
            clear hK K
            try simp only [List.getElem_toArray, List.getElem_cons_succ, List.getElem_cons_zero, Act.put, List.setIfInBounds_toArray, List.set_cons_zero, List.set_cons_succ]
            refine wpAnyH_take (i := 10) (v := ?_) rfl (by kernel_rfl) (by kernel_rfl) (by kernel_rfl) (fun _ _ _ h => h) (Or.inl ⟨by rfl, ?_⟩) hHeld ?_
            rotate_left
            · (intro w hSw; (try dsimp only at hSw); (try simp only [List.getElem_toArray, List.getElem_cons_succ, List.getElem_cons_zero]); go_simp <;> with_reducible rfl)
            try simp only [List.getElem_toArray, List.getElem_cons_succ, List.getElem_cons_zero, Act.put, List.setIfInBounds_toArray, List.set_cons_zero, List.set_cons_succ]
            refine wpAnyH_ready (rs := [11]) (by kernel_rfl) (by simp) ?_
            refine AllReadyH.cons rfl (fun K hK => ?_) ?_
            · go_simp
              refine (WS.out _ _ HCS.out _ G4.out).mono ?_
              rintro x5 wa5 ⟨rfl, hg5⟩
              have G5 := Lib.hid hg5; clear hg5
              refine hK.out _ _ ?_ (fun hHeld => ?_)
              · exact SK.out _ _ G5.out
              clear hK K
              try simp only [List.getElem_toArray, List.getElem_cons_succ, List.getElem_cons_zero, Act.put, List.setIfInBounds_toArray, List.set_cons_zero, List.set_cons_succ]
              refine wpAnyH_done (by kernel_rfl) ?_ _
              have HG2 := Lib.hid (show Good B b (bs ++ Lib.byteCells O) (w.alloc (.cells #[.int .i64 4, .int .i64 n, .int .i64 e, .string s, .slice a ts.length cap] 29)) wa5 by rw [← HOS.out]; exact G5.out)
              obtain ⟨q0, q1, q2, q3, q4⟩ := BOX.out _ _ HG2.out
              clear BOX WS HG0
              generalize (w.alloc (.cells #[.int .i64 4, .int .i64 n, .int .i64 e, .string s, .slice a ts.length cap] 29)) = W0 at HG2 HR HWR hBz
              go_wp2_with fail
              go_loopw [93, 5] (fun i _ wr => ∃ j : Nat, j ≤ ts.length ∧ i = .int .i64 j ∧ Good B b ((bs ++ Lib.byteCells O) ++ Lib.byteCells (mpsL (ts.take j))) W0 wr) (fun i _ _ => ts.length + 1 - (intOf i).toNat)
              case atStart => exact ⟨0, by omega, rfl, by rw [List.take_zero]; simpa [mpsL, Lib.byteCells] using HG2.out⟩
              case round =>
                obtain ⟨j, hj, rfl, hg⟩ := hrel
                clear q0 q1 q2 q3 q4
                have HGJ := Lib.hid hg; clear hg HG2
                by_cases hlt : j < ts.length
                · have hne : ts ≠ [] := by intro e; rw [e] at hlt; simp at hlt
                  obtain ⟨rfl, hbw⟩ := HA.out hne
                  have HWW := Lib.hid (HWR.out _ _ HGJ.out)
                  obtain ⟨c0, c1, c2, c3, c4⟩ := (HE.out j hlt).1.keep (HWW.out.block b2 hbw)
                  have VJ := Lib.hid (fun (W : World) (hW : Below wr.heap.size wr W) => V1.out j hlt W (below_step HWW.out hW (by have := HWW.out.size; omega)) _ (HGJ.out.bld.stay hW) (Nat.le_trans (Nat.le_trans hBz HGJ.out.below.size) hW.size) (HL.out j hlt))
                  have HTJ := Lib.hid (HT.out j hlt)
                  obtain ⟨a3, cap3, hs3⟩ := (HE.out j hlt).2.2.slice
                  rw [hs3] at c4 VJ
                  clear hs3 V1
                  unfold V.agg at VJ
                  generalize mpL ts[j] = C at *
                  go_wp2_with fail
                  refine (VJ.out _ ((by (with_reducible (repeat' (first | exact Below.refl _ _ | refine below_alloc ?_ _ ?_ | refine Below.setCell ?_ ?_ _ | refine Below.drew ?_ | refine below_drewN ?_ _ | refine below_step ?_ (by assumption) ?_ | refine below_mark ?_ (by assumption) ?_))); all_goals (first | omega | (simp; done) | (simp; omega))))).mono ?_
                  rintro x w2 ⟨rfl, hr2⟩
                  have HN := Lib.hid (show Good B b ((bs ++ Lib.byteCells O) ++ Lib.byteCells (mpsL (ts.take (j + 1)))) W0 w2 by
                    rw [HTJ.out, byte_app, ← List.append_assoc]
                    exact (Good.stay hBz ((by (with_reducible (repeat' (first | exact Below.refl _ _ | refine below_alloc ?_ _ ?_ | refine Below.setCell ?_ ?_ _ | refine Below.drew ?_ | refine below_drewN ?_ _ | refine below_step ?_ (by assumption) ?_ | refine below_mark ?_ (by assumption) ?_))); all_goals (first | omega | (simp; done) | (simp; omega)))) HGJ.out).ret hr2)
                  clear hr2
                  go_wp2_with fail
                  go_roundw
                  case rel => ((repeat apply Exists.intro); exact ⟨⟨j + 1, by omega, by go_num, HN.out⟩, rfl⟩)
                  case measure => simp [intOf]; omega
                · go_wp2_with fail
                  go_end0
                  have hj2 : ts.take j = ts := by rw [List.take_of_length_le (by omega)]
                  have hg := HGJ.out
                  rw [hj2] at hg
                  exact ⟨rfl, HR.out _ hg⟩
            exact AllReadyH.nil
          exact AllReadyH.nil
        exact AllReadyH.nil
      refine AllReadyH.cons rfl (fun K hK => ?_) ?_
      · go_simp
        refine (PE.out _).mono ?_
        rintro x6 wa6 ⟨rfl, hb6⟩
        have G6 := Lib.hid (Good.stay hBz hb6 G1.out)
        have X6 := Lib.hid (show wa6.cell? ⟨(w.heap.size + 1), 0, none⟩ = some (.int .u8 199) ∧ wa6.cell? ⟨(w.heap.size + 1), 1, none⟩ = some (.int .u8 9) ∧ wa6.cell? ⟨(w.heap.size + 1), 2, none⟩ = some (.int .u8 4) from ⟨keep1 hb6 X1.out.1, keep1 hb6 X1.out.2.1, keep1 hb6 X1.out.2.2⟩)
        clear hb6
        refine hK.out _ _ ?_ (fun hHeld => ?_)
        · exact SK.out _ _ G6.out
        clear hK K
        try simp only [List.getElem_toArray, List.getElem_cons_succ, List.getElem_cons_zero, Act.put, List.setIfInBounds_toArray, List.set_cons_zero, List.set_cons_succ]
        refine wpAnyH_ready (rs := [2, 9]) (by kernel_rfl) (by simp) ?_
        refine AllReadyH.cons rfl (fun K hK => ?_) ?_
        · have hcv := run_str3 wa6 (w.heap.size + 1) 199 9 4 X6.out.1 X6.out.2.1 X6.out.2.2
          go_simp
          clear hcv
          refine hK.out _ _ ?_ (fun hHeld => ?_)
          · exact SK.out _ _ G6.out
          clear hK K
          try simp only [List.getElem_toArray, List.getElem_cons_succ, List.getElem_cons_zero, Act.put, List.setIfInBounds_toArray, List.set_cons_zero, List.set_cons_succ]
          refine wpAnyH_take (i := 6) (v := ?_) rfl (by kernel_rfl) (by kernel_rfl) (by kernel_rfl) (fun _ _ _ h => h) (Or.inl ⟨by rfl, ?_⟩) hHeld ?_
          rotate_left
          · (intro w hSw; (try dsimp only at hSw); (try simp only [List.getElem_toArray, List.getElem_cons_succ, List.getElem_cons_zero]); go_simp <;> with_reducible rfl)
          try simp only [List.getElem_toArray, List.getElem_cons_succ, List.getElem_cons_zero, Act.put, List.setIfInBounds_toArray, List.set_cons_zero, List.set_cons_succ]
          refine wpAnyH_ready (rs := [9]) (by kernel_rfl) (by simp) ?_
          refine AllReadyH.cons rfl (fun K hK => ?_) ?_
          · go_simp
            refine (PN.out _).mono ?_
            rintro x8 wa8 ⟨rfl, hb8⟩
            have G8 := Lib.hid (Good.stay hBz hb8 G6.out)
            clear hb8
            refine hK.out _ _ ?_ (fun hHeld => ?_)
            · exact SK.out _ _ G8.out
            clear hK K
            try simp only [List.getElem_toArray, List.getElem_cons_succ, List.getElem_cons_zero, Act.put, List.setIfInBounds_toArray, List.set_cons_zero, List.set_cons_succ]
            refine wpAnyH_take (i := 10) (v := ?_) rfl (by kernel_rfl) (by kernel_rfl) (by kernel_rfl) (fun _ _ _ h => h) (Or.inl ⟨by rfl, ?_⟩) hHeld ?_
            rotate_left
            · (intro w hSw; (try dsimp only at hSw); (try simp only [List.getElem_toArray, List.getElem_cons_succ, List.getElem_cons_zero]); go_simp <;> with_reducible rfl)
            try simp only [List.getElem_toArray, List.getElem_cons_succ, List.getElem_cons_zero, Act.put, List.setIfInBounds_toArray, List.set_cons_zero, List.set_cons_succ]
            refine wpAnyH_ready (rs := [11]) (by kernel_rfl) (by simp) ?_
            refine AllReadyH.cons rfl (fun K hK => ?_) ?_
            · go_simp
              refine (WS.out _ _ HCS.out _ G8.out).mono ?_
              rintro x9 wa9 ⟨rfl, hg9⟩
              have G9 := Lib.hid hg9; clear hg9
              refine hK.out _ _ ?_ (fun hHeld => ?_)
              · exact SK.out _ _ G9.out
              clear hK K
              try simp only [List.getElem_toArray, List.getElem_cons_succ, List.getElem_cons_zero, Act.put, List.setIfInBounds_toArray, List.set_cons_zero, List.set_cons_succ]
              refine wpAnyH_done (by kernel_rfl) ?_ _
              have HG2 := Lib.hid (show Good B b (bs ++ Lib.byteCells O) (w.alloc (.cells #[.int .i64 4, .int .i64 n, .int .i64 e, .string s, .slice a ts.length cap] 29)) wa9 by rw [← HOS.out]; exact G9.out)
              obtain ⟨q0, q1, q2, q3, q4⟩ := BOX.out _ _ HG2.out
              clear BOX WS HG0
              generalize (w.alloc (.cells #[.int .i64 4, .int .i64 n, .int .i64 e, .string s, .slice a ts.length cap] 29)) = W0 at HG2 HR HWR hBz
              go_wp2_with fail
              go_loopw [93, 5] (fun i _ wr => ∃ j : Nat, j ≤ ts.length ∧ i = .int .i64 j ∧ Good B b ((bs ++ Lib.byteCells O) ++ Lib.byteCells (mpsL (ts.take j))) W0 wr) (fun i _ _ => ts.length + 1 - (intOf i).toNat)
              case atStart => exact ⟨0, by omega, rfl, by rw [List.take_zero]; simpa [mpsL, Lib.byteCells] using HG2.out⟩
              case round =>
                obtain ⟨j, hj, rfl, hg⟩ := hrel
                clear q0 q1 q2 q3 q4
                have HGJ := Lib.hid hg; clear hg HG2
                by_cases hlt : j < ts.length
                · have hne : ts ≠ [] := by intro e; rw [e] at hlt; simp at hlt
                  obtain ⟨rfl, hbw⟩ := HA.out hne
                  have HWW := Lib.hid (HWR.out _ _ HGJ.out)
                  obtain ⟨c0, c1, c2, c3, c4⟩ := (HE.out j hlt).1.keep (HWW.out.block b2 hbw)
                  have VJ := Lib.hid (fun (W : World) (hW : Below wr.heap.size wr W) => V1.out j hlt W (below_step HWW.out hW (by have := HWW.out.size; omega)) _ (HGJ.out.bld.stay hW) (Nat.le_trans (Nat.le_trans hBz HGJ.out.below.size) hW.size) (HL.out j hlt))
                  have HTJ := Lib.hid (HT.out j hlt)
                  obtain ⟨a3, cap3, hs3⟩ := (HE.out j hlt).2.2.slice
                  rw [hs3] at c4 VJ
                  clear hs3 V1
                  unfold V.agg at VJ
                  generalize mpL ts[j] = C at *
                  go_wp2_with fail
                  refine (VJ.out _ ((by (with_reducible (repeat' (first | exact Below.refl _ _ | refine below_alloc ?_ _ ?_ | refine Below.setCell ?_ ?_ _ | refine Below.drew ?_ | refine below_drewN ?_ _ | refine below_step ?_ (by assumption) ?_ | refine below_mark ?_ (by assumption) ?_))); all_goals (first | omega | (simp; done) | (simp; omega))))).mono ?_
                  rintro x w2 ⟨rfl, hr2⟩
                  have HN := Lib.hid (show Good B b ((bs ++ Lib.byteCells O) ++ Lib.byteCells (mpsL (ts.take (j + 1)))) W0 w2 by
                    rw [HTJ.out, byte_app, ← List.append_assoc]
                    exact (Good.stay hBz ((by (with_reducible (repeat' (first | exact Below.refl _ _ | refine below_alloc ?_ _ ?_ | refine Below.setCell ?_ ?_ _ | refine Below.drew ?_ | refine below_drewN ?_ _ | refine below_step ?_ (by assumption) ?_ | refine below_mark ?_ (by assumption) ?_))); all_goals (first | omega | (simp; done) | (simp; omega)))) HGJ.out).ret hr2)
                  clear hr2
                  go_wp2_with fail
                  go_roundw
                  case rel => ((repeat apply Exists.intro); exact ⟨⟨j + 1, by omega, by go_num, HN.out⟩, rfl⟩)
                  case measure => simp [intOf]; omega
                · go_wp2_with fail
                  go_end0
                  have hj2 : ts.take j = ts := by rw [List.take_of_length_le (by omega)]
                  have hg := HGJ.out
                  rw [hj2] at hg
                  exact ⟨rfl, HR.out _ hg⟩
            exact AllReadyH.nil
          exact AllReadyH.nil
        refine AllReadyH.cons rfl (fun K hK => ?_) ?_
        · go_simp
          refine (PN.out _).mono ?_
          rintro x10 wa10 ⟨rfl, hb10⟩
          have G10 := Lib.hid (Good.stay hBz hb10 G6.out)
          have X10 := Lib.hid (show wa10.cell? ⟨(w.heap.size + 1), 0, none⟩ = some (.int .u8 199) ∧ wa10.cell? ⟨(w.heap.size + 1), 1, none⟩ = some (.int .u8 9) ∧ wa10.cell? ⟨(w.heap.size + 1), 2, none⟩ = some (.int .u8 4) from ⟨keep1 hb10 X6.out.1, keep1 hb10 X6.out.2.1, keep1 hb10 X6.out.2.2⟩)
          clear hb10
          refine hK.out _ _ ?_ (fun hHeld => ?_)
          · exact SK.out _ _ G10.out
          clear hK K
          try simp only [List.getElem_toArray, List.getElem_cons_succ, List.getElem_cons_zero, Act.put, List.setIfInBounds_toArray, List.set_cons_zero, List.set_cons_succ]
          refine wpAnyH_ready (rs := [2]) (by kernel_rfl) (by simp) ?_
          refine AllReadyH.cons rfl (fun K hK => ?_) ?_
          · have hcv := run_str3 wa10 (w.heap.size + 1) 199 9 4 X10.out.1 X10.out.2.1 X10.out.2.2
            go_simp
            clear hcv
            refine hK.out _ _ ?_ (fun hHeld => ?_)
            · exact SK.out _ _ G10.out
            clear hK K
            try simp only [List.getElem_toArray, List.getElem_cons_succ, List.getElem_cons_zero, Act.put, List.setIfInBounds_toArray, List.set_cons_zero, List.set_cons_succ]
            refine wpAnyH_take (i := 6) (v := ?_) rfl (by kernel_rfl) (by kernel_rfl) (by kernel_rfl) (fun _ _ _ h => h) (Or.inl ⟨by rfl, ?_⟩) hHeld ?_
            rotate_left
            · (intro w hSw; (try dsimp only at hSw); (try simp only [List.getElem_toArray, List.getElem_cons_succ, List.getElem_cons_zero]); go_simp <;> with_reducible rfl)
            try simp only [List.getElem_toArray, List.getElem_cons_succ, List.getElem_cons_zero, Act.put, List.setIfInBounds_toArray, List.set_cons_zero, List.set_cons_succ]
            refine wpAnyH_take (i := 10) (v := ?_) rfl (by kernel_rfl) (by kernel_rfl) (by kernel_rfl) (fun _ _ _ h => h) (Or.inl ⟨by rfl, ?_⟩) hHeld ?_
            rotate_left
            · (intro w hSw; (try dsimp only at hSw); (try simp only [List.getElem_toArray, List.getElem_cons_succ, List.getElem_cons_zero]); go_simp <;> with_reducible rfl)
            try simp only [List.getElem_toArray, List.getElem_cons_succ, List.getElem_cons_zero, Act.put, List.setIfInBounds_toArray, List.set_cons_zero, List.set_cons_succ]
            refine wpAnyH_ready (rs := [11]) (by kernel_rfl) (by simp) ?_
            refine AllReadyH.cons rfl (fun K hK => ?_) ?_
            · go_simp
              refine (WS.out _ _ HCS.out _ G10.out).mono ?_
              rintro x12 wa12 ⟨rfl, hg12⟩
              have G12 := Lib.hid hg12; clear hg12
              refine hK.out _ _ ?_ (fun hHeld => ?_)
              · exact SK.out _ _ G12.out
              clear hK K
              try simp only [List.getElem_toArray, List.getElem_cons_succ, List.getElem_cons_zero, Act.put, List.setIfInBounds_toArray, List.set_cons_zero, List.set_cons_succ]
              refine wpAnyH_done (by kernel_rfl) ?_ _
              have HG2 := Lib.hid (show Good B b (bs ++ Lib.byteCells O) (w.alloc (.cells #[.int .i64 4, .int .i64 n, .int .i64 e, .string s, .slice a ts.length cap] 29)) wa12 by rw [← HOS.out]; exact G12.out)
              obtain ⟨q0, q1, q2, q3, q4⟩ := BOX.out _ _ HG2.out
              clear BOX WS HG0
              generalize (w.alloc (.cells #[.int .i64 4, .int .i64 n, .int .i64 e, .string s, .slice a ts.length cap] 29)) = W0 at HG2 HR HWR hBz
              go_wp2_with fail
              go_loopw [93, 5] (fun i _ wr => ∃ j : Nat, j ≤ ts.length ∧ i = .int .i64 j ∧ Good B b ((bs ++ Lib.byteCells O) ++ Lib.byteCells (mpsL (ts.take j))) W0 wr) (fun i _ _ => ts.length + 1 - (intOf i).toNat)
              case atStart => exact ⟨0, by omega, rfl, by rw [List.take_zero]; simpa [mpsL, Lib.byteCells] using HG2.out⟩
              case round =>
                obtain ⟨j, hj, rfl, hg⟩ := hrel
                clear q0 q1 q2 q3 q4
                have HGJ := Lib.hid hg; clear hg HG2
                by_cases hlt : j < ts.length
                · have hne : ts ≠ [] := by intro e; rw [e] at hlt; simp at hlt
                  obtain ⟨rfl, hbw⟩ := HA.out hne
                  have HWW := Lib.hid (HWR.out _ _ HGJ.out)
                  obtain ⟨c0, c1, c2, c3, c4⟩ := (HE.out j hlt).1.keep (HWW.out.block b2 hbw)
                  have VJ := Lib.hid (fun (W : World) (hW : Below wr.heap.size wr W) => V1.out j hlt W (below_step HWW.out hW (by have := HWW.out.size; omega)) _ (HGJ.out.bld.stay hW) (Nat.le_trans (Nat.le_trans hBz HGJ.out.below.size) hW.size) (HL.out j hlt))
                  have HTJ := Lib.hid (HT.out j hlt)
                  obtain ⟨a3, cap3, hs3⟩ := (HE.out j hlt).2.2.slice
                  rw [hs3] at c4 VJ
                  clear hs3 V1
                  unfold V.agg at VJ
                  generalize mpL ts[j] = C at *
                  go_wp2_with fail
                  refine (VJ.out _ ((by (with_reducible (repeat' (first | exact Below.refl _ _ | refine below_alloc ?_ _ ?_ | refine Below.setCell ?_ ?_ _ | refine Below.drew ?_ | refine below_drewN ?_ _ | refine below_step ?_ (by assumption) ?_ | refine below_mark ?_ (by assumption) ?_))); all_goals (first | omega | (simp; done) | (simp; omega))))).mono ?_
                  rintro x w2 ⟨rfl, hr2⟩
                  have HN := Lib.hid (show Good B b ((bs ++ Lib.byteCells O) ++ Lib.byteCells (mpsL (ts.take (j + 1)))) W0 w2 by
                    rw [HTJ.out, byte_app, ← List.append_assoc]
                    exact (Good.stay hBz ((by (with_reducible (repeat' (first | exact Below.refl _ _ | refine below_alloc ?_ _ ?_ | refine Below.setCell ?_ ?_ _ | refine Below.drew ?_ | refine below_drewN ?_ _ | refine below_step ?_ (by assumption) ?_ | refine below_mark ?_ (by assumption) ?_))); all_goals (first | omega | (simp; done) | (simp; omega)))) HGJ.out).ret hr2)
                  clear hr2
                  go_wp2_with fail
                  go_roundw
                  case rel => ((repeat apply Exists.intro); exact ⟨⟨j + 1, by omega, by go_num, HN.out⟩, rfl⟩)
                  case measure => simp [intOf]; omega
                · go_wp2_with fail
                  go_end0
                  have hj2 : ts.take j = ts := by rw [List.take_of_length_le (by omega)]
                  have hg := HGJ.out
                  rw [hj2] at hg
                  exact ⟨rfl, HR.out _ hg⟩
            exact AllReadyH.nil
          exact AllReadyH.nil
        exact AllReadyH.nil
      exact AllReadyH.nil
    refine AllReadyH.cons rfl (fun K hK => ?_) ?_
    · go_simp
      refine (PE.out _).mono ?_
      rintro x13 wa13 ⟨rfl, hb13⟩
      have G13 := Lib.hid (Good.stay hBz hb13 GD.out)
      clear hb13
      refine hK.out _ _ ?_ (fun hHeld => ?_)
      · exact SK.out _ _ G13.out
      clear hK K
      try simp only [List.getElem_toArray, List.getElem_cons_succ, List.getElem_cons_zero, Act.put, List.setIfInBounds_toArray, List.set_cons_zero, List.set_cons_succ]
      refine wpAnyH_ready (rs := [1, 9]) (by kernel_rfl) (by simp) ?_
      refine AllReadyH.cons rfl (fun K hK => ?_) ?_
      · go_simp
        have X14 := Lib.hid (show (wa13.alloc (.cells #[.int .u8 199, .int .u8 9, .int .u8 4] 5)).cell? ⟨wa13.heap.size, 0, none⟩ = some (.int .u8 199) ∧ (wa13.alloc (.cells #[.int .u8 199, .int .u8 9, .int .u8 4] 5)).cell? ⟨wa13.heap.size, 1, none⟩ = some (.int .u8 9) ∧ (wa13.alloc (.cells #[.int .u8 199, .int .u8 9, .int .u8 4] 5)).cell? ⟨wa13.heap.size, 2, none⟩ = some (.int .u8 4) from by refine ⟨?_, ?_, ?_⟩ <;> simp)
        have G14 := Lib.hid (show Good B b bs (w.alloc (.cells #[.int .i64 4, .int .i64 n, .int .i64 e, .string s, .slice a ts.length cap] 29)) (wa13.alloc (.cells #[.int .u8 199, .int .u8 9, .int .u8 4] 5)) from Good.stay hBz ((by (with_reducible (repeat' (first | exact Below.refl _ _ | refine below_alloc ?_ _ ?_ | refine Below.setCell ?_ ?_ _ | refine Below.drew ?_ | refine below_drewN ?_ _ | refine below_step ?_ (by assumption) ?_ | refine below_mark ?_ (by assumption) ?_))); all_goals (first | omega | (simp; done) | (simp; omega)))) G13.out)
        refine hK.out _ _ ?_ (fun hHeld => ?_)
        · exact SK.out _ _ G14.out
        clear hK K
        try simp only [List.getElem_toArray, List.getElem_cons_succ, List.getElem_cons_zero, Act.put, List.setIfInBounds_toArray, List.set_cons_zero, List.set_cons_succ]
        refine wpAnyH_ready (rs := [2, 9]) (by kernel_rfl) (by simp) ?_
        refine AllReadyH.cons rfl (fun K hK => ?_) ?_
        · have hcv := run_str3 (wa13.alloc (.cells #[.int .u8 199, .int .u8 9, .int .u8 4] 5)) wa13.heap.size 199 9 4 X14.out.1 X14.out.2.1 X14.out.2.2
          go_simp
          clear hcv
          refine hK.out _ _ ?_ (fun hHeld => ?_)
          · exact SK.out _ _ G14.out
          clear hK K
          try simp only [List.getElem_toArray, List.getElem_cons_succ, List.getElem_cons_zero, Act.put, List.setIfInBounds_toArray, List.set_cons_zero, List.set_cons_succ]
          refine wpAnyH_take (i := 6) (v := ?_) rfl (by kernel_rfl) (by kernel_rfl) (by kernel_rfl) (fun _ _ _ h => h) (Or.inl ⟨by rfl, ?_⟩) hHeld ?_
          rotate_left
          · (intro w hSw; (try dsimp only at hSw); (try simp only [List.getElem_toArray, List.getElem_cons_succ, List.getElem_cons_zero]); go_simp <;> with_reducible rfl)
          try simp only [List.getElem_toArray, List.getElem_cons_succ, List.getElem_cons_zero, Act.put, List.setIfInBounds_toArray, List.set_cons_zero, List.set_cons_succ]
          refine wpAnyH_ready (rs := [9]) (by kernel_rfl) (by simp) ?_
          refine AllReadyH.cons rfl (fun K hK => ?_) ?_
          · go_simp
            refine (PN.out _).mono ?_
            rintro x16 wa16 ⟨rfl, hb16⟩
            have G16 := Lib.hid (Good.stay hBz hb16 G14.out)
            clear hb16
            refine hK.out _ _ ?_ (fun hHeld => ?_)
            · exact SK.out _ _ G16.out
            clear hK K
            try simp only [List.getElem_toArray, List.getElem_cons_succ, List.getElem_cons_zero, Act.put, List.setIfInBounds_toArray, List.set_cons_zero, List.set_cons_succ]
            refine wpAnyH_take (i := 10) (v := ?_) rfl (by kernel_rfl) (by kernel_rfl) (by kernel_rfl) (fun _ _ _ h => h) (Or.inl ⟨by rfl, ?_⟩) hHeld ?_
            rotate_left
            · (intro w hSw; (try dsimp only at hSw); (try simp only [List.getElem_toArray, List.getElem_cons_succ, List.getElem_cons_zero]); go_simp <;> with_reducible rfl)
            try simp only [List.getElem_toArray, List.getElem_cons_succ, List.getElem_cons_zero, Act.put, List.setIfInBounds_toArray, List.set_cons_zero, List.set_cons_succ]
            refine wpAnyH_ready (rs := [11]) (by kernel_rfl) (by simp) ?_
            refine AllReadyH.cons rfl (fun K hK => ?_) ?_
            · go_simp
              refine (WS.out _ _ HCS.out _ G16.out).mono ?_
              rintro x17 wa17 ⟨rfl, hg17⟩
              have G17 := Lib.hid hg17; clear hg17
              refine hK.out _ _ ?_ (fun hHeld => ?_)
              · exact SK.out _ _ G17.out
              clear hK K
              try simp only [List.getElem_toArray, List.getElem_cons_succ, List.getElem_cons_zero, Act.put, List.setIfInBounds_toArray, List.set_cons_zero, List.set_cons_succ]
              refine wpAnyH_done (by kernel_rfl) ?_ _
              have HG2 := Lib.hid (show Good B b (bs ++ Lib.byteCells O) (w.alloc (.cells #[.int .i64 4, .int .i64 n, .int .i64 e, .string s, .slice a ts.length cap] 29)) wa17 by rw [← HOS.out]; exact G17.out)
              obtain ⟨q0, q1, q2, q3, q4⟩ := BOX.out _ _ HG2.out
              clear BOX WS HG0
              generalize (w.alloc (.cells #[.int .i64 4, .int .i64 n, .int .i64 e, .string s, .slice a ts.length cap] 29)) = W0 at HG2 HR HWR hBz
              go_wp2_with fail
              go_loopw [93, 5] (fun i _ wr => ∃ j : Nat, j ≤ ts.length ∧ i = .int .i64 j ∧ Good B b ((bs ++ Lib.byteCells O) ++ Lib.byteCells (mpsL (ts.take j))) W0 wr) (fun i _ _ => ts.length + 1 - (intOf i).toNat)
              case atStart => exact ⟨0, by omega, rfl, by rw [List.take_zero]; simpa [mpsL, Lib.byteCells] using HG2.out⟩
              case round =>
                obtain ⟨j, hj, rfl, hg⟩ := hrel
                clear q0 q1 q2 q3 q4
                have HGJ := Lib.hid hg; clear hg HG2
                by_cases hlt : j < ts.length
                · have hne : ts ≠ [] := by intro e; rw [e] at hlt; simp at hlt
                  obtain ⟨rfl, hbw⟩ := HA.out hne
                  have HWW := Lib.hid (HWR.out _ _ HGJ.out)
                  obtain ⟨c0, c1, c2, c3, c4⟩ := (HE.out j hlt).1.keep (HWW.out.block b2 hbw)
                  have VJ := Lib.hid (fun (W : World) (hW : Below wr.heap.size wr W) => V1.out j hlt W (below_step HWW.out hW (by have := HWW.out.size; omega)) _ (HGJ.out.bld.stay hW) (Nat.le_trans (Nat.le_trans hBz HGJ.out.below.size) hW.size) (HL.out j hlt))
                  have HTJ := Lib.hid (HT.out j hlt)
                  obtain ⟨a3, cap3, hs3⟩ := (HE.out j hlt).2.2.slice
                  rw [hs3] at c4 VJ
                  clear hs3 V1
                  unfold V.agg at VJ
                  generalize mpL ts[j] = C at *
                  go_wp2_with fail
                  refine (VJ.out _ ((by (with_reducible (repeat' (first | exact Below.refl _ _ | refine below_alloc ?_ _ ?_ | refine Below.setCell ?_ ?_ _ | refine Below.drew ?_ | refine below_drewN ?_ _ | refine below_step ?_ (by assumption) ?_ | refine below_mark ?_ (by assumption) ?_))); all_goals (first | omega | (simp; done) | (simp; omega))))).mono ?_
                  rintro x w2 ⟨rfl, hr2⟩
                  have HN := Lib.hid (show Good B b ((bs ++ Lib.byteCells O) ++ Lib.byteCells (mpsL (ts.take (j + 1)))) W0 w2 by
                    rw [HTJ.out, byte_app, ← List.append_assoc]
                    exact (Good.stay hBz ((by (with_reducible (repeat' (first | exact Below.refl _ _ | refine below_alloc ?_ _ ?_ | refine Below.setCell ?_ ?_ _ | refine Below.drew ?_ | refine below_drewN ?_ _ | refine below_step ?_ (by assumption) ?_ | refine below_mark ?_ (by assumption) ?_))); all_goals (first | omega | (simp; done) | (simp; omega)))) HGJ.out).ret hr2)
                  clear hr2
                  go_wp2_with fail
                  go_roundw
                  case rel => ((repeat apply Exists.intro); exact ⟨⟨j + 1, by omega, by go_num, HN.out⟩, rfl⟩)
                  case measure => simp [intOf]; omega
                · go_wp2_with fail
                  go_end0
                  have hj2 : ts.take j = ts := by rw [List.take_of_length_le (by omega)]
                  have hg := HGJ.out
                  rw [hj2] at hg
                  exact ⟨rfl, HR.out _ hg⟩
            exact AllReadyH.nil
          exact AllReadyH.nil
        refine AllReadyH.cons rfl (fun K hK => ?_) ?_
        · go_simp
          refine (PN.out _).mono ?_
          rintro x18 wa18 ⟨rfl, hb18⟩
          have G18 := Lib.hid (Good.stay hBz hb18 G14.out)
          have X18 := Lib.hid (show wa18.cell? ⟨wa13.heap.size, 0, none⟩ = some (.int .u8 199) ∧ wa18.cell? ⟨wa13.heap.size, 1, none⟩ = some (.int .u8 9) ∧ wa18.cell? ⟨wa13.heap.size, 2, none⟩ = some (.int .u8 4) from ⟨keep1 hb18 X14.out.1, keep1 hb18 X14.out.2.1, keep1 hb18 X14.out.2.2⟩)
          clear hb18
          refine hK.out _ _ ?_ (fun hHeld => ?_)
          · exact SK.out _ _ G18.out
          clear hK K
          try simp only [List.getElem_toArray, List.getElem_cons_succ, List.getElem_cons_zero, Act.put, List.setIfInBounds_toArray, List.set_cons_zero, List.set_cons_succ]
          refine wpAnyH_ready (rs := [2]) (by kernel_rfl) (by simp) ?_
          refine AllReadyH.cons rfl (fun K hK => ?_) ?_
          · have hcv := run_str3 wa18 wa13.heap.size 199 9 4 X18.out.1 X18.out.2.1 X18.out.2.2
            go_simp
            clear hcv
            refine hK.out _ _ ?_ (fun hHeld => ?_)
            · exact SK.out _ _ G18.out
            clear hK K
            try simp only [List.getElem_toArray, List.getElem_cons_succ, List.getElem_cons_zero, Act.put, List.setIfInBounds_toArray, List.set_cons_zero, List.set_cons_succ]
            refine wpAnyH_take (i := 6) (v := ?_) rfl (by kernel_rfl) (by kernel_rfl) (by kernel_rfl) (fun _ _ _ h => h) (Or.inl ⟨by rfl, ?_⟩) hHeld ?_
            rotate_left
            · (intro w hSw; (try dsimp only at hSw); (try simp only [List.getElem_toArray, List.getElem_cons_succ, List.getElem_cons_zero]); go_simp <;> with_reducible rfl)
            try simp only [List.getElem_toArray, List.getElem_cons_succ, List.getElem_cons_zero, Act.put, List.setIfInBounds_toArray, List.set_cons_zero, List.set_cons_succ]
            refine wpAnyH_take (i := 10) (v := ?_) rfl (by kernel_rfl) (by kernel_rfl) (by kernel_rfl) (fun _ _ _ h => h) (Or.inl ⟨by rfl, ?_⟩) hHeld ?_
            rotate_left
            · (intro w hSw; (try dsimp only at hSw); (try simp only [List.getElem_toArray, List.getElem_cons_succ, List.getElem_cons_zero]); go_simp <;> with_reducible rfl)
            try simp only [List.getElem_toArray, List.getElem_cons_succ, List.getElem_cons_zero, Act.put, List.setIfInBounds_toArray, List.set_cons_zero, List.set_cons_succ]
            refine wpAnyH_ready (rs := [11]) (by kernel_rfl) (by simp) ?_
            refine AllReadyH.cons rfl (fun K hK => ?_) ?_
            · go_simp
              refine (WS.out _ _ HCS.out _ G18.out).mono ?_
              rintro x20 wa20 ⟨rfl, hg20⟩
              have G20 := Lib.hid hg20; clear hg20
              refine hK.out _ _ ?_ (fun hHeld => ?_)
              · exact SK.out _ _ G20.out
              clear hK K
              try simp only [List.getElem_toArray, List.getElem_cons_succ, List.getElem_cons_zero, Act.put, List.setIfInBounds_toArray, List.set_cons_zero, List.set_cons_succ]
              refine wpAnyH_done (by kernel_rfl) ?_ _
              have HG2 := Lib.hid (show Good B b (bs ++ Lib.byteCells O) (w.alloc (.cells #[.int .i64 4, .int .i64 n, .int .i64 e, .string s, .slice a ts.length cap] 29)) wa20 by rw [← HOS.out]; exact G20.out)
              obtain ⟨q0, q1, q2, q3, q4⟩ := BOX.out _ _ HG2.out
              clear BOX WS HG0
              generalize (w.alloc (.cells #[.int .i64 4, .int .i64 n, .int .i64 e, .string s, .slice a ts.length cap] 29)) = W0 at HG2 HR HWR hBz
              go_wp2_with fail
              go_loopw [93, 5] (fun i _ wr => ∃ j : Nat, j ≤ ts.length ∧ i = .int .i64 j ∧ Good B b ((bs ++ Lib.byteCells O) ++ Lib.byteCells (mpsL (ts.take j))) W0 wr) (fun i _ _ => ts.length + 1 - (intOf i).toNat)
              case atStart => exact ⟨0, by omega, rfl, by rw [List.take_zero]; simpa [mpsL, Lib.byteCells] using HG2.out⟩
              case round =>
                obtain ⟨j, hj, rfl, hg⟩ := hrel
                clear q0 q1 q2 q3 q4
                have HGJ := Lib.hid hg; clear hg HG2
                by_cases hlt : j < ts.length
                · have hne : ts ≠ [] := by intro e; rw [e] at hlt; simp at hlt
                  obtain ⟨rfl, hbw⟩ := HA.out hne
                  have HWW := Lib.hid (HWR.out _ _ HGJ.out)
                  obtain ⟨c0, c1, c2, c3, c4⟩ := (HE.out j hlt).1.keep (HWW.out.block b2 hbw)
                  have VJ := Lib.hid (fun (W : World) (hW : Below wr.heap.size wr W) => V1.out j hlt W (below_step HWW.out hW (by have := HWW.out.size; omega)) _ (HGJ.out.bld.stay hW) (Nat.le_trans (Nat.le_trans hBz HGJ.out.below.size) hW.size) (HL.out j hlt))
                  have HTJ := Lib.hid (HT.out j hlt)
                  obtain ⟨a3, cap3, hs3⟩ := (HE.out j hlt).2.2.slice
                  rw [hs3] at c4 VJ
                  clear hs3 V1
                  unfold V.agg at VJ
                  generalize mpL ts[j] = C at *
                  go_wp2_with fail
                  refine (VJ.out _ ((by (with_reducible (repeat' (first | exact Below.refl _ _ | refine below_alloc ?_ _ ?_ | refine Below.setCell ?_ ?_ _ | refine Below.drew ?_ | refine below_drewN ?_ _ | refine below_step ?_ (by assumption) ?_ | refine below_mark ?_ (by assumption) ?_))); all_goals (first | omega | (simp; done) | (simp; omega))))).mono ?_
                  rintro x w2 ⟨rfl, hr2⟩
                  have HN := Lib.hid (show Good B b ((bs ++ Lib.byteCells O) ++ Lib.byteCells (mpsL (ts.take (j + 1)))) W0 w2 by
                    rw [HTJ.out, byte_app, ← List.append_assoc]
                    exact (Good.stay hBz ((by (with_reducible (repeat' (first | exact Below.refl _ _ | refine below_alloc ?_ _ ?_ | refine Below.setCell ?_ ?_ _ | refine Below.drew ?_ | refine below_drewN ?_ _ | refine below_step ?_ (by assumption) ?_ | refine below_mark ?_ (by assumption) ?_))); all_goals (first | omega | (simp; done) | (simp; omega)))) HGJ.out).ret hr2)
                  clear hr2
                  go_wp2_with fail
                  go_roundw
                  case rel => ((repeat apply Exists.intro); exact ⟨⟨j + 1, by omega, by go_num, HN.out⟩, rfl⟩)
                  case measure => simp [intOf]; omega
                · go_wp2_with fail
                  go_end0
                  have hj2 : ts.take j = ts := by rw [List.take_of_length_le (by omega)]
                  have hg := HGJ.out
                  rw [hj2] at hg
                  exact ⟨rfl, HR.out _ hg⟩
            exact AllReadyH.nil
          exact AllReadyH.nil
        exact AllReadyH.nil
      refine AllReadyH.cons rfl (fun K hK => ?_) ?_
      · go_simp
        refine (PN.out _).mono ?_
        rintro x21 wa21 ⟨rfl, hb21⟩
        have G21 := Lib.hid (Good.stay hBz hb21 G13.out)
        clear hb21
        refine hK.out _ _ ?_ (fun hHeld => ?_)
        · exact SK.out _ _ G21.out
        clear hK K
        try simp only [List.getElem_toArray, List.getElem_cons_succ, List.getElem_cons_zero, Act.put, List.setIfInBounds_toArray, List.set_cons_zero, List.set_cons_succ]
        refine wpAnyH_ready (rs := [1]) (by kernel_rfl) (by simp) ?_
        refine AllReadyH.cons rfl (fun K hK => ?_) ?_
        · go_simp
          have X22 := Lib.hid (show (wa21.alloc (.cells #[.int .u8 199, .int .u8 9, .int .u8 4] 5)).cell? ⟨wa21.heap.size, 0, none⟩ = some (.int .u8 199) ∧ (wa21.alloc (.cells #[.int .u8 199, .int .u8 9, .int .u8 4] 5)).cell? ⟨wa21.heap.size, 1, none⟩ = some (.int .u8 9) ∧ (wa21.alloc (.cells #[.int .u8 199, .int .u8 9, .int .u8 4] 5)).cell? ⟨wa21.heap.size, 2, none⟩ = some (.int .u8 4) from by refine ⟨?_, ?_, ?_⟩ <;> simp)
          have G22 := Lib.hid (show Good B b bs (w.alloc (.cells #[.int .i64 4, .int .i64 n, .int .i64 e, .string s, .slice a ts.length cap] 29)) (wa21.alloc (.cells #[.int .u8 199, .int .u8 9, .int .u8 4] 5)) from Good.stay hBz ((by (with_reducible (repeat' (first | exact Below.refl _ _ | refine below_alloc ?_ _ ?_ | refine Below.setCell ?_ ?_ _ | refine Below.drew ?_ | refine below_drewN ?_ _ | refine below_step ?_ (by assumption) ?_ | refine below_mark ?_ (by assumption) ?_))); all_goals (first | omega | (simp; done) | (simp; omega)))) G21.out)
          refine hK.out _ _ ?_ (fun hHeld => ?_)
          · exact SK.out _ _ G22.out
          clear hK K
          try simp only [List.getElem_toArray, List.getElem_cons_succ, List.getElem_cons_zero, Act.put, List.setIfInBounds_toArray, List.set_cons_zero, List.set_cons_succ]
          refine wpAnyH_ready (rs := [2]) (by kernel_rfl) (by simp) ?_
          refine AllReadyH.cons rfl (fun K hK => ?_) ?_
          · have hcv := run_str3 (wa21.alloc (.cells #[.int .u8 199, .int .u8 9, .int .u8 4] 5)) wa21.heap.size 199 9 4 X22.out.1 X22.out.2.1 X22.out.2.2
            go_simp
            clear hcv
            refine hK.out _ _ ?_ (fun hHeld => ?_)
            · exact SK.out _ _ G22.out
            clear hK K
            try simp only [List.getElem_toArray, List.getElem_cons_succ, List.getElem_cons_zero, Act.put, List.setIfInBounds_toArray, List.set_cons_zero, List.set_cons_succ]
            refine wpAnyH_take (i := 6) (v := ?_) rfl (by kernel_rfl) (by kernel_rfl) (by kernel_rfl) (fun _ _ _ h => h) (Or.inl ⟨by rfl, ?_⟩) hHeld ?_
            rotate_left
            · (intro w hSw; (try dsimp only at hSw); (try simp only [List.getElem_toArray, List.getElem_cons_succ, List.getElem_cons_zero]); go_simp <;> with_reducible rfl)
            try simp only [List.getElem_toArray, List.getElem_cons_succ, List.getElem_cons_zero, Act.put, List.setIfInBounds_toArray, List.set_cons_zero, List.set_cons_succ]
            refine wpAnyH_take (i := 10) (v := ?_) rfl (by kernel_rfl) (by kernel_rfl) (by kernel_rfl) (fun _ _ _ h => h) (Or.inl ⟨by rfl, ?_⟩) hHeld ?_
            rotate_left
            · (intro w hSw; (try dsimp only at hSw); (try simp only [List.getElem_toArray, List.getElem_cons_succ, List.getElem_cons_zero]); go_simp <;> with_reducible rfl)
            try simp only [List.getElem_toArray, List.getElem_cons_succ, List.getElem_cons_zero, Act.put, List.setIfInBounds_toArray, List.set_cons_zero, List.set_cons_succ]
            refine wpAnyH_ready (rs := [11]) (by kernel_rfl) (by simp) ?_
            refine AllReadyH.cons rfl (fun K hK => ?_) ?_
            · go_simp
              refine (WS.out _ _ HCS.out _ G22.out).mono ?_
              rintro x24 wa24 ⟨rfl, hg24⟩
              have G24 := Lib.hid hg24; clear hg24
              refine hK.out _ _ ?_ (fun hHeld => ?_)
              · exact SK.out _ _ G24.out
              clear hK K
              try simp only [List.getElem_toArray, List.getElem_cons_succ, List.getElem_cons_zero, Act.put, List.setIfInBounds_toArray, List.set_cons_zero, List.set_cons_succ]
              refine wpAnyH_done (by kernel_rfl) ?_ _
              have HG2 := Lib.hid (show Good B b (bs ++ Lib.byteCells O) (w.alloc (.cells #[.int .i64 4, .int .i64 n, .int .i64 e, .string s, .slice a ts.length cap] 29)) wa24 by rw [← HOS.out]; exact G24.out)
              obtain ⟨q0, q1, q2, q3, q4⟩ := BOX.out _ _ HG2.out
              clear BOX WS HG0
              generalize (w.alloc (.cells #[.int .i64 4, .int .i64 n, .int .i64 e, .string s, .slice a ts.length cap] 29)) = W0 at HG2 HR HWR hBz
              go_wp2_with fail
              go_loopw [93, 5] (fun i _ wr => ∃ j : Nat, j ≤ ts.length ∧ i = .int .i64 j ∧ Good B b ((bs ++ Lib.byteCells O) ++ Lib.byteCells (mpsL (ts.take j))) W0 wr) (fun i _ _ => ts.length + 1 - (intOf i).toNat)
              case atStart => exact ⟨0, by omega, rfl, by rw [List.take_zero]; simpa [mpsL, Lib.byteCells] using HG2.out⟩
              case round =>
                obtain ⟨j, hj, rfl, hg⟩ := hrel
                clear q0 q1 q2 q3 q4
                have HGJ := Lib.hid hg; clear hg HG2
                by_cases hlt : j < ts.length
                · have hne : ts ≠ [] := by intro e; rw [e] at hlt; simp at hlt
                  obtain ⟨rfl, hbw⟩ := HA.out hne
                  have HWW := Lib.hid (HWR.out _ _ HGJ.out)
                  obtain ⟨c0, c1, c2, c3, c4⟩ := (HE.out j hlt).1.keep (HWW.out.block b2 hbw)
                  have VJ := Lib.hid (fun (W : World) (hW : Below wr.heap.size wr W) => V1.out j hlt W (below_step HWW.out hW (by have := HWW.out.size; omega)) _ (HGJ.out.bld.stay hW) (Nat.le_trans (Nat.le_trans hBz HGJ.out.below.size) hW.size) (HL.out j hlt))
                  have HTJ := Lib.hid (HT.out j hlt)
                  obtain ⟨a3, cap3, hs3⟩ := (HE.out j hlt).2.2.slice
                  rw [hs3] at c4 VJ
                  clear hs3 V1
                  unfold V.agg at VJ
                  generalize mpL ts[j] = C at *
                  go_wp2_with fail
                  refine (VJ.out _ ((by (with_reducible (repeat' (first | exact Below.refl _ _ | refine below_alloc ?_ _ ?_ | refine Below.setCell ?_ ?_ _ | refine Below.drew ?_ | refine below_drewN ?_ _ | refine below_step ?_ (by assumption) ?_ | refine below_mark ?_ (by assumption) ?_))); all_goals (first | omega | (simp; done) | (simp; omega))))).mono ?_
                  rintro x w2 ⟨rfl, hr2⟩
                  have HN := Lib.hid (show Good B b ((bs ++ Lib.byteCells O) ++ Lib.byteCells (mpsL (ts.take (j + 1)))) W0 w2 by
                    rw [HTJ.out, byte_app, ← List.append_assoc]
                    exact (Good.stay hBz ((by (with_reducible (repeat' (first | exact Below.refl _ _ | refine below_alloc ?_ _ ?_ | refine Below.setCell ?_ ?_ _ | refine Below.drew ?_ | refine below_drewN ?_ _ | refine below_step ?_ (by assumption) ?_ | refine below_mark ?_ (by assumption) ?_))); all_goals (first | omega | (simp; done) | (simp; omega)))) HGJ.out).ret hr2)
                  clear hr2
                  go_wp2_with fail
                  go_roundw
                  case rel => ((repeat apply Exists.intro); exact ⟨⟨j + 1, by omega, by go_num, HN.out⟩, rfl⟩)
                  case measure => simp [intOf]; omega
                · go_wp2_with fail
                  go_end0
                  have hj2 : ts.take j = ts := by rw [List.take_of_length_le (by omega)]
                  have hg := HGJ.out
                  rw [hj2] at hg
                  exact ⟨rfl, HR.out _ hg⟩
            exact AllReadyH.nil
          exact AllReadyH.nil
        exact AllReadyH.nil
      exact AllReadyH.nil
    exact AllReadyH.nil
  case' inr.inr.inr.inr.inr.inl =>
    have HO := Lib.hid (show O = mpMany s.size 32 160 217 218 ++ s.data.toList from HOS.out.2.2.2.2.2.1 rfl)
    clear HOS
    have PH := Lib.hid (fun (W : World) => show Calls Tryd.prog 113 #[.int .i64 (s.size : Int), .int .i64 160, .int .i64 32, .int .i64 217, .int .i64 218] W (TxtRet W (mpMany s.size 32 160 217 218)) from putLength_any (s.size : Int) 32 160 217 218 (by omega) (by omega) (by omega) (by omega) W)
    have L1 := mpMany_le s.size 32 160 217 218
    have hcs : bs.length + (mpMany s.size 32 160 217 218 ++ s.data.toList).length ≤ 140737488355328 := by rw [List.length_append, show s.data.toList.length = s.size from Array.length_toList]; omega
    have HCS := Lib.hid (show bs.length + ((⟨(mpMany s.size 32 160 217 218).toArray⟩ : ByteArray) ++ s).size ≤ 140737488355328 by rw [cat2]; exact hcs)
    have S1 : ¬ 9223372036854775807 < (mpMany s.size 32 160 217 218).length + s.size := by omega
    clear hcs L1 hcl2 hn64 he64 hss hlt3 WB
    have HOS := Lib.hid (show Lib.strCells ((⟨(mpMany s.size 32 160 217 218).toArray⟩ : ByteArray) ++ s) = Lib.byteCells O by rw [HO.out, cat2]; rfl)
    generalize mpMany s.size 32 160 217 218 = H at *
    go_enter Tryd.func77, Tryd.ntmps77
    obtain ⟨q0, q1, q2, q3, q4⟩ := BOX.out _ _ HG0.out
    go_wp2_with fail
    have hgd : Good B b bs (w.alloc (.cells #[.int .i64 5, .int .i64 n, .int .i64 e, .string s, .slice a ts.length cap] 29)) (w.alloc (.cells #[.int .i64 5, .int .i64 n, .int .i64 e, .string s, .slice a ts.length cap] 29)).drew := ⟨HG0.out.bld, HG0.out.below.drew, HG0.out.kept.drew⟩
    go_region_held3 (fun w' => w'.cell? ⟨w.heap.size, 3, none⟩ = some (.string s)) (first | with_reducible assumption | exact q3 | go_keep) (first | (((with_reducible refine (PH.out _).mono ?_); rintro x1 w1 ⟨rfl, hb1⟩; have hG := Good.stay hBz hb1 (by with_reducible assumption); obtain ⟨-, -, -, qa, -⟩ := BOX.out _ _ hG)) | (((refine (WS.out _ _ HCS.out _ (by with_reducible assumption)).mono ?_); rintro x2 w2 ⟨rfl, hG2⟩; obtain ⟨-, -, -, qa, -⟩ := BOX.out _ _ hG2)))
    have HG2 := Lib.hid (show Good B b (bs ++ Lib.byteCells O) (w.alloc (.cells #[.int .i64 5, .int .i64 n, .int .i64 e, .string s, .slice a ts.length cap] 29)) w2 by rw [← HOS.out]; exact hG2)
    obtain ⟨q0, q1, q2, q3, q4⟩ := BOX.out _ _ HG2.out
    clear BOX WS HG0
    generalize (w.alloc (.cells #[.int .i64 5, .int .i64 n, .int .i64 e, .string s, .slice a ts.length cap] 29)) = W0 at HG2 HR HWR hBz
    clear PH HO
  case' inr.inr.inr.inr.inr.inr.inl =>
    have HO := Lib.hid (show O = mpMany s.size 0 0 196 197 ++ s.data.toList from HOS.out.2.2.2.2.2.2.1 rfl)
    clear HOS
    have PH := Lib.hid (fun (W : World) => show Calls Tryd.prog 113 #[.int .i64 (s.size : Int), .int .i64 0, .int .i64 0, .int .i64 196, .int .i64 197] W (TxtRet W (mpMany s.size 0 0 196 197)) from putLength_any (s.size : Int) 0 0 196 197 (by omega) (by omega) (by omega) (by omega) W)
    have L1 := mpMany_le s.size 0 0 196 197
    have hcs : bs.length + (mpMany s.size 0 0 196 197 ++ s.data.toList).length ≤ 140737488355328 := by rw [List.length_append, show s.data.toList.length = s.size from Array.length_toList]; omega
    have HCS := Lib.hid (show bs.length + ((⟨(mpMany s.size 0 0 196 197).toArray⟩ : ByteArray) ++ s).size ≤ 140737488355328 by rw [cat2]; exact hcs)
    have S1 : ¬ 9223372036854775807 < (mpMany s.size 0 0 196 197).length + s.size := by omega
    clear hcs L1 hcl2 hn64 he64 hss hlt3 WB
    have HOS := Lib.hid (show Lib.strCells ((⟨(mpMany s.size 0 0 196 197).toArray⟩ : ByteArray) ++ s) = Lib.byteCells O by rw [HO.out, cat2]; rfl)
    generalize mpMany s.size 0 0 196 197 = H at *
    go_enter Tryd.func77, Tryd.ntmps77
    obtain ⟨q0, q1, q2, q3, q4⟩ := BOX.out _ _ HG0.out
    go_wp2_with fail
    have hgd : Good B b bs (w.alloc (.cells #[.int .i64 6, .int .i64 n, .int .i64 e, .string s, .slice a ts.length cap] 29)) (w.alloc (.cells #[.int .i64 6, .int .i64 n, .int .i64 e, .string s, .slice a ts.length cap] 29)).drew := ⟨HG0.out.bld, HG0.out.below.drew, HG0.out.kept.drew⟩
    go_region_held3 (fun w' => w'.cell? ⟨w.heap.size, 3, none⟩ = some (.string s)) (first | with_reducible assumption | exact q3 | go_keep) (first | (((with_reducible refine (PH.out _).mono ?_); rintro x1 w1 ⟨rfl, hb1⟩; have hG := Good.stay hBz hb1 (by with_reducible assumption); obtain ⟨-, -, -, qa, -⟩ := BOX.out _ _ hG)) | (((refine (WS.out _ _ HCS.out _ (by with_reducible assumption)).mono ?_); rintro x2 w2 ⟨rfl, hG2⟩; obtain ⟨-, -, -, qa, -⟩ := BOX.out _ _ hG2)))
    have HG2 := Lib.hid (show Good B b (bs ++ Lib.byteCells O) (w.alloc (.cells #[.int .i64 6, .int .i64 n, .int .i64 e, .string s, .slice a ts.length cap] 29)) w2 by rw [← HOS.out]; exact hG2)
    obtain ⟨q0, q1, q2, q3, q4⟩ := BOX.out _ _ HG2.out
    clear BOX WS HG0
    generalize (w.alloc (.cells #[.int .i64 6, .int .i64 n, .int .i64 e, .string s, .slice a ts.length cap] 29)) = W0 at HG2 HR HWR hBz
    clear PH HO
  case' inr.inr.inr.inr.inr.inr.inr.inl =>
    have HO := Lib.hid (show O = mpMany ts.length 16 144 0 220 from HOS.out.2.2.2.2.2.2.2.1 rfl)
    clear HOS
    have PH := Lib.hid (fun (W : World) => show Calls Tryd.prog 113 #[.int .i64 ts.length, .int .i64 144, .int .i64 16, .int .i64 0, .int .i64 220] W (TxtRet W (mpMany ts.length 16 144 0 220)) from putLength_any ts.length 16 144 0 220 (by omega) (by omega) (by omega) (by omega) W)
    have L1 := mpMany_le ts.length 16 144 0 220
    have hcs : bs.length + (mpMany ts.length 16 144 0 220).length ≤ 140737488355328 := by omega
    have HCS := Lib.hid hcs; clear hcs L1 hcl2 hn64 he64 hss hlt3 WB
    go_enter Tryd.func77, Tryd.ntmps77
    obtain ⟨q0, q1, q2, q3, q4⟩ := BOX.out _ _ HG0.out
    go_wp2_with fail
    refine (PH.out _).mono ?_
    rintro x1 w1 ⟨rfl, hb1⟩
    have HG1 := Lib.hid (Good.stay hBz hb1 HG0.out)
    clear q0 q1 q2 q3 q4 hb1
    obtain ⟨q0, q1, q2, q3, q4⟩ := BOX.out _ _ HG1.out
    go_wp2_with fail
    refine (WS.out _ _ HCS.out _ HG1.out).mono ?_
    rintro x2 w2 ⟨rfl, hg2⟩
    clear q0 q1 q2 q3 q4 HG1
    rw [str_cells] at hg2
    have HG2 := Lib.hid (show Good B b (bs ++ Lib.byteCells O) (w.alloc (.cells #[.int .i64 7, .int .i64 n, .int .i64 e, .string s, .slice a ts.length cap] 29)) w2 by rw [HO.out]; exact hg2)
    obtain ⟨q0, q1, q2, q3, q4⟩ := BOX.out _ _ HG2.out
    clear BOX WS HG0
    generalize (w.alloc (.cells #[.int .i64 7, .int .i64 n, .int .i64 e, .string s, .slice a ts.length cap] 29)) = W0 at HG2 HR HWR hBz
    clear PH HO
  case' inr.inr.inr.inr.inr.inr.inr.inr.inl =>
    have HO := Lib.hid (show O = mpMany (ts.length / 2 : Nat) 16 128 0 222 from HOS.out.2.2.2.2.2.2.2.2.1 rfl)
    clear HOS
    have PH := Lib.hid (fun (W : World) => show Calls Tryd.prog 113 #[.int .i64 (ts.length / 2 : Nat), .int .i64 128, .int .i64 16, .int .i64 0, .int .i64 222] W (TxtRet W (mpMany (ts.length / 2 : Nat) 16 128 0 222)) from putLength_any (ts.length / 2 : Nat) 16 128 0 222 (by omega) (by omega) (by omega) (by omega) W)
    have L1 := mpMany_le (ts.length / 2 : Nat) 16 128 0 222
    have hcs : bs.length + (mpMany (ts.length / 2 : Nat) 16 128 0 222).length ≤ 140737488355328 := by omega
    have HCS := Lib.hid hcs; clear hcs L1 hcl2 hn64 he64 hss hlt3 WB
    go_enter Tryd.func77, Tryd.ntmps77
    obtain ⟨q0, q1, q2, q3, q4⟩ := BOX.out _ _ HG0.out
    go_wp2_with fail
    refine (PH.out _).mono ?_
    rintro x1 w1 ⟨rfl, hb1⟩
    have HG1 := Lib.hid (Good.stay hBz hb1 HG0.out)
    clear q0 q1 q2 q3 q4 hb1
    obtain ⟨q0, q1, q2, q3, q4⟩ := BOX.out _ _ HG1.out
    go_wp2_with fail
    refine (WS.out _ _ HCS.out _ HG1.out).mono ?_
    rintro x2 w2 ⟨rfl, hg2⟩
    clear q0 q1 q2 q3 q4 HG1
    rw [str_cells] at hg2
    have HG2 := Lib.hid (show Good B b (bs ++ Lib.byteCells O) (w.alloc (.cells #[.int .i64 8, .int .i64 n, .int .i64 e, .string s, .slice a ts.length cap] 29)) w2 by rw [HO.out]; exact hg2)
    obtain ⟨q0, q1, q2, q3, q4⟩ := BOX.out _ _ HG2.out
    clear BOX WS HG0
    generalize (w.alloc (.cells #[.int .i64 8, .int .i64 n, .int .i64 e, .string s, .slice a ts.length cap] 29)) = W0 at HG2 HR HWR hBz
    clear PH HO
  case inr.inr.inr.inr.inr.inr.inr.inr.inr =>
    have HO := Lib.hid (show O = [199, 4, 6] ++ bigZ 4 n from HOS.out.2.2.2.2.2.2.2.2.2 rfl)
    clear HOS
    have PN := Lib.hid (fun (W : World) => PutWide_any n 4 W (by omega) (by omega))
    have hc3 := fun (W : World) (b : Nat) => run_str3 W b 199 4 6
    have S1 : ¬ 9223372036854775807 < 3 + (bigZ 4 n).length := by rw [bigZ_length]; omega
    have HCS := Lib.hid (show bs.length + ((⟨[199, 4, 6].toArray⟩ : ByteArray) ++ ⟨(bigZ 4 n).toArray⟩).size ≤ 140737488355328 by rw [bstr_append, ← HO.out]; show bs.length + O.length ≤ _; omega)
    have HOS := Lib.hid (show Lib.strCells ((⟨[199, 4, 6].toArray⟩ : ByteArray) ++ ⟨(bigZ 4 n).toArray⟩) = Lib.byteCells O by rw [HO.out, bstr_append]; rfl)
    clear hcl2 hn64 he64 hss hlt3 WB
    go_enter Tryd.func77, Tryd.ntmps77
    obtain ⟨q0, q1, q2, q3, q4⟩ := BOX.out _ _ HG0.out
    go_wp2_with fail
    have hgd : Good B b bs (w.alloc (.cells #[.int .i64 9, .int .i64 n, .int .i64 e, .string s, .slice a ts.length cap] 29)) (w.alloc (.cells #[.int .i64 9, .int .i64 n, .int .i64 e, .string s, .slice a ts.length cap] 29)).drew := ⟨HG0.out.bld, HG0.out.below.drew, HG0.out.kept.drew⟩
    have SK := Lib.hid (fun (bs2 : List Value) (W : World) (hg : Good B b bs2 (w.alloc (.cells #[.int .i64 9, .int .i64 n, .int .i64 e, .string s, .slice a ts.length cap] 29)) W) => (BOX.out _ _ hg).2.1)
    refine wp_region_held_drew (S := (fun w' => w'.cell? ⟨w.heap.size, 1, none⟩ = some (.int .i64 n))) (by kernel_rfl) ?_ (fun hHeld => ?_)
    · exact SK.out _ _ hgd
    have GD := Lib.hid hgd
    refine wpAnyH_take (i := 0) (v := ?_) rfl (by kernel_rfl) (by kernel_rfl) (by kernel_rfl) (fun _ _ _ h => h) (Or.inl ⟨by rfl, ?_⟩) hHeld ?_
    rotate_left
    · (intro w hSw; (try dsimp only at hSw); (try simp only [List.getElem_toArray, List.getElem_cons_succ, List.getElem_cons_zero]); go_simp <;> with_reducible rfl)
    try simp only [List.getElem_toArray, List.getElem_cons_succ, List.getElem_cons_zero, Act.put, List.setIfInBounds_toArray, List.set_cons_zero, List.set_cons_succ]
    refine wpAnyH_take (i := 3) (v := ?_) rfl (by kernel_rfl) (by kernel_rfl) (by kernel_rfl) (fun _ _ _ h => h) (Or.inl ⟨by rfl, ?_⟩) hHeld ?_
    rotate_left
    · (intro w hSw; (try dsimp only at hSw); (try simp only [List.getElem_toArray, List.getElem_cons_succ, List.getElem_cons_zero]); go_simp <;> with_reducible rfl)
    try simp only [List.getElem_toArray, List.getElem_cons_succ, List.getElem_cons_zero, Act.put, List.setIfInBounds_toArray, List.set_cons_zero, List.set_cons_succ]
    refine wpAnyH_take (i := 4) (v := ?_) rfl (by kernel_rfl) (by kernel_rfl) (by kernel_rfl) (fun _ _ _ h => h) (Or.inl ⟨by rfl, ?_⟩) hHeld ?_
    rotate_left
    · (intro w hSw; (try dsimp only at hSw); (try simp only [List.getElem_toArray, List.getElem_cons_succ, List.getElem_cons_zero]); go_simp <;> with_reducible rfl)
    try simp only [List.getElem_toArray, List.getElem_cons_succ, List.getElem_cons_zero, Act.put, List.setIfInBounds_toArray, List.set_cons_zero, List.set_cons_succ]
    refine wpAnyH_ready (rs := [1, 5]) (by kernel_rfl) (by simp) ?_
    refine AllReadyH.cons rfl (fun K hK => ?_) ?_
    · go_simp
      have X1 := Lib.hid (show ((w.alloc (.cells #[.int .i64 9, .int .i64 n, .int .i64 e, .string s, .slice a ts.length cap] 29)).alloc (.cells #[.int .u8 199, .int .u8 4, .int .u8 6] 5)).drew.cell? ⟨(w.heap.size + 1), 0, none⟩ = some (.int .u8 199) ∧ ((w.alloc (.cells #[.int .i64 9, .int .i64 n, .int .i64 e, .string s, .slice a ts.length cap] 29)).alloc (.cells #[.int .u8 199, .int .u8 4, .int .u8 6] 5)).drew.cell? ⟨(w.heap.size + 1), 1, none⟩ = some (.int .u8 4) ∧ ((w.alloc (.cells #[.int .i64 9, .int .i64 n, .int .i64 e, .string s, .slice a ts.length cap] 29)).alloc (.cells #[.int .u8 199, .int .u8 4, .int .u8 6] 5)).drew.cell? ⟨(w.heap.size + 1), 2, none⟩ = some (.int .u8 6) from by refine ⟨?_, ?_, ?_⟩ <;> simp)
      have G1 := Lib.hid (show Good B b bs (w.alloc (.cells #[.int .i64 9, .int .i64 n, .int .i64 e, .string s, .slice a ts.length cap] 29)) ((w.alloc (.cells #[.int .i64 9, .int .i64 n, .int .i64 e, .string s, .slice a ts.length cap] 29)).alloc (.cells #[.int .u8 199, .int .u8 4, .int .u8 6] 5)).drew from Good.stay hBz ((by (with_reducible (repeat' (first | exact Below.refl _ _ | refine below_alloc ?_ _ ?_ | refine Below.setCell ?_ ?_ _ | refine Below.drew ?_ | refine below_drewN ?_ _ | refine below_step ?_ (by assumption) ?_ | refine below_mark ?_ (by assumption) ?_))); all_goals (first | omega | (simp; done) | (simp; omega)))) HG0.out)
      refine hK.out _ _ ?_ (fun hHeld => ?_)
      · exact SK.out _ _ G1.out
      clear hK K
      try simp only [List.getElem_toArray, List.getElem_cons_succ, List.getElem_cons_zero, Act.put, List.setIfInBounds_toArray, List.set_cons_zero, List.set_cons_succ]
      refine wpAnyH_ready (rs := [2, 5]) (by kernel_rfl) (by simp) ?_
      refine AllReadyH.cons rfl (fun K hK => ?_) ?_
      · have hcv := run_str3 ((w.alloc (.cells #[.int .i64 9, .int .i64 n, .int .i64 e, .string s, .slice a ts.length cap] 29)).alloc (.cells #[.int .u8 199, .int .u8 4, .int .u8 6] 5)).drew (w.heap.size + 1) 199 4 6 X1.out.1 X1.out.2.1 X1.out.2.2
        go_simp
        clear hcv
        refine hK.out _ _ ?_ (fun hHeld => ?_)
        · exact SK.out _ _ G1.out
        clear hK K
        try simp only [List.getElem_toArray, List.getElem_cons_succ, List.getElem_cons_zero, Act.put, List.setIfInBounds_toArray, List.set_cons_zero, List.set_cons_succ]
        refine wpAnyH_ready (rs := [5]) (by kernel_rfl) (by simp) ?_
        refine AllReadyH.cons rfl (fun K hK => ?_) ?_
        · go_simp
          refine (PN.out _).mono ?_
          rintro x3 wa3 ⟨rfl, hb3⟩
          have G3 := Lib.hid (Good.stay hBz hb3 G1.out)
          clear hb3
          refine hK.out _ _ ?_ (fun hHeld => ?_)
          · exact SK.out _ _ G3.out
          clear hK K
          try simp only [List.getElem_toArray, List.getElem_cons_succ, List.getElem_cons_zero, Act.put, List.setIfInBounds_toArray, List.set_cons_zero, List.set_cons_succ]
          refine wpAnyH_take (i := 6) (v := ?_) rfl (by kernel_rfl) (by kernel_rfl) (by kernel_rfl) (fun _ _ _ h => h) (Or.inl ⟨by rfl, ?_⟩) hHeld ?_
          rotate_left
          · (intro w hSw; (try dsimp only at hSw); (try simp only [List.getElem_toArray, List.getElem_cons_succ, List.getElem_cons_zero]); go_simp <;> with_reducible rfl)
          try simp only [List.getElem_toArray, List.getElem_cons_succ, List.getElem_cons_zero, Act.put, List.setIfInBounds_toArray, List.set_cons_zero, List.set_cons_succ]
          refine wpAnyH_ready (rs := [7]) (by kernel_rfl) (by simp) ?_
          refine AllReadyH.cons rfl (fun K hK => ?_) ?_
          · go_simp
            refine (WS.out _ _ HCS.out _ G3.out).mono ?_
            rintro x4 wa4 ⟨rfl, hg4⟩
            have G4 := Lib.hid hg4; clear hg4
            refine hK.out _ _ ?_ (fun hHeld => ?_)
            · exact SK.out _ _ G4.out
            clear hK K
            try simp only [List.getElem_toArray, List.getElem_cons_succ, List.getElem_cons_zero, Act.put, List.setIfInBounds_toArray, List.set_cons_zero, List.set_cons_succ]
            refine wpAnyH_done (by kernel_rfl) ?_ _
            have HG2 := Lib.hid (show Good B b (bs ++ Lib.byteCells O) (w.alloc (.cells #[.int .i64 9, .int .i64 n, .int .i64 e, .string s, .slice a ts.length cap] 29)) wa4 by rw [← HOS.out]; exact G4.out)
            obtain ⟨q0, q1, q2, q3, q4⟩ := BOX.out _ _ HG2.out
            clear BOX WS HG0
            generalize (w.alloc (.cells #[.int .i64 9, .int .i64 n, .int .i64 e, .string s, .slice a ts.length cap] 29)) = W0 at HG2 HR HWR hBz
            go_wp2_with fail
            go_loopw [93, 5] (fun i _ wr => ∃ j : Nat, j ≤ ts.length ∧ i = .int .i64 j ∧ Good B b ((bs ++ Lib.byteCells O) ++ Lib.byteCells (mpsL (ts.take j))) W0 wr) (fun i _ _ => ts.length + 1 - (intOf i).toNat)
            case atStart => exact ⟨0, by omega, rfl, by rw [List.take_zero]; simpa [mpsL, Lib.byteCells] using HG2.out⟩
            case round =>
              obtain ⟨j, hj, rfl, hg⟩ := hrel
              clear q0 q1 q2 q3 q4
              have HGJ := Lib.hid hg; clear hg HG2
              by_cases hlt : j < ts.length
              · have hne : ts ≠ [] := by intro e; rw [e] at hlt; simp at hlt
                obtain ⟨rfl, hbw⟩ := HA.out hne
                have HWW := Lib.hid (HWR.out _ _ HGJ.out)
                obtain ⟨c0, c1, c2, c3, c4⟩ := (HE.out j hlt).1.keep (HWW.out.block b2 hbw)
                have VJ := Lib.hid (fun (W : World) (hW : Below wr.heap.size wr W) => V1.out j hlt W (below_step HWW.out hW (by have := HWW.out.size; omega)) _ (HGJ.out.bld.stay hW) (Nat.le_trans (Nat.le_trans hBz HGJ.out.below.size) hW.size) (HL.out j hlt))
                have HTJ := Lib.hid (HT.out j hlt)
                obtain ⟨a3, cap3, hs3⟩ := (HE.out j hlt).2.2.slice
                rw [hs3] at c4 VJ
                clear hs3 V1
                unfold V.agg at VJ
                generalize mpL ts[j] = C at *
                go_wp2_with fail
                refine (VJ.out _ ((by (with_reducible (repeat' (first | exact Below.refl _ _ | refine below_alloc ?_ _ ?_ | refine Below.setCell ?_ ?_ _ | refine Below.drew ?_ | refine below_drewN ?_ _ | refine below_step ?_ (by assumption) ?_ | refine below_mark ?_ (by assumption) ?_))); all_goals (first | omega | (simp; done) | (simp; omega))))).mono ?_
                rintro x w2 ⟨rfl, hr2⟩
                have HN := Lib.hid (show Good B b ((bs ++ Lib.byteCells O) ++ Lib.byteCells (mpsL (ts.take (j + 1)))) W0 w2 by
                  rw [HTJ.out, byte_app, ← List.append_assoc]
                  exact (Good.stay hBz ((by (with_reducible (repeat' (first | exact Below.refl _ _ | refine below_alloc ?_ _ ?_ | refine Below.setCell ?_ ?_ _ | refine Below.drew ?_ | refine below_drewN ?_ _ | refine below_step ?_ (by assumption) ?_ | refine below_mark ?_ (by assumption) ?_))); all_goals (first | omega | (simp; done) | (simp; omega)))) HGJ.out).ret hr2)
                clear hr2
                go_wp2_with fail
                go_roundw
                case rel => ((repeat apply Exists.intro); exact ⟨⟨j + 1, by omega, by go_num, HN.out⟩, rfl⟩)
                case measure => simp [intOf]; omega
              · go_wp2_with fail
                go_end0
                have hj2 : ts.take j = ts := by rw [List.take_of_length_le (by omega)]
                have hg := HGJ.out
                rw [hj2] at hg
                exact ⟨rfl, HR.out _ hg⟩
          exact AllReadyH.nil
        exact AllReadyH.nil
      refine AllReadyH.cons rfl (fun K hK => ?_) ?_
      · go_simp
        refine (PN.out _).mono ?_
        rintro x5 wa5 ⟨rfl, hb5⟩
        have G5 := Lib.hid (Good.stay hBz hb5 G1.out)
        have X5 := Lib.hid (show wa5.cell? ⟨(w.heap.size + 1), 0, none⟩ = some (.int .u8 199) ∧ wa5.cell? ⟨(w.heap.size + 1), 1, none⟩ = some (.int .u8 4) ∧ wa5.cell? ⟨(w.heap.size + 1), 2, none⟩ = some (.int .u8 6) from ⟨keep1 hb5 X1.out.1, keep1 hb5 X1.out.2.1, keep1 hb5 X1.out.2.2⟩)
        clear hb5
        refine hK.out _ _ ?_ (fun hHeld => ?_)
        · exact SK.out _ _ G5.out
        clear hK K
        try simp only [List.getElem_toArray, List.getElem_cons_succ, List.getElem_cons_zero, Act.put, List.setIfInBounds_toArray, List.set_cons_zero, List.set_cons_succ]
        refine wpAnyH_ready (rs := [2]) (by kernel_rfl) (by simp) ?_
        refine AllReadyH.cons rfl (fun K hK => ?_) ?_
        · have hcv := run_str3 wa5 (w.heap.size + 1) 199 4 6 X5.out.1 X5.out.2.1 X5.out.2.2
          go_simp
          clear hcv
          refine hK.out _ _ ?_ (fun hHeld => ?_)
          · exact SK.out _ _ G5.out
          clear hK K
          try simp only [List.getElem_toArray, List.getElem_cons_succ, List.getElem_cons_zero, Act.put, List.setIfInBounds_toArray, List.set_cons_zero, List.set_cons_succ]
          refine wpAnyH_take (i := 6) (v := ?_) rfl (by kernel_rfl) (by kernel_rfl) (by kernel_rfl) (fun _ _ _ h => h) (Or.inl ⟨by rfl, ?_⟩) hHeld ?_
          rotate_left
          · (intro w hSw; (try dsimp only at hSw); (try simp only [List.getElem_toArray, List.getElem_cons_succ, List.getElem_cons_zero]); go_simp <;> with_reducible rfl)
          try simp only [List.getElem_toArray, List.getElem_cons_succ, List.getElem_cons_zero, Act.put, List.setIfInBounds_toArray, List.set_cons_zero, List.set_cons_succ]
          refine wpAnyH_ready (rs := [7]) (by kernel_rfl) (by simp) ?_
          refine AllReadyH.cons rfl (fun K hK => ?_) ?_
          · go_simp
            refine (WS.out _ _ HCS.out _ G5.out).mono ?_
            rintro x7 wa7 ⟨rfl, hg7⟩
            have G7 := Lib.hid hg7; clear hg7
            refine hK.out _ _ ?_ (fun hHeld => ?_)
            · exact SK.out _ _ G7.out
            clear hK K
            try simp only [List.getElem_toArray, List.getElem_cons_succ, List.getElem_cons_zero, Act.put, List.setIfInBounds_toArray, List.set_cons_zero, List.set_cons_succ]
            refine wpAnyH_done (by kernel_rfl) ?_ _
            have HG2 := Lib.hid (show Good B b (bs ++ Lib.byteCells O) (w.alloc (.cells #[.int .i64 9, .int .i64 n, .int .i64 e, .string s, .slice a ts.length cap] 29)) wa7 by rw [← HOS.out]; exact G7.out)
            obtain ⟨q0, q1, q2, q3, q4⟩ := BOX.out _ _ HG2.out
            clear BOX WS HG0
            generalize (w.alloc (.cells #[.int .i64 9, .int .i64 n, .int .i64 e, .string s, .slice a ts.length cap] 29)) = W0 at HG2 HR HWR hBz
            go_wp2_with fail
            go_loopw [93, 5] (fun i _ wr => ∃ j : Nat, j ≤ ts.length ∧ i = .int .i64 j ∧ Good B b ((bs ++ Lib.byteCells O) ++ Lib.byteCells (mpsL (ts.take j))) W0 wr) (fun i _ _ => ts.length + 1 - (intOf i).toNat)
            case atStart => exact ⟨0, by omega, rfl, by rw [List.take_zero]; simpa [mpsL, Lib.byteCells] using HG2.out⟩
            case round =>
              obtain ⟨j, hj, rfl, hg⟩ := hrel
              clear q0 q1 q2 q3 q4
              have HGJ := Lib.hid hg; clear hg HG2
              by_cases hlt : j < ts.length
              · have hne : ts ≠ [] := by intro e; rw [e] at hlt; simp at hlt
                obtain ⟨rfl, hbw⟩ := HA.out hne
                have HWW := Lib.hid (HWR.out _ _ HGJ.out)
                obtain ⟨c0, c1, c2, c3, c4⟩ := (HE.out j hlt).1.keep (HWW.out.block b2 hbw)
                have VJ := Lib.hid (fun (W : World) (hW : Below wr.heap.size wr W) => V1.out j hlt W (below_step HWW.out hW (by have := HWW.out.size; omega)) _ (HGJ.out.bld.stay hW) (Nat.le_trans (Nat.le_trans hBz HGJ.out.below.size) hW.size) (HL.out j hlt))
                have HTJ := Lib.hid (HT.out j hlt)
                obtain ⟨a3, cap3, hs3⟩ := (HE.out j hlt).2.2.slice
                rw [hs3] at c4 VJ
                clear hs3 V1
                unfold V.agg at VJ
                generalize mpL ts[j] = C at *
                go_wp2_with fail
                refine (VJ.out _ ((by (with_reducible (repeat' (first | exact Below.refl _ _ | refine below_alloc ?_ _ ?_ | refine Below.setCell ?_ ?_ _ | refine Below.drew ?_ | refine below_drewN ?_ _ | refine below_step ?_ (by assumption) ?_ | refine below_mark ?_ (by assumption) ?_))); all_goals (first | omega | (simp; done) | (simp; omega))))).mono ?_
                rintro x w2 ⟨rfl, hr2⟩
                have HN := Lib.hid (show Good B b ((bs ++ Lib.byteCells O) ++ Lib.byteCells (mpsL (ts.take (j + 1)))) W0 w2 by
                  rw [HTJ.out, byte_app, ← List.append_assoc]
                  exact (Good.stay hBz ((by (with_reducible (repeat' (first | exact Below.refl _ _ | refine below_alloc ?_ _ ?_ | refine Below.setCell ?_ ?_ _ | refine Below.drew ?_ | refine below_drewN ?_ _ | refine below_step ?_ (by assumption) ?_ | refine below_mark ?_ (by assumption) ?_))); all_goals (first | omega | (simp; done) | (simp; omega)))) HGJ.out).ret hr2)
                clear hr2
                go_wp2_with fail
                go_roundw
                case rel => ((repeat apply Exists.intro); exact ⟨⟨j + 1, by omega, by go_num, HN.out⟩, rfl⟩)
                case measure => simp [intOf]; omega
              · go_wp2_with fail
                go_end0
                have hj2 : ts.take j = ts := by rw [List.take_of_length_le (by omega)]
                have hg := HGJ.out
                rw [hj2] at hg
                exact ⟨rfl, HR.out _ hg⟩
          exact AllReadyH.nil
        exact AllReadyH.nil
      exact AllReadyH.nil
    refine AllReadyH.cons rfl (fun K hK => ?_) ?_
    · go_simp
      refine (PN.out _).mono ?_
      rintro x8 wa8 ⟨rfl, hb8⟩
      have G8 := Lib.hid (Good.stay hBz hb8 GD.out)
      clear hb8
      refine hK.out _ _ ?_ (fun hHeld => ?_)
      · exact SK.out _ _ G8.out
      clear hK K
      try simp only [List.getElem_toArray, List.getElem_cons_succ, List.getElem_cons_zero, Act.put, List.setIfInBounds_toArray, List.set_cons_zero, List.set_cons_succ]
      refine wpAnyH_ready (rs := [1]) (by kernel_rfl) (by simp) ?_
      refine AllReadyH.cons rfl (fun K hK => ?_) ?_
      · go_simp
        have X9 := Lib.hid (show (wa8.alloc (.cells #[.int .u8 199, .int .u8 4, .int .u8 6] 5)).cell? ⟨wa8.heap.size, 0, none⟩ = some (.int .u8 199) ∧ (wa8.alloc (.cells #[.int .u8 199, .int .u8 4, .int .u8 6] 5)).cell? ⟨wa8.heap.size, 1, none⟩ = some (.int .u8 4) ∧ (wa8.alloc (.cells #[.int .u8 199, .int .u8 4, .int .u8 6] 5)).cell? ⟨wa8.heap.size, 2, none⟩ = some (.int .u8 6) from by refine ⟨?_, ?_, ?_⟩ <;> simp)
        have G9 := Lib.hid (show Good B b bs (w.alloc (.cells #[.int .i64 9, .int .i64 n, .int .i64 e, .string s, .slice a ts.length cap] 29)) (wa8.alloc (.cells #[.int .u8 199, .int .u8 4, .int .u8 6] 5)) from Good.stay hBz ((by (with_reducible (repeat' (first | exact Below.refl _ _ | refine below_alloc ?_ _ ?_ | refine Below.setCell ?_ ?_ _ | refine Below.drew ?_ | refine below_drewN ?_ _ | refine below_step ?_ (by assumption) ?_ | refine below_mark ?_ (by assumption) ?_))); all_goals (first | omega | (simp; done) | (simp; omega)))) G8.out)
        refine hK.out _ _ ?_ (fun hHeld => ?_)
        · exact SK.out _ _ G9.out
        clear hK K
        try simp only [List.getElem_toArray, List.getElem_cons_succ, List.getElem_cons_zero, Act.put, List.setIfInBounds_toArray, List.set_cons_zero, List.set_cons_succ]
        refine wpAnyH_ready (rs := [2]) (by kernel_rfl) (by simp) ?_
        refine AllReadyH.cons rfl (fun K hK => ?_) ?_
        · have hcv := run_str3 (wa8.alloc (.cells #[.int .u8 199, .int .u8 4, .int .u8 6] 5)) wa8.heap.size 199 4 6 X9.out.1 X9.out.2.1 X9.out.2.2
          go_simp
          clear hcv
          refine hK.out _ _ ?_ (fun hHeld => ?_)
          · exact SK.out _ _ G9.out
          clear hK K
          try simp only [List.getElem_toArray, List.getElem_cons_succ, List.getElem_cons_zero, Act.put, List.setIfInBounds_toArray, List.set_cons_zero, List.set_cons_succ]
          refine wpAnyH_take (i := 6) (v := ?_) rfl (by kernel_rfl) (by kernel_rfl) (by kernel_rfl) (fun _ _ _ h => h) (Or.inl ⟨by rfl, ?_⟩) hHeld ?_
          rotate_left
          · (intro w hSw; (try dsimp only at hSw); (try simp only [List.getElem_toArray, List.getElem_cons_succ, List.getElem_cons_zero]); go_simp <;> with_reducible rfl)
          try simp only [List.getElem_toArray, List.getElem_cons_succ, List.getElem_cons_zero, Act.put, List.setIfInBounds_toArray, List.set_cons_zero, List.set_cons_succ]
          refine wpAnyH_ready (rs := [7]) (by kernel_rfl) (by simp) ?_
          refine AllReadyH.cons rfl (fun K hK => ?_) ?_
          · go_simp
            refine (WS.out _ _ HCS.out _ G9.out).mono ?_
            rintro x11 wa11 ⟨rfl, hg11⟩
            have G11 := Lib.hid hg11; clear hg11
            refine hK.out _ _ ?_ (fun hHeld => ?_)
            · exact SK.out _ _ G11.out
            clear hK K
            try simp only [List.getElem_toArray, List.getElem_cons_succ, List.getElem_cons_zero, Act.put, List.setIfInBounds_toArray, List.set_cons_zero, List.set_cons_succ]
            refine wpAnyH_done (by kernel_rfl) ?_ _
            have HG2 := Lib.hid (show Good B b (bs ++ Lib.byteCells O) (w.alloc (.cells #[.int .i64 9, .int .i64 n, .int .i64 e, .string s, .slice a ts.length cap] 29)) wa11 by rw [← HOS.out]; exact G11.out)
            obtain ⟨q0, q1, q2, q3, q4⟩ := BOX.out _ _ HG2.out
            clear BOX WS HG0
            generalize (w.alloc (.cells #[.int .i64 9, .int .i64 n, .int .i64 e, .string s, .slice a ts.length cap] 29)) = W0 at HG2 HR HWR hBz
            go_wp2_with fail
            go_loopw [93, 5] (fun i _ wr => ∃ j : Nat, j ≤ ts.length ∧ i = .int .i64 j ∧ Good B b ((bs ++ Lib.byteCells O) ++ Lib.byteCells (mpsL (ts.take j))) W0 wr) (fun i _ _ => ts.length + 1 - (intOf i).toNat)
            case atStart => exact ⟨0, by omega, rfl, by rw [List.take_zero]; simpa [mpsL, Lib.byteCells] using HG2.out⟩
            case round =>
              obtain ⟨j, hj, rfl, hg⟩ := hrel
              clear q0 q1 q2 q3 q4
              have HGJ := Lib.hid hg; clear hg HG2
              by_cases hlt : j < ts.length
              · have hne : ts ≠ [] := by intro e; rw [e] at hlt; simp at hlt
                obtain ⟨rfl, hbw⟩ := HA.out hne
                have HWW := Lib.hid (HWR.out _ _ HGJ.out)
                obtain ⟨c0, c1, c2, c3, c4⟩ := (HE.out j hlt).1.keep (HWW.out.block b2 hbw)
                have VJ := Lib.hid (fun (W : World) (hW : Below wr.heap.size wr W) => V1.out j hlt W (below_step HWW.out hW (by have := HWW.out.size; omega)) _ (HGJ.out.bld.stay hW) (Nat.le_trans (Nat.le_trans hBz HGJ.out.below.size) hW.size) (HL.out j hlt))
                have HTJ := Lib.hid (HT.out j hlt)
                obtain ⟨a3, cap3, hs3⟩ := (HE.out j hlt).2.2.slice
                rw [hs3] at c4 VJ
                clear hs3 V1
                unfold V.agg at VJ
                generalize mpL ts[j] = C at *
                go_wp2_with fail
                refine (VJ.out _ ((by (with_reducible (repeat' (first | exact Below.refl _ _ | refine below_alloc ?_ _ ?_ | refine Below.setCell ?_ ?_ _ | refine Below.drew ?_ | refine below_drewN ?_ _ | refine below_step ?_ (by assumption) ?_ | refine below_mark ?_ (by assumption) ?_))); all_goals (first | omega | (simp; done) | (simp; omega))))).mono ?_
                rintro x w2 ⟨rfl, hr2⟩
                have HN := Lib.hid (show Good B b ((bs ++ Lib.byteCells O) ++ Lib.byteCells (mpsL (ts.take (j + 1)))) W0 w2 by
                  rw [HTJ.out, byte_app, ← List.append_assoc]
                  exact (Good.stay hBz ((by (with_reducible (repeat' (first | exact Below.refl _ _ | refine below_alloc ?_ _ ?_ | refine Below.setCell ?_ ?_ _ | refine Below.drew ?_ | refine below_drewN ?_ _ | refine below_step ?_ (by assumption) ?_ | refine below_mark ?_ (by assumption) ?_))); all_goals (first | omega | (simp; done) | (simp; omega)))) HGJ.out).ret hr2)
                clear hr2
                go_wp2_with fail
                go_roundw
                case rel => ((repeat apply Exists.intro); exact ⟨⟨j + 1, by omega, by go_num, HN.out⟩, rfl⟩)
                case measure => simp [intOf]; omega
              · go_wp2_with fail
                go_end0
                have hj2 : ts.take j = ts := by rw [List.take_of_length_le (by omega)]
                have hg := HGJ.out
                rw [hj2] at hg
                exact ⟨rfl, HR.out _ hg⟩
          exact AllReadyH.nil
        exact AllReadyH.nil
      exact AllReadyH.nil
    exact AllReadyH.nil
  all_goals
    go_wp2_with fail
    go_loopw [93, 5] (fun i _ wr => ∃ j : Nat, j ≤ ts.length ∧ i = .int .i64 j ∧ Good B b ((bs ++ Lib.byteCells O) ++ Lib.byteCells (mpsL (ts.take j))) W0 wr) (fun i _ _ => ts.length + 1 - (intOf i).toNat)
    case atStart => exact ⟨0, by omega, rfl, by rw [List.take_zero]; simpa [mpsL, Lib.byteCells] using HG2.out⟩
    case round =>
      obtain ⟨j, hj, rfl, hg⟩ := hrel
      clear q0 q1 q2 q3 q4
      have HGJ := Lib.hid hg; clear hg HG2
      by_cases hlt : j < ts.length
      · have hne : ts ≠ [] := by intro e; rw [e] at hlt; simp at hlt
        obtain ⟨rfl, hbw⟩ := HA.out hne
        have HWW := Lib.hid (HWR.out _ _ HGJ.out)
        obtain ⟨c0, c1, c2, c3, c4⟩ := (HE.out j hlt).1.keep (HWW.out.block b2 hbw)
        have VJ := Lib.hid (fun (W : World) (hW : Below wr.heap.size wr W) => V1.out j hlt W (below_step HWW.out hW (by have := HWW.out.size; omega)) _ (HGJ.out.bld.stay hW) (Nat.le_trans (Nat.le_trans hBz HGJ.out.below.size) hW.size) (HL.out j hlt))
        have HTJ := Lib.hid (HT.out j hlt)
        obtain ⟨a3, cap3, hs3⟩ := (HE.out j hlt).2.2.slice
        rw [hs3] at c4 VJ
        clear hs3 V1
        unfold V.agg at VJ
        generalize mpL ts[j] = C at *
        go_wp2_with fail
        refine (VJ.out _ ((by (with_reducible (repeat' (first | exact Below.refl _ _ | refine below_alloc ?_ _ ?_ | refine Below.setCell ?_ ?_ _ | refine Below.drew ?_ | refine below_drewN ?_ _ | refine below_step ?_ (by assumption) ?_ | refine below_mark ?_ (by assumption) ?_))); all_goals (first | omega | (simp; done) | (simp; omega))))).mono ?_
        rintro x w2 ⟨rfl, hr2⟩
        have HN := Lib.hid (show Good B b ((bs ++ Lib.byteCells O) ++ Lib.byteCells (mpsL (ts.take (j + 1)))) W0 w2 by
          rw [HTJ.out, byte_app, ← List.append_assoc]
          exact (Good.stay hBz ((by (with_reducible (repeat' (first | exact Below.refl _ _ | refine below_alloc ?_ _ ?_ | refine Below.setCell ?_ ?_ _ | refine Below.drew ?_ | refine below_drewN ?_ _ | refine below_step ?_ (by assumption) ?_ | refine below_mark ?_ (by assumption) ?_))); all_goals (first | omega | (simp; done) | (simp; omega)))) HGJ.out).ret hr2)
        clear hr2
        go_wp2_with fail
        go_roundw
        case rel => exact ⟨j + 1, by omega, by go_num, HN.out⟩
        case measure => simp [intOf]; omega
      · go_wp2_with fail
        go_end0
        have hj2 : ts.take j = ts := by rw [List.take_of_length_le (by omega)]
        have hg := HGJ.out
        rw [hj2] at hg
        exact ⟨rfl, HR.out _ hg⟩
theorem mpB_no {t : V} (h : okT t = false) : mpB t = [] := by rw [mpB, h]; rfl
theorem mpB_yes {t : V} (h : okT t = true) : mpB t = mpL t ∧ rightB t 12 = true ∧ t.nodes ≤ 300 := by
  refine ⟨by rw [mpB, h]; rfl, ?_⟩
  simp only [okT, Bool.and_eq_true, decide_eq_true_eq] at h
  exact h
set_option maxHeartbeats 2000000 in
theorem PutMsg_impl (w0 : World) (hE : Env w0) (v : Value) (t : V) (h : Rep w0 v t) (hsz : t.sz ≤ 1048576) (w : World) (hw : Below w0.heap.size w0 w) :
    Calls Tryd.prog 51 #[v] w (TxtRet w (mpB t)) := by
  have VO := Lib.hid (fun (W : World) (hW : Below w.heap.size w W) => ValueOk_impl w0 hE v t h hsz W (hw.trans (hW.mono hw.size)))
  have PU := Lib.hid (fun (b : Nat) (hb : w.heap.size ≤ b) (hr : rightB t 12 = true) (hn : t.nodes ≤ 300) (hl : (mpL t).length ≤ 1000000) (W : World) (hB : Bld b b [] W) (hW : Below w.heap.size w W) => putMsg_any w0 b b (Nat.le_trans hw.size hb) _ v t 12 (Nat.lt_succ_self _) hr h hsz hn [] W (hw.trans (hW.mono hw.size)) hB (Nat.le_of_lt hB.lt) (by simpa using hl))
  have SG := Lib.hid (fun (b : Nat) (W : World) (hB : Bld b b (Lib.byteCells (mpL t)) W) => String_any b b (mpL t) W hB (Nat.le_of_lt hB.lt))
  have HN := Lib.hid (@mpB_no t)
  have HY := Lib.hid (@mpB_yes t)
  have HLE := Lib.hid (mpB_le t)
  obtain ⟨sl, rfl, hwf, hr⟩ := h
  obtain ⟨sa, sc, rfl⟩ := hr.slice
  clear hr hwf hsz
  unfold V.agg at *
  generalize okT t = b1 at *
  generalize mpB t = R at *
  generalize mpL t = C at *
  generalize t.k = k at *
  generalize t.n = n at *
  generalize t.e = e at *
  generalize t.s = s at *
  generalize t.kids = ts at *
  have BX := Lib.hid (Box.new w k n e s (.slice sa ts.length sc) 29)
  cases b1
  · clear PU
    go_enter Tryd.func51, Tryd.ntmps51
    go_wp2_with fail
    refine (VO.out _ ((by (with_reducible (repeat' (first | exact Below.refl _ _ | refine below_alloc ?_ _ ?_ | refine Below.setCell ?_ ?_ _ | refine Below.drew ?_ | refine below_drewN ?_ _ | refine below_step ?_ (by assumption) ?_ | refine below_mark ?_ (by assumption) ?_))); all_goals (first | omega | (simp; done) | (simp; omega))))).mono ?_
    rintro x w1 ⟨rfl, hb1⟩
    obtain ⟨p0, p1, p2, p3, p4⟩ := (BX.out.stay hb1).cells
    go_wp2_with fail
    go_ret
    exact ⟨by rw [HN.out trivial]; rfl, (by (with_reducible (repeat' (first | exact Below.refl _ _ | refine below_alloc ?_ _ ?_ | refine Below.setCell ?_ ?_ _ | refine Below.drew ?_ | refine below_drewN ?_ _ | refine below_step ?_ (by assumption) ?_ | refine below_mark ?_ (by assumption) ?_))); all_goals (first | omega | (simp; done) | (simp; omega)))⟩
  · go_enter Tryd.func51, Tryd.ntmps51
    go_wp2_with fail
    refine (VO.out _ ((by (with_reducible (repeat' (first | exact Below.refl _ _ | refine below_alloc ?_ _ ?_ | refine Below.setCell ?_ ?_ _ | refine Below.drew ?_ | refine below_drewN ?_ _ | refine below_step ?_ (by assumption) ?_ | refine below_mark ?_ (by assumption) ?_))); all_goals (first | omega | (simp; done) | (simp; omega))))).mono ?_
    rintro x w1 ⟨rfl, hb1⟩
    have BX2 := Lib.hid (BX.out.stay hb1)
    have HB2 := Lib.hid (show Below w.heap.size w w1 from (by (with_reducible (repeat' (first | exact Below.refl _ _ | refine below_alloc ?_ _ ?_ | refine Below.setCell ?_ ?_ _ | refine Below.drew ?_ | refine below_drewN ?_ _ | refine below_step ?_ (by assumption) ?_ | refine below_mark ?_ (by assumption) ?_))); all_goals (first | omega | (simp; done) | (simp; omega))))
    obtain ⟨p0, p1, p2, p3, p4⟩ := (BX2.out.alloc (.cells #[.pointer none, .slice none 0 0] 85)).cells
    obtain ⟨hc, hr, hn⟩ := HY.out trivial
    have hle := HLE.out
    have HFR := Lib.hid (show Bld w1.heap.size w1.heap.size [] (w1.alloc (.cells #[.pointer none, .slice none 0 0] 85)) from Lib.IsBuilderF.of (Lib.fresh_isBuilder _ _ _))
    have hz2 := HB2.out.size
    have PU2 := Lib.hid (PU.out w1.heap.size hz2 hr hn (by rw [← hc]; omega) (w1.alloc (.cells #[.pointer none, .slice none 0 0] 85)) HFR.out (below_alloc HB2.out _ (Nat.le_refl _)))
    clear PU
    go_wp2_with fail
    refine PU2.out.mono ?_
    rintro x w3 ⟨rfl, hr3⟩
    have HB3 := Lib.hid (show Below w.heap.size w w3 from (below_alloc HB2.out _ (Nat.le_refl _)).trans (hr3.2.1.mono hz2))
    have SG3 := Lib.hid (SG.out _ _ hr3.1)
    go_wp2_with fail
    refine SG3.out.mono ?_
    rintro x w4 ⟨rfl, hr4⟩
    have HB4 := Lib.hid (show Below w.heap.size w w4 from HB3.out.trans (hr4.2.1.mono hz2))
    go_wp2_with fail
    go_ret
    exact ⟨by rw [hc]; rfl, HB4.out⟩
end Go.Proofs.YtfjehhdahpbbgaaDoor
