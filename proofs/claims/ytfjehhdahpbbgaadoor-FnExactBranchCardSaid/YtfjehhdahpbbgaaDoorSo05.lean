/- Lemmas for the statement of the last text of this claim: texts joined. -/
import Derived.Test.YtfjehhdahpbbgaaDoorSo01
import Derived.Test.YtfjehhdahpbbgaaDoorSo02
import Derived.Test.YtfjehhdahpbbgaaDoorSo04
import Derived.Deep.RegionWith
import Derived.Deep.QuietTactic
import Derived.BigQuiet
namespace Go.Proofs.YtfjehhdahpbbgaaDoor
set_option linter.unusedSimpArgs false
set_option linter.unusedVariables false
set_option maxRecDepth 100000
open Go.RowKit
def signN (n : Int) (m : Nat) : Int := if 8 ≤ m then n else if n % 256 ^ m < 256 ^ m / 2 then n % 256 ^ m else n % 256 ^ m - 256 ^ m
def mpNum (n : Int) : List UInt8 :=
  if -32 ≤ n ∧ n ≤ 127 then bigZ 1 n else if 0 ≤ n ∧ n ≤ 255 then 204 :: bigZ 1 n else if 0 ≤ n ∧ n ≤ 65535 then 205 :: bigZ 2 n
  else if 0 ≤ n ∧ n ≤ 4294967295 then 206 :: bigZ 4 n else if 0 ≤ n then 207 :: bigZ 8 n else if -128 ≤ n then 208 :: bigZ 1 n
  else if -32768 ≤ n then 209 :: bigZ 2 n else if -2147483648 ≤ n then 210 :: bigZ 4 n else 211 :: bigZ 8 n
def mpMany (n least low one two : Int) : List UInt8 :=
  if n < least then bigZ 1 (low + n) else if n < 256 ∧ 0 < one then bigZ 1 one ++ bigZ 1 n else bigZ 1 two ++ bigZ 2 n
def mpOwn (t : V) : List UInt8 :=
  if t.k = 0 then [192] else if t.k = 1 then [194] else if t.k = 2 then [195] else if t.k = 3 then mpNum t.n
  else if t.k = 4 then [199, 9, 4] ++ bigZ 1 t.e ++ bigZ 8 t.n
  else if t.k = 5 then mpMany t.s.size 32 160 217 218 ++ t.s.data.toList else if t.k = 6 then mpMany t.s.size 0 0 196 197 ++ t.s.data.toList
  else if t.k = 7 then mpMany t.kids.length 16 144 0 220 else if t.k = 8 then mpMany (t.kids.length / 2 : Nat) 16 128 0 222 else [199, 4, 6] ++ bigZ 4 t.n
mutual
def mpL : V → List UInt8
  | .mk k n e s ks => mpOwn (.mk k n e s ks) ++ mpsL ks
def mpsL : List V → List UInt8
  | [] => []
  | t :: ts => mpL t ++ mpsL ts
 end
theorem mpL_eq (t : V) : mpL t = mpOwn t ++ mpsL t.kids := by cases t; rw [mpL]; rfl
theorem mpsL_append : ∀ a b : List V, mpsL (a ++ b) = mpsL a ++ mpsL b
  | [], b => by simp [mpsL]
  | t :: a, b => by rw [List.cons_append, mpsL, mpsL, mpsL_append a b, List.append_assoc]
theorem mpsL_take (ts : List V) (j : Nat) (hj : j < ts.length) : mpsL (ts.take (j + 1)) = mpsL (ts.take j) ++ mpL ts[j] := by
  rw [List.take_succ_eq_append_getElem hj, mpsL_append, mpsL, mpsL, List.append_nil]
theorem mpNum_le (n : Int) : (mpNum n).length ≤ 9 := by
  unfold mpNum
  repeat' split
  all_goals simp [bigZ_length]
theorem mpMany_le (n least low one two : Int) : (mpMany n least low one two).length ≤ 3 := by
  unfold mpMany
  repeat' split
  all_goals simp [bigZ_length]
theorem mpOwn_le (t : V) (h : t.s.size ≤ 2000) : (mpOwn t).length ≤ 2050 := by
  unfold mpOwn
  have hs : t.s.data.toList.length = t.s.size := Array.length_toList
  repeat' split
  all_goals first
    | (simp only [List.length_cons, List.length_nil]; omega)
    | (have := mpNum_le t.n; omega)
    | (have := mpMany_le t.s.size 32 160 217 218; simp only [List.length_append]; omega)
    | (have := mpMany_le t.s.size 0 0 196 197; simp only [List.length_append]; omega)
    | (have := mpMany_le t.kids.length 16 144 0 220; omega)
    | (have := mpMany_le (t.kids.length / 2 : Nat) 16 128 0 222; omega)
    | (simp only [List.length_append, List.length_cons, List.length_nil, bigZ_length]; omega)
mutual
theorem mp_le : ∀ (t : V) (d : Int), rightB t d = true → (mpL t).length ≤ 2050 * t.nodes
  | .mk k n e s ks, d, h => by
    have h1 := mpOwn_le (.mk k n e s ks) (node_small (rightB_leaf h).1)
    have h2 := mps_le ks (d - 1) (right_kids h)
    rw [mpL_eq, List.length_append, V.nodes_eq]
    show (mpOwn (.mk k n e s ks)).length + (mpsL ks).length ≤ 2050 * (1 + nodess ks)
    omega
theorem mps_le : ∀ (ts : List V) (d : Int), rightsB ts d = true → (mpsL ts).length ≤ 2050 * nodess ts
  | [], _, _ => by simp [mpsL]
  | t :: ts, d, h => by
    rw [rightsB, Bool.and_eq_true] at h
    have h1 := mp_le t d h.1
    have h2 := mps_le ts d h.2
    rw [mpsL, List.length_append, nodess]; omega
 end
theorem mps_take_le (ts : List V) (j : Nat) : (mpsL (ts.take j)).length ≤ (mpsL ts).length := by
  have := mpsL_append (ts.take j) (ts.drop j)
  rw [List.take_append_drop] at this
  rw [this, List.length_append]; omega
def mpB (t : V) : List UInt8 := if okT t then mpL t else []
theorem mpB_le (t : V) : (mpB t).length ≤ 615000 := by
  unfold mpB
  split
  · rename_i h
    have h1 := ok_small h
    simp only [okT, Bool.and_eq_true] at h
    have := mp_le t 12 h.1
    omega
  · simp
end Go.Proofs.YtfjehhdahpbbgaaDoor
namespace Go.Proofs.YtfjehhdahpbbgaaDoor
set_option linter.unusedSimpArgs false
set_option linter.unusedVariables false
set_option maxRecDepth 100000
open Go.RowKit
theorem sign_shift (n : Int) (m : Nat) (h1 : 1 ≤ m) (h8 : m ≤ 8) (h : In64 n) : wrap64 (n * 2 ^ (64 - 8 * m)) / 2 ^ (64 - 8 * m) = signN n m := by
  have hm : m = 1 ∨ m = 2 ∨ m = 3 ∨ m = 4 ∨ m = 5 ∨ m = 6 ∨ m = 7 ∨ m = 8 := by omega
  unfold In64 at h
  unfold signN wrap64
  rcases hm with rfl | rfl | rfl | rfl | rfl | rfl | rfl | rfl
  all_goals (simp; try (split <;> omega))
  omega
theorem SignOf_impl (n : Int) (m : Nat) (w : World) (h1 : 1 ≤ m) (h8 : m ≤ 8) (h : In64 n) : Calls Tryd.prog 135 #[.int .i64 n, .int .i64 m] w fun e w' => e = .returned (.int .i64 (signN n m)) ∧ w' = w := by
  have HS := Lib.hid (sign_shift n m h1 h8 h)
  go_enter Tryd.func135, Tryd.ntmps135
  go_wp2_with (go_at_call 57; refine (within_yes _ _ _ _ (by omega) (by omega)).mono ?_; rintro e w' ⟨rfl, rfl⟩)
  go_ret
  exact ⟨by rw [← HS.out]; rfl, rfl⟩
end Go.Proofs.YtfjehhdahpbbgaaDoor
namespace Go.Proofs.YtfjehhdahpbbgaaDoor
set_option linter.unusedSimpArgs false
set_option linter.unusedVariables false
set_option maxRecDepth 100000
open Go.RowKit
theorem cat3 (a b c : List UInt8) : (⟨a.toArray⟩ : ByteArray) ++ ⟨b.toArray⟩ ++ ⟨c.toArray⟩ = ⟨(a ++ b ++ c).toArray⟩ := by simp [ByteArray.ext_iff]
theorem PutWide_spec (n m : Int) (w : World) (hn : In64 n) (hm0 : 1 ≤ m) (hm : m ≤ 8) : Calls Tryd.prog 104 #[.int .i64 n, .int .i64 m] w (TxtRet w (bigZ m.toNat n)) := by
  obtain ⟨h1, h2⟩ := hn
  have IN := Lib.hid (fun W => l01In_yes m 1 8 W hm0 hm)
  have hx : ∃ x : Int, IntKind.u64.wrap n = x ∧ 0 ≤ x ∧ x < 18446744073709551616 ∧ bigZ m.toNat n = big m.toNat x.toNat := by
    by_cases h : 0 ≤ n
    · exact ⟨n, u64w n h (by omega), h, by omega, by rw [big_bigZ]; congr 1; omega⟩
    · refine ⟨n + 18446744073709551616, ?_, by omega, by omega, ?_⟩
      · unfold IntKind.wrap; simp [IntKind.bits, IntKind.signed]; omega
      · rw [big_bigZ, show (((n + 18446744073709551616).toNat : Nat) : Int) = n + 18446744073709551616 by omega, ← bigZ_neg m.toNat (n + 18446744073709551616) (by omega)]
        congr 1; omega
  obtain ⟨x, hx, x0, x1, he⟩ := hx
  have BG := Lib.hid (fun W => l05Big_int x m W x0 x1 (by omega) (by omega))
  rw [he]
  clear he h1 h2 x0 x1 hm0 hm
  go_enter Tryd.func104, Tryd.ntmps104
  go_wp2_with fail
  refine (IN.out _).mono ?_
  rintro e w1 ⟨rfl, rfl⟩
  go_wp2_with fail
  refine (BG.out _).mono ?_
  rintro e w1 ⟨rfl, hb⟩
  go_wp2_with fail
  go_ret
  exact ⟨rfl, hb⟩
theorem l06Int_0 (n : Int) (hn : In64 n)  (h0 : -32 ≤ n ∧ n ≤ 127) (w : World) : Calls Tryd.prog 103 #[.int .i64 n] w (TxtRet w (bigZ 1 n)) := by
  have I0 := Lib.hid (fun W => l01In_yes n (-32) 127 W (by omega) (by omega))
  have PW := Lib.hid (fun W => PutWide_spec n 1 W hn (by omega) (by omega))
  have S1 : ¬ 9223372036854775807 < 1 + (bigZ 1 n).length := by rw [bigZ_length]; omega
  clear h0 hn
  go_enter Tryd.func103, Tryd.ntmps103
  go_wp2_with fail
  refine (I0.out _).mono ?_
  rintro e w1 ⟨rfl, rfl⟩
  go_wp2_with fail
  refine (PW.out _).mono ?_
  rintro e w1 ⟨rfl, hb⟩
  go_wp2_with fail
  go_ret
  exact ⟨rfl, hb⟩
theorem l06Int_1 (n : Int) (hn : In64 n) (h0 : ¬ (-32 ≤ n ∧ n ≤ 127)) (h1 : 0 ≤ n ∧ n ≤ 255) (w : World) : Calls Tryd.prog 103 #[.int .i64 n] w (TxtRet w (204 :: bigZ 1 n)) := by
  have I0 := Lib.hid (fun W => l01In_no n (-32) 127 W (by omega))
  have I1 := Lib.hid (fun W => l01In_yes n 0 255 W (by omega) (by omega))
  have PW := Lib.hid (fun W => PutWide_spec n 1 W hn (by omega) (by omega))
  have S1 : ¬ 9223372036854775807 < 1 + (bigZ 1 n).length := by rw [bigZ_length]; omega
  clear h0 h1 hn
  go_enter Tryd.func103, Tryd.ntmps103
  go_wp2_with fail
  refine (I0.out _).mono ?_
  rintro e w1 ⟨rfl, rfl⟩
  go_wp2_with fail
  refine (I1.out _).mono ?_
  rintro e w1 ⟨rfl, rfl⟩
  go_wp2_with fail
  refine (PW.out _).mono ?_
  rintro e w1 ⟨rfl, hb⟩
  go_wp2_with fail
  go_ret
  exact ⟨ret_str (bstr_append [204] _), hb⟩
theorem l06Int_2 (n : Int) (hn : In64 n) (h0 : ¬ (-32 ≤ n ∧ n ≤ 127)) (h1 : ¬ (0 ≤ n ∧ n ≤ 255)) (h2 : 0 ≤ n ∧ n ≤ 65535) (w : World) : Calls Tryd.prog 103 #[.int .i64 n] w (TxtRet w (205 :: bigZ 2 n)) := by
  have I0 := Lib.hid (fun W => l01In_no n (-32) 127 W (by omega))
  have I1 := Lib.hid (fun W => l01In_no n 0 255 W (by omega))
  have I2 := Lib.hid (fun W => l01In_yes n 0 65535 W (by omega) (by omega))
  have PW := Lib.hid (fun W => PutWide_spec n 2 W hn (by omega) (by omega))
  have S1 : ¬ 9223372036854775807 < 1 + (bigZ 2 n).length := by rw [bigZ_length]; omega
  clear h0 h1 h2 hn
  go_enter Tryd.func103, Tryd.ntmps103
  go_wp2_with fail
  refine (I0.out _).mono ?_
  rintro e w1 ⟨rfl, rfl⟩
  go_wp2_with fail
  refine (I1.out _).mono ?_
  rintro e w1 ⟨rfl, rfl⟩
  go_wp2_with fail
  refine (I2.out _).mono ?_
  rintro e w1 ⟨rfl, rfl⟩
  go_wp2_with fail
  refine (PW.out _).mono ?_
  rintro e w1 ⟨rfl, hb⟩
  go_wp2_with fail
  go_ret
  exact ⟨ret_str (bstr_append [205] _), hb⟩
theorem l06Int_3 (n : Int) (hn : In64 n) (h0 : ¬ (-32 ≤ n ∧ n ≤ 127)) (h1 : ¬ (0 ≤ n ∧ n ≤ 255)) (h2 : ¬ (0 ≤ n ∧ n ≤ 65535)) (h3 : 0 ≤ n ∧ n ≤ 4294967295) (w : World) : Calls Tryd.prog 103 #[.int .i64 n] w (TxtRet w (206 :: bigZ 4 n)) := by
  have I0 := Lib.hid (fun W => l01In_no n (-32) 127 W (by omega))
  have I1 := Lib.hid (fun W => l01In_no n 0 255 W (by omega))
  have I2 := Lib.hid (fun W => l01In_no n 0 65535 W (by omega))
  have I3 := Lib.hid (fun W => l01In_yes n 0 4294967295 W (by omega) (by omega))
  have PW := Lib.hid (fun W => PutWide_spec n 4 W hn (by omega) (by omega))
  have S1 : ¬ 9223372036854775807 < 1 + (bigZ 4 n).length := by rw [bigZ_length]; omega
  clear h0 h1 h2 h3 hn
  go_enter Tryd.func103, Tryd.ntmps103
  go_wp2_with fail
  refine (I0.out _).mono ?_
  rintro e w1 ⟨rfl, rfl⟩
  go_wp2_with fail
  refine (I1.out _).mono ?_
  rintro e w1 ⟨rfl, rfl⟩
  go_wp2_with fail
  refine (I2.out _).mono ?_
  rintro e w1 ⟨rfl, rfl⟩
  go_wp2_with fail
  refine (I3.out _).mono ?_
  rintro e w1 ⟨rfl, rfl⟩
  go_wp2_with fail
  refine (PW.out _).mono ?_
  rintro e w1 ⟨rfl, hb⟩
  go_wp2_with fail
  go_ret
  exact ⟨ret_str (bstr_append [206] _), hb⟩
theorem l06Int_4 (n : Int) (hn : In64 n) (h0 : ¬ (-32 ≤ n ∧ n ≤ 127)) (h1 : ¬ (0 ≤ n ∧ n ≤ 255)) (h2 : ¬ (0 ≤ n ∧ n ≤ 65535)) (h3 : ¬ (0 ≤ n ∧ n ≤ 4294967295)) (h4 : 0 ≤ n) (w : World) : Calls Tryd.prog 103 #[.int .i64 n] w (TxtRet w (207 :: bigZ 8 n)) := by
  have I0 := Lib.hid (fun W => l01In_no n (-32) 127 W (by omega))
  have I1 := Lib.hid (fun W => l01In_no n 0 255 W (by omega))
  have I2 := Lib.hid (fun W => l01In_no n 0 65535 W (by omega))
  have I3 := Lib.hid (fun W => l01In_no n 0 4294967295 W (by omega))
  have PW := Lib.hid (fun W => PutWide_spec n 8 W hn (by omega) (by omega))
  have g4 : decide (0 ≤ n) = true := decide_eq_true (by omega)
  have S1 : ¬ 9223372036854775807 < 1 + (bigZ 8 n).length := by rw [bigZ_length]; omega
  clear h0 h1 h2 h3 h4 hn
  go_enter Tryd.func103, Tryd.ntmps103
  go_wp2_with fail
  refine (I0.out _).mono ?_
  rintro e w1 ⟨rfl, rfl⟩
  go_wp2_with fail
  refine (I1.out _).mono ?_
  rintro e w1 ⟨rfl, rfl⟩
  go_wp2_with fail
  refine (I2.out _).mono ?_
  rintro e w1 ⟨rfl, rfl⟩
  go_wp2_with fail
  refine (I3.out _).mono ?_
  rintro e w1 ⟨rfl, rfl⟩
  go_wp2_with fail
  refine (PW.out _).mono ?_
  rintro e w1 ⟨rfl, hb⟩
  go_wp2_with fail
  go_ret
  exact ⟨ret_str (bstr_append [207] _), hb⟩
theorem l06Int_5 (n : Int) (hn : In64 n) (h0 : ¬ (-32 ≤ n ∧ n ≤ 127)) (h1 : ¬ (0 ≤ n ∧ n ≤ 255)) (h2 : ¬ (0 ≤ n ∧ n ≤ 65535)) (h3 : ¬ (0 ≤ n ∧ n ≤ 4294967295)) (h4 : ¬ (0 ≤ n)) (h5 : -128 ≤ n) (w : World) : Calls Tryd.prog 103 #[.int .i64 n] w (TxtRet w (208 :: bigZ 1 n)) := by
  have I0 := Lib.hid (fun W => l01In_no n (-32) 127 W (by omega))
  have I1 := Lib.hid (fun W => l01In_no n 0 255 W (by omega))
  have I2 := Lib.hid (fun W => l01In_no n 0 65535 W (by omega))
  have I3 := Lib.hid (fun W => l01In_no n 0 4294967295 W (by omega))
  have PW := Lib.hid (fun W => PutWide_spec n 1 W hn (by omega) (by omega))
  have g4 : decide (0 ≤ n) = false := decide_eq_false (by omega)
  have g5 : decide (-128 ≤ n) = true := decide_eq_true (by omega)
  have S1 : ¬ 9223372036854775807 < 1 + (bigZ 1 n).length := by rw [bigZ_length]; omega
  clear h0 h1 h2 h3 h4 h5 hn
  go_enter Tryd.func103, Tryd.ntmps103
  go_wp2_with fail
  refine (I0.out _).mono ?_
  rintro e w1 ⟨rfl, rfl⟩
  go_wp2_with fail
  refine (I1.out _).mono ?_
  rintro e w1 ⟨rfl, rfl⟩
  go_wp2_with fail
  refine (I2.out _).mono ?_
  rintro e w1 ⟨rfl, rfl⟩
  go_wp2_with fail
  refine (I3.out _).mono ?_
  rintro e w1 ⟨rfl, rfl⟩
  go_wp2_with fail
  refine (PW.out _).mono ?_
  rintro e w1 ⟨rfl, hb⟩
  go_wp2_with fail
  go_ret
  exact ⟨ret_str (bstr_append [208] _), hb⟩
theorem l06Int_6 (n : Int) (hn : In64 n) (h0 : ¬ (-32 ≤ n ∧ n ≤ 127)) (h1 : ¬ (0 ≤ n ∧ n ≤ 255)) (h2 : ¬ (0 ≤ n ∧ n ≤ 65535)) (h3 : ¬ (0 ≤ n ∧ n ≤ 4294967295)) (h4 : ¬ (0 ≤ n)) (h5 : ¬ (-128 ≤ n)) (h6 : -32768 ≤ n) (w : World) : Calls Tryd.prog 103 #[.int .i64 n] w (TxtRet w (209 :: bigZ 2 n)) := by
  have I0 := Lib.hid (fun W => l01In_no n (-32) 127 W (by omega))
  have I1 := Lib.hid (fun W => l01In_no n 0 255 W (by omega))
  have I2 := Lib.hid (fun W => l01In_no n 0 65535 W (by omega))
  have I3 := Lib.hid (fun W => l01In_no n 0 4294967295 W (by omega))
  have PW := Lib.hid (fun W => PutWide_spec n 2 W hn (by omega) (by omega))
  have g4 : decide (0 ≤ n) = false := decide_eq_false (by omega)
  have g5 : decide (-128 ≤ n) = false := decide_eq_false (by omega)
  have g6 : decide (-32768 ≤ n) = true := decide_eq_true (by omega)
  have S1 : ¬ 9223372036854775807 < 1 + (bigZ 2 n).length := by rw [bigZ_length]; omega
  clear h0 h1 h2 h3 h4 h5 h6 hn
  go_enter Tryd.func103, Tryd.ntmps103
  go_wp2_with fail
  refine (I0.out _).mono ?_
  rintro e w1 ⟨rfl, rfl⟩
  go_wp2_with fail
  refine (I1.out _).mono ?_
  rintro e w1 ⟨rfl, rfl⟩
  go_wp2_with fail
  refine (I2.out _).mono ?_
  rintro e w1 ⟨rfl, rfl⟩
  go_wp2_with fail
  refine (I3.out _).mono ?_
  rintro e w1 ⟨rfl, rfl⟩
  go_wp2_with fail
  refine (PW.out _).mono ?_
  rintro e w1 ⟨rfl, hb⟩
  go_wp2_with fail
  go_ret
  exact ⟨ret_str (bstr_append [209] _), hb⟩
theorem l06Int_7 (n : Int) (hn : In64 n) (h0 : ¬ (-32 ≤ n ∧ n ≤ 127)) (h1 : ¬ (0 ≤ n ∧ n ≤ 255)) (h2 : ¬ (0 ≤ n ∧ n ≤ 65535)) (h3 : ¬ (0 ≤ n ∧ n ≤ 4294967295)) (h4 : ¬ (0 ≤ n)) (h5 : ¬ (-128 ≤ n)) (h6 : ¬ (-32768 ≤ n)) (h7 : -2147483648 ≤ n) (w : World) : Calls Tryd.prog 103 #[.int .i64 n] w (TxtRet w (210 :: bigZ 4 n)) := by
  have I0 := Lib.hid (fun W => l01In_no n (-32) 127 W (by omega))
  have I1 := Lib.hid (fun W => l01In_no n 0 255 W (by omega))
  have I2 := Lib.hid (fun W => l01In_no n 0 65535 W (by omega))
  have I3 := Lib.hid (fun W => l01In_no n 0 4294967295 W (by omega))
  have PW := Lib.hid (fun W => PutWide_spec n 4 W hn (by omega) (by omega))
  have g4 : decide (0 ≤ n) = false := decide_eq_false (by omega)
  have g5 : decide (-128 ≤ n) = false := decide_eq_false (by omega)
  have g6 : decide (-32768 ≤ n) = false := decide_eq_false (by omega)
  have g7 : decide (-2147483648 ≤ n) = true := decide_eq_true (by omega)
  have S1 : ¬ 9223372036854775807 < 1 + (bigZ 4 n).length := by rw [bigZ_length]; omega
  clear h0 h1 h2 h3 h4 h5 h6 h7 hn
  go_enter Tryd.func103, Tryd.ntmps103
  go_wp2_with fail
  refine (I0.out _).mono ?_
  rintro e w1 ⟨rfl, rfl⟩
  go_wp2_with fail
  refine (I1.out _).mono ?_
  rintro e w1 ⟨rfl, rfl⟩
  go_wp2_with fail
  refine (I2.out _).mono ?_
  rintro e w1 ⟨rfl, rfl⟩
  go_wp2_with fail
  refine (I3.out _).mono ?_
  rintro e w1 ⟨rfl, rfl⟩
  go_wp2_with fail
  refine (PW.out _).mono ?_
  rintro e w1 ⟨rfl, hb⟩
  go_wp2_with fail
  go_ret
  exact ⟨ret_str (bstr_append [210] _), hb⟩
theorem l06Int_8 (n : Int) (hn : In64 n) (h0 : ¬ (-32 ≤ n ∧ n ≤ 127)) (h1 : ¬ (0 ≤ n ∧ n ≤ 255)) (h2 : ¬ (0 ≤ n ∧ n ≤ 65535)) (h3 : ¬ (0 ≤ n ∧ n ≤ 4294967295)) (h4 : ¬ (0 ≤ n)) (h5 : ¬ (-128 ≤ n)) (h6 : ¬ (-32768 ≤ n)) (h7 : ¬ (-2147483648 ≤ n)) (w : World) : Calls Tryd.prog 103 #[.int .i64 n] w (TxtRet w (211 :: bigZ 8 n)) := by
  have I0 := Lib.hid (fun W => l01In_no n (-32) 127 W (by omega))
  have I1 := Lib.hid (fun W => l01In_no n 0 255 W (by omega))
  have I2 := Lib.hid (fun W => l01In_no n 0 65535 W (by omega))
  have I3 := Lib.hid (fun W => l01In_no n 0 4294967295 W (by omega))
  have PW := Lib.hid (fun W => PutWide_spec n 8 W hn (by omega) (by omega))
  have g4 : decide (0 ≤ n) = false := decide_eq_false (by omega)
  have g5 : decide (-128 ≤ n) = false := decide_eq_false (by omega)
  have g6 : decide (-32768 ≤ n) = false := decide_eq_false (by omega)
  have g7 : decide (-2147483648 ≤ n) = false := decide_eq_false (by omega)
  have S1 : ¬ 9223372036854775807 < 1 + (bigZ 8 n).length := by rw [bigZ_length]; omega
  clear h0 h1 h2 h3 h4 h5 h6 h7 hn
  go_enter Tryd.func103, Tryd.ntmps103
  go_wp2_with fail
  refine (I0.out _).mono ?_
  rintro e w1 ⟨rfl, rfl⟩
  go_wp2_with fail
  refine (I1.out _).mono ?_
  rintro e w1 ⟨rfl, rfl⟩
  go_wp2_with fail
  refine (I2.out _).mono ?_
  rintro e w1 ⟨rfl, rfl⟩
  go_wp2_with fail
  refine (I3.out _).mono ?_
  rintro e w1 ⟨rfl, rfl⟩
  go_wp2_with fail
  refine (PW.out _).mono ?_
  rintro e w1 ⟨rfl, hb⟩
  go_wp2_with fail
  go_ret
  exact ⟨ret_str (bstr_append [211] _), hb⟩
theorem l06Int_any (n : Int) (hn : In64 n) (w : World) : Calls Tryd.prog 103 #[.int .i64 n] w (TxtRet w (mpNum n)) := by
  unfold mpNum
  by_cases h0 : -32 ≤ n ∧ n ≤ 127
  · rw [if_pos h0]; exact l06Int_0 n hn h0 w
  rw [if_neg h0]
  by_cases h1 : 0 ≤ n ∧ n ≤ 255
  · rw [if_pos h1]; exact l06Int_1 n hn h0 h1 w
  rw [if_neg h1]
  by_cases h2 : 0 ≤ n ∧ n ≤ 65535
  · rw [if_pos h2]; exact l06Int_2 n hn h0 h1 h2 w
  rw [if_neg h2]
  by_cases h3 : 0 ≤ n ∧ n ≤ 4294967295
  · rw [if_pos h3]; exact l06Int_3 n hn h0 h1 h2 h3 w
  rw [if_neg h3]
  by_cases h4 : 0 ≤ n
  · rw [if_pos h4]; exact l06Int_4 n hn h0 h1 h2 h3 h4 w
  rw [if_neg h4]
  by_cases h5 : -128 ≤ n
  · rw [if_pos h5]; exact l06Int_5 n hn h0 h1 h2 h3 h4 h5 w
  rw [if_neg h5]
  by_cases h6 : -32768 ≤ n
  · rw [if_pos h6]; exact l06Int_6 n hn h0 h1 h2 h3 h4 h5 h6 w
  rw [if_neg h6]
  by_cases h7 : -2147483648 ≤ n
  · rw [if_pos h7]; exact l06Int_7 n hn h0 h1 h2 h3 h4 h5 h6 h7 w
  rw [if_neg h7]
  exact l06Int_8 n hn h0 h1 h2 h3 h4 h5 h6 h7 w
theorem l06Many_any (n least low one two : Int) (hn : 0 ≤ n ∧ n ≤ 2000) (hl : 0 ≤ low ∧ low ≤ 255) (h1 : 0 ≤ one ∧ one ≤ 255) (h2 : 0 ≤ two ∧ two ≤ 255) (w : World) :
    Calls Tryd.prog 105 #[.int .i64 n, .int .i64 least, .int .i64 low, .int .i64 one, .int .i64 two] w (TxtRet w (mpMany n least low one two)) := by
  unfold mpMany
  by_cases c1 : n < least
  · rw [if_pos c1]
    have hw0 : wrap64 (low + n) = low + n := by unfold wrap64; omega
    have PW := Lib.hid (fun W => PutWide_spec (low + n) 1 W (by unfold In64; omega) (by omega) (by omega))
    have t1 : decide (n < least) = true := decide_eq_true c1
    clear c1 hn hl h1 h2
    go_enter Tryd.func105, Tryd.ntmps105
    go_wp2_with fail
    refine (PW.out _).mono ?_
    rintro e w1 ⟨rfl, hb⟩
    go_wp2_with fail
    go_ret
    exact ⟨rfl, hb⟩
  · rw [if_neg c1]
    have t1 : decide (n < least) = false := decide_eq_false c1
    by_cases c2 : n < 256 ∧ 0 < one
    · rw [if_pos c2]
      have t2 : decide (n < 256) = true := decide_eq_true c2.1
      have t3 : decide (0 < one) = true := decide_eq_true c2.2
      have P1 := Lib.hid (fun W => PutWide_spec one 1 W (by unfold In64; omega) (by omega) (by omega))
      have P2 := Lib.hid (fun W => PutWide_spec n 1 W (by unfold In64; omega) (by omega) (by omega))
      have S1 : ¬ 9223372036854775807 < (bigZ 1 one).length + (bigZ 1 n).length := by rw [bigZ_length, bigZ_length]; omega
      clear c1 c2 hn hl h1 h2
      go_enter Tryd.func105, Tryd.ntmps105
      go_wp2_with fail
      refine (P1.out _).mono ?_
      rintro e w1 ⟨rfl, hb⟩
      go_wp2_with fail
      refine (P2.out _).mono ?_
      rintro e w2 ⟨rfl, hb2⟩
      go_wp2_with fail
      go_ret
      exact ⟨ret_str (bstr_append _ _), hb.trans (hb2.mono hb.size)⟩
    · rw [if_neg c2]
      have hcase : decide (n < 256) = false ∨ (decide (n < 256) = true ∧ decide (0 < one) = false) := by
        by_cases q : n < 256
        · exact .inr ⟨decide_eq_true q, decide_eq_false (fun h => c2 ⟨q, h⟩)⟩
        · exact .inl (decide_eq_false q)
      have P1 := Lib.hid (fun W => PutWide_spec two 1 W (by unfold In64; omega) (by omega) (by omega))
      have P2 := Lib.hid (fun W => PutWide_spec n 2 W (by unfold In64; omega) (by omega) (by omega))
      have S1 : ¬ 9223372036854775807 < (bigZ 1 two).length + (bigZ 2 n).length := by rw [bigZ_length, bigZ_length]; omega
      clear c1 c2 hn hl h1 h2
      rcases hcase with t2 | ⟨t2, t3⟩
      all_goals
        go_enter Tryd.func105, Tryd.ntmps105
        go_wp2_with fail
        refine (P1.out _).mono ?_
        rintro e w1 ⟨rfl, hb⟩
        go_wp2_with fail
        refine (P2.out _).mono ?_
        rintro e w2 ⟨rfl, hb2⟩
        go_wp2_with fail
        go_ret
        exact ⟨ret_str (bstr_append _ _), hb.trans (hb2.mono hb.size)⟩
set_option maxHeartbeats 1000000 in
theorem l06Put_0 (n e : Int) (s : ByteArray) (sl : Value) (w : World) : Calls Tryd.prog 75 #[.agg #[.int .i64 0, .int .i64 n, .int .i64 e, .string s, sl]] w (TxtRet w ([192])) := by
  go_enter Tryd.func75, Tryd.ntmps75
  go_wp2_with fail
  go_ret
  exact ⟨rfl, (by (with_reducible (repeat' (first | exact Below.refl _ _ | refine below_alloc ?_ _ ?_ | refine Below.setCell ?_ ?_ _ | refine Below.drew ?_ | refine below_drewN ?_ _ | refine below_step ?_ (by assumption) ?_ | refine below_mark ?_ (by assumption) ?_))); all_goals (first | omega | (simp; done) | (simp; omega)))⟩
set_option maxHeartbeats 1000000 in
theorem l06Put_1 (n e : Int) (s : ByteArray) (sl : Value) (w : World) : Calls Tryd.prog 75 #[.agg #[.int .i64 1, .int .i64 n, .int .i64 e, .string s, sl]] w (TxtRet w ([194])) := by
  go_enter Tryd.func75, Tryd.ntmps75
  go_wp2_with fail
  go_ret
  exact ⟨rfl, (by (with_reducible (repeat' (first | exact Below.refl _ _ | refine below_alloc ?_ _ ?_ | refine Below.setCell ?_ ?_ _ | refine Below.drew ?_ | refine below_drewN ?_ _ | refine below_step ?_ (by assumption) ?_ | refine below_mark ?_ (by assumption) ?_))); all_goals (first | omega | (simp; done) | (simp; omega)))⟩
set_option maxHeartbeats 1000000 in
theorem l06Put_2 (n e : Int) (s : ByteArray) (sl : Value) (w : World) : Calls Tryd.prog 75 #[.agg #[.int .i64 2, .int .i64 n, .int .i64 e, .string s, sl]] w (TxtRet w ([195])) := by
  go_enter Tryd.func75, Tryd.ntmps75
  go_wp2_with fail
  go_ret
  exact ⟨rfl, (by (with_reducible (repeat' (first | exact Below.refl _ _ | refine below_alloc ?_ _ ?_ | refine Below.setCell ?_ ?_ _ | refine Below.drew ?_ | refine below_drewN ?_ _ | refine below_step ?_ (by assumption) ?_ | refine below_mark ?_ (by assumption) ?_))); all_goals (first | omega | (simp; done) | (simp; omega)))⟩
set_option maxHeartbeats 1000000 in
theorem l06Put_3 (n e : Int) (hn : In64 n) (s : ByteArray) (sl : Value) (w : World) : Calls Tryd.prog 75 #[.agg #[.int .i64 3, .int .i64 n, .int .i64 e, .string s, sl]] w (TxtRet w (mpNum n)) := by
  have PH := Lib.hid (fun (W : World) => l06Int_any n hn W)
  go_enter Tryd.func75, Tryd.ntmps75
  go_wp2_with fail
  refine (PH.out _).mono ?_
  rintro x w1 ⟨rfl, hb1⟩
  go_wp2_with fail
  go_ret
  exact ⟨rfl, (by (with_reducible (repeat' (first | exact Below.refl _ _ | refine below_alloc ?_ _ ?_ | refine Below.setCell ?_ ?_ _ | refine Below.drew ?_ | refine below_drewN ?_ _ | refine below_step ?_ (by assumption) ?_ | refine below_mark ?_ (by assumption) ?_))); all_goals (first | omega | (simp; done) | (simp; omega)))⟩
set_option maxHeartbeats 1000000 in
theorem l06Put_4 (n e : Int) (hn : In64 n) (he : In64 e) (s : ByteArray) (sl : Value) (w : World) : Calls Tryd.prog 75 #[.agg #[.int .i64 4, .int .i64 n, .int .i64 e, .string s, sl]] w (TxtRet w ([199, 9, 4] ++ bigZ 1 e ++ bigZ 8 n)) := by
  have P1 := Lib.hid (fun (W : World) => PutWide_spec e 1 W he (by omega) (by omega))
  have P2 := Lib.hid (fun (W : World) => PutWide_spec n 8 W hn (by omega) (by omega))
  have S1 : ¬ 9223372036854775807 < 3 + (bigZ 1 e).length := by rw [bigZ_length]; omega
  have S2 : ¬ 9223372036854775807 < 3 + (bigZ 1 e).length + (bigZ 8 n).length := by rw [bigZ_length, bigZ_length]; omega
  have BX := Lib.hid (box_cells w 4 n e s sl 29 (Box.new w 4 n e s sl 29))
  go_enter Tryd.func75, Tryd.ntmps75
  obtain ⟨q0, q1, q2, q3, q4⟩ := BX.out
  go_wp2_with fail
  have hbw : Below w.heap.size w (w.alloc (.cells #[.int .i64 4, .int .i64 n, .int .i64 e, .string s, sl] 29)) := (by (with_reducible (repeat' (first | exact Below.refl _ _ | refine below_alloc ?_ _ ?_ | refine Below.setCell ?_ ?_ _ | refine Below.drew ?_ | refine below_drewN ?_ _ | refine below_step ?_ (by assumption) ?_ | refine below_mark ?_ (by assumption) ?_))); all_goals (first | omega | (simp; done) | (simp; omega)))
  go_region_held3 (fun w' => w'.cell? ⟨w.heap.size, 1, none⟩ = some (.int .i64 n) ∧ w'.cell? ⟨w.heap.size, 2, none⟩ = some (.int .i64 e) ∧ Below w.heap.size w w') (first | with_reducible exact ⟨by assumption, by assumption, by assumption⟩ | with_reducible assumption | exact ⟨q1, q2, hbw.drew⟩ | go_keep) (((first | with_reducible refine (P1.out _).mono ?_ | with_reducible refine (P2.out _).mono ?_); rintro e2 w2 ⟨rfl, hb2⟩; have hS := keep2b hb2 (by with_reducible assumption); obtain ⟨hS1, hS2, hS3⟩ := hS))
  go_wp2_with fail
  go_ret
  exact ⟨ret_str (cat3 _ _ _), hS3⟩
set_option maxHeartbeats 1000000 in
theorem l06Put_56 (k least low one two n e : Int) (hk : k = 5 ∧ least = 32 ∧ low = 160 ∧ one = 217 ∧ two = 218 ∨ k = 6 ∧ least = 0 ∧ low = 0 ∧ one = 196 ∧ two = 197) (s : ByteArray) (hs : s.size ≤ 2000) (sl : Value) (w : World) : Calls Tryd.prog 75 #[.agg #[.int .i64 k, .int .i64 n, .int .i64 e, .string s, sl]] w (TxtRet w (mpMany s.size least low one two ++ s.data.toList)) := by
  have P1 := Lib.hid (fun (W : World) => l06Many_any s.size least low one two (by omega) (by omega) (by omega) (by omega) W)
  have L1 := mpMany_le s.size least low one two
  generalize mpMany s.size least low one two = H at *
  have S1 : ¬ 9223372036854775807 < H.length + s.size := by omega
  have BX := Lib.hid (box_cells w k n e s sl 29 (Box.new w k n e s sl 29))
  clear L1
  have hbw : Below w.heap.size w (w.alloc (.cells #[.int .i64 k, .int .i64 n, .int .i64 e, .string s, sl] 29)) := (by (with_reducible (repeat' (first | exact Below.refl _ _ | refine below_alloc ?_ _ ?_ | refine Below.setCell ?_ ?_ _ | refine Below.drew ?_ | refine below_drewN ?_ _ | refine below_step ?_ (by assumption) ?_ | refine below_mark ?_ (by assumption) ?_))); all_goals (first | omega | (simp; done) | (simp; omega)))
  rcases hk with ⟨rfl, rfl, rfl, rfl, rfl⟩ | ⟨rfl, rfl, rfl, rfl, rfl⟩
  all_goals
    go_enter Tryd.func75, Tryd.ntmps75
    obtain ⟨q0, q1, q2, q3, q4⟩ := BX.out
    go_wp2_with fail
    go_region_held3 (fun w' => w'.cell? ⟨w.heap.size, 3, none⟩ = some (.string s) ∧ Below w.heap.size w w') (first | with_reducible exact ⟨by assumption, by assumption⟩ | with_reducible assumption | exact ⟨q3, hbw.drew⟩ | go_keep) (((with_reducible refine (P1.out _).mono ?_); rintro e2 w2 ⟨rfl, hb2⟩; have hS := keep1b hb2 (by with_reducible assumption); obtain ⟨hS1, hS3⟩ := hS))
    go_wp2_with fail
    go_ret
    exact ⟨ret_str (cat2 _ _), hS3⟩
set_option maxHeartbeats 2000000 in
theorem l06Put_any (w0 : World) : ∀ (N : Nat) (v : Value) (t : V) (d : Int), t.sz < N → rightB t d = true → Rep w0 v t → t.sz ≤ 1048576 → t.nodes ≤ 300 → ∀ (w : World), Below w0.heap.size w0 w →
    Calls Tryd.prog 75 #[v] w (TxtRet w (mpL t)) := by
  intro N
  induction N with
  | zero => intro v t d h; omega
  | succ N ih =>
  intro v t d hN hright h hsz hnd w hw
  obtain ⟨sl, rfl, hwf, hr⟩ := h
  have hts := V.sz_eq t
  have htn := V.nodes_eq t
  have hlen := szs_length t.kids
  obtain ⟨hn64, he64, hss⟩ : In64 t.n ∧ In64 t.e ∧ t.s.size ≤ 2000 := ⟨hwf.2.1, hwf.2.2.1, node_small (rightB_leaf hright).1⟩
  have hkin := kind_in hright
  have hC := mpL_eq t
  by_cases hpk : t.k ≠ 7 ∧ t.k ≠ 8 ∧ t.k ≠ 9
  · have hkids := plain_kids hright hpk
    rw [hkids, mpsL, List.append_nil] at hC
    rw [hC]
    unfold V.agg mpOwn
    have hcase : t.k = 0 ∨ t.k = 1 ∨ t.k = 2 ∨ t.k = 3 ∨ t.k = 4 ∨ t.k = 5 ∨ t.k = 6 := by omega
    rcases hcase with h | h | h | h | h | h | h
    · rw [if_pos h, h]; exact l06Put_0 _ _ _ _ _
    · rw [if_neg (by omega), if_pos h, h]; exact l06Put_1 _ _ _ _ _
    · rw [if_neg (by omega), if_neg (by omega), if_pos h, h]; exact l06Put_2 _ _ _ _ _
    · rw [if_neg (by omega), if_neg (by omega), if_neg (by omega), if_pos h, h]; exact l06Put_3 _ _ hn64 _ _ _
    · rw [if_neg (by omega), if_neg (by omega), if_neg (by omega), if_neg (by omega), if_pos h, h]; exact l06Put_4 _ _ hn64 he64 _ _ _
    · rw [if_neg (by omega), if_neg (by omega), if_neg (by omega), if_neg (by omega), if_neg (by omega), if_pos h, h]; exact l06Put_56 5 _ _ _ _ _ _ (.inl ⟨rfl, rfl, rfl, rfl, rfl⟩) _ hss _ _
    · rw [if_neg (by omega), if_neg (by omega), if_neg (by omega), if_neg (by omega), if_neg (by omega), if_neg (by omega), if_pos h, h]; exact l06Put_56 6 _ _ _ _ _ _ (.inr ⟨rfl, rfl, rfl, rfl, rfl⟩) _ hss _ _
  obtain ⟨a, b, off, cap, rfl, ha, hc, hm, sls, hel⟩ := hr.opened
  have HA := Lib.hid ha; have HE := Lib.hid hel; have HW := Lib.hid hw
  have hkr := right_kids hright
  have hln := nodess_ge t.kids
  have hl : t.kids.length ≤ 1048576 := by omega
  have V1 := Lib.hid (fun (j : Nat) (hj : j < t.kids.length) (W : World) (hW : Below w0.heap.size w0 W) => ih (t.kids[j].agg (sls j)) t.kids[j] (d - 1) (by have h1 := szs_mem (List.getElem_mem hj); omega) (rightsB_get hkr j hj) ⟨sls j, rfl, (HE.out j hj).2.1, (HE.out j hj).2.2⟩ (by have h1 := szs_mem (List.getElem_mem hj); omega) (by have h1 := nodess_mem (List.getElem_mem hj); omega) W hW)
  have HR := Lib.hid hC
  have BX := Lib.hid (Box.new w t.k t.n t.e t.s (.slice a t.kids.length cap) 29)
  have hle := mps_le t.kids (d - 1) hkr
  have hlh := mpOwn_le t hss
  have HL := Lib.hid (fun (j : Nat) (hj : j < t.kids.length) => show (mpOwn t ++ mpsL (t.kids.take j)).length + (mpL t.kids[j]).length ≤ 700000 by
    have e1 := mpsL_take t.kids j hj
    have e2 := mps_take_le t.kids (j + 1)
    have e3 := congrArg List.length e1
    rw [List.length_append] at e3
    rw [List.length_append]; omega)
  have HT := Lib.hid (fun (j : Nat) (hj : j < t.kids.length) => mpsL_take t.kids j hj)
  have hcase : (t.k == 7) = true ∧ mpOwn t = mpMany t.kids.length 16 144 0 220 ∨ (t.k == 7) = false ∧ (t.k == 8) = true ∧ mpOwn t = mpMany (t.kids.length / 2 : Nat) 16 128 0 222 ∨ (t.k == 7) = false ∧ (t.k == 8) = false ∧ mpOwn t = [199, 4, 6] ++ bigZ 4 t.n := by
    have hcs : t.k = 7 ∨ t.k = 8 ∨ t.k = 9 := by omega
    unfold mpOwn
    rcases hcs with h | h | h
    · exact .inl ⟨by simpa using h, by simp [h]⟩
    · exact .inr (.inl ⟨by rw [h]; rfl, by simpa using h, by simp [h]⟩)
    · exact .inr (.inr ⟨by rw [h]; rfl, by rw [h]; rfl, by simp [h]⟩)
  have P7 := Lib.hid (fun (W : World) => l06Many_any t.kids.length 16 144 0 220 (by omega) (by omega) (by omega) (by omega) W)
  have P8 := Lib.hid (fun (W : World) => l06Many_any (t.kids.length / 2 : Nat) 16 128 0 222 (by omega) (by omega) (by omega) (by omega) W)
  have P9 := Lib.hid (fun (W : World) => PutWide_spec t.n 4 W hn64 (by omega) (by omega))
  have S9 : ¬ 9223372036854775807 < 3 + (bigZ 4 t.n).length := by rw [bigZ_length]; omega
  have n0 : (t.k == 0) = false := by simp; omega
  have n1 : (t.k == 1) = false := by simp; omega
  have n2 : (t.k == 2) = false := by simp; omega
  have n3 : (t.k == 3) = false := by simp; omega
  have n4 : (t.k == 4) = false := by simp; omega
  have n5 : (t.k == 5) = false := by simp; omega
  have n6 : (t.k == 6) = false := by simp; omega
  clear ih hel ha hc hm hN hr hwf hlen hts htn hsz hnd hright hkr hle hlh hpk hkin hn64 he64 hss hC hw hln
  unfold V.agg
  generalize mpL t = R at *
  generalize mpOwn t = H at *
  generalize t.k = k at *
  generalize t.n = n at *
  generalize t.e = e at *
  generalize t.s = s at *
  generalize t.kids = ts at *
  have BXW := Lib.hid (show Below w.heap.size w (w.alloc (.cells #[.int .i64 k, .int .i64 n, .int .i64 e, .string s, .slice a ts.length cap] 29)) from (by (with_reducible (repeat' (first | exact Below.refl _ _ | refine below_alloc ?_ _ ?_ | refine Below.setCell ?_ ?_ _ | refine Below.drew ?_ | refine below_drewN ?_ _ | refine below_step ?_ (by assumption) ?_ | refine below_mark ?_ (by assumption) ?_))); all_goals (first | omega | (simp; done) | (simp; omega))))
  rcases hcase with ⟨t7, hh⟩ | ⟨t7, t8, hh⟩ | ⟨t7, t8, hh⟩
  · rw [← hh] at P7
    have PH := P7
    clear P7 P8 P9 S9 hh
    go_enter Tryd.func75, Tryd.ntmps75
    go_wp2_with fail
    refine (PH.out _).mono ?_
    rintro x1 w1 ⟨rfl, hb1⟩
    have hb0 := BXW.out.trans (hb1.mono BXW.out.size)
    have BX1 := Lib.hid (BX.out.stay hb1)
    go_wp2_with fail
    go_loopw [3, 4] (fun o i wr => ∃ j : Nat, j ≤ ts.length ∧ i = .int .i64 j ∧ o = bstr (H ++ mpsL (ts.take j)) ∧ Below w1.heap.size w1 wr) (fun _ i _ => ts.length + 1 - (intOf i).toNat)
    case atStart => exact ⟨0, by omega, rfl, by rw [List.take_zero, mpsL, List.append_nil], Below.refl _ _⟩
    case round =>
      obtain ⟨j, hj, rfl, rfl, hbl⟩ := hrel
      have HBL := Lib.hid (hb0.trans (hbl.mono hb0.size))
      obtain ⟨q0, -, -, -, q4⟩ := (BX1.out.stay hbl).cells
      by_cases hlt : j < ts.length
      · have hne : ts ≠ [] := by intro e; rw [e] at hlt; simp at hlt
        obtain ⟨rfl, hbw⟩ := HA.out hne
        have HWR := Lib.hid (HW.out.trans (HBL.out.mono HW.out.size))
        obtain ⟨c0, c1, c2, c3, c4⟩ := (HE.out j hlt).1.keep (HWR.out.block b hbw)
        have VJ := Lib.hid (fun (W : World) (hW : Below wr.heap.size wr W) => V1.out j hlt W (below_step HWR.out hW (by have := HWR.out.size; omega)))
        have hlj := HL.out j hlt
        have HTJ := Lib.hid (HT.out j hlt)
        obtain ⟨a3, cap3, hs3⟩ := (HE.out j hlt).2.2.slice
        rw [hs3] at c4 VJ
        clear hs3 V1
        unfold V.agg at VJ
        generalize mpL ts[j] = C at *
        generalize hQ : H ++ mpsL (ts.take j) = Q at *
        have HQ := Lib.hid hQ; clear hQ
        have S1 : ¬ 9223372036854775807 < Q.length + C.length := by omega
        clear hlj
        go_wp2_with fail
        refine (VJ.out _ ((by (with_reducible (repeat' (first | exact Below.refl _ _ | refine below_alloc ?_ _ ?_ | refine Below.setCell ?_ ?_ _ | refine Below.drew ?_ | refine below_drewN ?_ _ | refine below_step ?_ (by assumption) ?_ | refine below_mark ?_ (by assumption) ?_))); all_goals (first | omega | (simp; done) | (simp; omega))))).mono ?_
        rintro x w2 ⟨rfl, hb2⟩
        go_wp2_with fail
        go_roundw
        case rel => exact ⟨j + 1, by omega, by go_num, by rw [HTJ.out, bstr_append, ← List.append_assoc, HQ.out], hbl.trans (Below.mono ((by (with_reducible (repeat' (first | exact Below.refl _ _ | refine below_alloc ?_ _ ?_ | refine Below.setCell ?_ ?_ _ | refine Below.drew ?_ | refine below_drewN ?_ _ | refine below_step ?_ (by assumption) ?_ | refine below_mark ?_ (by assumption) ?_))); all_goals (first | omega | (simp; done) | (simp; omega)))) hbl.size)⟩
        case measure => simp [intOf]; omega
      · go_wp2_with fail
        go_ret
        refine ⟨?_, HBL.out⟩
        rw [HR.out, show j = ts.length by omega, List.take_length]
        rfl
  · rw [← hh] at P8
    have PH := P8
    clear P7 P8 P9 S9 hh
    go_enter Tryd.func75, Tryd.ntmps75
    go_wp2_with fail
    refine (PH.out _).mono ?_
    rintro x1 w1 ⟨rfl, hb1⟩
    have hb0 := BXW.out.trans (hb1.mono BXW.out.size)
    have BX1 := Lib.hid (BX.out.stay hb1)
    go_wp2_with fail
    go_loopw [3, 4] (fun o i wr => ∃ j : Nat, j ≤ ts.length ∧ i = .int .i64 j ∧ o = bstr (H ++ mpsL (ts.take j)) ∧ Below w1.heap.size w1 wr) (fun _ i _ => ts.length + 1 - (intOf i).toNat)
    case atStart => exact ⟨0, by omega, rfl, by rw [List.take_zero, mpsL, List.append_nil], Below.refl _ _⟩
    case round =>
      obtain ⟨j, hj, rfl, rfl, hbl⟩ := hrel
      have HBL := Lib.hid (hb0.trans (hbl.mono hb0.size))
      obtain ⟨q0, -, -, -, q4⟩ := (BX1.out.stay hbl).cells
      by_cases hlt : j < ts.length
      · have hne : ts ≠ [] := by intro e; rw [e] at hlt; simp at hlt
        obtain ⟨rfl, hbw⟩ := HA.out hne
        have HWR := Lib.hid (HW.out.trans (HBL.out.mono HW.out.size))
        obtain ⟨c0, c1, c2, c3, c4⟩ := (HE.out j hlt).1.keep (HWR.out.block b hbw)
        have VJ := Lib.hid (fun (W : World) (hW : Below wr.heap.size wr W) => V1.out j hlt W (below_step HWR.out hW (by have := HWR.out.size; omega)))
        have hlj := HL.out j hlt
        have HTJ := Lib.hid (HT.out j hlt)
        obtain ⟨a3, cap3, hs3⟩ := (HE.out j hlt).2.2.slice
        rw [hs3] at c4 VJ
        clear hs3 V1
        unfold V.agg at VJ
        generalize mpL ts[j] = C at *
        generalize hQ : H ++ mpsL (ts.take j) = Q at *
        have HQ := Lib.hid hQ; clear hQ
        have S1 : ¬ 9223372036854775807 < Q.length + C.length := by omega
        clear hlj
        go_wp2_with fail
        refine (VJ.out _ ((by (with_reducible (repeat' (first | exact Below.refl _ _ | refine below_alloc ?_ _ ?_ | refine Below.setCell ?_ ?_ _ | refine Below.drew ?_ | refine below_drewN ?_ _ | refine below_step ?_ (by assumption) ?_ | refine below_mark ?_ (by assumption) ?_))); all_goals (first | omega | (simp; done) | (simp; omega))))).mono ?_
        rintro x w2 ⟨rfl, hb2⟩
        go_wp2_with fail
        go_roundw
        case rel => exact ⟨j + 1, by omega, by go_num, by rw [HTJ.out, bstr_append, ← List.append_assoc, HQ.out], hbl.trans (Below.mono ((by (with_reducible (repeat' (first | exact Below.refl _ _ | refine below_alloc ?_ _ ?_ | refine Below.setCell ?_ ?_ _ | refine Below.drew ?_ | refine below_drewN ?_ _ | refine below_step ?_ (by assumption) ?_ | refine below_mark ?_ (by assumption) ?_))); all_goals (first | omega | (simp; done) | (simp; omega)))) hbl.size)⟩
        case measure => simp [intOf]; omega
      · go_wp2_with fail
        go_ret
        refine ⟨?_, HBL.out⟩
        rw [HR.out, show j = ts.length by omega, List.take_length]
        rfl
  · have PH := P9
    have HH := Lib.hid hh
    clear P7 P8 P9 hh
    go_enter Tryd.func75, Tryd.ntmps75
    go_wp2_with fail
    refine (PH.out _).mono ?_
    rintro x1 w1 ⟨rfl, hb1⟩
    have hb0 := BXW.out.trans (hb1.mono BXW.out.size)
    have BX1 := Lib.hid (BX.out.stay hb1)
    go_wp2_with fail
    go_loopw [3, 4] (fun o i wr => ∃ j : Nat, j ≤ ts.length ∧ i = .int .i64 j ∧ o = bstr (H ++ mpsL (ts.take j)) ∧ Below w1.heap.size w1 wr) (fun _ i _ => ts.length + 1 - (intOf i).toNat)
    case atStart => exact ⟨0, by omega, rfl, by rw [List.take_zero, mpsL, List.append_nil, HH.out]; exact congrArg Value.string (bstr_append [199, 4, 6] _), Below.refl _ _⟩
    case round =>
      obtain ⟨j, hj, rfl, rfl, hbl⟩ := hrel
      have HBL := Lib.hid (hb0.trans (hbl.mono hb0.size))
      obtain ⟨q0, -, -, -, q4⟩ := (BX1.out.stay hbl).cells
      by_cases hlt : j < ts.length
      · have hne : ts ≠ [] := by intro e; rw [e] at hlt; simp at hlt
        obtain ⟨rfl, hbw⟩ := HA.out hne
        have HWR := Lib.hid (HW.out.trans (HBL.out.mono HW.out.size))
        obtain ⟨c0, c1, c2, c3, c4⟩ := (HE.out j hlt).1.keep (HWR.out.block b hbw)
        have VJ := Lib.hid (fun (W : World) (hW : Below wr.heap.size wr W) => V1.out j hlt W (below_step HWR.out hW (by have := HWR.out.size; omega)))
        have hlj := HL.out j hlt
        have HTJ := Lib.hid (HT.out j hlt)
        obtain ⟨a3, cap3, hs3⟩ := (HE.out j hlt).2.2.slice
        rw [hs3] at c4 VJ
        clear hs3 V1
        unfold V.agg at VJ
        generalize mpL ts[j] = C at *
        generalize hQ : H ++ mpsL (ts.take j) = Q at *
        have HQ := Lib.hid hQ; clear hQ
        have S1 : ¬ 9223372036854775807 < Q.length + C.length := by omega
        clear hlj
        go_wp2_with fail
        refine (VJ.out _ ((by (with_reducible (repeat' (first | exact Below.refl _ _ | refine below_alloc ?_ _ ?_ | refine Below.setCell ?_ ?_ _ | refine Below.drew ?_ | refine below_drewN ?_ _ | refine below_step ?_ (by assumption) ?_ | refine below_mark ?_ (by assumption) ?_))); all_goals (first | omega | (simp; done) | (simp; omega))))).mono ?_
        rintro x w2 ⟨rfl, hb2⟩
        go_wp2_with fail
        go_roundw
        case rel => exact ⟨j + 1, by omega, by go_num, by rw [HTJ.out, bstr_append, ← List.append_assoc, HQ.out], hbl.trans (Below.mono ((by (with_reducible (repeat' (first | exact Below.refl _ _ | refine below_alloc ?_ _ ?_ | refine Below.setCell ?_ ?_ _ | refine Below.drew ?_ | refine below_drewN ?_ _ | refine below_step ?_ (by assumption) ?_ | refine below_mark ?_ (by assumption) ?_))); all_goals (first | omega | (simp; done) | (simp; omega)))) hbl.size)⟩
        case measure => simp [intOf]; omega
      · go_wp2_with fail
        go_ret
        refine ⟨?_, HBL.out⟩
        rw [HR.out, show j = ts.length by omega, List.take_length]
        rfl
set_option maxHeartbeats 1000000 in
theorem PutMsg_spec (w0 : World) (v : Value) (t : V) (h : Rep w0 v t) (hsz : t.sz ≤ 1048576) (w : World) (hw : Below w0.heap.size w0 w) :
    Calls Tryd.prog 48 #[v] w (TxtRet w (mpB t)) := by
  have FI := Lib.hid (fun (W : World) (hW : Below w.heap.size w W) => ValueOk_spec w0 v t h hsz W (hw.trans (hW.mono hw.size)))
  have PU := Lib.hid (fun (ho : okT t = true) (W : World) (hW : Below w.heap.size w W) => l06Put_any w0 _ v t 12 (Nat.lt_succ_self _) (by simp only [okT, Bool.and_eq_true] at ho; exact ho.1) h hsz (ok_small ho).2 W (hw.trans (hW.mono hw.size)))
  have HB := Lib.hid (show mpB t = if okT t then mpL t else [] from rfl)
  obtain ⟨sl, rfl, hwf, hr⟩ := h
  obtain ⟨sa, sc, rfl⟩ := hr.slice
  clear hr hwf hsz
  unfold V.agg at *
  generalize okT t = b at *
  generalize mpB t = R at *
  generalize mpL t = C at *
  generalize t.k = k at *
  generalize t.n = n at *
  generalize t.e = e at *
  generalize t.s = s at *
  generalize t.kids = ts at *
  have BX := Lib.hid (Box.new w k n e s (.slice sa ts.length sc) 29)
  cases b
  all_goals
    go_enter Tryd.func48, Tryd.ntmps48
    go_wp2_with fail
    refine (FI.out _ ((by (with_reducible (repeat' (first | exact Below.refl _ _ | refine below_alloc ?_ _ ?_ | refine Below.setCell ?_ ?_ _ | refine Below.drew ?_ | refine below_drewN ?_ _ | refine below_step ?_ (by assumption) ?_ | refine below_mark ?_ (by assumption) ?_))); all_goals (first | omega | (simp; done) | (simp; omega))))).mono ?_
    rintro x w1 ⟨rfl, hb1⟩
    obtain ⟨p0, p1, p2, p3, p4⟩ := (BX.out.stay hb1).cells
    go_wp2_with fail
  · go_ret
    exact ⟨by rw [HB.out]; rfl, (by (with_reducible (repeat' (first | exact Below.refl _ _ | refine below_alloc ?_ _ ?_ | refine Below.setCell ?_ ?_ _ | refine Below.drew ?_ | refine below_drewN ?_ _ | refine below_step ?_ (by assumption) ?_ | refine below_mark ?_ (by assumption) ?_))); all_goals (first | omega | (simp; done) | (simp; omega)))⟩
  · refine (PU.out (by trivial) _ ((by (with_reducible (repeat' (first | exact Below.refl _ _ | refine below_alloc ?_ _ ?_ | refine Below.setCell ?_ ?_ _ | refine Below.drew ?_ | refine below_drewN ?_ _ | refine below_step ?_ (by assumption) ?_ | refine below_mark ?_ (by assumption) ?_))); all_goals (first | omega | (simp; done) | (simp; omega))))).mono ?_
    rintro x w2 ⟨rfl, hb2⟩
    go_wp2_with fail
    go_ret
    exact ⟨by rw [HB.out]; rfl, (by (with_reducible (repeat' (first | exact Below.refl _ _ | refine below_alloc ?_ _ ?_ | refine Below.setCell ?_ ?_ _ | refine Below.drew ?_ | refine below_drewN ?_ _ | refine below_step ?_ (by assumption) ?_ | refine below_mark ?_ (by assumption) ?_))); all_goals (first | omega | (simp; done) | (simp; omega)))⟩
end Go.Proofs.YtfjehhdahpbbgaaDoor
namespace Go.Proofs.YtfjehhdahpbbgaaDoor
set_option linter.unusedSimpArgs false
set_option linter.unusedVariables false
set_option maxRecDepth 100000
open Go.RowKit
end Go.Proofs.YtfjehhdahpbbgaaDoor
namespace Go.Proofs.YtfjehhdahpbbgaaDoor
set_option linter.unusedSimpArgs false
set_option linter.unusedVariables false
set_option maxRecDepth 100000
open Go.RowKit
end Go.Proofs.YtfjehhdahpbbgaaDoor
namespace Go.Proofs.YtfjehhdahpbbgaaDoor
set_option linter.unusedSimpArgs false
set_option linter.unusedVariables false
set_option maxRecDepth 100000
open Go.RowKit
end Go.Proofs.YtfjehhdahpbbgaaDoor
namespace Go.Proofs.YtfjehhdahpbbgaaDoor
set_option linter.unusedSimpArgs false
set_option linter.unusedVariables false
set_option maxRecDepth 100000
open Go.RowKit
end Go.Proofs.YtfjehhdahpbbgaaDoor
namespace Go.Proofs.YtfjehhdahpbbgaaDoor
set_option linter.unusedSimpArgs false
set_option linter.unusedVariables false
set_option maxRecDepth 100000
def Mix {α : Type} (f g : Nat → α) (a b : Nat) : Prop := ∃ σ τ : Nat → Nat, (∀ x, σ (τ x) = x) ∧ (∀ x, τ (σ x) = x) ∧ (∀ x, ¬ (a ≤ x ∧ x < b) → σ x = x) ∧ ∀ x, g x = f (σ x)
theorem Mix.refl {α : Type} (f : Nat → α) (a b : Nat) : Mix f f a b := ⟨id, id, fun _ => rfl, fun _ => rfl, fun _ _ => rfl, fun _ => rfl⟩
theorem Mix.mono {α : Type} {f g : Nat → α} {a b a' b' : Nat} (h : Mix f g a b) (ha : a' ≤ a) (hb : b ≤ b') : Mix f g a' b' := by
  obtain ⟨σ, τ, h1, h2, h3, h4⟩ := h
  exact ⟨σ, τ, h1, h2, fun x hx => h3 x (fun h => hx ⟨by omega, by omega⟩), h4⟩
theorem Mix.trans {α : Type} {f g k : Nat → α} {a b : Nat} (h : Mix f g a b) (h' : Mix g k a b) : Mix f k a b := by
  obtain ⟨σ, τ, h1, h2, h3, h4⟩ := h
  obtain ⟨σ', τ', k1, k2, k3, k4⟩ := h'
  refine ⟨fun x => σ (σ' x), fun x => τ' (τ x), fun x => ?_, fun x => ?_, fun x hx => ?_, fun x => ?_⟩
  · show σ (σ' (τ' (τ x))) = x
    rw [k1, h1]
  · show τ' (τ (σ (σ' x))) = x
    rw [h2, k2]
  · show σ (σ' x) = x
    rw [k3 x hx, h3 x hx]
  · rw [k4, h4]
theorem Mix.symm {α : Type} {f g : Nat → α} {a b : Nat} (h : Mix f g a b) : Mix g f a b := by
  obtain ⟨σ, τ, h1, h2, h3, h4⟩ := h
  refine ⟨τ, σ, h2, h1, fun x hx => ?_, fun x => by rw [h4, h1]⟩
  have := h2 x
  rwa [h3 x hx] at this
theorem Mix.out {α : Type} {f g : Nat → α} {a b x : Nat} (h : Mix f g a b) (hx : x < a ∨ b ≤ x) : g x = f x := by
  obtain ⟨σ, τ, h1, h2, h3, h4⟩ := h
  rw [h4, h3 x (by omega)]
theorem Mix.inside {α : Type} {f g : Nat → α} {a b x : Nat} (h : Mix f g a b) (hx : a ≤ x ∧ x < b) : ∃ y, (a ≤ y ∧ y < b) ∧ g x = f y := by
  obtain ⟨σ, τ, h1, h2, h3, h4⟩ := h
  refine ⟨σ x, ?_, h4 x⟩
  by_cases hc : a ≤ σ x ∧ σ x < b
  · exact hc
  · have h5 := h3 (σ x) hc
    have h6 : σ x = x := by rw [← h2 (σ x), h5, h2]
    rw [h6]; exact hx
def swp {α : Type} (f : Nat → α) (i j : Nat) : Nat → α := fun x => if x = i then f j else if x = j then f i else f x
theorem Mix.swp {α : Type} (f : Nat → α) {i j a b : Nat} (hi : a ≤ i ∧ i < b) (hj : a ≤ j ∧ j < b) : Mix f (swp f i j) a b := by
  have hs : ∀ x, (if (if x = i then j else if x = j then i else x) = i then j else if (if x = i then j else if x = j then i else x) = j then i else (if x = i then j else if x = j then i else x)) = x := by
    intro x
    by_cases h1 : x = i
    · subst h1
      by_cases h2 : j = x
      · simp [h2]
      · simp [h2]
    · by_cases h2 : x = j
      · subst h2; simp [h1]
      · simp [h1, h2]
  refine ⟨fun x => if x = i then j else if x = j then i else x, fun x => if x = i then j else if x = j then i else x, hs, hs, fun x hx => ?_, fun x => ?_⟩
  · show (if x = i then j else if x = j then i else x) = x
    rw [if_neg (by omega), if_neg (by omega)]
  · unfold Go.Proofs.YtfjehhdahpbbgaaDoor.swp
    show (if x = i then f j else if x = j then f i else f x) = f (if x = i then j else if x = j then i else x)
    split
    · rfl
    · split <;> rfl
def mvUp {α : Type} (f : Nat → α) (a k : Nat) : Nat → α := fun x => if a ≤ x ∧ x < k then f (x + 1) else if x = k then f a else f x
theorem mvUp_0 {α : Type} (f : Nat → α) (a : Nat) : mvUp f a a = f := by
  funext x; unfold mvUp
  rw [if_neg (by omega)]
  split
  · rename_i h; rw [h]
  · rfl
theorem mvUp_succ {α : Type} (f : Nat → α) {a k : Nat} (h : a ≤ k) : swp (mvUp f a k) k (k + 1) = mvUp f a (k + 1) := by
  funext x
  unfold swp mvUp
  by_cases h1 : x = k
  · subst h1
    rw [if_pos rfl, if_neg (by omega), if_neg (by omega), if_pos (by omega)]
  · rw [if_neg h1]
    by_cases h2 : x = k + 1
    · subst h2
      rw [if_pos rfl, if_neg (by omega), if_pos rfl, if_neg (by omega), if_pos rfl]
    · rw [if_neg h2]
      by_cases h3 : a ≤ x ∧ x < k
      · rw [if_pos h3, if_pos (by omega)]
      · rw [if_neg h3, if_neg h1, if_neg (by omega), if_neg h2]
theorem Mix.mvUp {α : Type} (f : Nat → α) {a b : Nat} : ∀ k, a ≤ k → k < b → Mix f (mvUp f a k) a b := by
  intro k
  induction k with
  | zero => intro h1 h2; obtain rfl : a = 0 := by omega
            rw [mvUp_0]; exact Mix.refl _ _ _
  | succ k ih =>
    intro h1 h2
    by_cases h3 : a = k + 1
    · subst h3; rw [mvUp_0]; exact Mix.refl _ _ _
    · rw [← mvUp_succ f (by omega : a ≤ k)]
      exact (ih (by omega) (by omega)).trans (Mix.swp _ ⟨by omega, by omega⟩ ⟨by omega, by omega⟩)
def mvDn {α : Type} (f : Nat → α) (k m : Nat) : Nat → α := fun x => if k < x ∧ x ≤ m then f (x - 1) else if x = k then f m else f x
theorem mvDn_0 {α : Type} (f : Nat → α) (m : Nat) : mvDn f m m = f := by
  funext x; unfold mvDn
  rw [if_neg (by omega)]
  split
  · rename_i h; rw [h]
  · rfl
theorem mvDn_succ {α : Type} (f : Nat → α) {k m : Nat} (h : k + 1 ≤ m) : swp (mvDn f (k + 1) m) (k + 1) k = mvDn f k m := by
  funext x
  unfold swp mvDn
  by_cases h1 : x = k + 1
  · subst h1
    rw [if_pos rfl, if_neg (by omega), if_neg (by omega), if_pos (by omega)]
    rfl
  · rw [if_neg h1]
    by_cases h2 : x = k
    · subst h2
      rw [if_pos rfl, if_neg (by omega), if_pos rfl, if_neg (by omega), if_pos rfl]
    · rw [if_neg h2]
      by_cases h3 : k + 1 < x ∧ x ≤ m
      · rw [if_pos h3, if_pos (by omega)]
      · rw [if_neg h3, if_neg h1, if_neg (by omega), if_neg h2]
theorem Mix.mvDn {α : Type} (f : Nat → α) {a b m : Nat} (hm : m < b) : ∀ d k, m = k + d → a ≤ k → Mix f (mvDn f k m) a b := by
  intro d
  induction d with
  | zero => intro k h1 h2; obtain rfl : m = k := by omega
            rw [mvDn_0]; exact Mix.refl _ _ _
  | succ d ih =>
    intro k h1 h2
    rw [← mvDn_succ f (by omega : k + 1 ≤ m)]
    exact (ih (k + 1) (by omega) (by omega)).trans (Mix.swp _ ⟨by omega, by omega⟩ ⟨by omega, by omega⟩)
def swr {α : Type} (f : Nat → α) (i j n : Nat) : Nat → α := fun x => if i ≤ x ∧ x < i + n then f (x + j - i) else if j ≤ x ∧ x < j + n then f (x + i - j) else f x
theorem swr_0 {α : Type} (f : Nat → α) (i j : Nat) : swr f i j 0 = f := by
  funext x; unfold swr
  rw [if_neg (by omega), if_neg (by omega)]
theorem swr_succ {α : Type} (f : Nat → α) {i j n : Nat} (h : i + n < j) : swp (swr f i j n) (i + n) (j + n) = swr f i j (n + 1) := by
  funext x
  unfold swp swr
  by_cases h1 : x = i + n
  · subst h1
    rw [if_pos rfl, if_neg (by omega), if_neg (by omega), if_pos (by omega)]
    congr 1; omega
  · rw [if_neg h1]
    by_cases h2 : x = j + n
    · subst h2
      rw [if_pos rfl, if_neg (by omega), if_neg (by omega), if_neg (by omega), if_pos (by omega)]
      congr 1; omega
    · rw [if_neg h2]
      by_cases h3 : i ≤ x ∧ x < i + n
      · rw [if_pos h3, if_pos (by omega)]
      · rw [if_neg h3, if_neg (by omega : ¬ (i ≤ x ∧ x < i + (n + 1)))]
        by_cases h4 : j ≤ x ∧ x < j + n
        · rw [if_pos h4, if_pos (by omega)]
        · rw [if_neg h4, if_neg (by omega)]
theorem Mix.swr {α : Type} (f : Nat → α) {a b i j : Nat} : ∀ n, a ≤ i → i + n ≤ j → j + n ≤ b → Mix f (swr f i j n) a b := by
  intro n
  induction n with
  | zero => intro _ _ _; rw [swr_0]; exact Mix.refl _ _ _
  | succ n ih =>
    intro h1 h2 h3
    rw [← swr_succ f (by omega : i + n < j)]
    exact (ih h1 (by omega) (by omega)).trans (Mix.swp _ ⟨by omega, by omega⟩ ⟨by omega, by omega⟩)
def rot {α : Type} (f : Nat → α) (a m b : Nat) : Nat → α := fun x => if a ≤ x ∧ x < a + (b - m) then f (x + (m - a)) else if a + (b - m) ≤ x ∧ x < b then f (x - (b - m)) else f x
theorem rot_eq {α : Type} (f : Nat → α) {m i : Nat} (h : i ≤ m) : rot f (m - i) m (m + i) = swr f (m - i) m i := by
  funext x
  unfold rot swr
  by_cases h1 : m - i ≤ x ∧ x < m - i + i
  · rw [if_pos (by omega), if_pos h1]; congr 1; omega
  · rw [if_neg (by omega), if_neg h1]
    by_cases h2 : m ≤ x ∧ x < m + i
    · rw [if_pos (by omega), if_pos h2]; congr 1; omega
    · rw [if_neg (by omega), if_neg h2]
theorem rot_gt {α : Type} (f : Nat → α) {m i j : Nat} (h : i ≤ m) (hj : j < i) : rot (swr f (m - i) m j) (m - (i - j)) m (m + j) = rot f (m - i) m (m + j) := by
  funext x
  unfold rot swr
  by_cases h1 : m - i ≤ x ∧ x < m - i + j
  · rw [if_neg (by omega), if_neg (by omega), if_pos h1, if_pos (by omega)]; congr 1; omega
  · by_cases h2 : m - i + j ≤ x ∧ x < m + j
    · rw [if_neg (by omega : ¬ (m - i ≤ x ∧ x < m - i + (m + j - m))), if_pos (by omega : m - i + (m + j - m) ≤ x ∧ x < m + j)]
      by_cases h3 : m - (i - j) ≤ x ∧ x < m - (i - j) + (m + j - m)
      · rw [if_pos h3, if_neg (by omega)]
        by_cases h4 : m ≤ x + (m - (m - (i - j))) ∧ x + (m - (m - (i - j))) < m + j
        · rw [if_pos h4]; congr 1; omega
        · exfalso; omega
      · rw [if_neg h3, if_pos (by omega), if_neg (by omega), if_neg (by omega)]
    · rw [if_neg (by omega), if_neg (by omega), if_neg h1, if_neg (by omega), if_neg (by omega), if_neg (by omega)]
theorem rot_a {α : Type} (f : Nat → α) {a m b x : Nat} (h : a ≤ x) (h2 : x < a + (b - m)) : rot f a m b x = f (x + (m - a)) := by unfold rot; rw [if_pos ⟨h, h2⟩]
theorem rot_b {α : Type} (f : Nat → α) {a m b x : Nat} (h : a + (b - m) ≤ x) (h2 : x < b) : rot f a m b x = f (x - (b - m)) := by unfold rot; rw [if_neg (by omega), if_pos ⟨h, h2⟩]
theorem rot_c {α : Type} (f : Nat → α) {a m b x : Nat} (h0 : a ≤ m) (h : x < a ∨ b ≤ x) : rot f a m b x = f x := by unfold rot; rw [if_neg (by omega), if_neg (by omega)]
theorem swr_a {α : Type} (f : Nat → α) {i j n x : Nat} (h : i ≤ x) (h2 : x < i + n) : swr f i j n x = f (x + j - i) := by unfold swr; rw [if_pos ⟨h, h2⟩]
theorem swr_b {α : Type} (f : Nat → α) {i j n x : Nat} (h0 : i + n ≤ j) (h : j ≤ x) (h2 : x < j + n) : swr f i j n x = f (x + i - j) := by unfold swr; rw [if_neg (by omega), if_pos ⟨h, h2⟩]
theorem swr_c {α : Type} (f : Nat → α) {i j n x : Nat} (h : x < i ∨ i + n ≤ x) (h2 : x < j ∨ j + n ≤ x) : swr f i j n x = f x := by unfold swr; rw [if_neg (by omega), if_neg (by omega)]
theorem rot_lt {α : Type} (f : Nat → α) {m i j : Nat} (h : i ≤ m) (hj : i < j) : rot (swr f (m - i) (m + j - i) i) (m - i) m (m + (j - i)) = rot f (m - i) m (m + j) := by
  funext x
  by_cases h1 : m - i ≤ x ∧ x < m - i + (j - i)
  · rw [rot_a _ h1.1 (by omega), rot_a _ h1.1 (by omega), swr_c _ (by omega) (by omega)]
  · by_cases h2 : m - i + (j - i) ≤ x ∧ x < m + (j - i)
    · rw [rot_b _ (by omega) h2.2, swr_a _ (by omega) (by omega)]
      by_cases h4 : x < m - i + j
      · rw [rot_a f (by omega) (by omega)]; congr 1; omega
      · exfalso; omega
    · rw [rot_c _ (by omega) (by omega)]
      by_cases h3 : m + j - i ≤ x ∧ x < m + j
      · rw [swr_b _ (by omega) h3.1 (by omega), rot_b f (by omega) h3.2]; congr 1; omega
      · rw [swr_c _ (by omega) (by omega), rot_c f (by omega) (by omega)]
theorem rot_l {α : Type} (f : Nat → α) {m b : Nat} : rot f m m b = f := by
  funext x; unfold rot
  split
  · congr 1; omega
  · split
    · exfalso; omega
    · rfl
theorem rot_r {α : Type} (f : Nat → α) {a m : Nat} : rot f a m m = f := by
  funext x; unfold rot
  split
  · exfalso; omega
  · split
    · congr 1; omega
    · rfl
theorem Mix.rot {α : Type} (f : Nat → α) {a m b : Nat} (h1 : a ≤ m) (h2 : m ≤ b) : Mix f (rot f a m b) a b := by
  refine ⟨fun x => if a ≤ x ∧ x < a + (b - m) then x + (m - a) else if a + (b - m) ≤ x ∧ x < b then x - (b - m) else x, fun x => if a ≤ x ∧ x < m then x + (b - m) else if m ≤ x ∧ x < b then x - (m - a) else x, fun x => ?_, fun x => ?_, fun x hx => ?_, fun x => ?_⟩
  · dsimp only; repeat' split
    all_goals omega
  · dsimp only; repeat' split
    all_goals omega
  · dsimp only; rw [if_neg (by omega), if_neg (by omega)]
  · unfold Go.Proofs.YtfjehhdahpbbgaaDoor.rot
    dsimp only
    split
    · rfl
    · split <;> rfl
structure Ordr {α : Type} (lt : α → α → Bool) : Prop where
  asym : ∀ a b, lt a b = true → lt b a = false
  tr : ∀ a b c, lt b a = false → lt c b = false → lt c a = false
theorem Ordr.lt_le {α : Type} {lt : α → α → Bool} (h : Ordr lt) {a b c : α} (h1 : lt a b = true) (h2 : lt c b = false) : lt a c = true := by
  cases h3 : lt a c with
  | true => rfl
  | false => have := h.tr b c a h2 h3; rw [h1] at this; cases this
theorem Ordr.le_lt {α : Type} {lt : α → α → Bool} (h : Ordr lt) {a b c : α} (h1 : lt b a = false) (h2 : lt b c = true) : lt a c = true := by
  cases h3 : lt a c with
  | true => rfl
  | false => have := h.tr c a b h3 h1; rw [h2] at this; cases this
def Srtd {α : Type} (lt : α → α → Bool) (f : Nat → α) (a b : Nat) : Prop := ∀ x y, a ≤ x → x < y → y < b → lt (f y) (f x) = false
theorem Srtd.one {α : Type} {lt : α → α → Bool} (f : Nat → α) {a b : Nat} (h : b ≤ a + 1) : Srtd lt f a b := fun x y h1 h2 h3 => by omega
theorem Srtd.cong {α : Type} {lt : α → α → Bool} {f g : Nat → α} {a b : Nat} (h : Srtd lt f a b) (e : ∀ x, a ≤ x → x < b → g x = f x) : Srtd lt g a b := fun x y h1 h2 h3 => by
  rw [e x h1 (by omega), e y (by omega) h3]; exact h x y h1 h2 h3
theorem Srtd.le {α : Type} {lt : α → α → Bool} {f : Nat → α} {a b : Nat} (ho : Ordr lt) (h : Srtd lt f a b) {x y : Nat} (h1 : a ≤ x) (h2 : x ≤ y) (h3 : y < b) : lt (f y) (f x) = false := by
  by_cases h4 : x = y
  · subst h4
    cases h5 : lt (f x) (f x) with
    | false => rfl
    | true => have := ho.asym _ _ h5; rw [h5] at this; exact this
  · exact h x y h1 (by omega) h3
theorem Srtd.mvUp {α : Type} {lt : α → α → Bool} {f : Nat → α} {a b i : Nat} (ho : Ordr lt) (h : Srtd lt f (a + 1) b) (hi : a + 1 ≤ i) (hib : i ≤ b) (h1 : ∀ x, a + 1 ≤ x → x < i → lt (f x) (f a) = true) (h2 : ∀ x, i ≤ x → x < b → lt (f x) (f a) = false) : Srtd lt (mvUp f a (i - 1)) a b := by
  intro x y hx hxy hy
  unfold Go.Proofs.YtfjehhdahpbbgaaDoor.mvUp
  by_cases c1 : x < i - 1
  · rw [if_pos (by omega : a ≤ x ∧ x < i - 1)]
    by_cases c2 : y < i - 1
    · rw [if_pos (by omega)]; exact h _ _ (by omega) (by omega) (by omega)
    · rw [if_neg (by omega : ¬ (a ≤ y ∧ y < i - 1))]
      by_cases c3 : y = i - 1
      · rw [if_pos c3]; exact ho.asym _ _ (h1 _ (by omega) (by omega))
      · rw [if_neg c3]; exact h _ _ (by omega) (by omega) (by omega)
  · rw [if_neg (by omega : ¬ (a ≤ x ∧ x < i - 1)), if_neg (by omega : ¬ (a ≤ y ∧ y < i - 1)), if_neg (by omega : ¬ y = i - 1)]
    by_cases c3 : x = i - 1
    · rw [if_pos c3]; exact h2 _ (by omega) (by omega)
    · rw [if_neg c3]; exact h _ _ (by omega) (by omega) (by omega)
theorem Srtd.mvDn {α : Type} {lt : α → α → Bool} {f : Nat → α} {a i m : Nat} (ho : Ordr lt) (h : Srtd lt f a m) (hi : a ≤ i) (him : i ≤ m) (h1 : ∀ x, a ≤ x → x < i → lt (f m) (f x) = false) (h2 : ∀ x, i ≤ x → x < m → lt (f m) (f x) = true) : Srtd lt (mvDn f i m) a (m + 1) := by
  intro x y hx hxy hy
  unfold Go.Proofs.YtfjehhdahpbbgaaDoor.mvDn
  by_cases c1 : x < i
  · rw [if_neg (by omega : ¬ (i < x ∧ x ≤ m)), if_neg (by omega : ¬ x = i)]
    by_cases c2 : y < i
    · rw [if_neg (by omega), if_neg (by omega)]; exact h _ _ (by omega) (by omega) (by omega)
    · by_cases c3 : y = i
      · rw [if_neg (by omega), if_pos c3]; exact h1 _ (by omega) (by omega)
      · rw [if_pos (by omega)]
        exact h.le ho (by omega) (by omega) (by omega)
  · rw [if_pos (by omega : i < y ∧ y ≤ m)]
    by_cases c3 : x = i
    · rw [if_neg (by omega), if_pos c3]; exact ho.asym _ _ (h2 _ (by omega) (by omega))
    · rw [if_pos (by omega)]; exact h _ _ (by omega) (by omega) (by omega)
theorem cross {α : Type} {lt : α → α → Bool} {f : Nat → α} {a m b mid st : Nat} (ho : Ordr lt) (s1 : Srtd lt f a m) (s2 : Srtd lt f m b) (hst : a ≤ st ∧ st ≤ m) (hmid : st ≤ mid) (he0 : mid + m - st ≤ b) (he1 : m ≤ mid + m - st)
    (h1 : a < st → mid + m - st < b → lt (f (mid + m - st)) (f (st - 1)) = false) (h2 : st < m → m < mid + m - st → lt (f (mid + m - st - 1)) (f st) = true) :
    ∀ x y, a ≤ x → x < mid → mid ≤ y → y < b → lt (rot f st m (mid + m - st) y) (rot f st m (mid + m - st) x) = false := by
  intro x y hx hx2 hy hy2
  have e1 : st + (mid + m - st - m) = mid := by omega
  unfold rot
  rw [e1]
  by_cases c1 : x < st
  · rw [if_neg (by omega : ¬ (st ≤ x ∧ x < mid)), if_neg (by omega : ¬ (mid ≤ x ∧ x < mid + m - st)), if_neg (by omega : ¬ (st ≤ y ∧ y < mid))]
    by_cases c2 : y < mid + m - st
    · rw [if_pos (by omega)]; exact s1.le ho (by omega) (by omega) (by omega)
    · rw [if_neg (by omega)]
      have := h1 (by omega) (by omega)
      exact ho.tr _ _ _ (ho.tr _ _ _ (s1.le ho (by omega : a ≤ x) (by omega : x ≤ st - 1) (by omega)) this) (s2.le ho (by omega) (by omega : mid + m - st ≤ y) (by omega))
  · rw [if_pos (by omega : st ≤ x ∧ x < mid), if_neg (by omega : ¬ (st ≤ y ∧ y < mid))]
    by_cases c2 : y < mid + m - st
    · rw [if_pos (by omega)]
      have := ho.asym _ _ (h2 (by omega) (by omega))
      exact ho.tr _ _ _ (ho.tr _ _ _ (s2.le ho (by omega) (by omega : x + (m - st) ≤ mid + m - st - 1) (by omega)) this) (s1.le ho (by omega) (by omega : st ≤ y - (mid + m - st - m)) (by omega))
    · rw [if_neg (by omega)]; exact s2.le ho (by omega) (by omega) (by omega)
theorem rot_ahead {α : Type} {lt : α → α → Bool} {f : Nat → α} {a m b mid st : Nat} (s1 : Srtd lt f a m) (s2 : Srtd lt f m b) (hst : a ≤ st ∧ st ≤ m) (hmid : st ≤ mid) (he0 : mid + m - st ≤ b) (he1 : m ≤ mid + m - st) :
    Srtd lt (rot f st m (mid + m - st)) a st ∧ Srtd lt (rot f st m (mid + m - st)) st mid ∧ Srtd lt (rot f st m (mid + m - st)) mid (mid + m - st) ∧ Srtd lt (rot f st m (mid + m - st)) (mid + m - st) b := by
  have e1 : st + (mid + m - st - m) = mid := by omega
  refine ⟨fun x y h1 h2 h3 => ?_, fun x y h1 h2 h3 => ?_, fun x y h1 h2 h3 => ?_, fun x y h1 h2 h3 => ?_⟩ <;> unfold rot <;> rw [e1]
  · rw [if_neg (by omega : ¬ (st ≤ x ∧ x < mid)), if_neg (by omega : ¬ (st ≤ y ∧ y < mid)), if_neg (by omega), if_neg (by omega)]; exact s1 _ _ (by omega) (by omega) (by omega)
  · rw [if_pos (by omega : st ≤ x ∧ x < mid), if_pos (by omega : st ≤ y ∧ y < mid)]; exact s2 _ _ (by omega) (by omega) (by omega)
  · rw [if_neg (by omega : ¬ (st ≤ x ∧ x < mid)), if_neg (by omega : ¬ (st ≤ y ∧ y < mid)), if_pos (by omega), if_pos (by omega)]; exact s1 _ _ (by omega) (by omega) (by omega)
  · rw [if_neg (by omega : ¬ (st ≤ x ∧ x < mid)), if_neg (by omega : ¬ (st ≤ y ∧ y < mid)), if_neg (by omega), if_neg (by omega)]; exact s2 _ _ (by omega) (by omega) (by omega)
theorem join {α : Type} {lt : α → α → Bool} {f g k : Nat → α} {a mid b : Nat} (hmid : a ≤ mid ∧ mid ≤ b) (hx : ∀ x y, a ≤ x → x < mid → mid ≤ y → y < b → lt (f y) (f x) = false) (m1 : Mix f g a mid) (s1 : Srtd lt g a mid) (m2 : Mix g k mid b) (s2 : Srtd lt k mid b) : Mix f k a b ∧ Srtd lt k a b := by
  refine ⟨(m1.mono (Nat.le_refl _) hmid.2).trans (m2.mono hmid.1 (Nat.le_refl _)), fun x y h1 h2 h3 => ?_⟩
  by_cases c1 : y < mid
  · rw [m2.out (.inl (by omega)), m2.out (.inl (by omega))]; exact s1 x y h1 h2 c1
  · by_cases c2 : mid ≤ x
    · exact s2 x y c2 h2 h3
    · rw [m2.out (.inl (by omega : x < mid))]
      obtain ⟨x', hx', ex⟩ := m1.inside (x := x) ⟨h1, by omega⟩
      obtain ⟨y', hy', ey⟩ := m2.inside (x := y) ⟨by omega, h3⟩
      rw [ex, ey, m1.out (.inr hy'.1)]
      exact hx _ _ hx'.1 hx'.2 hy'.1 hy'.2
end Go.Proofs.YtfjehhdahpbbgaaDoor
namespace Go.Proofs.YtfjehhdahpbbgaaDoor
set_option linter.unusedSimpArgs false
set_option linter.unusedVariables false
set_option maxRecDepth 100000
def cmpI (a b : Int) : Int := if a < b then -1 else if b < a then 1 else 0
def cmpT (a b : ByteArray) : Int := if Op.bytesLess a.toList b.toList then -1 else if Op.bytesLess b.toList a.toList then 1 else 0
def cmpK (a b : V) : Int := if cmpI a.k b.k ≠ 0 then cmpI a.k b.k else if cmpI a.n b.n ≠ 0 then cmpI a.n b.n else cmpT a.s b.s
def ltK (a b : V × V) : Bool := decide (cmpK a.1 b.1 < 0)
structure Cmp {α : Type} (c : α → α → Int) : Prop where
  anti : ∀ a b, c b a = - c a b
  tr : ∀ a b d, c a b ≤ 0 → c b d ≤ 0 → c a d ≤ 0
theorem cmpI_cmp : Cmp cmpI := ⟨fun a b => by unfold cmpI; repeat' split
                                              all_goals omega, fun a b d => by unfold cmpI; repeat' split
                                                                               all_goals omega⟩
theorem cmpI_zero {a b : Int} : cmpI a b = 0 ↔ a = b := by unfold cmpI; repeat' split
                                                           all_goals omega
theorem bl_eq : ∀ (x y : List UInt8), Op.bytesLess x y = decide (x < y)
  | [], [] => by simp [Op.bytesLess]
  | _ :: _, [] => by simp [Op.bytesLess]
  | [], _ :: _ => by simp [Op.bytesLess]
  | a :: x, b :: y => by
    rw [Op.bytesLess, bl_eq x y, Bool.eq_iff_iff]
    simp [List.cons_lt_cons_iff]
theorem bl_irr (a : List UInt8) : Op.bytesLess a a = false := by rw [bl_eq]; simp [List.lt_irrefl]
theorem bl_asym {a b : List UInt8} (h : Op.bytesLess a b = true) : Op.bytesLess b a = false := by
  rw [bl_eq] at h ⊢
  simp only [decide_eq_true_eq, decide_eq_false_iff_not] at h ⊢
  exact fun h2 => List.lt_irrefl a (List.lt_trans h h2)
theorem bl_tri {a b : List UInt8} (h : Op.bytesLess a b = false) (h2 : Op.bytesLess b a = false) : a = b := by
  rw [bl_eq] at h h2
  simp only [decide_eq_false_iff_not, List.not_lt] at h h2
  exact List.le_antisymm h2 h
theorem bl_tr {a b d : List UInt8} (h : Op.bytesLess b a = false) (h2 : Op.bytesLess d b = false) : Op.bytesLess d a = false := by
  rw [bl_eq] at h h2 ⊢
  simp only [decide_eq_false_iff_not, List.not_lt] at h h2 ⊢
  exact List.le_trans h h2
theorem ba_list {a b : ByteArray} (h : a.toList = b.toList) : a = b := by
  rw [ByteArray.toList_eq, ByteArray.toList_eq] at h
  exact ba_ext h
theorem cmpT_cmp : Cmp cmpT := by
  refine ⟨fun a b => ?_, fun a b d h1 h2 => ?_⟩
  · unfold cmpT
    cases h1 : Op.bytesLess a.toList b.toList <;> cases h2 : Op.bytesLess b.toList a.toList <;> simp
    have := bl_asym h1; rw [h2] at this; cases this
  · have e : ∀ x y : ByteArray, cmpT x y ≤ 0 ↔ Op.bytesLess y.toList x.toList = false := by
      intro x y
      unfold cmpT
      cases h1 : Op.bytesLess x.toList y.toList <;> cases h2 : Op.bytesLess y.toList x.toList <;> simp
      have := bl_asym h1; rw [h2] at this; cases this
    rw [e] at h1 h2 ⊢
    exact bl_tr h1 h2
theorem cmpT_zero {a b : ByteArray} : cmpT a b = 0 ↔ a = b := by
  unfold cmpT
  constructor
  · intro h
    cases h1 : Op.bytesLess a.toList b.toList <;> cases h2 : Op.bytesLess b.toList a.toList <;> simp [h1, h2] at h
    exact ba_list (bl_tri h1 h2)
  · rintro rfl
    simp [bl_irr]
theorem Cmp.both {α β γ : Type} {c : β → β → Int} {d : γ → γ → Int} (hc : Cmp c) (hd : Cmp d) (p : α → β) (q : α → γ) : Cmp (fun x y : α => if c (p x) (p y) ≠ 0 then c (p x) (p y) else d (q x) (q y)) := by
  refine ⟨fun a b => ?_, fun a b e h1 h2 => ?_⟩
  · have h3 := hc.anti (p a) (p b); have h4 := hd.anti (q a) (q b)
    split <;> split <;> omega
  · have a1 := hc.anti (p a) (p b); have a2 := hc.anti (p b) (p e); have a3 := hc.anti (p a) (p e)
    have t1 := hc.tr (p a) (p b) (p e)
    have t2 := hc.tr (p b) (p e) (p a)
    have t3 := hc.tr (p e) (p a) (p b)
    have u := hd.tr (q a) (q b) (q e)
    split at h1 <;> split at h2 <;> split <;> omega
theorem cmpK_cmp : Cmp cmpK := Cmp.both cmpI_cmp (Cmp.both cmpI_cmp cmpT_cmp (fun x : V => x.n) (fun x => x.s)) (fun x : V => x.k) id
theorem cmpK_zero {a b : V} : cmpK a b = 0 ↔ a.k = b.k ∧ a.n = b.n ∧ a.s = b.s := by
  unfold cmpK
  constructor
  · intro h
    split at h
    · rename_i h1; exact absurd h h1
    · rename_i h1
      split at h
      · rename_i h2; exact absurd h h2
      · rename_i h2
        exact ⟨cmpI_zero.1 (by omega), cmpI_zero.1 (by omega), cmpT_zero.1 h⟩
  · rintro ⟨h1, h2, h3⟩
    have e1 := cmpI_zero.2 h1; have e2 := cmpI_zero.2 h2
    rw [if_neg (by omega), if_neg (by omega)]
    exact cmpT_zero.2 h3
theorem ltK_ord : Ordr ltK := by
  refine ⟨fun a b h => ?_, fun a b c h1 h2 => ?_⟩
  · have := cmpK_cmp.anti a.1 b.1
    simp only [ltK, decide_eq_true_eq, decide_eq_false_iff_not] at h ⊢
    omega
  · simp only [ltK, decide_eq_false_iff_not] at h1 h2 ⊢
    have a1 := cmpK_cmp.anti a.1 b.1; have a2 := cmpK_cmp.anti b.1 c.1; have a3 := cmpK_cmp.anti a.1 c.1
    have := cmpK_cmp.tr a.1 b.1 c.1
    omega
theorem sorted_same {α : Type} {lt : α → α → Bool} (ho : ∀ a b, lt a b = true → lt b a = false) : ∀ (a b : List α), a.Pairwise (fun x y => lt x y = true) → b.Pairwise (fun x y => lt x y = true) → (∀ x, x ∈ a ↔ x ∈ b) → a = b
  | [], [], _, _, _ => rfl
  | [], y :: b, _, _, h => absurd ((h y).2 (List.mem_cons_self ..)) (by simp)
  | x :: a, [], _, _, h => absurd ((h x).1 (List.mem_cons_self ..)) (by simp)
  | x :: a, y :: b, ha, hb, h => by
    rw [List.pairwise_cons] at ha hb
    have irr : ∀ z, lt z z = true → False := fun z hz => by have := ho z z hz; rw [hz] at this; cases this
    have e : x = y := by
      have h1 := (h x).1 (List.mem_cons_self ..)
      have h2 := (h y).2 (List.mem_cons_self ..)
      rw [List.mem_cons] at h1 h2
      rcases h1 with h1 | h1
      · exact h1
      · rcases h2 with h2 | h2
        · exact h2.symm
        · have h3 := ha.1 y h2
          have h4 := hb.1 x h1
          have := ho _ _ h3; rw [h4] at this; cases this
    subst e
    rw [sorted_same ho a b ha.2 hb.2 (fun z => ?_)]
    constructor
    · intro hz
      have := (h z).1 (List.mem_cons_of_mem _ hz)
      rw [List.mem_cons] at this
      rcases this with rfl | h1
      · exact absurd (ha.1 z hz) (fun h => irr z h)
      · exact h1
    · intro hz
      have := (h z).2 (List.mem_cons_of_mem _ hz)
      rw [List.mem_cons] at this
      rcases this with rfl | h1
      · exact absurd (hb.1 z hz) (fun h => irr z h)
      · exact h1
end Go.Proofs.YtfjehhdahpbbgaaDoor
namespace Go.Proofs.YtfjehhdahpbbgaaDoor
set_option linter.unusedSimpArgs false
set_option linter.unusedVariables false
set_option maxRecDepth 100000
def MZ : V := .mk 0 0 0 ⟨#[]⟩ []
def lkp (s : ByteArray) : List V → Option V
  | k :: x :: r => if k.k = 5 ∧ k.s = s then some x else lkp s r
  | _ => none
def delK (s : ByteArray) : List V → List V
  | k :: x :: r => if k.k = 5 ∧ k.s = s then r else k :: x :: delK s r
  | l => l
def setK (s : ByteArray) (y : V) : List V → List V
  | k :: x :: r => if k.k = 5 ∧ k.s = s then k :: y :: r else k :: x :: setK s y r
  | l => l
def put1 (out : List V) (key x y : V) : List V :=
  if key.k = 5 then (if x.k = 0 then delK key.s out else if lkp key.s out = none then out ++ [key, y] else setK key.s y out) else out
def old1 (out : List V) (key : V) : V := (lkp key.s out).getD MZ
mutual
def mrg : V → V → V
  | v, .mk k n e s ks => if k = 8 then .mk 8 0 0 ⟨#[]⟩ (mgs none (if v.k = 8 then v.kids else []) ks) else .mk k n e s ks
def mgs : Option V → List V → List V → List V
  | _, out, [] => out
  | none, out, t :: ts => mgs (some t) out ts
  | some key, out, t :: ts => mgs none (put1 out key t (mrg (old1 out key) t)) ts
 end
theorem pairs_ind {P : List V → Prop} (h0 : P []) (h2 : ∀ k x r, r.length % 2 = 0 → P r → P (k :: x :: r)) : ∀ l : List V, l.length % 2 = 0 → P l
  | [], _ => h0
  | [_], h => by simp at h
  | k :: x :: r, h => h2 k x r (by simp at h; omega) (pairs_ind h0 h2 r (by simp at h; omega))
def Uq : List V → Prop
  | k :: _ :: r => (k.k = 5 → lkp k.s r = none) ∧ Uq r
  | _ => True
theorem lkp_nil (s : ByteArray) : lkp s [] = none := by rw [lkp]; intro _ _ _ h; cases h
theorem Uq_nil : Uq [] := by rw [Uq]; trivial; intro _ _ _ h; cases h
def AllP (P : V → V → Prop) : List V → Prop
  | k :: x :: r => P k x ∧ AllP P r
  | _ => True
theorem AllP.mono {P Q : V → V → Prop} (h : ∀ k x, P k x → Q k x) : ∀ l : List V, l.length % 2 = 0 → AllP P l → AllP Q l :=
  pairs_ind (fun _ => by rw [AllP]; trivial; intro _ _ _ h; cases h) (fun k x r _ ih ha => by rw [AllP] at ha ⊢; exact ⟨h k x ha.1, ih ha.2⟩)
theorem lkp_keys {P : V → V → Prop} {s : ByteArray} : ∀ l : List V, l.length % 2 = 0 → AllP P l → ∀ y, lkp s l = some y → ∃ k, k.k = 5 ∧ k.s = s ∧ P k y :=
  pairs_ind (fun _ y h => by rw [lkp_nil] at h; cases h) (fun k x r _ ih ha y h => by
    rw [AllP] at ha
    rw [lkp] at h
    split at h
    · rename_i hc; obtain rfl := Option.some.inj h; exact ⟨k, hc.1, hc.2, ha.1⟩
    · exact ih ha.2 y h)
theorem AllP_of {P : V → V → Prop} : ∀ l : List V, l.length % 2 = 0 → (∀ k ∈ l, ∀ x ∈ l, P k x) → AllP P l :=
  pairs_ind (fun _ => by rw [AllP]; trivial; intro _ _ _ h; cases h) (fun k x r _ ih h => by
    rw [AllP]
    exact ⟨h k (by simp) x (by simp), ih (fun a ha b hb => h a (by simp [ha]) b (by simp [hb]))⟩)
theorem evV_two (k x : V) (r : List V) : evV (k :: x :: r) = k :: evV r := by rw [evV]
theorem lkp_ev {s : ByteArray} : ∀ l : List V, l.length % 2 = 0 → lkp s l ≠ none → ∃ k ∈ evV l, k.k = 5 ∧ k.s = s :=
  pairs_ind (fun h => absurd (lkp_nil s) h) (fun k x r _ ih h => by
    rw [lkp] at h
    rw [evV_two]
    split at h
    · rename_i hc; exact ⟨k, by simp, hc⟩
    · obtain ⟨k2, h1, h2⟩ := ih h; exact ⟨k2, by simp [h1], h2⟩)
theorem ev_mem {l : List V} : l.length % 2 = 0 → ∀ x ∈ evV l, x ∈ l :=
  fun h => pairs_ind (P := fun l => ∀ x ∈ evV l, x ∈ l) (fun x hx => by rw [evV] at hx; exact hx) (fun k x r _ ih y hy => by
    rw [evV_two, List.mem_cons] at hy
    rcases hy with rfl | hy
    · simp
    · have := ih y hy; simp [this]) l h
theorem text_n {t : V} {d : Int} (h : rightB t d = true) (h5 : t.k = 5) : t.n = 0 := by
  have h1 := (rightB_leaf h).1
  unfold nodeB at h1
  rw [if_neg (by omega), if_neg (by omega), if_neg (by omega), if_pos h5, Bool.and_eq_true, decide_eq_true_eq] at h1
  exact h1.1.1
theorem Uq_ev : ∀ l : List V, l.length % 2 = 0 → (∀ x ∈ l, ∃ d, rightB x d = true) → (evV l).Pairwise (fun a b => decide (keyEq a b) = false) → Uq l :=
  pairs_ind (fun _ _ => Uq_nil) (fun k x r hr ih hx hp => by
    rw [evV_two, List.pairwise_cons] at hp
    rw [Uq]
    refine ⟨fun h5 => ?_, ih (fun y hy => hx y (by simp [hy])) hp.2⟩
    cases hl : lkp k.s r with
    | none => rfl
    | some y =>
      obtain ⟨k2, h1, h2, h3⟩ := lkp_ev r hr (by rw [hl]; simp)
      have := hp.1 k2 h1
      obtain ⟨d1, hd1⟩ := hx k (by simp)
      obtain ⟨d2, hd2⟩ := hx k2 (by have := ev_mem hr k2 h1; simp [this])
      rw [decide_eq_false_iff_not] at this
      exact absurd ⟨h5.trans h2.symm, (text_n hd1 h5).trans (text_n hd2 h2).symm, h3.symm⟩ this)
theorem right_map {t : V} {d : Int} (h : rightB t d = true) (h8 : t.k = 8) : t.kids.length % 2 = 0 ∧ Uq t.kids := by
  have hk := right_kids h
  rw [rightB_eq] at h
  simp only [Bool.and_eq_true, ownB] at h
  have h3 := h.1.2.2
  rw [if_neg (by omega), if_neg (by omega), if_pos h8] at h3
  unfold pairsB keysB at h3
  simp only [Bool.and_eq_true, decide_eq_true_eq] at h3
  refine ⟨h3.1.2, Uq_ev _ h3.1.2 (fun x hx => ?_) h3.1.1.2⟩
  obtain ⟨j, hj, rfl⟩ := List.getElem_of_mem hx
  exact ⟨d - 1, rightsB_at hk j hj⟩
def Qd (y : V) : Prop := y = MZ ∨ ∃ d, rightB y d = true
end Go.Proofs.YtfjehhdahpbbgaaDoor
namespace Go.Proofs.YtfjehhdahpbbgaaDoor
set_option linter.unusedSimpArgs false
set_option linter.unusedVariables false
set_option maxRecDepth 100000
def prs : List V → List (V × V)
  | k :: x :: r => (k, x) :: prs r
  | _ => []
def upr : List (V × V) → List V
  | [] => []
  | p :: r => p.1 :: p.2 :: upr r
theorem upr_prs : ∀ l : List V, l.length % 2 = 0 → upr (prs l) = l :=
  pairs_ind (by rw [prs, upr]; intro _ _ _ h; cases h) (fun k x r _ ih => by rw [prs, upr, ih])
theorem upr_app (b : List (V × V)) : ∀ a : List (V × V), upr (a ++ b) = upr a ++ upr b
  | [] => rfl
  | p :: r => by rw [List.cons_append, upr, upr, upr_app b r]; rfl
theorem upr_len : ∀ l : List (V × V), (upr l).length = 2 * l.length
  | [] => rfl
  | p :: r => by rw [upr, List.length_cons, List.length_cons, upr_len r, List.length_cons]; omega
theorem prs_len : ∀ l : List V, l.length % 2 = 0 → 2 * (prs l).length = l.length :=
  pairs_ind (by rw [prs]; rfl; intro _ _ _ h; cases h) (fun k x r _ ih => by rw [prs, List.length_cons, List.length_cons, List.length_cons]; omega)
def PZ : V × V := (MZ, MZ)
def dn (out : List (V × V)) (x : V × V) : Nat → Nat
  | 0 => 0
  | q + 1 => if 0 < cmpK (out.getD q PZ).1 x.1 then dn out x q else q + 1
def insP (out : List (V × V)) (x : V × V) : List (V × V) := out.take (dn out x out.length) ++ x :: out.drop (dn out x out.length)
def srtP (l : List (V × V)) : List (V × V) := l.foldl insP []
theorem dn_le (out : List (V × V)) (x : V × V) : ∀ q, dn out x q ≤ q
  | 0 => by rw [dn]; omega
  | q + 1 => by
    rw [dn]
    have := dn_le out x q
    split <;> omega
theorem dn_behind (out : List (V × V)) (x : V × V) : ∀ q i, dn out x q ≤ i → i < q → 0 < cmpK (out.getD i PZ).1 x.1
  | 0, i, _, h => by omega
  | q + 1, i, h1, h2 => by
    rw [dn] at h1
    split at h1
    · rename_i hc
      by_cases e : i = q
      · rw [e]; exact hc
      · exact dn_behind out x q i h1 (by omega)
    · omega
theorem dn_ahead (out : List (V × V)) (x : V × V) : ∀ q p, dn out x q = p + 1 → ¬ 0 < cmpK (out.getD p PZ).1 x.1
  | 0, p, h => by rw [dn] at h; omega
  | q + 1, p, h => by
    rw [dn] at h
    split at h
    · exact dn_ahead out x q p h
    · rename_i hc
      obtain rfl : q = p := by omega
      exact hc
theorem insP_mem (out : List (V × V)) (x y : V × V) : y ∈ insP out x ↔ y = x ∨ y ∈ out := by
  unfold insP
  generalize dn out x out.length = q
  conv => rhs; rw [← List.take_append_drop q out]
  simp only [List.mem_append, List.mem_cons]
  constructor
  · rintro (h | h | h)
    · exact .inr (.inl h)
    · exact .inl h
    · exact .inr (.inr h)
  · rintro (h | h | h)
    · exact .inr (.inl h)
    · exact .inl h
    · exact .inr (.inr h)
theorem insP_len (out : List (V × V)) (x : V × V) : (insP out x).length = out.length + 1 := by
  unfold insP
  have := dn_le out x out.length
  rw [List.length_append, List.length_cons, List.length_take, List.length_drop]; omega
theorem ltK_true {a b : V × V} : ltK a b = true ↔ cmpK a.1 b.1 < 0 := by unfold ltK; exact decide_eq_true_iff
theorem ltK_false {a b : V × V} : ltK a b = false ↔ ¬ cmpK a.1 b.1 < 0 := by unfold ltK; exact decide_eq_false_iff_not
theorem insP_pw {out : List (V × V)} {x : V × V} (h : out.Pairwise (fun a b => ltK a b = true)) (hx : ∀ y ∈ out, cmpK y.1 x.1 ≠ 0) : (insP out x).Pairwise (fun a b => ltK a b = true) := by
  unfold insP
  have h1 := dn_le out x out.length
  have h2 := dn_behind out x out.length
  have h3 := dn_ahead out x out.length
  generalize dn out x out.length = q at h1 h2 h3
  have hd : ∀ y ∈ out.drop q, ltK x y = true := by
    intro y hy
    obtain ⟨j, hj, rfl⟩ := List.getElem_of_mem hy
    rw [List.length_drop] at hj
    have := h2 (q + j) (by omega) (by omega)
    rw [List.getD_eq_getElem?_getD, List.getElem?_eq_getElem (by omega), Option.getD_some] at this
    rw [List.getElem_drop, ltK_true]
    have a1 := cmpK_cmp.anti x.1 out[q + j].1
    omega
  have ht : ∀ y ∈ out.take q, ltK y x = true := by
    intro y hy
    obtain ⟨i, hi, rfl⟩ := List.getElem_of_mem hy
    rw [List.length_take] at hi
    obtain ⟨p, rfl⟩ : ∃ p, q = p + 1 := ⟨q - 1, by omega⟩
    have hp : p < out.length := by omega
    have h4 := h3 p rfl
    rw [List.getD_eq_getElem?_getD, List.getElem?_eq_getElem hp, Option.getD_some] at h4
    have h5 := hx out[p] (List.getElem_mem hp)
    have h6 : cmpK out[p].1 x.1 < 0 := by omega
    rw [List.getElem_take]
    by_cases e : i = p
    · subst e; exact ltK_true.2 h6
    · have h7 := (List.pairwise_iff_getElem.1 h) i p (by omega) hp (by omega)
      refine ltK_ord.lt_le h7 (ltK_false.2 ?_)
      have a1 := cmpK_cmp.anti out[p].1 x.1
      omega
  have hall := h
  rw [← List.take_append_drop q out, List.pairwise_append] at hall
  rw [List.pairwise_append]
  refine ⟨hall.1, List.pairwise_cons.2 ⟨hd, hall.2.1⟩, fun a ha b hb => ?_⟩
  rcases List.mem_cons.1 hb with rfl | hb
  · exact ht a ha
  · exact hall.2.2 a ha b hb
theorem foldP (l : List (V × V)) : ∀ out : List (V × V), out.Pairwise (fun a b => ltK a b = true) → (∀ y ∈ out, ∀ x ∈ l, cmpK y.1 x.1 ≠ 0) → l.Pairwise (fun a b => cmpK a.1 b.1 ≠ 0) →
    (l.foldl insP out).Pairwise (fun a b => ltK a b = true) ∧ (∀ y, y ∈ l.foldl insP out ↔ y ∈ out ∨ y ∈ l) := by
  induction l with
  | nil => intro out h _ _; exact ⟨h, fun y => by simp⟩
  | cons x l ih =>
    intro out h hx hl
    rw [List.pairwise_cons] at hl
    rw [List.foldl_cons]
    obtain ⟨i1, i2⟩ := ih (insP out x) (insP_pw h (fun y hy => hx y hy x (List.mem_cons_self ..))) (fun y hy z hz => by
      rw [insP_mem] at hy
      rcases hy with rfl | hy
      · exact hl.1 z hz
      · exact hx y hy z (List.mem_cons_of_mem _ hz)) hl.2
    refine ⟨i1, fun y => ?_⟩
    rw [i2, insP_mem, List.mem_cons]
    constructor
    · rintro ((h | h) | h)
      · exact .inr (.inl h)
      · exact .inl h
      · exact .inr (.inr h)
    · rintro (h | h | h)
      · exact .inl (.inr h)
      · exact .inl (.inl h)
      · exact .inr h
theorem foldP_len (l : List (V × V)) : ∀ out : List (V × V), (l.foldl insP out).length = out.length + l.length := by
  induction l with
  | nil => intro out; rfl
  | cons x l ih => intro out; rw [List.foldl_cons, ih, insP_len, List.length_cons]; omega
theorem srtP_len (l : List (V × V)) : (srtP l).length = l.length := by unfold srtP; rw [foldP_len]; simp
theorem srt_uni {l : List (V × V)} {g : Nat → V × V} (hd : l.Pairwise (fun a b => cmpK a.1 b.1 ≠ 0)) (hm : Mix (fun i => l.getD i PZ) g 0 l.length) (hs : Srtd ltK g 0 l.length) : (List.range l.length).map g = srtP l := by
  obtain ⟨f1, f2⟩ := foldP l [] List.Pairwise.nil (fun y hy => by simp at hy) hd
  refine sorted_same (fun a b h => ltK_ord.asym a b h) _ _ ?_ f1 (fun x => ?_)
  · rw [List.pairwise_map]
    refine List.pairwise_iff_getElem.2 (fun i j hi hj hij => ?_)
    rw [List.getElem_range, List.getElem_range]
    simp only [List.length_range] at hi hj
    have h1 := hs i j (Nat.zero_le _) hij hj
    rw [ltK_false] at h1
    rw [ltK_true]
    obtain ⟨σ, τ, e1, e2, e3, e4⟩ := hm
    have hin : ∀ x, x < l.length → σ x < l.length := by
      intro x hx
      rcases Nat.lt_or_ge (σ x) l.length with h | h
      · exact h
      · have h5 := e3 (σ x) (by omega)
        have h6 : σ x = x := by rw [← e2 (σ x), h5, e2]
        omega
    have hne : σ i ≠ σ j := fun e => by
      have := congrArg τ e
      rw [e2, e2] at this; omega
    have key : cmpK (g j).1 (g i).1 ≠ 0 := by
      rw [e4, e4]
      simp only [List.getD_eq_getElem?_getD]
      rw [List.getElem?_eq_getElem (hin i hi), List.getElem?_eq_getElem (hin j hj), Option.getD_some, Option.getD_some]
      have hp := List.pairwise_iff_getElem.1 hd
      have hii := hin i hi
      have hjj := hin j hj
      rcases Nat.lt_or_gt_of_ne hne with h | h
      · have := hp _ _ (hin i hi) (hin j hj) h
        have a1 := cmpK_cmp.anti l[σ i].1 l[σ j].1
        omega
      · exact hp _ _ (hin j hj) (hin i hi) h
    have a1 := cmpK_cmp.anti (g j).1 (g i).1
    omega
  · rw [show (x ∈ srtP l ↔ x ∈ ([] : List (V × V)) ∨ x ∈ l) from f2 x]
    constructor
    · intro h
      obtain ⟨i, hi, rfl⟩ := List.mem_map.1 h
      rw [List.mem_range] at hi
      obtain ⟨y, hy, e⟩ := hm.inside (x := i) ⟨Nat.zero_le _, hi⟩
      rw [e]
      right
      show l.getD y PZ ∈ l
      rw [List.getD_eq_getElem?_getD, List.getElem?_eq_getElem hy.2, Option.getD_some]
      exact List.getElem_mem hy.2
    · rintro (h | h)
      · simp at h
      · obtain ⟨i, hi, rfl⟩ := List.getElem_of_mem h
        obtain ⟨y, hy, e⟩ := hm.symm.inside (x := i) ⟨Nat.zero_le _, hi⟩
        rw [List.mem_map]
        refine ⟨y, List.mem_range.2 hy.2, ?_⟩
        rw [← e]
        show l.getD i PZ = _
        rw [List.getD_eq_getElem?_getD, List.getElem?_eq_getElem hi, Option.getD_some]
mutual
def srtV : V → V
  | .mk k n e s ks => .mk k n e s (if k = 8 then upr (srtP (prs (srtVs ks))) else srtVs ks)
def srtVs : List V → List V
  | [] => []
  | t :: ts => srtV t :: srtVs ts
end
theorem srtVs_len : ∀ l : List V, (srtVs l).length = l.length
  | [] => by rw [srtVs]
  | t :: ts => by rw [srtVs, List.length_cons, List.length_cons, srtVs_len ts]
theorem srtVs_app (b : List V) : ∀ a : List V, srtVs (a ++ b) = srtVs a ++ srtVs b
  | [] => by rw [srtVs]; rfl
  | t :: ts => by rw [List.cons_append, srtVs, srtVs, srtVs_app b ts]; rfl
theorem srtV_eq (t : V) : srtV t = .mk t.k t.n t.e t.s (if t.k = 8 then upr (srtP (prs (srtVs t.kids))) else srtVs t.kids) := by cases t; rw [srtV]; rfl
theorem upr_szs_ins (out : List (V × V)) (x : V × V) : szs (upr (insP out x)) = szs (upr out) + (1 + x.1.sz) + (1 + x.2.sz) := by
  unfold insP
  generalize dn out x out.length = q
  have h : szs (upr out) = szs (upr (out.take q)) + szs (upr (out.drop q)) := by
    conv => lhs; rw [← List.take_append_drop q out]
    rw [upr_app, szs_append]
  rw [upr_app, szs_append, upr, szs, szs]; omega
theorem upr_szs_fold (l : List (V × V)) : ∀ out : List (V × V), szs (upr (l.foldl insP out)) = szs (upr out) + szs (upr l) := by
  induction l with
  | nil => intro out; rw [List.foldl_nil, upr, szs]; omega
  | cons x l ih => intro out; rw [List.foldl_cons, ih, upr_szs_ins, upr, szs, szs]; omega
theorem srt_sz : ∀ (N : Nat) (t : V) (d : Int), t.nodes ≤ N → rightB t d = true → (srtV t).sz = t.sz := by
  intro N
  induction N with
  | zero => intro t d h; rw [V.nodes_eq] at h; omega
  | succ N ih =>
  intro t d hN ht
  have hk := right_kids ht
  rw [V.nodes_eq] at hN
  have hs : ∀ l : List V, (∀ x ∈ l, x ∈ t.kids) → szs (srtVs l) = szs l := by
    intro l
    induction l with
    | nil => intro _; rw [srtVs]
    | cons x l ihl =>
      intro h
      have hx := h x (List.mem_cons_self ..)
      have hn := nodes_mem hx
      obtain ⟨j, hj, e⟩ := List.getElem_of_mem hx
      have hr := rightsB_at hk j hj
      rw [e] at hr
      rw [srtVs, szs, szs, ih x (d - 1) (by omega) hr, ihl (fun y hy => h y (List.mem_cons_of_mem _ hy))]
  have h1 := hs t.kids (fun x h => h)
  have h2 := V.sz_eq t
  rw [srtV_eq, V.sz]
  by_cases h8 : t.k = 8
  · rw [if_pos h8]
    have he := (right_map ht h8).1
    unfold srtP
    rw [upr_szs_fold, upr_prs _ (by rw [srtVs_len]; exact he), h1, upr, szs]; omega
  · rw [if_neg h8, h1]; omega
theorem prs_keys {R : V → V → Prop} : ∀ l : List V, l.length % 2 = 0 → (evV l).Pairwise R → (prs l).Pairwise (fun a b => R a.1 b.1) :=
  pairs_ind (fun _ => by rw [prs]; exact List.Pairwise.nil; intro _ _ _ h; cases h) (fun k x r hr ih h => by
    rw [evV_two, List.pairwise_cons] at h
    rw [prs, List.pairwise_cons]
    refine ⟨fun p hp => h.1 _ ?_, ih h.2⟩
    have : ∀ l : List V, l.length % 2 = 0 → ∀ p ∈ prs l, p.1 ∈ evV l := fun l hl => pairs_ind (P := fun l => ∀ p ∈ prs l, p.1 ∈ evV l) (fun p hp => by rw [prs] at hp; simp at hp; intro _ _ _ h; cases h) (fun k x r _ ih p hp => by
      rw [prs, List.mem_cons] at hp
      rw [evV_two]
      rcases hp with rfl | hp
      · simp
      · have := ih p hp; simp [this]) l hl
    exact this r hr p hp)
end Go.Proofs.YtfjehhdahpbbgaaDoor
namespace Go.Proofs.YtfjehhdahpbbgaaDoor
set_option linter.unusedSimpArgs false
set_option linter.unusedVariables false
set_option maxRecDepth 100000
def sumV (t : V) : Int := if okT t = true then crcOf (mpB (srtV t)) else 0
theorem sumV_range (t : V) : 0 ≤ sumV t ∧ sumV t < 4294967296 := by
  unfold sumV
  split
  · exact crcOf_range _
  · omega
def bothI (a b : Int) : Int := crcOf (sumL a ++ sumL b)
theorem bothI_range (a b : Int) : 0 ≤ bothI a b ∧ bothI a b < 4294967296 := crcOf_range _
def rootV : Nat → List V → Int
  | 0, _ => 1
  | N + 1, l => if l.length = 0 then 1 else if h : l.length = 1 then sumV l[0] else bothI (rootV N (l.take ((l.length + 1) / 2))) (rootV N (l.drop ((l.length + 1) / 2)))
theorem rootV_range : ∀ (N : Nat) (l : List V), 0 ≤ rootV N l ∧ rootV N l < 4294967296
  | 0, _ => by rw [rootV]; omega
  | N + 1, l => by
    rw [rootV]
    split
    · omega
    · split
      · exact sumV_range _
      · exact bothI_range _ _
theorem rootV_more : ∀ (N M : Nat) (l : List V), l.length ≤ N → l.length ≤ M → rootV N l = rootV M l
  | 0, 0, _, _, _ => rfl
  | 0, M + 1, l, h, _ => by rw [rootV, rootV, if_pos (by omega)]
  | N + 1, 0, l, _, h => by rw [rootV, rootV, if_pos (by omega)]
  | N + 1, M + 1, l, h1, h2 => by
    rw [rootV, rootV]
    split
    · rfl
    · split
      · rfl
      · rw [rootV_more N M (l.take _) (by rw [List.length_take]; omega) (by rw [List.length_take]; omega), rootV_more N M (l.drop _) (by rw [List.length_drop]; omega) (by rw [List.length_drop]; omega)]
def root (l : List V) : Int := rootV l.length l
theorem root_range (l : List V) : 0 ≤ root l ∧ root l < 4294967296 := rootV_range _ _
theorem root_nil {l : List V} (h : l.length = 0) : root l = 1 := by unfold root; rw [h, rootV]
theorem root_one {l : List V} (h : l.length = 1) : root l = sumV (l[0]'(by omega)) := by
  obtain ⟨t, rfl⟩ := List.length_eq_one_iff.1 h
  rfl
theorem root_two {l : List V} (h : 2 ≤ l.length) : root l = bothI (root (l.take ((l.length + 1) / 2))) (root (l.drop ((l.length + 1) / 2))) := by
  obtain ⟨n, hn⟩ : ∃ n, l.length = n + 1 := ⟨l.length - 1, by omega⟩
  have e : root l = rootV (n + 1) l := by unfold root; rw [hn]
  rw [e, rootV, if_neg (by omega), dif_neg (by omega)]
  unfold root
  rw [rootV_more n _ (l.take _) (by rw [List.length_take]; omega) (Nat.le_refl _), rootV_more n _ (l.drop _) (by rw [List.length_drop]; omega) (Nat.le_refl _)]
def branchV : Nat → List V → Int → List Int
  | 0, _, _ => []
  | N + 1, l, i => if i < 0 ∨ (l.length : Int) - 1 < i ∨ l.length = 1 then [] else
    if i < ((l.length + 1) / 2 : Nat) then branchV N (l.take ((l.length + 1) / 2)) i ++ [root (l.drop ((l.length + 1) / 2))]
    else branchV N (l.drop ((l.length + 1) / 2)) (i - ((l.length + 1) / 2 : Nat)) ++ [root (l.take ((l.length + 1) / 2))]
theorem branchV_more : ∀ (N M : Nat) (l : List V) (i : Int), l.length ≤ N → l.length ≤ M → branchV N l i = branchV M l i
  | 0, 0, _, _, _, _ => rfl
  | 0, M + 1, l, i, h, _ => by rw [branchV, branchV, if_pos (by omega)]
  | N + 1, 0, l, i, _, h => by rw [branchV, branchV, if_pos (by omega)]
  | N + 1, M + 1, l, i, h1, h2 => by
    rw [branchV, branchV]
    split
    · rfl
    · rw [branchV_more N M (l.take _) _ (by rw [List.length_take]; omega) (by rw [List.length_take]; omega), branchV_more N M (l.drop _) _ (by rw [List.length_drop]; omega) (by rw [List.length_drop]; omega)]
def branch (l : List V) (i : Int) : List Int := branchV l.length l i
theorem branch_out {l : List V} {i : Int} (h : i < 0 ∨ (l.length : Int) - 1 < i ∨ l.length = 1) : branch l i = [] := by
  unfold branch
  rcases Nat.eq_zero_or_pos l.length with e | e
  · rw [e, branchV]
  · obtain ⟨n, hn⟩ : ∃ n, l.length = n + 1 := ⟨l.length - 1, by omega⟩
    have e2 : branchV l.length l i = branchV (n + 1) l i := by rw [hn]
    rw [e2, branchV, if_pos h]
theorem branch_first {l : List V} {i : Int} (h : ¬ (i < 0 ∨ (l.length : Int) - 1 < i ∨ l.length = 1)) (h2 : i < ((l.length + 1) / 2 : Nat)) :
    branch l i = branch (l.take ((l.length + 1) / 2)) i ++ [root (l.drop ((l.length + 1) / 2))] := by
  obtain ⟨n, hn⟩ : ∃ n, l.length = n + 1 := ⟨l.length - 1, by omega⟩
  have e2 : branch l i = branchV (n + 1) l i := by unfold branch; rw [hn]
  rw [e2, branchV, if_neg h, if_pos h2]
  unfold branch
  rw [branchV_more n _ (l.take _) _ (by rw [List.length_take]; omega) (Nat.le_refl _)]
theorem branch_later {l : List V} {i : Int} (h : ¬ (i < 0 ∨ (l.length : Int) - 1 < i ∨ l.length = 1)) (h2 : ¬ i < ((l.length + 1) / 2 : Nat)) :
    branch l i = branch (l.drop ((l.length + 1) / 2)) (i - ((l.length + 1) / 2 : Nat)) ++ [root (l.take ((l.length + 1) / 2))] := by
  obtain ⟨n, hn⟩ : ∃ n, l.length = n + 1 := ⟨l.length - 1, by omega⟩
  have e2 : branch l i = branchV (n + 1) l i := by unfold branch; rw [hn]
  rw [e2, branchV, if_neg h, if_neg h2]
  unfold branch
  rw [branchV_more n _ (l.drop _) _ (by rw [List.length_drop]; omega) (Nat.le_refl _)]
theorem branchV_len : ∀ (N : Nat) (l : List V) (i : Int), (branchV N l i).length ≤ N
  | 0, _, _ => by rw [branchV]; simp
  | N + 1, l, i => by
    rw [branchV]
    split
    · simp
    · split
      · rw [List.length_append, List.length_singleton]; have := branchV_len N (l.take ((l.length + 1) / 2)) i; omega
      · rw [List.length_append, List.length_singleton]; have := branchV_len N (l.drop ((l.length + 1) / 2)) (i - ((l.length + 1) / 2 : Nat)); omega
theorem branch_len (l : List V) (i : Int) : (branch l i).length ≤ l.length := branchV_len _ _ _
def turns : Nat → Nat → Int → List Bool
  | 0, _, _ => []
  | N + 1, n, i => if n ≤ 1 then [] else if i < ((n + 1) / 2 : Nat) then turns N ((n + 1) / 2) i ++ [true] else turns N (n - (n + 1) / 2) (i - ((n + 1) / 2 : Nat)) ++ [false]
theorem turns_more : ∀ (N M n : Nat) (i : Int), n ≤ N → n ≤ M → turns N n i = turns M n i
  | 0, 0, _, _, _, _ => rfl
  | 0, M + 1, n, i, h, _ => by rw [turns, turns, if_pos (by omega)]
  | N + 1, 0, n, i, _, h => by rw [turns, turns, if_pos (by omega)]
  | N + 1, M + 1, n, i, h1, h2 => by
    rw [turns, turns]
    split
    · rfl
    · rw [turns_more N M ((n + 1) / 2) _ (by omega) (by omega), turns_more N M (n - (n + 1) / 2) _ (by omega) (by omega)]
def turn (n : Nat) (i : Int) : List Bool := turns n n i
theorem turn_one {n : Nat} (i : Int) (h : n ≤ 1) : turn n i = [] := by
  unfold turn
  rcases Nat.eq_zero_or_pos n with e | e
  · rw [e, turns]
  · obtain rfl : n = 1 := by omega
    rw [turns, if_pos (by omega)]
theorem turn_first {n : Nat} {i : Int} (h : 2 ≤ n) (h2 : i < ((n + 1) / 2 : Nat)) : turn n i = turn ((n + 1) / 2) i ++ [true] := by
  obtain ⟨m, rfl⟩ : ∃ m, n = m + 1 := ⟨n - 1, by omega⟩
  unfold turn
  rw [turns, if_neg (by omega), if_pos h2, turns_more m _ _ _ (by omega) (Nat.le_refl _)]
theorem turn_later {n : Nat} {i : Int} (h : 2 ≤ n) (h2 : ¬ i < ((n + 1) / 2 : Nat)) : turn n i = turn (n - (n + 1) / 2) (i - ((n + 1) / 2 : Nat)) ++ [false] := by
  obtain ⟨m, rfl⟩ : ∃ m, n = m + 1 := ⟨n - 1, by omega⟩
  unfold turn
  rw [turns, if_neg (by omega), if_neg h2, turns_more m _ _ _ (by omega) (Nat.le_refl _)]
theorem turns_len : ∀ (N n : Nat) (i : Int), (turns N n i).length ≤ N
  | 0, _, _ => by rw [turns]; simp
  | N + 1, n, i => by
    rw [turns]
    split
    · simp
    · split
      · rw [List.length_append, List.length_singleton]; have := turns_len N ((n + 1) / 2) i; omega
      · rw [List.length_append, List.length_singleton]; have := turns_len N (n - (n + 1) / 2) (i - ((n + 1) / 2 : Nat)); omega
theorem turn_len (n : Nat) (i : Int) : (turn n i).length ≤ n := turns_len _ _ _
def upI (x : Int) (b : Bool) (s : Int) : Int := if b then bothI x s else bothI s x
def climbI : Int → List Bool → List Int → Int
  | x, b :: bs, s :: ss => climbI (upI x b s) bs ss
  | x, _, _ => x
theorem climbI_snoc : ∀ (bs : List Bool) (ss : List Int) (x : Int) (b : Bool) (s : Int), bs.length = ss.length → climbI x (bs ++ [b]) (ss ++ [s]) = upI (climbI x bs ss) b s
  | [], [], x, b, s, _ => by simp [climbI]
  | [], _ :: _, _, _, _, h => by simp at h
  | _ :: _, [], _, _, _, h => by simp at h
  | c :: bs, r :: ss, x, b, s, h => by
    rw [List.cons_append, List.cons_append, climbI, climbI_snoc bs ss _ _ _ (by simpa using h)]
    rfl
theorem upI_range (x : Int) (b : Bool) (s : Int) : 0 ≤ upI x b s ∧ upI x b s < 4294967296 := by
  unfold upI
  split <;> exact bothI_range _ _
theorem climbI_range : ∀ (bs : List Bool) (ss : List Int) (x : Int), (0 ≤ x ∧ x < 4294967296) → 0 ≤ climbI x bs ss ∧ climbI x bs ss < 4294967296
  | [], _, x, h => by rw [climbI]; exact h; intro _ _ _ _ h; cases h
  | _ :: _, [], x, h => by rw [climbI]; exact h; intro _ _ _ _ _ h; cases h
  | b :: bs, s :: ss, x, _ => by rw [climbI]; exact climbI_range bs ss _ (upI_range _ _ _)
theorem climbI_step (x : Int) (bs : List Bool) (ss : List Int) (k : Nat) (h1 : k < bs.length) (h2 : k < ss.length) : climbI x (bs.take (k + 1)) (ss.take (k + 1)) = upI (climbI x (bs.take k) (ss.take k)) bs[k] ss[k] := by
  rw [List.take_succ_eq_append_getElem h1, List.take_succ_eq_append_getElem h2, climbI_snoc _ _ _ _ _ (by rw [List.length_take, List.length_take]; omega)]
def checkB (t : V) (i n : Int) (ss : List Int) (r : Int) : Bool :=
  if 1 ≤ n ∧ n ≤ 1000 ∧ 0 ≤ i ∧ i ≤ n - 1 then decide ((turn n.toNat i).length = ss.length ∧ climbI (sumV t) (turn n.toNat i) ss = r) else false
end Go.Proofs.YtfjehhdahpbbgaaDoor
