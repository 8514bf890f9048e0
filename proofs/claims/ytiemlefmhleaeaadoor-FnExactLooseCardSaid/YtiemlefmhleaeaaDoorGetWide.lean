/- What impl.GetWide returns: the number in some bytes, the highest first. -/
import Derived.Test.YtiemlefmhleaeaaDoorWithin
import Derived.Test.YtiemlefmhleaeaaDoorHeadI
import Derived.Lib.Hide
namespace Go.Proofs.YtiemlefmhleaeaaDoor
set_option linter.unusedVariables false
set_option maxRecDepth 100000
open Go.RowKit
/-- the number in some bytes -/
def wval (l : List UInt8) : Nat := l.foldl (fun n c => 256 * n + c.toNat) 0
theorem wval_snoc (l : List UInt8) (c : UInt8) : wval (l ++ [c]) = 256 * wval l + c.toNat := by simp [wval, List.foldl_append]
/-- m bytes from the i-th on -/
def sub (l : List UInt8) (i m : Nat) : List UInt8 := (l.drop i).take m
theorem sub_length (l : List UInt8) (i m : Nat) (h : i + m ≤ l.length) : (sub l i m).length = m := by simp [sub]; omega
theorem sub_succ (s : ByteArray) (i m : Nat) (h : i + m < s.size) : sub s.data.toList i (m + 1) = sub s.data.toList i m ++ [s[i + m]] := by
  have hl : m < (s.data.toList.drop i).length := by simp; omega
  rw [sub, sub, List.take_succ_eq_append_getElem hl]
  congr 2
  simp
  rfl
theorem or_byte (q b : Int) (h0 : 0 ≤ b) (h1 : b < 256) : bits BinOp.or IntKind.i64 (wrap64 (q * 256)) (wrap64 b) = wrap64 (q * 256 + b) := by
  have hb : wrap64 b = b := by unfold wrap64; omega
  rw [hb]
  have hX : (BitVec.ofInt 64 (wrap64 (q * 256))).toNat = ((q * 256) % 18446744073709551616).toNat := by
    rw [BitVec.toNat_ofInt]
    congr 1
    unfold wrap64
    omega
  have hY : (BitVec.ofInt 64 b).toNat = b.toNat := by
    rw [BitVec.toNat_ofInt]
    congr 1
    omega
  obtain ⟨c, hc⟩ : ∃ c : Nat, ((q * 256) % 18446744073709551616).toNat = 2 ^ 8 * c := ⟨((q * 256) % 18446744073709551616).toNat / 256, by omega⟩
  have hor : (BitVec.ofInt 64 (wrap64 (q * 256)) ||| BitVec.ofInt 64 b).toNat = ((q * 256) % 18446744073709551616).toNat + b.toNat := by
    rw [BitVec.toNat_or, hX, hY, hc]
    exact (Nat.two_pow_add_eq_or_of_lt (by omega) c).symm
  show IntKind.i64.wrap ((BitVec.ofInt 64 (wrap64 (q * 256)) ||| BitVec.ofInt 64 b).toNat : Int) = _
  rw [hor]
  simp only [IntKind.wrap, IntKind.signed, IntKind.bits, wrap64]
  simp
  omega
theorem wrap_step (v c : Nat) : wrap64 (wrap64 (v : Int) * 256 + (c : Int)) = wrap64 ((256 * v + c : Nat) : Int) := by
  unfold wrap64; omega
set_option maxHeartbeats 400000 in
theorem GetWide_any (s : ByteArray) (i m : Int) (w : World) (hs : s.size ≤ 9223372036854775807) (hi : 0 ≤ i) (hm0 : 1 ≤ m) (hm : m ≤ 8) (him : i ≤ s.size - m) :
    Calls Tryd.prog 42 #[.string s, .int .i64 i, .int .i64 m] w fun e w' => e = .returned (.tuple #[.int .i64 (wrap64 (wval (sub s.data.toList i.toNat m.toNat))), .bool true]) ∧ w' = w := by
  go_enter Tryd.func42, Tryd.ntmps42
  go_wp2_with (go_at_call 92; refine (within_yes _ _ _ _ (by omega) (by omega)).mono ?_; rintro e w' ⟨rfl, rfl⟩)
  go_loop [8, 26, 9] (fun n k _ => ∃ j : Nat, ∃ q : Int, (j : Int) ≤ m ∧ k = .int .i64 j ∧ n = .int .i64 q ∧ Hid (q = wrap64 (wval (sub s.data.toList i.toNat j)))) (fun _ k _ => (m - intOf k).toNat)
  case atStart => exact ⟨0, 0, by omega, rfl, rfl, Lib.hid (by simp [sub, wval, wrap64])⟩
  case round =>
    obtain ⟨j, q, hj, rfl, rfl, HQ⟩ := hrel
    by_cases hlt : (j : Int) < m
    · have HT := Lib.hid (show bits BinOp.or IntKind.i64 (wrap64 (q * 256)) (wrap64 (s[(i + (j : Int)).toNat].toNat : Int)) = wrap64 (wval (sub s.data.toList i.toNat (j + 1))) by
        rw [or_byte _ _ (by omega) (by have := s[(i + (j : Int)).toNat].toNat_lt; omega), HQ.out, sub_succ s i.toNat j (by omega), wval_snoc, ← wrap_step]
        congr 3
        simp only [show (i + (j : Int)).toNat = i.toNat + j by omega])
      go_wp2_with fail
      go_round
      case rel => exact ⟨j + 1, _, by omega, by go_num, rfl, HT⟩
      case measure => simp [intOf]; omega
    · have H := Lib.hid (show q = wrap64 (wval (sub s.data.toList i.toNat m.toNat)) by rw [HQ.out, show m.toNat = j by omega])
      clear HQ
      go_wp2_with fail
      go_ret2
      exact ⟨by rw [← H.out]; rfl, rfl⟩
theorem pair_no {a b : Value} : Ending.returned (.tuple #[a, b]) = .returned (.tuple #[a, b]) := rfl
set_option maxHeartbeats 400000 in
theorem GetWide_no (s : ByteArray) (i m : Int) (w : World) (hs : s.size ≤ 9223372036854775807) (hm0 : 1 ≤ m) (hm : m ≤ 8) (h : i < 0 ∨ s.size - m < i) :
    Calls Tryd.prog 42 #[.string s, .int .i64 i, .int .i64 m] w fun e w' => e = .returned (.tuple #[.int .i64 0, .bool false]) ∧ w' = w := by
  by_cases h1 : i < 0
  · clear h
    go_enter Tryd.func42, Tryd.ntmps42
    go_wp2_with (go_at_call 92; refine (within_yes _ _ _ _ (by omega) (by omega)).mono ?_; rintro e w' ⟨rfl, rfl⟩)
    go_ret2
    exact ⟨rfl, rfl⟩
  · have h2 : (s.size : Int) - m < i := by omega
    clear h
    go_enter Tryd.func42, Tryd.ntmps42
    go_wp2_with (go_at_call 92; refine (within_yes _ _ _ _ (by omega) (by omega)).mono ?_; rintro e w' ⟨rfl, rfl⟩)
    go_ret2
    exact ⟨rfl, rfl⟩
end Go.Proofs.YtiemlefmhleaeaaDoor
