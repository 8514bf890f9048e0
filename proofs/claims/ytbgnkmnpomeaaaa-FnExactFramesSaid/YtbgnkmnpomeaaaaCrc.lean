/- What the two Crc32 return: one plain function of the bytes. -/
import Derived.Test.YtbgnkmnpomeaaaaRows
import Derived.WalkKit
import Derived.ProofKit
import Derived.WalkSpells
import Derived.WalkLawsBesides
import Derived.Lib.Hide
namespace Go.Proofs.Ytbgnkmnpomeaaaa
set_option linter.unusedVariables false
open Go.RowKit
/-- one of the eight shifts -/
def crcBit (x : Int) : Int := if bits BinOp.and IntKind.u32 x 1 == 1 then bits BinOp.xor IntKind.u32 (x / 2) 3988292384 else x / 2
def crcBits : Nat → Int → Int
  | 0, x => x
  | t + 1, x => crcBit (crcBits t x)
def crcByte (x : Int) (c : UInt8) : Int := crcBits 8 (bits BinOp.xor IntKind.u32 x ((c.toNat : Int) % 4294967296))
def crcList (l : List UInt8) : Int := l.foldl crcByte 4294967295
def crcOf (l : List UInt8) : Int := bits BinOp.xor IntKind.u32 (crcList l) 4294967295
theorem crcBit_true (x : Int) (h : (bits BinOp.and IntKind.u32 x 1 == 1) = true) : bits BinOp.xor IntKind.u32 (x / 2) 3988292384 = crcBit x := by rw [crcBit, if_pos h]
theorem crcBit_false (x : Int) (h : (bits BinOp.and IntKind.u32 x 1 == 1) = false) : x / 2 = crcBit x := by rw [crcBit, if_neg (by simp [h])]
theorem crcList_snoc (s : ByteArray) (k : Nat) (h : k < s.size) : crcList (s.data.toList.take (k + 1)) = crcByte (crcList (s.data.toList.take k)) s[k] := by
  rw [List.take_succ_eq_append_getElem (by simpa using h), crcList, List.foldl_append]; rfl
theorem ret_int {k : IntKind} {a b : Int} (h : a = b) : Ending.returned (.int k a) = .returned (.int k b) := by rw [h]
theorem xor_max (x : Int) : bits BinOp.xor IntKind.u32 IntKind.u32.max x = bits BinOp.xor IntKind.u32 x 4294967295 := by
  rw [show IntKind.u32.max = 4294967295 from by decide]
  simp only [bits]
  rw [BitVec.xor_comm]
theorem u32_of {a b : Int} (h : a = b) : Value.int .u32 a = Value.int .u32 b := by rw [h]
set_option maxHeartbeats 400000 in
theorem crc_spec (s : ByteArray) (w : World) (hs : s.size ≤ 140737488351232) :
    Calls Try.prog 13 #[.string s] w fun e w' => e = .returned (.int .u32 (crcOf s.data.toList)) ∧ w' = w := by
  go_enter Try.func13, Try.ntmps13
  go_wp2
  go_loop [3, 4, 5, 6] (fun x i _ _ => ∃ j : Nat, j ≤ s.size ∧ i = .int .i64 j ∧ x = .int .u32 (crcList (s.data.toList.take j))) (fun _ i _ _ => s.size - (intOf i).toNat)
  case atStart => exact ⟨0, Nat.zero_le _, rfl, rfl⟩
  case round =>
    obtain ⟨j, hj, rfl, rfl⟩ := hrel
    by_cases hlt : j < s.size
    · have H := Lib.hid (crcList_snoc s j hlt)
      generalize crcList (s.data.toList.take j) = x at *
      go_wp2
      go_loop [3, 5, 6] (fun y k _ => ∃ t : Nat, t ≤ 8 ∧ k = .int .i64 t ∧ y = .int .u32 (crcBits t (bits BinOp.xor IntKind.u32 x ((s[j].toNat : Int) % 4294967296)))) (fun _ k _ => 8 - (intOf k).toNat)
      case atStart => exact ⟨0, by omega, rfl, rfl⟩
      case round =>
        obtain ⟨t, ht, rfl, rfl⟩ := hrel
        generalize hy : crcBits t (bits BinOp.xor IntKind.u32 x ((s[j].toNat : Int) % 4294967296)) = y at *
        have Hy := Lib.hid hy; clear hy
        by_cases hlt2 : t < 8
        · go_wp2
          · go_round
            case rel => exact ⟨t + 1, by omega, by go_num, u32_of (by rw [crcBits, Hy.out]; exact crcBit_true _ ‹_›)⟩
            case measure => simp [intOf]; omega
          · go_round
            case rel => exact ⟨t + 1, by omega, by go_num, u32_of (by rw [crcBits, Hy.out]; exact crcBit_false _ ‹_›)⟩
            case measure => simp [intOf]; omega
        · obtain rfl : t = 8 := by omega
          go_wp2
          go_round
          case rel => exact ⟨j + 1, by omega, by go_num, u32_of (by rw [H.out, crcByte, Hy.out])⟩
          case measure => simp [intOf]; omega
    · have : j = s.size := by omega
      have H := Lib.hid (show crcList (s.data.toList.take j) = crcList s.data.toList by rw [List.take_of_length_le (by simp; omega)])
      clear this
      generalize crcList (s.data.toList.take j) = x at *
      go_wp2
      go_ret
      exact ⟨ret_int (by rw [crcOf, ← H.out]), rfl⟩
set_option maxHeartbeats 400000 in
theorem crc_impl (s : ByteArray) (w : World) (hs : s.size ≤ 140737488351232) :
    Calls Try.prog 14 #[.string s] w fun e w' => e = .returned (.int .u32 (crcOf s.data.toList)) ∧ w' = w := by
  go_enter Try.func14, Try.ntmps14
  go_wp2
  go_loop [3, 8, 4, 5, 17] (fun x i _ _ _ => ∃ j : Nat, j ≤ s.size ∧ i = .int .i64 j ∧ x = .int .u32 (crcList (s.data.toList.take j))) (fun _ i _ _ _ => s.size - (intOf i).toNat)
  case atStart => exact ⟨0, Nat.zero_le _, rfl, rfl⟩
  case round =>
    obtain ⟨j, hj, rfl, rfl⟩ := hrel
    by_cases hlt : j < s.size
    · have H := Lib.hid (crcList_snoc s j hlt)
      generalize crcList (s.data.toList.take j) = x at *
      go_wp2
      go_loop [3, 17, 5] (fun y k _ => ∃ t : Nat, t ≤ 8 ∧ k = .int .i64 t ∧ y = .int .u32 (crcBits t (bits BinOp.xor IntKind.u32 x ((s[j].toNat : Int) % 4294967296)))) (fun _ k _ => 8 - (intOf k).toNat)
      case atStart => exact ⟨0, by omega, rfl, rfl⟩
      case round =>
        obtain ⟨t, ht, rfl, rfl⟩ := hrel
        generalize hy : crcBits t (bits BinOp.xor IntKind.u32 x ((s[j].toNat : Int) % 4294967296)) = y at *
        have Hy := Lib.hid hy; clear hy
        by_cases hlt2 : t < 8
        · go_wp2
          · go_round
            case rel => exact ⟨t + 1, by omega, by go_num, u32_of (by rw [crcBits, Hy.out]; exact crcBit_true _ ‹_›)⟩
            case measure => simp [intOf]; omega
          · go_round
            case rel => exact ⟨t + 1, by omega, by go_num, u32_of (by rw [crcBits, Hy.out]; exact crcBit_false _ ‹_›)⟩
            case measure => simp [intOf]; omega
        · obtain rfl : t = 8 := by omega
          go_wp2
          go_round
          case rel => exact ⟨j + 1, by omega, by go_num, u32_of (by rw [H.out, crcByte, Hy.out])⟩
          case measure => simp [intOf]; omega
    · have : j = s.size := by omega
      have H := Lib.hid (show crcList (s.data.toList.take j) = crcList s.data.toList by rw [List.take_of_length_le (by simp; omega)])
      clear this
      generalize crcList (s.data.toList.take j) = x at *
      go_wp2
      go_ret
      exact ⟨ret_int (by rw [crcOf, ← H.out]; exact xor_max x), rfl⟩
end Go.Proofs.Ytbgnkmnpomeaaaa
