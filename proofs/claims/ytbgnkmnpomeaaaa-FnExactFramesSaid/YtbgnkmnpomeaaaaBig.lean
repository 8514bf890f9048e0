/- The bytes of a number, the highest first: what spec.l05Big returns. -/
import Derived.Test.YtbgnkmnpomeaaaaBytes
import Derived.Lib.Hide
namespace Go.Proofs.Ytbgnkmnpomeaaaa
set_option linter.unusedVariables false
open Go.RowKit
def big : Nat → Nat → List UInt8
  | 0, _ => []
  | i + 1, n => UInt8.ofNat (n / 256 ^ i) :: big i n
theorem big_length (i n : Nat) : (big i n).length = i := by induction i with | zero => rfl | succ i ih => simp [big, ih]
theorem toNat_ofNat_mod (n : Nat) : ((UInt8.ofNat n).toNat : Int) = (n : Int) % 256 := by simp
theorem div_pow (n i : Nat) : n / 256 ^ i / 256 = n / 256 ^ (i + 1) := by rw [Nat.div_div_eq_div_mul, Nat.pow_succ]
set_option maxHeartbeats 400000 in
theorem l05Big_any (n m : Nat) (w : World) (hn : n < 18446744073709551616) (hm : m ≤ 100) :
    Calls Try.prog 38 #[.int .u64 n, .int .i64 m] w fun e w' => e = .returned (bstr (big m n)) ∧ Below w.heap.size w w' := by
  go_enter Try.func38, Try.ntmps38
  go_wp2
  go_loopw [0, 5, 6] (fun x v i wr => ∃ k : Nat, k ≤ m ∧ i = .int .i64 k ∧ x = .int .u64 ((n / 256 ^ k : Nat) : Int) ∧ BRow wr w.heap.size v (big k n) ∧ Below w.heap.size w wr) (fun _ _ i _ => m - (intOf i).toNat)
  case atStart => exact ⟨0, Nat.zero_le _, rfl, by simp, BRow.made [] (Nat.le_refl _) (by simp), (Below.refl _ _).alloc (Nat.le_refl _) _⟩
  case round =>
    obtain ⟨k, hk, rfl, rfl, hrow, hbl⟩ := hrel
    have hq : n / 256 ^ k < 18446744073709551616 := Nat.lt_of_le_of_lt (Nat.div_le_self _ _) hn
    have H := Lib.hid (div_pow n k)
    have hsz := hbl.size
    have hlen := big_length k n
    generalize hx : n / 256 ^ k = q at *
    have Hx := Lib.hid hx; clear hx
    have Hlen := Lib.hid hlen; clear hlen
    by_cases hlt : k < m
    · have r1 : BRow (wr.alloc (.cells #[.int .u8 ((q : Int) % 256)] 5)) w.heap.size (.slice (some ⟨wr.heap.size, 0, none⟩) 1 1) [UInt8.ofNat q] := by
        have := BRow.made (w := wr) [UInt8.ofNat q] hsz (by simp)
        simpa [bys] using this
      have r2 : Src Try.prog 1 83 u5 (big k n).length (bys (big k n)) (wr.alloc (.cells #[.int .u8 ((q : Int) % 256)] 5)) := src_row (World.ownsRow.alloc hrow _)
      have R1 := Lib.hid r1; clear r1
      have R2 := Lib.hid r2; clear r2
      have RW := Lib.hid hrow; clear hrow
      go_wp2_with (at_builtin; refine app_bytes rfl _ _ _ rfl w.heap.size _ [UInt8.ofNat q] rfl R1.out _ rfl (big k n) R2.out (by rw [Hlen.out]; simp; omega) (by simp; omega) ?_; intro v' w' hrow' hg' _)
      go_roundw
      case rel => exact ⟨k + 1, by omega, by go_num, by rw [← H.out]; simp, by rw [big, Hx.out]; exact hrow', (hbl.alloc hsz _).grown hg' (by simp; omega) (fun k' hk' => (BRow.lt R1.out k' hk').1)⟩
      case measure => simp [intOf]; omega
    · have hkm : k = m := by omega
      have r := run_str hrow
      subst hkm
      go_wp2
      go_ret
      exact ⟨rfl, hbl⟩
def StrRet (w : World) (l : List UInt8) (e : Ending) (w' : World) : Prop := e = .returned (bstr l) ∧ Below w.heap.size w w'
theorem l05Big_int (x m : Int) (w : World) (h0 : 0 ≤ x) (hx : x < 18446744073709551616) (hm0 : 0 ≤ m) (hm : m ≤ 100) :
    Calls Try.prog 38 #[.int .u64 x, .int .i64 m] w (StrRet w (big m.toNat x.toNat)) := by
  obtain ⟨n, rfl⟩ := Int.eq_ofNat_of_zero_le h0
  obtain ⟨k, rfl⟩ := Int.eq_ofNat_of_zero_le hm0
  exact l05Big_any n k w (by omega) (by omega)
theorem ret_str {s : ByteArray} {l : List UInt8} (h : s = ⟨l.toArray⟩) : Ending.returned (.string s) = .returned (bstr l) := by rw [h]
theorem bstr_append (l m : List UInt8) : (⟨l.toArray⟩ : ByteArray) ++ ⟨m.toArray⟩ = ⟨(l ++ m).toArray⟩ := by
  simp [ByteArray.ext_iff]
end Go.Proofs.Ytbgnkmnpomeaaaa
