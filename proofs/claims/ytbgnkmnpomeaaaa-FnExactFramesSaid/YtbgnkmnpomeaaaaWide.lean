/- What impl.PutWide returns: the lowest bytes of a number, the highest first. -/
import Derived.Test.YtbgnkmnpomeaaaaBig
import Derived.Test.YtbgnkmnpomeaaaaWithin
import Derived.Lib.Hide
namespace Go.Proofs.Ytbgnkmnpomeaaaa
set_option linter.unusedVariables false
open Go.RowKit
def bigZ : Nat → Int → List UInt8
  | 0, _ => []
  | i + 1, n => UInt8.ofNat ((n / 256 ^ i) % 256).toNat :: bigZ i n
theorem bigZ_length (i : Nat) (n : Int) : (bigZ i n).length = i := by induction i with | zero => rfl | succ i ih => simp [bigZ, ih]
set_option maxHeartbeats 400000 in
theorem PutWide_any (n m : Int) (w : World) (hm0 : 1 ≤ m) (hm : m ≤ 8) :
    Calls Try.prog 62 #[.int .i64 n, .int .i64 m] w (StrRet w (bigZ m.toNat n)) := by
  go_enter Try.func62, Try.ntmps62
  go_wp2_with (go_at_call 61; refine (within_yes _ _ _ _ (by omega) (by omega)).mono ?_; rintro e w' ⟨rfl, rfl⟩)
  go_loopw [5, 6] (fun v i wr => ∃ k : Int, ∃ l : List UInt8, -1 ≤ k ∧ k < m ∧ i = .int .i64 k ∧ l.length = (m - 1 - k).toNat ∧ Hid (l ++ bigZ (k + 1).toNat n = bigZ m.toNat n) ∧ BRow wr w'.heap.size v l ∧ Below w'.heap.size w' wr) (fun _ i _ => (intOf i + 1).toNat)
  case atStart => exact ⟨m - 1, [], by omega, by omega, rfl, by simp, Lib.hid (by rw [List.nil_append, show m - 1 + 1 = m by omega]), BRow.made [] (Nat.le_refl _) (by simp), (Below.refl _ _).alloc (Nat.le_refl _) _⟩
  case round =>
    obtain ⟨k, l, hk, hkm, rfl, hl8, HL, hrow, hbl⟩ := hrel
    have hsz := hbl.size
    have HL8 := Lib.hid hl8; clear hl8
    by_cases hlt : 0 ≤ k
    · have R1 := Lib.hid (src_new wr (n / 2 ^ (8 * k).toNat % 256) (by omega) (by omega))
      have R2 := Lib.hid (show BRow (wr.alloc (.cells #[.int .u8 (n / 2 ^ (8 * k).toNat % 256)] 5)) w'.heap.size u5 l from World.ownsRow.alloc hrow _)
      have HB := Lib.hid hrow; clear hrow
      go_wp2_with (at_builtin; refine app_bytes rfl _ _ _ rfl w'.heap.size _ l rfl R2.out _ rfl _ R1.out (by rw [HL8.out]; simp; omega) (by simp; omega) ?_; intro v' w2 hrow' hg' _)
      go_roundw
      case rel =>
        refine ⟨k - 1, _, by omega, by omega, rfl, ?_, Lib.hid ?_, hrow', (hbl.alloc hsz _).grown hg' (by simp; omega) (fun k' hk' => (BRow.lt R2.out k' hk').1)⟩
        · rw [List.length_append, HL8.out]; simp; omega
        · rw [← HL.out, show (k + 1).toNat = (k - 1 + 1).toNat + 1 by omega, bigZ, List.append_assoc, show (k - 1 + 1).toNat = k.toNat by omega, show (8 * k).toNat = 8 * k.toNat by omega, Int.pow_mul]
          rfl
      case measure => simp [intOf]; omega
    · obtain rfl : k = -1 := by omega
      have r := run_str hrow
      have H := Lib.hid (show l = bigZ m.toNat n by have := HL.out; simpa [bigZ] using this)
      clear HL HL8 hrow
      go_wp2
      go_ret
      exact ⟨by rw [← H.out]; rfl, hbl⟩
theorem wrapI64 (x : Int) (h0 : 0 ≤ x) (h1 : x < 18446744073709551616) : IntKind.i64.wrap x = x ∨ IntKind.i64.wrap x = x - 18446744073709551616 := by
  simp [IntKind.wrap, IntKind.signed, IntKind.bits]; omega
theorem big_bigZ (m n : Nat) : big m n = bigZ m n := by
  induction m with
  | zero => rfl
  | succ m ih =>
    rw [big, bigZ, ih]
    congr 1
    have : ((n : Int) / 256 ^ m % 256).toNat = n / 256 ^ m % 256 := by
      have h : ((n : Int) / 256 ^ m % 256) = ((n / 256 ^ m % 256 : Nat) : Int) := by simp
      rw [h]; exact Int.toNat_natCast _
    rw [this]
    simp [← UInt8.toNat_inj]
theorem bigZ_neg (m : Nat) (n : Int) (hm : m ≤ 8) : bigZ m (n - 18446744073709551616) = bigZ m n := by
  induction m with
  | zero => rfl
  | succ m ih =>
    rw [bigZ, bigZ, ih (by omega)]
    congr 3
    have h : (18446744073709551616 : Int) = 256 ^ m * 256 ^ (8 - m) := by
      rw [← Int.pow_add, show m + (8 - m) = 8 by omega]; rfl
    have hp : (256 : Int) ^ m ≠ 0 := Int.ne_of_gt (Int.pow_pos (by decide))
    rw [h, show n - 256 ^ m * 256 ^ (8 - m) = n + 256 ^ m * (-(256 ^ (8 - m))) by rw [Int.mul_neg]; omega, Int.add_mul_ediv_left _ _ hp]
    have h2 : (256 : Int) ^ (8 - m) = 256 * 256 ^ (7 - m) := by
      rw [show 8 - m = (7 - m) + 1 by omega, Int.pow_succ, Int.mul_comm]
    rw [h2]
    omega
/-- the bytes of a uint64, turned into an int first -/
theorem PutWide_u64 (x m : Int) (w : World) (h0 : 0 ≤ x) (h1 : x < 18446744073709551616) (hm0 : 1 ≤ m) (hm : m ≤ 8) :
    Calls Try.prog 62 #[.int .i64 (IntKind.i64.wrap x), .int .i64 m] w (StrRet w (big m.toNat x.toNat)) := by
  have h := PutWide_any (IntKind.i64.wrap x) m w hm0 hm
  rw [big_bigZ, show ((x.toNat : Nat) : Int) = x by omega]
  rcases wrapI64 x h0 h1 with e | e
  · rw [e] at h ⊢; exact h
  · rw [e] at h ⊢; rw [bigZ_neg _ _ (by omega)] at h; exact h
end Go.Proofs.Ytbgnkmnpomeaaaa
