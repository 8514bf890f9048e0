/- What impl.PutWide returns: the lowest bytes of a number, the highest first. What impl.PutHead returns. -/
import Derived.Test.YtiemlefmhleaeaaDoorBytes
import Derived.Test.YtiemlefmhleaeaaDoorWithin
import Derived.Lib.Hide
import Derived.Test.YtiemlefmhleaeaaDoorHead
import Derived.Deep.RegionWith
namespace Go.Proofs.YtiemlefmhleaeaaDoor
set_option linter.unusedVariables false
set_option maxRecDepth 100000
open Go.RowKit
def bigZ : Nat → Int → List UInt8
  | 0, _ => []
  | i + 1, n => UInt8.ofNat ((n / 256 ^ i) % 256).toNat :: bigZ i n
theorem bigZ_length (i : Nat) (n : Int) : (bigZ i n).length = i := by induction i with | zero => rfl | succ i ih => simp [bigZ, ih]
set_option maxHeartbeats 400000 in
theorem PutWide_any (n m : Int) (w : World) (hm0 : 1 ≤ m) (hm : m ≤ 8) :
    Calls Tryd.prog 40 #[.int .i64 n, .int .i64 m] w (TxtRet w (bigZ m.toNat n)) := by
  go_enter Tryd.func40, Tryd.ntmps40
  go_wp2_with (go_at_call 92; refine (within_yes _ _ _ _ (by omega) (by omega)).mono ?_; rintro e w' ⟨rfl, rfl⟩)
  go_loopw [5, 6] (fun v i wr => ∃ k : Int, ∃ l : List UInt8, -1 ≤ k ∧ k < m ∧ i = .int .i64 k ∧ l.length = (m - 1 - k).toNat ∧ Hid (l ++ bigZ (k + 1).toNat n = bigZ m.toNat n) ∧ BRow wr w'.heap.size v l ∧ Below w'.heap.size w' wr) (fun _ i _ => (intOf i + 1).toNat)
  case atStart => exact ⟨m - 1, [], by omega, by omega, rfl, by simp, Lib.hid (by rw [List.nil_append, show m - 1 + 1 = m by omega]), BRow.made [] (Nat.le_refl _) (by simp), (Below.refl _ _).alloc (Nat.le_refl _) _⟩
  case round =>
    obtain ⟨k, l, hk, hkm, rfl, hl8, HL, hrow, hbl⟩ := hrel
    have hsz := hbl.size
    have HL8 := Lib.hid hl8; clear hl8
    by_cases hlt : 0 ≤ k
    · have R1 := Lib.hid (src_new wr (n / 2 ^ (8 * k).toNat % 256) (by omega) (by omega))
      have R2 := Lib.hid (show BRow (wr.alloc (.cells #[.int .u8 (n / 2 ^ (8 * k).toNat % 256)] 5)) w'.heap.size u5 l from World.ownsRow.alloc hrow _)
      have HB := Lib.hid hrow; clear hrow
      go_wp2_with (at_builtin; refine app_bytes rfl _ _ _ rfl w'.heap.size _ l rfl R2.out _ rfl _ R1.out (by rw [HL8.out]; simp; omega) (by simp; omega) ?_; intro v' w2 hrow' hg' _)
      go_roundw
      case rel =>
        refine ⟨k - 1, _, by omega, by omega, rfl, ?_, Lib.hid ?_, hrow', (hbl.alloc hsz _).grown hg' (by simp; omega) (fun k' hk' => (BRow.lt R2.out k' hk').1)⟩
        · rw [List.length_append, HL8.out]; simp; omega
        · rw [← HL.out, show (k + 1).toNat = (k - 1 + 1).toNat + 1 by omega, bigZ, List.append_assoc, show (k - 1 + 1).toNat = k.toNat by omega, show (8 * k).toNat = 8 * k.toNat by omega, Int.pow_mul]
          rfl
      case measure => simp [intOf]; omega
    · obtain rfl : k = -1 := by omega
      have r := run_str hrow
      have H := Lib.hid (show l = bigZ m.toNat n by have := HL.out; simpa [bigZ] using this)
      clear HL HL8 hrow
      go_wp2
      go_ret
      exact ⟨by rw [← H.out]; rfl, hbl⟩
theorem wrapI64 (x : Int) (h0 : 0 ≤ x) (h1 : x < 18446744073709551616) : IntKind.i64.wrap x = x ∨ IntKind.i64.wrap x = x - 18446744073709551616 := by
  simp [IntKind.wrap, IntKind.signed, IntKind.bits]; omega
theorem big_bigZ (m n : Nat) : big m n = bigZ m n := by
  induction m with
  | zero => rfl
  | succ m ih =>
    rw [big, bigZ, ih]
    congr 1
    have : ((n : Int) / 256 ^ m % 256).toNat = n / 256 ^ m % 256 := by
      have h : ((n : Int) / 256 ^ m % 256) = ((n / 256 ^ m % 256 : Nat) : Int) := by simp
      rw [h]; exact Int.toNat_natCast _
    rw [this]
    simp [← UInt8.toNat_inj]
theorem bigZ_neg (m : Nat) (n : Int) (hm : m ≤ 8) : bigZ m (n - 18446744073709551616) = bigZ m n := by
  induction m with
  | zero => rfl
  | succ m ih =>
    rw [bigZ, bigZ, ih (by omega)]
    congr 3
    have h : (18446744073709551616 : Int) = 256 ^ m * 256 ^ (8 - m) := by
      rw [← Int.pow_add, show m + (8 - m) = 8 by omega]; rfl
    have hp : (256 : Int) ^ m ≠ 0 := Int.ne_of_gt (Int.pow_pos (by decide))
    rw [h, show n - 256 ^ m * 256 ^ (8 - m) = n + 256 ^ m * (-(256 ^ (8 - m))) by rw [Int.mul_neg]; omega, Int.add_mul_ediv_left _ _ hp]
    have h2 : (256 : Int) ^ (8 - m) = 256 * 256 ^ (7 - m) := by
      rw [show 8 - m = (7 - m) + 1 by omega, Int.pow_succ, Int.mul_comm]
    rw [h2]
    omega
/-- the bytes of a uint64, turned into an int first -/
theorem PutWide_u64 (x m : Int) (w : World) (h0 : 0 ≤ x) (h1 : x < 18446744073709551616) (hm0 : 1 ≤ m) (hm : m ≤ 8) :
    Calls Tryd.prog 40 #[.int .i64 (IntKind.i64.wrap x), .int .i64 m] w (TxtRet w (big m.toNat x.toNat)) := by
  have h := PutWide_any (IntKind.i64.wrap x) m w hm0 hm
  rw [big_bigZ, show ((x.toNat : Nat) : Int) = x by omega]
  rcases wrapI64 x h0 h1 with e | e
  · rw [e] at h ⊢; exact h
  · rw [e] at h ⊢; rw [bigZ_neg _ _ (by omega)] at h; exact h
end Go.Proofs.YtiemlefmhleaeaaDoor
namespace Go.Proofs.YtiemlefmhleaeaaDoor
set_option linter.unusedVariables false
set_option maxRecDepth 100000
open Go.RowKit
set_option maxRecDepth 100000 in
set_option maxHeartbeats 400000 in
theorem PutHead_impl0 (major n : Int) (w : World) (hm0 : 0 ≤ major) (hm : major ≤ 7) (hn0 : 0 ≤ n) (h1 : n < 24) :
    Calls Tryd.prog 62 #[.int .i64 major, .int .u64 n] w (TxtRet w (headL major.toNat n.toNat)) := by
  have H := Lib.hid (show headL major.toNat n.toNat = [UInt8.ofNat (32 * major + n).toNat] by rw [headL, if_pos (by omega), show (32 * major + n).toNat = 32 * major.toNat + n.toNat by omega])
  have hc := fun (W : World) (b : Nat) => run_str1 W b (32 * major + n)
  go_enter Tryd.func62, Tryd.ntmps62
  go_wp2_with (go_at_call 92; refine (within_yes _ _ _ _ (by omega) (by omega)).mono ?_; rintro e w' ⟨rfl, rfl⟩)
  go_ret
  exact ⟨ret_str (by rw [H.out]), (Below.refl _ _).alloc (Nat.le_refl _) _⟩
set_option maxRecDepth 100000 in
set_option maxHeartbeats 400000 in
theorem PutHead_impl1 (major n : Int) (w : World) (hm0 : 0 ≤ major) (hm : major ≤ 7) (hn0 : 24 ≤ n) (hn : n < 256) :
    Calls Tryd.prog 62 #[.int .i64 major, .int .u64 n] w (TxtRet w (headL major.toNat n.toNat)) := by
  have H := Lib.hid (show headL major.toNat n.toNat = [UInt8.ofNat (32 * major + 24).toNat] ++ big 1 n.toNat by rw [headL, if_neg (by omega), if_pos (by omega), show (32 * major + 24).toNat = 32 * major.toNat + 24 by omega]; rfl)
  go_enter Tryd.func62, Tryd.ntmps62
  go_wp2_with (go_at_call 92; refine (within_yes _ _ _ _ (by omega) (by omega)).mono ?_; rintro e w' ⟨rfl, rfl⟩)
  have hc := fun (W : World) (b : Nat) => run_str1 W b (32 * major + 24)
  have hx : IntKind.u8.wrap (32 * major + 24) = 32 * major + 24 := by simp [IntKind.wrap, IntKind.signed, IntKind.bits]; omega
  go_region_with (go_at_call 40; refine (PutWide_u64 _ _ _ (by omega) (by omega) (by omega) (by omega)).mono ?_; rintro e w1 ⟨rfl, hb⟩; obtain ⟨hb1, hb2⟩ := bcell hb; have hz := hb.size; simp at hz)
  all_goals go_wp2_with fail
  all_goals go_ret
  all_goals exact ⟨ret_str (by rw [H.out]; exact bstr_append _ _), (by (repeat' (first | with_reducible exact Below.refl _ _ | with_reducible refine below_alloc ?_ _ ?_ | with_reducible refine Below.setCell ?_ ?_ _ | with_reducible refine Below.drew ?_ | with_reducible refine below_drewN ?_ _ | with_reducible refine below_step ?_ (by assumption) ?_ | with_reducible refine below_mark ?_ (by assumption) ?_)); all_goals (first | omega | (simp; done) | (simp; omega)))⟩
set_option maxRecDepth 100000 in
set_option maxHeartbeats 400000 in
theorem PutHead_impl2 (major n : Int) (w : World) (hm0 : 0 ≤ major) (hm : major ≤ 7) (hn0 : 256 ≤ n) (hn : n < 65536) :
    Calls Tryd.prog 62 #[.int .i64 major, .int .u64 n] w (TxtRet w (headL major.toNat n.toNat)) := by
  have H := Lib.hid (show headL major.toNat n.toNat = [UInt8.ofNat (32 * major + 25).toNat] ++ big 2 n.toNat by rw [headL, if_neg (by omega), if_neg (by omega), if_pos (by omega), show (32 * major + 25).toNat = 32 * major.toNat + 25 by omega]; rfl)
  go_enter Tryd.func62, Tryd.ntmps62
  go_wp2_with (go_at_call 92; refine (within_yes _ _ _ _ (by omega) (by omega)).mono ?_; rintro e w' ⟨rfl, rfl⟩)
  have hc := fun (W : World) (b : Nat) => run_str1 W b (32 * major + 25)
  have hx : IntKind.u8.wrap (32 * major + 25) = 32 * major + 25 := by simp [IntKind.wrap, IntKind.signed, IntKind.bits]; omega
  go_region_with (go_at_call 40; refine (PutWide_u64 _ _ _ (by omega) (by omega) (by omega) (by omega)).mono ?_; rintro e w1 ⟨rfl, hb⟩; obtain ⟨hb1, hb2⟩ := bcell hb; have hz := hb.size; simp at hz)
  all_goals go_wp2_with fail
  all_goals go_ret
  all_goals exact ⟨ret_str (by rw [H.out]; exact bstr_append _ _), (by (repeat' (first | with_reducible exact Below.refl _ _ | with_reducible refine below_alloc ?_ _ ?_ | with_reducible refine Below.setCell ?_ ?_ _ | with_reducible refine Below.drew ?_ | with_reducible refine below_drewN ?_ _ | with_reducible refine below_step ?_ (by assumption) ?_ | with_reducible refine below_mark ?_ (by assumption) ?_)); all_goals (first | omega | (simp; done) | (simp; omega)))⟩
set_option maxRecDepth 100000 in
set_option maxHeartbeats 400000 in
theorem PutHead_impl4 (major n : Int) (w : World) (hm0 : 0 ≤ major) (hm : major ≤ 7) (hn0 : 65536 ≤ n) (hn : n < 4294967296) :
    Calls Tryd.prog 62 #[.int .i64 major, .int .u64 n] w (TxtRet w (headL major.toNat n.toNat)) := by
  have H := Lib.hid (show headL major.toNat n.toNat = [UInt8.ofNat (32 * major + 26).toNat] ++ big 4 n.toNat by rw [headL, if_neg (by omega), if_neg (by omega), if_neg (by omega), if_pos (by omega), show (32 * major + 26).toNat = 32 * major.toNat + 26 by omega]; rfl)
  go_enter Tryd.func62, Tryd.ntmps62
  go_wp2_with (go_at_call 92; refine (within_yes _ _ _ _ (by omega) (by omega)).mono ?_; rintro e w' ⟨rfl, rfl⟩)
  have hc := fun (W : World) (b : Nat) => run_str1 W b (32 * major + 26)
  have hx : IntKind.u8.wrap (32 * major + 26) = 32 * major + 26 := by simp [IntKind.wrap, IntKind.signed, IntKind.bits]; omega
  go_region_with (go_at_call 40; refine (PutWide_u64 _ _ _ (by omega) (by omega) (by omega) (by omega)).mono ?_; rintro e w1 ⟨rfl, hb⟩; obtain ⟨hb1, hb2⟩ := bcell hb; have hz := hb.size; simp at hz)
  all_goals go_wp2_with fail
  all_goals go_ret
  all_goals exact ⟨ret_str (by rw [H.out]; exact bstr_append _ _), (by (repeat' (first | with_reducible exact Below.refl _ _ | with_reducible refine below_alloc ?_ _ ?_ | with_reducible refine Below.setCell ?_ ?_ _ | with_reducible refine Below.drew ?_ | with_reducible refine below_drewN ?_ _ | with_reducible refine below_step ?_ (by assumption) ?_ | with_reducible refine below_mark ?_ (by assumption) ?_)); all_goals (first | omega | (simp; done) | (simp; omega)))⟩
set_option maxRecDepth 100000 in
set_option maxHeartbeats 400000 in
theorem PutHead_impl8 (major n : Int) (w : World) (hm0 : 0 ≤ major) (hm : major ≤ 7) (hn0 : 4294967296 ≤ n) (hn : n < 18446744073709551616) :
    Calls Tryd.prog 62 #[.int .i64 major, .int .u64 n] w (TxtRet w (headL major.toNat n.toNat)) := by
  have H := Lib.hid (show headL major.toNat n.toNat = [UInt8.ofNat (32 * major + 27).toNat] ++ big 8 n.toNat by rw [headL, if_neg (by omega), if_neg (by omega), if_neg (by omega), if_neg (by omega), show (32 * major + 27).toNat = 32 * major.toNat + 27 by omega]; rfl)
  go_enter Tryd.func62, Tryd.ntmps62
  go_wp2_with (go_at_call 92; refine (within_yes _ _ _ _ (by omega) (by omega)).mono ?_; rintro e w' ⟨rfl, rfl⟩)
  have hc := fun (W : World) (b : Nat) => run_str1 W b (32 * major + 27)
  have hx : IntKind.u8.wrap (32 * major + 27) = 32 * major + 27 := by simp [IntKind.wrap, IntKind.signed, IntKind.bits]; omega
  go_region_with (go_at_call 40; refine (PutWide_u64 _ _ _ (by omega) (by omega) (by omega) (by omega)).mono ?_; rintro e w1 ⟨rfl, hb⟩; obtain ⟨hb1, hb2⟩ := bcell hb; have hz := hb.size; simp at hz)
  all_goals go_wp2_with fail
  all_goals go_ret
  all_goals exact ⟨ret_str (by rw [H.out]; exact bstr_append _ _), (by (repeat' (first | with_reducible exact Below.refl _ _ | with_reducible refine below_alloc ?_ _ ?_ | with_reducible refine Below.setCell ?_ ?_ _ | with_reducible refine Below.drew ?_ | with_reducible refine below_drewN ?_ _ | with_reducible refine below_step ?_ (by assumption) ?_ | with_reducible refine below_mark ?_ (by assumption) ?_)); all_goals (first | omega | (simp; done) | (simp; omega)))⟩
theorem PutHead_impl (major n : Int) (w : World) (hm0 : 0 ≤ major) (hm : major ≤ 7) (hn0 : 0 ≤ n) (hn : n < 18446744073709551616) :
    Calls Tryd.prog 62 #[.int .i64 major, .int .u64 n] w (TxtRet w (headL major.toNat n.toNat)) := by
  by_cases h1 : n < 24
  · exact PutHead_impl0 major n w hm0 hm hn0 h1
  · by_cases h2 : n < 256
    · exact PutHead_impl1 major n w hm0 hm (by omega) h2
    · by_cases h3 : n < 65536
      · exact PutHead_impl2 major n w hm0 hm (by omega) h3
      · by_cases h4 : n < 4294967296
        · exact PutHead_impl4 major n w hm0 hm (by omega) h4
        · exact PutHead_impl8 major n w hm0 hm (by omega) hn
end Go.Proofs.YtiemlefmhleaeaaDoor
