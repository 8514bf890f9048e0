/- What impl.PutHead returns. -/
import Derived.Test.YtbgnkmnpomeaaaaHead
import Derived.Test.YtbgnkmnpomeaaaaWide
import Derived.Deep.RegionWith
namespace Go.Proofs.Ytbgnkmnpomeaaaa
set_option linter.unusedVariables false
open Go.RowKit
set_option maxRecDepth 100000 in
set_option maxHeartbeats 400000 in
theorem PutHead_impl0 (major n : Int) (w : World) (hm0 : 0 ≤ major) (hm : major ≤ 7) (hn0 : 0 ≤ n) (h1 : n < 24) :
    Calls Try.prog 39 #[.int .i64 major, .int .u64 n] w (StrRet w (headL major.toNat n.toNat)) := by
  have H := Lib.hid (show headL major.toNat n.toNat = [UInt8.ofNat (32 * major + n).toNat] by rw [headL, if_pos (by omega), show (32 * major + n).toNat = 32 * major.toNat + n.toNat by omega])
  have hc := fun (W : World) (b : Nat) => run_str1 W b (32 * major + n)
  go_enter Try.func39, Try.ntmps39
  go_wp2_with (go_at_call 61; refine (within_yes _ _ _ _ (by omega) (by omega)).mono ?_; rintro e w' ⟨rfl, rfl⟩)
  go_ret
  exact ⟨ret_str (by rw [H.out]), (Below.refl _ _).alloc (Nat.le_refl _) _⟩
set_option maxRecDepth 100000 in
set_option maxHeartbeats 400000 in
theorem PutHead_impl1 (major n : Int) (w : World) (hm0 : 0 ≤ major) (hm : major ≤ 7) (hn0 : 24 ≤ n) (hn : n < 256) :
    Calls Try.prog 39 #[.int .i64 major, .int .u64 n] w (StrRet w (headL major.toNat n.toNat)) := by
  have H := Lib.hid (show headL major.toNat n.toNat = [UInt8.ofNat (32 * major + 24).toNat] ++ big 1 n.toNat by rw [headL, if_neg (by omega), if_pos (by omega), show (32 * major + 24).toNat = 32 * major.toNat + 24 by omega]; rfl)
  go_enter Try.func39, Try.ntmps39
  go_wp2_with (go_at_call 61; refine (within_yes _ _ _ _ (by omega) (by omega)).mono ?_; rintro e w' ⟨rfl, rfl⟩)
  have hc := fun (W : World) (b : Nat) => run_str1 W b (32 * major + 24)
  have hx : IntKind.u8.wrap (32 * major + 24) = 32 * major + 24 := by simp [IntKind.wrap, IntKind.signed, IntKind.bits]; omega
  go_region_with (go_at_call 62; refine (PutWide_u64 _ _ _ (by omega) (by omega) (by omega) (by omega)).mono ?_; rintro e w1 ⟨rfl, hb⟩; obtain ⟨hb1, hb2⟩ := bcell hb; have hz := hb.size; simp at hz)
  all_goals go_wp2_with fail
  all_goals go_ret
  all_goals exact ⟨ret_str (by rw [H.out]; exact bstr_append _ _), (by (repeat' (first | with_reducible exact Below.refl _ _ | with_reducible refine below_alloc ?_ _ ?_ | with_reducible refine Below.setCell ?_ ?_ _ | with_reducible refine Below.drew ?_ | with_reducible refine below_drewN ?_ _ | with_reducible refine below_step ?_ (by assumption) ?_)); all_goals (first | omega | (simp; done) | (simp; omega)))⟩
set_option maxRecDepth 100000 in
set_option maxHeartbeats 400000 in
theorem PutHead_impl2 (major n : Int) (w : World) (hm0 : 0 ≤ major) (hm : major ≤ 7) (hn0 : 256 ≤ n) (hn : n < 65536) :
    Calls Try.prog 39 #[.int .i64 major, .int .u64 n] w (StrRet w (headL major.toNat n.toNat)) := by
  have H := Lib.hid (show headL major.toNat n.toNat = [UInt8.ofNat (32 * major + 25).toNat] ++ big 2 n.toNat by rw [headL, if_neg (by omega), if_neg (by omega), if_pos (by omega), show (32 * major + 25).toNat = 32 * major.toNat + 25 by omega]; rfl)
  go_enter Try.func39, Try.ntmps39
  go_wp2_with (go_at_call 61; refine (within_yes _ _ _ _ (by omega) (by omega)).mono ?_; rintro e w' ⟨rfl, rfl⟩)
  have hc := fun (W : World) (b : Nat) => run_str1 W b (32 * major + 25)
  have hx : IntKind.u8.wrap (32 * major + 25) = 32 * major + 25 := by simp [IntKind.wrap, IntKind.signed, IntKind.bits]; omega
  go_region_with (go_at_call 62; refine (PutWide_u64 _ _ _ (by omega) (by omega) (by omega) (by omega)).mono ?_; rintro e w1 ⟨rfl, hb⟩; obtain ⟨hb1, hb2⟩ := bcell hb; have hz := hb.size; simp at hz)
  all_goals go_wp2_with fail
  all_goals go_ret
  all_goals exact ⟨ret_str (by rw [H.out]; exact bstr_append _ _), (by (repeat' (first | with_reducible exact Below.refl _ _ | with_reducible refine below_alloc ?_ _ ?_ | with_reducible refine Below.setCell ?_ ?_ _ | with_reducible refine Below.drew ?_ | with_reducible refine below_drewN ?_ _ | with_reducible refine below_step ?_ (by assumption) ?_)); all_goals (first | omega | (simp; done) | (simp; omega)))⟩
set_option maxRecDepth 100000 in
set_option maxHeartbeats 400000 in
theorem PutHead_impl4 (major n : Int) (w : World) (hm0 : 0 ≤ major) (hm : major ≤ 7) (hn0 : 65536 ≤ n) (hn : n < 4294967296) :
    Calls Try.prog 39 #[.int .i64 major, .int .u64 n] w (StrRet w (headL major.toNat n.toNat)) := by
  have H := Lib.hid (show headL major.toNat n.toNat = [UInt8.ofNat (32 * major + 26).toNat] ++ big 4 n.toNat by rw [headL, if_neg (by omega), if_neg (by omega), if_neg (by omega), if_pos (by omega), show (32 * major + 26).toNat = 32 * major.toNat + 26 by omega]; rfl)
  go_enter Try.func39, Try.ntmps39
  go_wp2_with (go_at_call 61; refine (within_yes _ _ _ _ (by omega) (by omega)).mono ?_; rintro e w' ⟨rfl, rfl⟩)
  have hc := fun (W : World) (b : Nat) => run_str1 W b (32 * major + 26)
  have hx : IntKind.u8.wrap (32 * major + 26) = 32 * major + 26 := by simp [IntKind.wrap, IntKind.signed, IntKind.bits]; omega
  go_region_with (go_at_call 62; refine (PutWide_u64 _ _ _ (by omega) (by omega) (by omega) (by omega)).mono ?_; rintro e w1 ⟨rfl, hb⟩; obtain ⟨hb1, hb2⟩ := bcell hb; have hz := hb.size; simp at hz)
  all_goals go_wp2_with fail
  all_goals go_ret
  all_goals exact ⟨ret_str (by rw [H.out]; exact bstr_append _ _), (by (repeat' (first | with_reducible exact Below.refl _ _ | with_reducible refine below_alloc ?_ _ ?_ | with_reducible refine Below.setCell ?_ ?_ _ | with_reducible refine Below.drew ?_ | with_reducible refine below_drewN ?_ _ | with_reducible refine below_step ?_ (by assumption) ?_)); all_goals (first | omega | (simp; done) | (simp; omega)))⟩
set_option maxRecDepth 100000 in
set_option maxHeartbeats 400000 in
theorem PutHead_impl8 (major n : Int) (w : World) (hm0 : 0 ≤ major) (hm : major ≤ 7) (hn0 : 4294967296 ≤ n) (hn : n < 18446744073709551616) :
    Calls Try.prog 39 #[.int .i64 major, .int .u64 n] w (StrRet w (headL major.toNat n.toNat)) := by
  have H := Lib.hid (show headL major.toNat n.toNat = [UInt8.ofNat (32 * major + 27).toNat] ++ big 8 n.toNat by rw [headL, if_neg (by omega), if_neg (by omega), if_neg (by omega), if_neg (by omega), show (32 * major + 27).toNat = 32 * major.toNat + 27 by omega]; rfl)
  go_enter Try.func39, Try.ntmps39
  go_wp2_with (go_at_call 61; refine (within_yes _ _ _ _ (by omega) (by omega)).mono ?_; rintro e w' ⟨rfl, rfl⟩)
  have hc := fun (W : World) (b : Nat) => run_str1 W b (32 * major + 27)
  have hx : IntKind.u8.wrap (32 * major + 27) = 32 * major + 27 := by simp [IntKind.wrap, IntKind.signed, IntKind.bits]; omega
  go_region_with (go_at_call 62; refine (PutWide_u64 _ _ _ (by omega) (by omega) (by omega) (by omega)).mono ?_; rintro e w1 ⟨rfl, hb⟩; obtain ⟨hb1, hb2⟩ := bcell hb; have hz := hb.size; simp at hz)
  all_goals go_wp2_with fail
  all_goals go_ret
  all_goals exact ⟨ret_str (by rw [H.out]; exact bstr_append _ _), (by (repeat' (first | with_reducible exact Below.refl _ _ | with_reducible refine below_alloc ?_ _ ?_ | with_reducible refine Below.setCell ?_ ?_ _ | with_reducible refine Below.drew ?_ | with_reducible refine below_drewN ?_ _ | with_reducible refine below_step ?_ (by assumption) ?_)); all_goals (first | omega | (simp; done) | (simp; omega)))⟩
theorem PutHead_impl (major n : Int) (w : World) (hm0 : 0 ≤ major) (hm : major ≤ 7) (hn0 : 0 ≤ n) (hn : n < 18446744073709551616) :
    Calls Try.prog 39 #[.int .i64 major, .int .u64 n] w (StrRet w (headL major.toNat n.toNat)) := by
  by_cases h1 : n < 24
  · exact PutHead_impl0 major n w hm0 hm hn0 h1
  · by_cases h2 : n < 256
    · exact PutHead_impl1 major n w hm0 hm (by omega) h2
    · by_cases h3 : n < 65536
      · exact PutHead_impl2 major n w hm0 hm (by omega) h3
      · by_cases h4 : n < 4294967296
        · exact PutHead_impl4 major n w hm0 hm (by omega) h4
        · exact PutHead_impl8 major n w hm0 hm (by omega) hn
end Go.Proofs.Ytbgnkmnpomeaaaa
