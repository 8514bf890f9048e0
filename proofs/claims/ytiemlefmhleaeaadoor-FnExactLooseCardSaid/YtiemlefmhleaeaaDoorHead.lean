/- What the two PutHead return: the head of a major type and a number. -/
import Derived.Test.YtiemlefmhleaeaaDoorBytes
import Derived.Test.YtiemlefmhleaeaaDoorWithin
import Derived.Lib.Hide
namespace Go.Proofs.YtiemlefmhleaeaaDoor
set_option linter.unusedVariables false
set_option maxRecDepth 100000
open Go.RowKit
def headL (major n : Nat) : List UInt8 :=
  if n < 24 then [UInt8.ofNat (32 * major + n)]
  else if n < 256 then UInt8.ofNat (32 * major + 24) :: big 1 n
  else if n < 65536 then UInt8.ofNat (32 * major + 25) :: big 2 n
  else if n < 4294967296 then UInt8.ofNat (32 * major + 26) :: big 4 n
  else UInt8.ofNat (32 * major + 27) :: big 8 n
theorem headL_length (major n : Nat) : (headL major n).length = if n < 24 then 1 else if n < 256 then 2 else if n < 65536 then 3 else if n < 4294967296 then 5 else 9 := by
  unfold headL; repeat' split
  all_goals simp [big_length]
theorem headL_le (major n : Nat) : (headL major n).length ≤ 9 := by rw [headL_length]; (repeat' split) <;> omega
theorem big_one (n : Nat) : big 1 n = [UInt8.ofNat n] := by simp [big]
set_option maxRecDepth 100000 in
set_option maxHeartbeats 400000 in
theorem PutHead_spec (major n : Int) (w : World) (hm0 : 0 ≤ major) (hm : major ≤ 7) (hn0 : 0 ≤ n) (hn : n < 18446744073709551616) :
    Calls Tryd.prog 71 #[.int .i64 major, .int .u64 n] w (TxtRet w (headL major.toNat n.toNat)) := by
  by_cases h1 : n < 24
  · have H := Lib.hid (show headL major.toNat n.toNat = big 1 (major * 32 + n).toNat by rw [headL, if_pos (by omega), big_one, show (major * 32 + n).toNat = 32 * major.toNat + n.toNat by omega])
    go_enter Tryd.func71, Tryd.ntmps71
    go_wp2_with (go_at_call 106; refine (l01In_yes _ _ _ _ (by omega) (by omega)).mono ?_; rintro e w' ⟨rfl, rfl⟩)
    refine (l05Big_int _ _ _ (by omega) (by omega) (by omega) (by omega)).mono ?_
    rintro e w1 ⟨rfl, hb⟩
    go_wp2_with fail
    go_ret
    exact ⟨by rw [H.out]; rfl, hb⟩
  · by_cases h2 : n < 256
    · have H := Lib.hid (show headL major.toNat n.toNat = big 1 (major * 32 + 24).toNat ++ big 1 n.toNat by rw [show (major * 32 + 24).toNat = 32 * major.toNat + 24 by omega, headL, if_neg (show ¬ n.toNat < 24 by omega), if_pos (show n.toNat < 256 by omega), big_one, big_one]; rfl)
      go_enter Tryd.func71, Tryd.ntmps71
      go_wp2_with (go_at_call 106; refine (l01In_yes _ _ _ _ (by omega) (by omega)).mono ?_; rintro e w' ⟨rfl, rfl⟩)
      refine (l05Big_int _ _ _ (by omega) (by omega) (by omega) (by omega)).mono ?_
      rintro e w1 ⟨rfl, hb⟩
      go_wp2_with fail
      refine (l05Big_int _ _ _ (by omega) (by omega) (by omega) (by omega)).mono ?_
      rintro e w2 ⟨rfl, hb2⟩
      go_wp2_with fail
      go_ret
      exact ⟨ret_str (by rw [H.out]; exact bstr_append _ _), hb.trans (hb2.mono hb.size)⟩
    · by_cases h3 : n < 65536
      · have H := Lib.hid (show headL major.toNat n.toNat = big 1 (major * 32 + 25).toNat ++ big 2 n.toNat by rw [show (major * 32 + 25).toNat = 32 * major.toNat + 25 by omega, headL, if_neg (show ¬ n.toNat < 24 by omega), if_neg (show ¬ n.toNat < 256 by omega), if_pos (show n.toNat < 65536 by omega), big_one]; rfl)
        go_enter Tryd.func71, Tryd.ntmps71
        go_wp2_with (go_at_call 106; refine (l01In_yes _ _ _ _ (by omega) (by omega)).mono ?_; rintro e w' ⟨rfl, rfl⟩)
        refine (l05Big_int _ _ _ (by omega) (by omega) (by omega) (by omega)).mono ?_
        rintro e w1 ⟨rfl, hb⟩
        go_wp2_with fail
        refine (l05Big_int _ _ _ (by omega) (by omega) (by omega) (by omega)).mono ?_
        rintro e w2 ⟨rfl, hb2⟩
        go_wp2_with fail
        go_ret
        exact ⟨ret_str (by rw [H.out]; exact bstr_append _ _), hb.trans (hb2.mono hb.size)⟩
      · by_cases h4 : n < 4294967296
        · have H := Lib.hid (show headL major.toNat n.toNat = big 1 (major * 32 + 26).toNat ++ big 4 n.toNat by rw [show (major * 32 + 26).toNat = 32 * major.toNat + 26 by omega, headL, if_neg (show ¬ n.toNat < 24 by omega), if_neg (show ¬ n.toNat < 256 by omega), if_neg (show ¬ n.toNat < 65536 by omega), if_pos (show n.toNat < 4294967296 by omega), big_one]; rfl)
          go_enter Tryd.func71, Tryd.ntmps71
          go_wp2_with (go_at_call 106; refine (l01In_yes _ _ _ _ (by omega) (by omega)).mono ?_; rintro e w' ⟨rfl, rfl⟩)
          refine (l05Big_int _ _ _ (by omega) (by omega) (by omega) (by omega)).mono ?_
          rintro e w1 ⟨rfl, hb⟩
          go_wp2_with fail
          refine (l05Big_int _ _ _ (by omega) (by omega) (by omega) (by omega)).mono ?_
          rintro e w2 ⟨rfl, hb2⟩
          go_wp2_with fail
          go_ret
          exact ⟨ret_str (by rw [H.out]; exact bstr_append _ _), hb.trans (hb2.mono hb.size)⟩
        · have H := Lib.hid (show headL major.toNat n.toNat = big 1 (major * 32 + 27).toNat ++ big 8 n.toNat by rw [show (major * 32 + 27).toNat = 32 * major.toNat + 27 by omega, headL, if_neg (show ¬ n.toNat < 24 by omega), if_neg (show ¬ n.toNat < 256 by omega), if_neg (show ¬ n.toNat < 65536 by omega), if_neg (show ¬ n.toNat < 4294967296 by omega), big_one]; rfl)
          go_enter Tryd.func71, Tryd.ntmps71
          go_wp2_with (go_at_call 106; refine (l01In_yes _ _ _ _ (by omega) (by omega)).mono ?_; rintro e w' ⟨rfl, rfl⟩)
          refine (l05Big_int _ _ _ (by omega) (by omega) (by omega) (by omega)).mono ?_
          rintro e w1 ⟨rfl, hb⟩
          go_wp2_with fail
          refine (l05Big_int _ _ _ (by omega) (by omega) (by omega) (by omega)).mono ?_
          rintro e w2 ⟨rfl, hb2⟩
          go_wp2_with fail
          go_ret
          exact ⟨ret_str (by rw [H.out]; exact bstr_append _ _), hb.trans (hb2.mono hb.size)⟩
end Go.Proofs.YtiemlefmhleaeaaDoor
