/- What the two PutFrame return. -/
import Derived.Test.YtbgnkmnpomeaaaaHead
import Derived.Test.YtbgnkmnpomeaaaaWide
import Derived.Test.YtbgnkmnpomeaaaaHeadI
import Derived.Test.YtbgnkmnpomeaaaaCrc
namespace Go.Proofs.Ytbgnkmnpomeaaaa
set_option linter.unusedVariables false
open Go.RowKit
theorem bits_range (op : BinOp) (x y : Int) : 0 ≤ bits op IntKind.u32 x y ∧ bits op IntKind.u32 x y < 4294967296 := by
  have h : ∀ z : Int, 0 ≤ IntKind.u32.wrap z ∧ IntKind.u32.wrap z < 4294967296 := by
    intro z; simp [IntKind.wrap, IntKind.signed, IntKind.bits]; omega
  unfold bits
  split <;> exact h _
theorem crcOf_range (l : List UInt8) : 0 ≤ crcOf l ∧ crcOf l < 4294967296 := bits_range _ _ _
def sumL (x : Int) : List UInt8 := big 4 x.toNat
def frameL (l : List UInt8) : List UInt8 := if l.length ≤ 100000 then headL 2 l.length ++ l ++ sumL (crcOf l) else []
set_option maxHeartbeats 400000 in
theorem sumBytes_any (x : Int) (w : World) (h0 : 0 ≤ x) (h1 : x < 4294967296) :
    Calls Try.prog 40 #[.int .u32 x] w (StrRet w (sumL x)) := by
  go_enter Try.func40, Try.ntmps40
  go_wp2_with fail
  refine (PutWide_any _ _ _ (by omega) (by omega)).mono ?_
  rintro e w1 ⟨rfl, hb⟩
  go_wp2_with fail
  go_ret
  exact ⟨by rw [sumL, big_bigZ, show ((x.toNat : Nat) : Int) = x by omega]; rfl, hb⟩
theorem frame_cat (a : List UInt8) (s : ByteArray) (c : List UInt8) : (⟨a.toArray⟩ : ByteArray) ++ s ++ ⟨c.toArray⟩ = ⟨(a ++ s.data.toList ++ c).toArray⟩ := by
  simp [ByteArray.ext_iff]
set_option maxHeartbeats 400000 in
theorem PutFrame_spec (s : ByteArray) (w : World) (hs : s.size ≤ 140737488351232) :
    Calls Try.prog 15 #[.string s] w (StrRet w (frameL s.data.toList)) := by
  by_cases h : s.size ≤ 100000
  · have H := Lib.hid (show frameL s.data.toList = headL 2 s.size ++ s.data.toList ++ sumL (crcOf s.data.toList) by rw [frameL, if_pos (by rw [← size_eq]; exact h), ← size_eq])
    have hc := crcOf_range s.data.toList
    have hl := headL_le 2 s.size
    have hl2 : (big 4 (crcOf s.data.toList).toNat).length ≤ 4 := Nat.le_of_eq (big_length _ _)
    go_enter Try.func15, Try.ntmps15
    go_wp2_with fail
    refine (PutHead_spec _ _ _ (by omega) (by omega) (by omega) (by omega)).mono ?_
    rintro e w1 ⟨rfl, hb⟩
    go_wp2_with fail
    refine (crc_spec _ _ (by omega)).mono ?_
    rintro e w2 ⟨rfl, rfl⟩
    go_wp2_with fail
    refine (l05Big_int _ _ _ (by omega) (by omega) (by omega) (by omega)).mono ?_
    rintro e w2 ⟨rfl, hb2⟩
    go_wp2_with fail
    go_ret
    exact ⟨ret_str (by rw [H.out]; exact frame_cat _ _ _), (by (repeat' (first | with_reducible exact Below.refl _ _ | with_reducible refine below_alloc ?_ _ ?_ | with_reducible refine Below.setCell ?_ ?_ _ | with_reducible refine Below.drew ?_ | with_reducible refine below_drewN ?_ _ | with_reducible refine below_step ?_ (by assumption) ?_)); all_goals (first | omega | (simp; done) | (simp; omega)))⟩
  · go_enter Try.func15, Try.ntmps15
    go_wp2_with fail
    go_ret
    exact ⟨by rw [frameL, if_neg (by rw [← size_eq]; exact h)]; rfl, Below.refl _ _⟩
set_option maxHeartbeats 400000 in
theorem PutFrame_impl (s : ByteArray) (w : World) (hs : s.size ≤ 140737488351232) :
    Calls Try.prog 16 #[.string s] w (StrRet w (frameL s.data.toList)) := by
  by_cases h : s.size ≤ 100000
  · have H := Lib.hid (show frameL s.data.toList = headL 2 s.size ++ s.data.toList ++ sumL (crcOf s.data.toList) by rw [frameL, if_pos (by rw [← size_eq]; exact h), ← size_eq])
    have hc := crcOf_range s.data.toList
    have hl := headL_le 2 s.size
    have hl2 : (sumL (crcOf s.data.toList)).length ≤ 4 := Nat.le_of_eq (big_length _ _)
    go_enter Try.func16, Try.ntmps16
    go_wp2_with fail
    refine (PutHead_impl _ _ _ (by omega) (by omega) (by omega) (by omega)).mono ?_
    rintro e w1 ⟨rfl, hb⟩
    go_wp2_with fail
    refine (crc_impl _ _ (by omega)).mono ?_
    rintro e w2 ⟨rfl, rfl⟩
    go_wp2_with fail
    refine (sumBytes_any _ _ (by omega) (by omega)).mono ?_
    rintro e w2 ⟨rfl, hb2⟩
    go_wp2_with fail
    go_ret
    exact ⟨ret_str (by rw [H.out]; exact frame_cat _ _ _), (by (repeat' (first | with_reducible exact Below.refl _ _ | with_reducible refine below_alloc ?_ _ ?_ | with_reducible refine Below.setCell ?_ ?_ _ | with_reducible refine Below.drew ?_ | with_reducible refine below_drewN ?_ _ | with_reducible refine below_step ?_ (by assumption) ?_)); all_goals (first | omega | (simp; done) | (simp; omega)))⟩
  · go_enter Try.func16, Try.ntmps16
    go_wp2_with fail
    go_ret
    exact ⟨by rw [frameL, if_neg (by rw [← size_eq]; exact h)]; rfl, Below.refl _ _⟩
end Go.Proofs.Ytbgnkmnpomeaaaa
