/- What spec.l05Any and impl.anyHead return: the head at a place, of any length. Written by gen_head.py. -/
import Derived.Test.YtiemlefmhleaeaaDoorGetWide
import Derived.Deep.QuietTactic
import Derived.BigQuiet
import Derived.Deep.RegionWith
namespace Go.Proofs.YtiemlefmhleaeaaDoor
set_option linter.unusedVariables false
set_option maxRecDepth 100000
open Go.RowKit
theorem wval_lt (l : List UInt8) : wval l < 256 ^ l.length := by
  have : ∀ (l : List UInt8) (n : Nat), l.foldl (fun n c => 256 * n + c.toNat) n < (n + 1) * 256 ^ l.length := by
    intro l
    induction l with
    | nil => intro n; simp
    | cons c l ih =>
      intro n
      have h := ih (256 * n + c.toNat)
      have hc := c.toNat_lt
      simp only [List.foldl_cons, List.length_cons, Nat.pow_succ]
      refine Nat.lt_of_lt_of_le h ?_
      rw [Nat.mul_comm (256 ^ l.length) 256, ← Nat.mul_assoc]
      exact Nat.mul_le_mul_right _ (by omega)
  simpa [wval] using this l 0
theorem wval_sub_lt (l : List UInt8) (i m : Nat) (h : m ≤ 8) : wval (sub l i m) < 18446744073709551616 := by
  have h1 := wval_lt (sub l i m)
  have h2 : (sub l i m).length ≤ 8 := by simp [sub]; omega
  exact Nat.lt_of_lt_of_le h1 (Nat.pow_le_pow_right (by decide) h2)
theorem and31 (b : Int) (h0 : 0 ≤ b) (h1 : b < 256) : bits BinOp.and IntKind.u8 b 31 = b % 32 := by
  obtain ⟨n, rfl⟩ := Int.eq_ofNat_of_zero_le h0
  have : ∀ n : Fin 256, bits BinOp.and IntKind.u8 ((n.val : Nat) : Int) 31 = ((n.val : Nat) : Int) % 32 := by decide +kernel
  exact this ⟨n, by omega⟩
theorem u64_back (v : Nat) (h : v < 18446744073709551616) : IntKind.u64.wrap (wrap64 (v : Int)) = v := by
  simp only [IntKind.wrap, IntKind.signed, IntKind.bits, wrap64]
  simp
  omega
/-- a head's major type, its number, the place behind it -/
def Head3 (a n x : Int) (e : Ending) : Prop := e = .returned (.tuple #[.int .i64 a, .int .u64 n, .int .i64 x])
def byteAt (s : ByteArray) (i : Int) : Int := ((s.data.toList.getD i.toNat 0).toNat : Int)
theorem byteAt_range (s : ByteArray) (i : Int) : 0 ≤ byteAt s i ∧ byteAt s i < 256 := by
  unfold byteAt; have := (s.data.toList.getD i.toNat 0).toNat_lt; omega
theorem byteAt_eq (s : ByteArray) (i : Int) (h : i.toNat < s.size) : byteAt s i = ((s[i.toNat]).toNat : Int) := by
  unfold byteAt
  have hl : i.toNat < s.data.toList.length := by rw [← size_eq]; exact h
  rw [List.getD_eq_getElem?_getD, List.getElem?_eq_getElem hl]
  rfl
set_option maxRecDepth 100000 in
set_option maxHeartbeats 400000 in
theorem any_impl_out (s : ByteArray) (i : Int) (w : World) (hs : s.size ≤ 9223372036854775807) (hi0 : -9223372036854775808 ≤ i) (hi1 : i ≤ 9223372036854775807) (h : i < 0 ∨ s.size ≤ i) :
    Calls Tryd.prog 117 #[.string s, .int .i64 i] w fun e w' => Head3 (-1) 0 (-1) e ∧ Below w.heap.size w w' := by
  go_enter Tryd.func117, Tryd.ntmps117
  go_wp2_with (go_at_call 92; refine (within_no _ _ _ _ (by omega)).mono ?_; rintro e w' ⟨rfl, rfl⟩)
  go_ret3
  exact ⟨rfl, (by (repeat' (first | with_reducible exact Below.refl _ _ | with_reducible refine below_alloc ?_ _ ?_ | with_reducible refine Below.setCell ?_ ?_ _ | with_reducible refine Below.drew ?_ | with_reducible refine below_drewN ?_ _ | with_reducible refine below_step ?_ (by assumption) ?_ | with_reducible refine below_mark ?_ (by assumption) ?_)); all_goals (first | omega | (simp; done) | (simp; omega)))⟩
set_option maxRecDepth 100000 in
set_option maxHeartbeats 400000 in
theorem any_impl_short (s : ByteArray) (i : Int) (w : World) (hs : s.size ≤ 9223372036854775807) (hi0 : 0 ≤ i) (hi1 : i < s.size) (hlow : byteAt s i % 32 < 24) :
    Calls Tryd.prog 117 #[.string s, .int .i64 i] w fun e w' => Head3 (byteAt s i / 32) (byteAt s i % 32) (i + 1) e ∧ Below w.heap.size w w' := by
  have hlt : i.toNat < s.size := by omega
  have HB := Lib.hid (byteAt_eq s i hlt)
  obtain ⟨hb0, hb1⟩ := byteAt_range s i
  have ha := and31 (byteAt s i) hb0 hb1
  generalize byteAt s i = b at *
  have he := HB.out.symm
  go_enter Tryd.func117, Tryd.ntmps117
  go_wp2_with (go_at_call 92; refine (within_yes _ _ _ _ (by omega) (by omega)).mono ?_; rintro e w' ⟨rfl, rfl⟩)
  go_quiet (fail)
  go_wp2_with fail
  go_ret3
  exact ⟨rfl, (by (repeat' (first | with_reducible exact Below.refl _ _ | with_reducible refine below_alloc ?_ _ ?_ | with_reducible refine Below.setCell ?_ ?_ _ | with_reducible refine Below.drew ?_ | with_reducible refine below_drewN ?_ _ | with_reducible refine below_step ?_ (by assumption) ?_ | with_reducible refine below_mark ?_ (by assumption) ?_)); all_goals (first | omega | (simp; done) | (simp; omega)))⟩
set_option maxRecDepth 100000 in
set_option maxHeartbeats 400000 in
theorem any_impl_bad (s : ByteArray) (i : Int) (w : World) (hs : s.size ≤ 9223372036854775807) (hi0 : 0 ≤ i) (hi1 : i < s.size) (hlow : 27 < byteAt s i % 32) :
    Calls Tryd.prog 117 #[.string s, .int .i64 i] w fun e w' => Head3 (-1) 0 (-1) e ∧ Below w.heap.size w w' := by
  have hlt : i.toNat < s.size := by omega
  have HB := Lib.hid (byteAt_eq s i hlt)
  obtain ⟨hb0, hb1⟩ := byteAt_range s i
  have ha := and31 (byteAt s i) hb0 hb1
  generalize byteAt s i = b at *
  have he := HB.out.symm
  go_enter Tryd.func117, Tryd.ntmps117
  go_wp2_with (go_at_call 92; refine (within_yes _ _ _ _ (by omega) (by omega)).mono ?_; rintro e w' ⟨rfl, rfl⟩)
  go_quiet (fail)
  go_wp2_with fail
  go_ret3
  exact ⟨rfl, (by (repeat' (first | with_reducible exact Below.refl _ _ | with_reducible refine below_alloc ?_ _ ?_ | with_reducible refine Below.setCell ?_ ?_ _ | with_reducible refine Below.drew ?_ | with_reducible refine below_drewN ?_ _ | with_reducible refine below_step ?_ (by assumption) ?_ | with_reducible refine below_mark ?_ (by assumption) ?_)); all_goals (first | omega | (simp; done) | (simp; omega)))⟩
set_option maxRecDepth 100000 in
set_option maxHeartbeats 400000 in
theorem any_impl_1_yes (s : ByteArray) (i : Int) (w : World) (hs : s.size ≤ 9223372036854775800) (hi0 : 0 ≤ i) (hi1 : i < s.size) (hlow : byteAt s i % 32 = 24) (hfit : i + 1 + 1 ≤ s.size) :
    Calls Tryd.prog 117 #[.string s, .int .i64 i] w fun e w' => Head3 (byteAt s i / 32) (wval (sub s.data.toList (i.toNat + 1) 1)) (i + 1 + 1) e ∧ Below w.heap.size w w' := by
  have hlt : i.toNat < s.size := by omega
  have HB := Lib.hid (byteAt_eq s i hlt)
  obtain ⟨hb0, hb1⟩ := byteAt_range s i
  have ha := and31 (byteAt s i) hb0 hb1
  rw [hlow] at ha
  have hw := wval_sub_lt s.data.toList (i.toNat + 1) 1 (by decide)
  generalize byteAt s i = b at *
  have he := HB.out.symm
  have HV := Lib.hid (u64_back _ hw)
  generalize hv : wval (sub s.data.toList (i.toNat + 1) 1) = v at *
  have HVV := Lib.hid hv; clear hv
  go_enter Tryd.func117, Tryd.ntmps117
  go_wp2_with (go_at_call 92; refine (within_yes _ _ _ _ (by omega) (by omega)).mono ?_; rintro e w' ⟨rfl, rfl⟩)
  go_quiet (fail)
  go_wp2_with fail
  refine (GetWide_any s _ _ _ (by omega) (by omega) (by omega) (by omega) (by omega)).mono ?_
  rintro e1 w1 ⟨rfl, rfl⟩
  rw [show (i + 1).toNat = i.toNat + 1 by omega, show (1 : Int).toNat = 1 from rfl, HVV.out]
  have hx := HV.out
  go_wp2_with fail
  go_ret3
  exact ⟨rfl, (by (repeat' (first | with_reducible exact Below.refl _ _ | with_reducible refine below_alloc ?_ _ ?_ | with_reducible refine Below.setCell ?_ ?_ _ | with_reducible refine Below.drew ?_ | with_reducible refine below_drewN ?_ _ | with_reducible refine below_step ?_ (by assumption) ?_ | with_reducible refine below_mark ?_ (by assumption) ?_)); all_goals (first | omega | (simp; done) | (simp; omega)))⟩
set_option maxRecDepth 100000 in
set_option maxHeartbeats 400000 in
theorem any_impl_1_no (s : ByteArray) (i : Int) (w : World) (hs : s.size ≤ 9223372036854775800) (hi0 : 0 ≤ i) (hi1 : i < s.size) (hlow : byteAt s i % 32 = 24) (hfit : (s.size : Int) < i + 1 + 1) :
    Calls Tryd.prog 117 #[.string s, .int .i64 i] w fun e w' => Head3 (-1) 0 (-1) e ∧ Below w.heap.size w w' := by
  have hlt : i.toNat < s.size := by omega
  have HB := Lib.hid (byteAt_eq s i hlt)
  obtain ⟨hb0, hb1⟩ := byteAt_range s i
  have ha := and31 (byteAt s i) hb0 hb1
  rw [hlow] at ha
  have hw := wval_sub_lt s.data.toList (i.toNat + 1) 1 (by decide)
  generalize byteAt s i = b at *
  have he := HB.out.symm
  have HV := Lib.hid (u64_back _ hw)
  generalize hv : wval (sub s.data.toList (i.toNat + 1) 1) = v at *
  have HVV := Lib.hid hv; clear hv
  go_enter Tryd.func117, Tryd.ntmps117
  go_wp2_with (go_at_call 92; refine (within_yes _ _ _ _ (by omega) (by omega)).mono ?_; rintro e w' ⟨rfl, rfl⟩)
  go_quiet (fail)
  go_wp2_with fail
  refine (GetWide_no s _ _ _ (by omega) (by omega) (by omega) (by omega)).mono ?_
  rintro e1 w1 ⟨rfl, rfl⟩
  go_wp2_with fail
  go_ret3
  exact ⟨rfl, (by (repeat' (first | with_reducible exact Below.refl _ _ | with_reducible refine below_alloc ?_ _ ?_ | with_reducible refine Below.setCell ?_ ?_ _ | with_reducible refine Below.drew ?_ | with_reducible refine below_drewN ?_ _ | with_reducible refine below_step ?_ (by assumption) ?_ | with_reducible refine below_mark ?_ (by assumption) ?_)); all_goals (first | omega | (simp; done) | (simp; omega)))⟩
set_option maxRecDepth 100000 in
set_option maxHeartbeats 400000 in
theorem any_impl_2_yes (s : ByteArray) (i : Int) (w : World) (hs : s.size ≤ 9223372036854775800) (hi0 : 0 ≤ i) (hi1 : i < s.size) (hlow : byteAt s i % 32 = 25) (hfit : i + 1 + 2 ≤ s.size) :
    Calls Tryd.prog 117 #[.string s, .int .i64 i] w fun e w' => Head3 (byteAt s i / 32) (wval (sub s.data.toList (i.toNat + 1) 2)) (i + 1 + 2) e ∧ Below w.heap.size w w' := by
  have hlt : i.toNat < s.size := by omega
  have HB := Lib.hid (byteAt_eq s i hlt)
  obtain ⟨hb0, hb1⟩ := byteAt_range s i
  have ha := and31 (byteAt s i) hb0 hb1
  rw [hlow] at ha
  have hw := wval_sub_lt s.data.toList (i.toNat + 1) 2 (by decide)
  generalize byteAt s i = b at *
  have he := HB.out.symm
  have HV := Lib.hid (u64_back _ hw)
  generalize hv : wval (sub s.data.toList (i.toNat + 1) 2) = v at *
  have HVV := Lib.hid hv; clear hv
  go_enter Tryd.func117, Tryd.ntmps117
  go_wp2_with (go_at_call 92; refine (within_yes _ _ _ _ (by omega) (by omega)).mono ?_; rintro e w' ⟨rfl, rfl⟩)
  go_quiet (fail)
  go_wp2_with fail
  refine (GetWide_any s _ _ _ (by omega) (by omega) (by omega) (by omega) (by omega)).mono ?_
  rintro e1 w1 ⟨rfl, rfl⟩
  rw [show (i + 1).toNat = i.toNat + 1 by omega, show (2 : Int).toNat = 2 from rfl, HVV.out]
  have hx := HV.out
  go_wp2_with fail
  go_ret3
  exact ⟨rfl, (by (repeat' (first | with_reducible exact Below.refl _ _ | with_reducible refine below_alloc ?_ _ ?_ | with_reducible refine Below.setCell ?_ ?_ _ | with_reducible refine Below.drew ?_ | with_reducible refine below_drewN ?_ _ | with_reducible refine below_step ?_ (by assumption) ?_ | with_reducible refine below_mark ?_ (by assumption) ?_)); all_goals (first | omega | (simp; done) | (simp; omega)))⟩
set_option maxRecDepth 100000 in
set_option maxHeartbeats 400000 in
theorem any_impl_2_no (s : ByteArray) (i : Int) (w : World) (hs : s.size ≤ 9223372036854775800) (hi0 : 0 ≤ i) (hi1 : i < s.size) (hlow : byteAt s i % 32 = 25) (hfit : (s.size : Int) < i + 1 + 2) :
    Calls Tryd.prog 117 #[.string s, .int .i64 i] w fun e w' => Head3 (-1) 0 (-1) e ∧ Below w.heap.size w w' := by
  have hlt : i.toNat < s.size := by omega
  have HB := Lib.hid (byteAt_eq s i hlt)
  obtain ⟨hb0, hb1⟩ := byteAt_range s i
  have ha := and31 (byteAt s i) hb0 hb1
  rw [hlow] at ha
  have hw := wval_sub_lt s.data.toList (i.toNat + 1) 2 (by decide)
  generalize byteAt s i = b at *
  have he := HB.out.symm
  have HV := Lib.hid (u64_back _ hw)
  generalize hv : wval (sub s.data.toList (i.toNat + 1) 2) = v at *
  have HVV := Lib.hid hv; clear hv
  go_enter Tryd.func117, Tryd.ntmps117
  go_wp2_with (go_at_call 92; refine (within_yes _ _ _ _ (by omega) (by omega)).mono ?_; rintro e w' ⟨rfl, rfl⟩)
  go_quiet (fail)
  go_wp2_with fail
  refine (GetWide_no s _ _ _ (by omega) (by omega) (by omega) (by omega)).mono ?_
  rintro e1 w1 ⟨rfl, rfl⟩
  go_wp2_with fail
  go_ret3
  exact ⟨rfl, (by (repeat' (first | with_reducible exact Below.refl _ _ | with_reducible refine below_alloc ?_ _ ?_ | with_reducible refine Below.setCell ?_ ?_ _ | with_reducible refine Below.drew ?_ | with_reducible refine below_drewN ?_ _ | with_reducible refine below_step ?_ (by assumption) ?_ | with_reducible refine below_mark ?_ (by assumption) ?_)); all_goals (first | omega | (simp; done) | (simp; omega)))⟩
set_option maxRecDepth 100000 in
set_option maxHeartbeats 400000 in
theorem any_impl_4_yes (s : ByteArray) (i : Int) (w : World) (hs : s.size ≤ 9223372036854775800) (hi0 : 0 ≤ i) (hi1 : i < s.size) (hlow : byteAt s i % 32 = 26) (hfit : i + 1 + 4 ≤ s.size) :
    Calls Tryd.prog 117 #[.string s, .int .i64 i] w fun e w' => Head3 (byteAt s i / 32) (wval (sub s.data.toList (i.toNat + 1) 4)) (i + 1 + 4) e ∧ Below w.heap.size w w' := by
  have hlt : i.toNat < s.size := by omega
  have HB := Lib.hid (byteAt_eq s i hlt)
  obtain ⟨hb0, hb1⟩ := byteAt_range s i
  have ha := and31 (byteAt s i) hb0 hb1
  rw [hlow] at ha
  have hw := wval_sub_lt s.data.toList (i.toNat + 1) 4 (by decide)
  generalize byteAt s i = b at *
  have he := HB.out.symm
  have HV := Lib.hid (u64_back _ hw)
  generalize hv : wval (sub s.data.toList (i.toNat + 1) 4) = v at *
  have HVV := Lib.hid hv; clear hv
  go_enter Tryd.func117, Tryd.ntmps117
  go_wp2_with (go_at_call 92; refine (within_yes _ _ _ _ (by omega) (by omega)).mono ?_; rintro e w' ⟨rfl, rfl⟩)
  go_quiet (fail)
  go_wp2_with fail
  refine (GetWide_any s _ _ _ (by omega) (by omega) (by omega) (by omega) (by omega)).mono ?_
  rintro e1 w1 ⟨rfl, rfl⟩
  rw [show (i + 1).toNat = i.toNat + 1 by omega, show (4 : Int).toNat = 4 from rfl, HVV.out]
  have hx := HV.out
  go_wp2_with fail
  go_ret3
  exact ⟨rfl, (by (repeat' (first | with_reducible exact Below.refl _ _ | with_reducible refine below_alloc ?_ _ ?_ | with_reducible refine Below.setCell ?_ ?_ _ | with_reducible refine Below.drew ?_ | with_reducible refine below_drewN ?_ _ | with_reducible refine below_step ?_ (by assumption) ?_ | with_reducible refine below_mark ?_ (by assumption) ?_)); all_goals (first | omega | (simp; done) | (simp; omega)))⟩
set_option maxRecDepth 100000 in
set_option maxHeartbeats 400000 in
theorem any_impl_4_no (s : ByteArray) (i : Int) (w : World) (hs : s.size ≤ 9223372036854775800) (hi0 : 0 ≤ i) (hi1 : i < s.size) (hlow : byteAt s i % 32 = 26) (hfit : (s.size : Int) < i + 1 + 4) :
    Calls Tryd.prog 117 #[.string s, .int .i64 i] w fun e w' => Head3 (-1) 0 (-1) e ∧ Below w.heap.size w w' := by
  have hlt : i.toNat < s.size := by omega
  have HB := Lib.hid (byteAt_eq s i hlt)
  obtain ⟨hb0, hb1⟩ := byteAt_range s i
  have ha := and31 (byteAt s i) hb0 hb1
  rw [hlow] at ha
  have hw := wval_sub_lt s.data.toList (i.toNat + 1) 4 (by decide)
  generalize byteAt s i = b at *
  have he := HB.out.symm
  have HV := Lib.hid (u64_back _ hw)
  generalize hv : wval (sub s.data.toList (i.toNat + 1) 4) = v at *
  have HVV := Lib.hid hv; clear hv
  go_enter Tryd.func117, Tryd.ntmps117
  go_wp2_with (go_at_call 92; refine (within_yes _ _ _ _ (by omega) (by omega)).mono ?_; rintro e w' ⟨rfl, rfl⟩)
  go_quiet (fail)
  go_wp2_with fail
  refine (GetWide_no s _ _ _ (by omega) (by omega) (by omega) (by omega)).mono ?_
  rintro e1 w1 ⟨rfl, rfl⟩
  go_wp2_with fail
  go_ret3
  exact ⟨rfl, (by (repeat' (first | with_reducible exact Below.refl _ _ | with_reducible refine below_alloc ?_ _ ?_ | with_reducible refine Below.setCell ?_ ?_ _ | with_reducible refine Below.drew ?_ | with_reducible refine below_drewN ?_ _ | with_reducible refine below_step ?_ (by assumption) ?_ | with_reducible refine below_mark ?_ (by assumption) ?_)); all_goals (first | omega | (simp; done) | (simp; omega)))⟩
set_option maxRecDepth 100000 in
set_option maxHeartbeats 400000 in
theorem any_impl_8_yes (s : ByteArray) (i : Int) (w : World) (hs : s.size ≤ 9223372036854775800) (hi0 : 0 ≤ i) (hi1 : i < s.size) (hlow : byteAt s i % 32 = 27) (hfit : i + 1 + 8 ≤ s.size) :
    Calls Tryd.prog 117 #[.string s, .int .i64 i] w fun e w' => Head3 (byteAt s i / 32) (wval (sub s.data.toList (i.toNat + 1) 8)) (i + 1 + 8) e ∧ Below w.heap.size w w' := by
  have hlt : i.toNat < s.size := by omega
  have HB := Lib.hid (byteAt_eq s i hlt)
  obtain ⟨hb0, hb1⟩ := byteAt_range s i
  have ha := and31 (byteAt s i) hb0 hb1
  rw [hlow] at ha
  have hw := wval_sub_lt s.data.toList (i.toNat + 1) 8 (by decide)
  generalize byteAt s i = b at *
  have he := HB.out.symm
  have HV := Lib.hid (u64_back _ hw)
  generalize hv : wval (sub s.data.toList (i.toNat + 1) 8) = v at *
  have HVV := Lib.hid hv; clear hv
  go_enter Tryd.func117, Tryd.ntmps117
  go_wp2_with (go_at_call 92; refine (within_yes _ _ _ _ (by omega) (by omega)).mono ?_; rintro e w' ⟨rfl, rfl⟩)
  go_quiet (fail)
  go_wp2_with fail
  refine (GetWide_any s _ _ _ (by omega) (by omega) (by omega) (by omega) (by omega)).mono ?_
  rintro e1 w1 ⟨rfl, rfl⟩
  rw [show (i + 1).toNat = i.toNat + 1 by omega, show (8 : Int).toNat = 8 from rfl, HVV.out]
  have hx := HV.out
  go_wp2_with fail
  go_ret3
  exact ⟨rfl, (by (repeat' (first | with_reducible exact Below.refl _ _ | with_reducible refine below_alloc ?_ _ ?_ | with_reducible refine Below.setCell ?_ ?_ _ | with_reducible refine Below.drew ?_ | with_reducible refine below_drewN ?_ _ | with_reducible refine below_step ?_ (by assumption) ?_ | with_reducible refine below_mark ?_ (by assumption) ?_)); all_goals (first | omega | (simp; done) | (simp; omega)))⟩
set_option maxRecDepth 100000 in
set_option maxHeartbeats 400000 in
theorem any_impl_8_no (s : ByteArray) (i : Int) (w : World) (hs : s.size ≤ 9223372036854775800) (hi0 : 0 ≤ i) (hi1 : i < s.size) (hlow : byteAt s i % 32 = 27) (hfit : (s.size : Int) < i + 1 + 8) :
    Calls Tryd.prog 117 #[.string s, .int .i64 i] w fun e w' => Head3 (-1) 0 (-1) e ∧ Below w.heap.size w w' := by
  have hlt : i.toNat < s.size := by omega
  have HB := Lib.hid (byteAt_eq s i hlt)
  obtain ⟨hb0, hb1⟩ := byteAt_range s i
  have ha := and31 (byteAt s i) hb0 hb1
  rw [hlow] at ha
  have hw := wval_sub_lt s.data.toList (i.toNat + 1) 8 (by decide)
  generalize byteAt s i = b at *
  have he := HB.out.symm
  have HV := Lib.hid (u64_back _ hw)
  generalize hv : wval (sub s.data.toList (i.toNat + 1) 8) = v at *
  have HVV := Lib.hid hv; clear hv
  go_enter Tryd.func117, Tryd.ntmps117
  go_wp2_with (go_at_call 92; refine (within_yes _ _ _ _ (by omega) (by omega)).mono ?_; rintro e w' ⟨rfl, rfl⟩)
  go_quiet (fail)
  go_wp2_with fail
  refine (GetWide_no s _ _ _ (by omega) (by omega) (by omega) (by omega)).mono ?_
  rintro e1 w1 ⟨rfl, rfl⟩
  go_wp2_with fail
  go_ret3
  exact ⟨rfl, (by (repeat' (first | with_reducible exact Below.refl _ _ | with_reducible refine below_alloc ?_ _ ?_ | with_reducible refine Below.setCell ?_ ?_ _ | with_reducible refine Below.drew ?_ | with_reducible refine below_drewN ?_ _ | with_reducible refine below_step ?_ (by assumption) ?_ | with_reducible refine below_mark ?_ (by assumption) ?_)); all_goals (first | omega | (simp; done) | (simp; omega)))⟩
set_option maxRecDepth 100000 in
set_option maxHeartbeats 400000 in
theorem any_spec_out (s : ByteArray) (i : Int) (w : World) (hs : s.size ≤ 9223372036854775807) (hi0 : -9223372036854775808 ≤ i) (hi1 : i ≤ 9223372036854775807) (h : i < 0 ∨ s.size ≤ i) :
    Calls Tryd.prog 118 #[.string s, .int .i64 i] w fun e w' => Head3 (-1) 0 (-1) e ∧ Below w.heap.size w w' := by
  by_cases h1 : i < 0
  · clear h
    go_enter Tryd.func118, Tryd.ntmps118
    go_wp2_with fail
    go_ret3
    exact ⟨rfl, (by (repeat' (first | with_reducible exact Below.refl _ _ | with_reducible refine below_alloc ?_ _ ?_ | with_reducible refine Below.setCell ?_ ?_ _ | with_reducible refine Below.drew ?_ | with_reducible refine below_drewN ?_ _ | with_reducible refine below_step ?_ (by assumption) ?_ | with_reducible refine below_mark ?_ (by assumption) ?_)); all_goals (first | omega | (simp; done) | (simp; omega)))⟩
  · have h2 : s.size ≤ i := by omega
    clear h
    go_enter Tryd.func118, Tryd.ntmps118
    go_wp2_with fail
    go_ret3
    exact ⟨rfl, (by (repeat' (first | with_reducible exact Below.refl _ _ | with_reducible refine below_alloc ?_ _ ?_ | with_reducible refine Below.setCell ?_ ?_ _ | with_reducible refine Below.drew ?_ | with_reducible refine below_drewN ?_ _ | with_reducible refine below_step ?_ (by assumption) ?_ | with_reducible refine below_mark ?_ (by assumption) ?_)); all_goals (first | omega | (simp; done) | (simp; omega)))⟩
set_option maxRecDepth 100000 in
set_option maxHeartbeats 400000 in
theorem any_spec_short (s : ByteArray) (i : Int) (w : World) (hs : s.size ≤ 9223372036854775807) (hi0 : 0 ≤ i) (hi1 : i < s.size) (hlow : byteAt s i % 32 < 24) :
    Calls Tryd.prog 118 #[.string s, .int .i64 i] w fun e w' => Head3 (byteAt s i / 32) (byteAt s i % 32) (i + 1) e ∧ Below w.heap.size w w' := by
  have hlt : i.toNat < s.size := by omega
  have HB := Lib.hid (byteAt_eq s i hlt)
  obtain ⟨hb0, hb1⟩ := byteAt_range s i
  have ha := and31 (byteAt s i) hb0 hb1
  generalize byteAt s i = b at *
  have he := HB.out.symm
  go_enter Tryd.func118, Tryd.ntmps118
  go_wp2_with fail
  go_quiet (fail)
  go_wp2_with fail
  go_ret3
  exact ⟨rfl, (by (repeat' (first | with_reducible exact Below.refl _ _ | with_reducible refine below_alloc ?_ _ ?_ | with_reducible refine Below.setCell ?_ ?_ _ | with_reducible refine Below.drew ?_ | with_reducible refine below_drewN ?_ _ | with_reducible refine below_step ?_ (by assumption) ?_ | with_reducible refine below_mark ?_ (by assumption) ?_)); all_goals (first | omega | (simp; done) | (simp; omega)))⟩
set_option maxRecDepth 100000 in
set_option maxHeartbeats 400000 in
theorem any_spec_bad (s : ByteArray) (i : Int) (w : World) (hs : s.size ≤ 9223372036854775807) (hi0 : 0 ≤ i) (hi1 : i < s.size) (hlow : 27 < byteAt s i % 32) :
    Calls Tryd.prog 118 #[.string s, .int .i64 i] w fun e w' => Head3 (-1) 0 (-1) e ∧ Below w.heap.size w w' := by
  have hlt : i.toNat < s.size := by omega
  have HB := Lib.hid (byteAt_eq s i hlt)
  obtain ⟨hb0, hb1⟩ := byteAt_range s i
  have ha := and31 (byteAt s i) hb0 hb1
  generalize byteAt s i = b at *
  have he := HB.out.symm
  go_enter Tryd.func118, Tryd.ntmps118
  go_wp2_with fail
  go_quiet (fail)
  go_wp2_with fail
  go_ret3
  exact ⟨rfl, (by (repeat' (first | with_reducible exact Below.refl _ _ | with_reducible refine below_alloc ?_ _ ?_ | with_reducible refine Below.setCell ?_ ?_ _ | with_reducible refine Below.drew ?_ | with_reducible refine below_drewN ?_ _ | with_reducible refine below_step ?_ (by assumption) ?_ | with_reducible refine below_mark ?_ (by assumption) ?_)); all_goals (first | omega | (simp; done) | (simp; omega)))⟩
set_option maxRecDepth 100000 in
set_option maxHeartbeats 400000 in
theorem any_spec_1_yes (s : ByteArray) (i : Int) (w : World) (hs : s.size ≤ 9223372036854775800) (hi0 : 0 ≤ i) (hi1 : i < s.size) (hlow : byteAt s i % 32 = 24) (hfit : i + 1 + 1 ≤ s.size) :
    Calls Tryd.prog 118 #[.string s, .int .i64 i] w fun e w' => Head3 (byteAt s i / 32) (wval (sub s.data.toList (i.toNat + 1) 1)) (i + 1 + 1) e ∧ Below w.heap.size w w' := by
  have hlt : i.toNat < s.size := by omega
  have HB := Lib.hid (byteAt_eq s i hlt)
  obtain ⟨hb0, hb1⟩ := byteAt_range s i
  have ha := and31 (byteAt s i) hb0 hb1
  rw [hlow] at ha
  have hw := wval_sub_lt s.data.toList (i.toNat + 1) 1 (by decide)
  generalize byteAt s i = b at *
  have he := HB.out.symm
  go_enter Tryd.func118, Tryd.ntmps118
  go_wp2_with fail
  go_quiet (fail)
  have hbW : Below w.heap.size w (w.drewN nq) := below_drewN (Below.refl _ _) _
  generalize w.drewN nq = W at *
  go_wp2_with fail
  go_loop [10, 11] (fun n k => ∃ j : Nat, ∃ q : Nat, j ≤ 1 ∧ k = .int .i64 (j + 1) ∧ n = .int .u64 q ∧ Hid (q = wval (sub s.data.toList (i.toNat + 1) j))) (fun _ k => (1 + 1 - intOf k).toNat)
  case atStart => exact ⟨0, 0, by omega, rfl, rfl, Lib.hid (by simp [sub, wval])⟩
  case round =>
    obtain ⟨j, q, hj, rfl, rfl, HQ⟩ := hrel
    by_cases hlt2 : j < 1
    · have hq : q < 72057594037927936 := by
        rw [HQ.out]
        have h1 := wval_lt (sub s.data.toList (i.toNat + 1) j)
        have h2 : (sub s.data.toList (i.toNat + 1) j).length ≤ 7 := by simp [sub]; omega
        exact Nat.lt_of_lt_of_le h1 (Nat.pow_le_pow_right (by decide) h2)
      have hx : (i + ((j : Int) + 1)).toNat < s.size := by omega
      have HT := Lib.hid (show 256 * q + (s[(i + ((j : Int) + 1)).toNat]).toNat = wval (sub s.data.toList (i.toNat + 1) (j + 1)) by
        rw [sub_succ s (i.toNat + 1) j (by omega), wval_snoc, HQ.out]
        congr 2
        simp only [show (i + ((j : Int) + 1)).toNat = i.toNat + 1 + j by omega])
      have hcl := (s[(i + ((j : Int) + 1)).toNat]).toNat_lt
      generalize hcc : (s[(i + ((j : Int) + 1)).toNat]).toNat = c at *
      go_wp2_with fail
      go_round
      case rel => exact ⟨j + 1, 256 * q + c, by omega, by go_num, by go_num, HT⟩
      case measure => simp [intOf]; omega
    · have hjm : j = 1 := by omega
      have H := Lib.hid (show q = wval (sub s.data.toList (i.toNat + 1) 1) by rw [HQ.out, hjm])
      subst hjm
      clear hw
      generalize hv : wval (sub s.data.toList (i.toNat + 1) 1) = v at *
      go_wp2_with fail
      go_ret3
      exact ⟨by rw [← H.out]; rfl, below_alloc hbW _ (Nat.le_refl _)⟩
set_option maxRecDepth 100000 in
set_option maxHeartbeats 400000 in
theorem any_spec_1_no (s : ByteArray) (i : Int) (w : World) (hs : s.size ≤ 9223372036854775800) (hi0 : 0 ≤ i) (hi1 : i < s.size) (hlow : byteAt s i % 32 = 24) (hfit : (s.size : Int) < i + 1 + 1) :
    Calls Tryd.prog 118 #[.string s, .int .i64 i] w fun e w' => Head3 (-1) 0 (-1) e ∧ Below w.heap.size w w' := by
  have hlt : i.toNat < s.size := by omega
  have HB := Lib.hid (byteAt_eq s i hlt)
  obtain ⟨hb0, hb1⟩ := byteAt_range s i
  have ha := and31 (byteAt s i) hb0 hb1
  rw [hlow] at ha
  have hw := wval_sub_lt s.data.toList (i.toNat + 1) 1 (by decide)
  generalize byteAt s i = b at *
  have he := HB.out.symm
  go_enter Tryd.func118, Tryd.ntmps118
  go_wp2_with fail
  go_quiet (fail)
  have hbW : Below w.heap.size w (w.drewN nq) := below_drewN (Below.refl _ _) _
  generalize w.drewN nq = W at *
  go_wp2_with fail
  go_ret3
  exact ⟨rfl, below_alloc hbW _ (Nat.le_refl _)⟩
set_option maxRecDepth 100000 in
set_option maxHeartbeats 400000 in
theorem any_spec_2_yes (s : ByteArray) (i : Int) (w : World) (hs : s.size ≤ 9223372036854775800) (hi0 : 0 ≤ i) (hi1 : i < s.size) (hlow : byteAt s i % 32 = 25) (hfit : i + 1 + 2 ≤ s.size) :
    Calls Tryd.prog 118 #[.string s, .int .i64 i] w fun e w' => Head3 (byteAt s i / 32) (wval (sub s.data.toList (i.toNat + 1) 2)) (i + 1 + 2) e ∧ Below w.heap.size w w' := by
  have hlt : i.toNat < s.size := by omega
  have HB := Lib.hid (byteAt_eq s i hlt)
  obtain ⟨hb0, hb1⟩ := byteAt_range s i
  have ha := and31 (byteAt s i) hb0 hb1
  rw [hlow] at ha
  have hw := wval_sub_lt s.data.toList (i.toNat + 1) 2 (by decide)
  generalize byteAt s i = b at *
  have he := HB.out.symm
  go_enter Tryd.func118, Tryd.ntmps118
  go_wp2_with fail
  go_quiet (fail)
  have hbW : Below w.heap.size w (w.drewN nq) := below_drewN (Below.refl _ _) _
  generalize w.drewN nq = W at *
  go_wp2_with fail
  go_loop [10, 11] (fun n k => ∃ j : Nat, ∃ q : Nat, j ≤ 2 ∧ k = .int .i64 (j + 1) ∧ n = .int .u64 q ∧ Hid (q = wval (sub s.data.toList (i.toNat + 1) j))) (fun _ k => (2 + 1 - intOf k).toNat)
  case atStart => exact ⟨0, 0, by omega, rfl, rfl, Lib.hid (by simp [sub, wval])⟩
  case round =>
    obtain ⟨j, q, hj, rfl, rfl, HQ⟩ := hrel
    by_cases hlt2 : j < 2
    · have hq : q < 72057594037927936 := by
        rw [HQ.out]
        have h1 := wval_lt (sub s.data.toList (i.toNat + 1) j)
        have h2 : (sub s.data.toList (i.toNat + 1) j).length ≤ 7 := by simp [sub]; omega
        exact Nat.lt_of_lt_of_le h1 (Nat.pow_le_pow_right (by decide) h2)
      have hx : (i + ((j : Int) + 1)).toNat < s.size := by omega
      have HT := Lib.hid (show 256 * q + (s[(i + ((j : Int) + 1)).toNat]).toNat = wval (sub s.data.toList (i.toNat + 1) (j + 1)) by
        rw [sub_succ s (i.toNat + 1) j (by omega), wval_snoc, HQ.out]
        congr 2
        simp only [show (i + ((j : Int) + 1)).toNat = i.toNat + 1 + j by omega])
      have hcl := (s[(i + ((j : Int) + 1)).toNat]).toNat_lt
      generalize hcc : (s[(i + ((j : Int) + 1)).toNat]).toNat = c at *
      go_wp2_with fail
      go_round
      case rel => exact ⟨j + 1, 256 * q + c, by omega, by go_num, by go_num, HT⟩
      case measure => simp [intOf]; omega
    · have hjm : j = 2 := by omega
      have H := Lib.hid (show q = wval (sub s.data.toList (i.toNat + 1) 2) by rw [HQ.out, hjm])
      subst hjm
      clear hw
      generalize hv : wval (sub s.data.toList (i.toNat + 1) 2) = v at *
      go_wp2_with fail
      go_ret3
      exact ⟨by rw [← H.out]; rfl, below_alloc hbW _ (Nat.le_refl _)⟩
set_option maxRecDepth 100000 in
set_option maxHeartbeats 400000 in
theorem any_spec_2_no (s : ByteArray) (i : Int) (w : World) (hs : s.size ≤ 9223372036854775800) (hi0 : 0 ≤ i) (hi1 : i < s.size) (hlow : byteAt s i % 32 = 25) (hfit : (s.size : Int) < i + 1 + 2) :
    Calls Tryd.prog 118 #[.string s, .int .i64 i] w fun e w' => Head3 (-1) 0 (-1) e ∧ Below w.heap.size w w' := by
  have hlt : i.toNat < s.size := by omega
  have HB := Lib.hid (byteAt_eq s i hlt)
  obtain ⟨hb0, hb1⟩ := byteAt_range s i
  have ha := and31 (byteAt s i) hb0 hb1
  rw [hlow] at ha
  have hw := wval_sub_lt s.data.toList (i.toNat + 1) 2 (by decide)
  generalize byteAt s i = b at *
  have he := HB.out.symm
  go_enter Tryd.func118, Tryd.ntmps118
  go_wp2_with fail
  go_quiet (fail)
  have hbW : Below w.heap.size w (w.drewN nq) := below_drewN (Below.refl _ _) _
  generalize w.drewN nq = W at *
  go_wp2_with fail
  go_ret3
  exact ⟨rfl, below_alloc hbW _ (Nat.le_refl _)⟩
set_option maxRecDepth 100000 in
set_option maxHeartbeats 400000 in
theorem any_spec_4_yes (s : ByteArray) (i : Int) (w : World) (hs : s.size ≤ 9223372036854775800) (hi0 : 0 ≤ i) (hi1 : i < s.size) (hlow : byteAt s i % 32 = 26) (hfit : i + 1 + 4 ≤ s.size) :
    Calls Tryd.prog 118 #[.string s, .int .i64 i] w fun e w' => Head3 (byteAt s i / 32) (wval (sub s.data.toList (i.toNat + 1) 4)) (i + 1 + 4) e ∧ Below w.heap.size w w' := by
  have hlt : i.toNat < s.size := by omega
  have HB := Lib.hid (byteAt_eq s i hlt)
  obtain ⟨hb0, hb1⟩ := byteAt_range s i
  have ha := and31 (byteAt s i) hb0 hb1
  rw [hlow] at ha
  have hw := wval_sub_lt s.data.toList (i.toNat + 1) 4 (by decide)
  generalize byteAt s i = b at *
  have he := HB.out.symm
  go_enter Tryd.func118, Tryd.ntmps118
  go_wp2_with fail
  go_quiet (fail)
  have hbW : Below w.heap.size w (w.drewN nq) := below_drewN (Below.refl _ _) _
  generalize w.drewN nq = W at *
  go_wp2_with fail
  go_loop [10, 11] (fun n k => ∃ j : Nat, ∃ q : Nat, j ≤ 4 ∧ k = .int .i64 (j + 1) ∧ n = .int .u64 q ∧ Hid (q = wval (sub s.data.toList (i.toNat + 1) j))) (fun _ k => (4 + 1 - intOf k).toNat)
  case atStart => exact ⟨0, 0, by omega, rfl, rfl, Lib.hid (by simp [sub, wval])⟩
  case round =>
    obtain ⟨j, q, hj, rfl, rfl, HQ⟩ := hrel
    by_cases hlt2 : j < 4
    · have hq : q < 72057594037927936 := by
        rw [HQ.out]
        have h1 := wval_lt (sub s.data.toList (i.toNat + 1) j)
        have h2 : (sub s.data.toList (i.toNat + 1) j).length ≤ 7 := by simp [sub]; omega
        exact Nat.lt_of_lt_of_le h1 (Nat.pow_le_pow_right (by decide) h2)
      have hx : (i + ((j : Int) + 1)).toNat < s.size := by omega
      have HT := Lib.hid (show 256 * q + (s[(i + ((j : Int) + 1)).toNat]).toNat = wval (sub s.data.toList (i.toNat + 1) (j + 1)) by
        rw [sub_succ s (i.toNat + 1) j (by omega), wval_snoc, HQ.out]
        congr 2
        simp only [show (i + ((j : Int) + 1)).toNat = i.toNat + 1 + j by omega])
      have hcl := (s[(i + ((j : Int) + 1)).toNat]).toNat_lt
      generalize hcc : (s[(i + ((j : Int) + 1)).toNat]).toNat = c at *
      go_wp2_with fail
      go_round
      case rel => exact ⟨j + 1, 256 * q + c, by omega, by go_num, by go_num, HT⟩
      case measure => simp [intOf]; omega
    · have hjm : j = 4 := by omega
      have H := Lib.hid (show q = wval (sub s.data.toList (i.toNat + 1) 4) by rw [HQ.out, hjm])
      subst hjm
      clear hw
      generalize hv : wval (sub s.data.toList (i.toNat + 1) 4) = v at *
      go_wp2_with fail
      go_ret3
      exact ⟨by rw [← H.out]; rfl, below_alloc hbW _ (Nat.le_refl _)⟩
set_option maxRecDepth 100000 in
set_option maxHeartbeats 400000 in
theorem any_spec_4_no (s : ByteArray) (i : Int) (w : World) (hs : s.size ≤ 9223372036854775800) (hi0 : 0 ≤ i) (hi1 : i < s.size) (hlow : byteAt s i % 32 = 26) (hfit : (s.size : Int) < i + 1 + 4) :
    Calls Tryd.prog 118 #[.string s, .int .i64 i] w fun e w' => Head3 (-1) 0 (-1) e ∧ Below w.heap.size w w' := by
  have hlt : i.toNat < s.size := by omega
  have HB := Lib.hid (byteAt_eq s i hlt)
  obtain ⟨hb0, hb1⟩ := byteAt_range s i
  have ha := and31 (byteAt s i) hb0 hb1
  rw [hlow] at ha
  have hw := wval_sub_lt s.data.toList (i.toNat + 1) 4 (by decide)
  generalize byteAt s i = b at *
  have he := HB.out.symm
  go_enter Tryd.func118, Tryd.ntmps118
  go_wp2_with fail
  go_quiet (fail)
  have hbW : Below w.heap.size w (w.drewN nq) := below_drewN (Below.refl _ _) _
  generalize w.drewN nq = W at *
  go_wp2_with fail
  go_ret3
  exact ⟨rfl, below_alloc hbW _ (Nat.le_refl _)⟩
set_option maxRecDepth 100000 in
set_option maxHeartbeats 400000 in
theorem any_spec_8_yes (s : ByteArray) (i : Int) (w : World) (hs : s.size ≤ 9223372036854775800) (hi0 : 0 ≤ i) (hi1 : i < s.size) (hlow : byteAt s i % 32 = 27) (hfit : i + 1 + 8 ≤ s.size) :
    Calls Tryd.prog 118 #[.string s, .int .i64 i] w fun e w' => Head3 (byteAt s i / 32) (wval (sub s.data.toList (i.toNat + 1) 8)) (i + 1 + 8) e ∧ Below w.heap.size w w' := by
  have hlt : i.toNat < s.size := by omega
  have HB := Lib.hid (byteAt_eq s i hlt)
  obtain ⟨hb0, hb1⟩ := byteAt_range s i
  have ha := and31 (byteAt s i) hb0 hb1
  rw [hlow] at ha
  have hw := wval_sub_lt s.data.toList (i.toNat + 1) 8 (by decide)
  generalize byteAt s i = b at *
  have he := HB.out.symm
  go_enter Tryd.func118, Tryd.ntmps118
  go_wp2_with fail
  go_quiet (fail)
  have hbW : Below w.heap.size w (w.drewN nq) := below_drewN (Below.refl _ _) _
  generalize w.drewN nq = W at *
  go_wp2_with fail
  go_loop [10, 11] (fun n k => ∃ j : Nat, ∃ q : Nat, j ≤ 8 ∧ k = .int .i64 (j + 1) ∧ n = .int .u64 q ∧ Hid (q = wval (sub s.data.toList (i.toNat + 1) j))) (fun _ k => (8 + 1 - intOf k).toNat)
  case atStart => exact ⟨0, 0, by omega, rfl, rfl, Lib.hid (by simp [sub, wval])⟩
  case round =>
    obtain ⟨j, q, hj, rfl, rfl, HQ⟩ := hrel
    by_cases hlt2 : j < 8
    · have hq : q < 72057594037927936 := by
        rw [HQ.out]
        have h1 := wval_lt (sub s.data.toList (i.toNat + 1) j)
        have h2 : (sub s.data.toList (i.toNat + 1) j).length ≤ 7 := by simp [sub]; omega
        exact Nat.lt_of_lt_of_le h1 (Nat.pow_le_pow_right (by decide) h2)
      have hx : (i + ((j : Int) + 1)).toNat < s.size := by omega
      have HT := Lib.hid (show 256 * q + (s[(i + ((j : Int) + 1)).toNat]).toNat = wval (sub s.data.toList (i.toNat + 1) (j + 1)) by
        rw [sub_succ s (i.toNat + 1) j (by omega), wval_snoc, HQ.out]
        congr 2
        simp only [show (i + ((j : Int) + 1)).toNat = i.toNat + 1 + j by omega])
      have hcl := (s[(i + ((j : Int) + 1)).toNat]).toNat_lt
      generalize hcc : (s[(i + ((j : Int) + 1)).toNat]).toNat = c at *
      go_wp2_with fail
      go_round
      case rel => exact ⟨j + 1, 256 * q + c, by omega, by go_num, by go_num, HT⟩
      case measure => simp [intOf]; omega
    · have hjm : j = 8 := by omega
      have H := Lib.hid (show q = wval (sub s.data.toList (i.toNat + 1) 8) by rw [HQ.out, hjm])
      subst hjm
      clear hw
      generalize hv : wval (sub s.data.toList (i.toNat + 1) 8) = v at *
      go_wp2_with fail
      go_ret3
      exact ⟨by rw [← H.out]; rfl, below_alloc hbW _ (Nat.le_refl _)⟩
set_option maxRecDepth 100000 in
set_option maxHeartbeats 400000 in
theorem any_spec_8_no (s : ByteArray) (i : Int) (w : World) (hs : s.size ≤ 9223372036854775800) (hi0 : 0 ≤ i) (hi1 : i < s.size) (hlow : byteAt s i % 32 = 27) (hfit : (s.size : Int) < i + 1 + 8) :
    Calls Tryd.prog 118 #[.string s, .int .i64 i] w fun e w' => Head3 (-1) 0 (-1) e ∧ Below w.heap.size w w' := by
  have hlt : i.toNat < s.size := by omega
  have HB := Lib.hid (byteAt_eq s i hlt)
  obtain ⟨hb0, hb1⟩ := byteAt_range s i
  have ha := and31 (byteAt s i) hb0 hb1
  rw [hlow] at ha
  have hw := wval_sub_lt s.data.toList (i.toNat + 1) 8 (by decide)
  generalize byteAt s i = b at *
  have he := HB.out.symm
  go_enter Tryd.func118, Tryd.ntmps118
  go_wp2_with fail
  go_quiet (fail)
  have hbW : Below w.heap.size w (w.drewN nq) := below_drewN (Below.refl _ _) _
  generalize w.drewN nq = W at *
  go_wp2_with fail
  go_ret3
  exact ⟨rfl, below_alloc hbW _ (Nat.le_refl _)⟩
end Go.Proofs.YtiemlefmhleaeaaDoor
