/- Lemmas for the statement of the last text of this claim: texts joined. -/
import Derived.Test.YtgbgeocmjdgmoaaDoorCbK01
import Derived.Test.YtgbgeocmjdgmoaaDoorCbK02
import Derived.Test.YtgbgeocmjdgmoaaDoorCbK03
import Derived.Test.YtgbgeocmjdgmoaaDoorCbK04
import Derived.Deep.QuietTactic
import Derived.BigQuiet
import Derived.Deep.RegionWith
import Derived.WalkSpells
import Derived.Lib.Hide
import Derived.Deep.DeepCutAuto
namespace Go.Proofs.YtgbgeocmjdgmoaaDoor
set_option linter.unusedSimpArgs false
set_option linter.unusedVariables false
set_option maxRecDepth 100000
open Go.RowKit
theorem wval_lt (l : List UInt8) : wval l < 256 ^ l.length := by
  have : ∀ (l : List UInt8) (n : Nat), l.foldl (fun n c => 256 * n + c.toNat) n < (n + 1) * 256 ^ l.length := by
    intro l
    induction l with
    | nil => intro n; simp
    | cons c l ih =>
      intro n
      have h := ih (256 * n + c.toNat)
      have hc := c.toNat_lt
      simp only [List.foldl_cons, List.length_cons, Nat.pow_succ]
      refine Nat.lt_of_lt_of_le h ?_
      rw [Nat.mul_comm (256 ^ l.length) 256, ← Nat.mul_assoc]
      exact Nat.mul_le_mul_right _ (by omega)
  simpa [wval] using this l 0
theorem wval_sub_lt (l : List UInt8) (i m : Nat) (h : m ≤ 8) : wval (sub l i m) < 18446744073709551616 := by
  have h1 := wval_lt (sub l i m)
  have h2 : (sub l i m).length ≤ 8 := by simp [sub]; omega
  exact Nat.lt_of_lt_of_le h1 (Nat.pow_le_pow_right (by decide) h2)
theorem and31 (b : Int) (h0 : 0 ≤ b) (h1 : b < 256) : bits BinOp.and IntKind.u8 b 31 = b % 32 := by
  obtain ⟨n, rfl⟩ := Int.eq_ofNat_of_zero_le h0
  have : ∀ n : Fin 256, bits BinOp.and IntKind.u8 ((n.val : Nat) : Int) 31 = ((n.val : Nat) : Int) % 32 := by decide +kernel
  exact this ⟨n, by omega⟩
theorem u64_back (v : Nat) (h : v < 18446744073709551616) : IntKind.u64.wrap (wrap64 (v : Int)) = v := by
  simp only [IntKind.wrap, IntKind.signed, IntKind.bits, wrap64]
  simp
  omega
def Head3 (a n x : Int) (e : Ending) : Prop := e = .returned (.tuple #[.int .i64 a, .int .u64 n, .int .i64 x])
def byteAt (s : ByteArray) (i : Int) : Int := ((s.data.toList.getD i.toNat 0).toNat : Int)
theorem byteAt_range (s : ByteArray) (i : Int) : 0 ≤ byteAt s i ∧ byteAt s i < 256 := by
  unfold byteAt; have := (s.data.toList.getD i.toNat 0).toNat_lt; omega
theorem byteAt_eq (s : ByteArray) (i : Int) (h : i.toNat < s.size) : byteAt s i = ((s[i.toNat]).toNat : Int) := by
  unfold byteAt
  have hl : i.toNat < s.data.toList.length := by rw [← size_eq]; exact h
  rw [List.getD_eq_getElem?_getD, List.getElem?_eq_getElem hl]
  rfl
set_option maxRecDepth 100000 in
set_option maxHeartbeats 400000 in
theorem any_impl_out (s : ByteArray) (i : Int) (w : World) (hs : s.size ≤ 9223372036854775807) (hi0 : -9223372036854775808 ≤ i) (hi1 : i ≤ 9223372036854775807) (h : i < 0 ∨ s.size ≤ i) :
    Calls Tryd.prog 133 #[.string s, .int .i64 i] w fun e w' => Head3 (-1) 0 (-1) e ∧ Below w.heap.size w w' := by
  go_enter Tryd.func133, Tryd.ntmps133
  go_wp2_with (go_at_call 105; refine (within_no _ _ _ _ (by omega)).mono ?_; rintro e w' ⟨rfl, rfl⟩)
  go_ret3
  exact ⟨rfl, (by (repeat' (first | with_reducible exact Below.refl _ _ | with_reducible refine below_alloc ?_ _ ?_ | with_reducible refine Below.setCell ?_ ?_ _ | with_reducible refine Below.drew ?_ | with_reducible refine below_drewN ?_ _ | with_reducible refine below_step ?_ (by assumption) ?_ | with_reducible refine below_mark ?_ (by assumption) ?_)); all_goals (first | omega | (simp; done) | (simp; omega)))⟩
set_option maxRecDepth 100000 in
set_option maxHeartbeats 400000 in
theorem any_impl_short (s : ByteArray) (i : Int) (w : World) (hs : s.size ≤ 9223372036854775807) (hi0 : 0 ≤ i) (hi1 : i < s.size) (hlow : byteAt s i % 32 < 24) :
    Calls Tryd.prog 133 #[.string s, .int .i64 i] w fun e w' => Head3 (byteAt s i / 32) (byteAt s i % 32) (i + 1) e ∧ Below w.heap.size w w' := by
  have hlt : i.toNat < s.size := by omega
  have HB := Lib.hid (byteAt_eq s i hlt)
  obtain ⟨hb0, hb1⟩ := byteAt_range s i
  have ha := and31 (byteAt s i) hb0 hb1
  generalize byteAt s i = b at *
  have he := HB.out.symm
  go_enter Tryd.func133, Tryd.ntmps133
  go_wp2_with (go_at_call 105; refine (within_yes _ _ _ _ (by omega) (by omega)).mono ?_; rintro e w' ⟨rfl, rfl⟩)
  go_quiet (fail)
  go_wp2_with fail
  go_ret3
  exact ⟨rfl, (by (repeat' (first | with_reducible exact Below.refl _ _ | with_reducible refine below_alloc ?_ _ ?_ | with_reducible refine Below.setCell ?_ ?_ _ | with_reducible refine Below.drew ?_ | with_reducible refine below_drewN ?_ _ | with_reducible refine below_step ?_ (by assumption) ?_ | with_reducible refine below_mark ?_ (by assumption) ?_)); all_goals (first | omega | (simp; done) | (simp; omega)))⟩
set_option maxRecDepth 100000 in
set_option maxHeartbeats 400000 in
theorem any_impl_bad (s : ByteArray) (i : Int) (w : World) (hs : s.size ≤ 9223372036854775807) (hi0 : 0 ≤ i) (hi1 : i < s.size) (hlow : 27 < byteAt s i % 32) :
    Calls Tryd.prog 133 #[.string s, .int .i64 i] w fun e w' => Head3 (-1) 0 (-1) e ∧ Below w.heap.size w w' := by
  have hlt : i.toNat < s.size := by omega
  have HB := Lib.hid (byteAt_eq s i hlt)
  obtain ⟨hb0, hb1⟩ := byteAt_range s i
  have ha := and31 (byteAt s i) hb0 hb1
  generalize byteAt s i = b at *
  have he := HB.out.symm
  go_enter Tryd.func133, Tryd.ntmps133
  go_wp2_with (go_at_call 105; refine (within_yes _ _ _ _ (by omega) (by omega)).mono ?_; rintro e w' ⟨rfl, rfl⟩)
  go_quiet (fail)
  go_wp2_with fail
  go_ret3
  exact ⟨rfl, (by (repeat' (first | with_reducible exact Below.refl _ _ | with_reducible refine below_alloc ?_ _ ?_ | with_reducible refine Below.setCell ?_ ?_ _ | with_reducible refine Below.drew ?_ | with_reducible refine below_drewN ?_ _ | with_reducible refine below_step ?_ (by assumption) ?_ | with_reducible refine below_mark ?_ (by assumption) ?_)); all_goals (first | omega | (simp; done) | (simp; omega)))⟩
set_option maxRecDepth 100000 in
set_option maxHeartbeats 400000 in
theorem any_impl_1_yes (s : ByteArray) (i : Int) (w : World) (hs : s.size ≤ 9223372036854775800) (hi0 : 0 ≤ i) (hi1 : i < s.size) (hlow : byteAt s i % 32 = 24) (hfit : i + 1 + 1 ≤ s.size) :
    Calls Tryd.prog 133 #[.string s, .int .i64 i] w fun e w' => Head3 (byteAt s i / 32) (wval (sub s.data.toList (i.toNat + 1) 1)) (i + 1 + 1) e ∧ Below w.heap.size w w' := by
  have hlt : i.toNat < s.size := by omega
  have HB := Lib.hid (byteAt_eq s i hlt)
  obtain ⟨hb0, hb1⟩ := byteAt_range s i
  have ha := and31 (byteAt s i) hb0 hb1
  rw [hlow] at ha
  have hw := wval_sub_lt s.data.toList (i.toNat + 1) 1 (by decide)
  generalize byteAt s i = b at *
  have he := HB.out.symm
  have HV := Lib.hid (u64_back _ hw)
  generalize hv : wval (sub s.data.toList (i.toNat + 1) 1) = v at *
  have HVV := Lib.hid hv; clear hv
  go_enter Tryd.func133, Tryd.ntmps133
  go_wp2_with (go_at_call 105; refine (within_yes _ _ _ _ (by omega) (by omega)).mono ?_; rintro e w' ⟨rfl, rfl⟩)
  go_quiet (fail)
  go_wp2_with fail
  refine (GetWide_any s _ _ _ (by omega) (by omega) (by omega) (by omega) (by omega)).mono ?_
  rintro e1 w1 ⟨rfl, rfl⟩
  rw [show (i + 1).toNat = i.toNat + 1 by omega, show (1 : Int).toNat = 1 from rfl, HVV.out]
  have hx := HV.out
  go_wp2_with fail
  go_ret3
  exact ⟨rfl, (by (repeat' (first | with_reducible exact Below.refl _ _ | with_reducible refine below_alloc ?_ _ ?_ | with_reducible refine Below.setCell ?_ ?_ _ | with_reducible refine Below.drew ?_ | with_reducible refine below_drewN ?_ _ | with_reducible refine below_step ?_ (by assumption) ?_ | with_reducible refine below_mark ?_ (by assumption) ?_)); all_goals (first | omega | (simp; done) | (simp; omega)))⟩
set_option maxRecDepth 100000 in
set_option maxHeartbeats 400000 in
theorem any_impl_1_no (s : ByteArray) (i : Int) (w : World) (hs : s.size ≤ 9223372036854775800) (hi0 : 0 ≤ i) (hi1 : i < s.size) (hlow : byteAt s i % 32 = 24) (hfit : (s.size : Int) < i + 1 + 1) :
    Calls Tryd.prog 133 #[.string s, .int .i64 i] w fun e w' => Head3 (-1) 0 (-1) e ∧ Below w.heap.size w w' := by
  have hlt : i.toNat < s.size := by omega
  have HB := Lib.hid (byteAt_eq s i hlt)
  obtain ⟨hb0, hb1⟩ := byteAt_range s i
  have ha := and31 (byteAt s i) hb0 hb1
  rw [hlow] at ha
  have hw := wval_sub_lt s.data.toList (i.toNat + 1) 1 (by decide)
  generalize byteAt s i = b at *
  have he := HB.out.symm
  have HV := Lib.hid (u64_back _ hw)
  generalize hv : wval (sub s.data.toList (i.toNat + 1) 1) = v at *
  have HVV := Lib.hid hv; clear hv
  go_enter Tryd.func133, Tryd.ntmps133
  go_wp2_with (go_at_call 105; refine (within_yes _ _ _ _ (by omega) (by omega)).mono ?_; rintro e w' ⟨rfl, rfl⟩)
  go_quiet (fail)
  go_wp2_with fail
  refine (GetWide_no s _ _ _ (by omega) (by omega) (by omega) (by omega)).mono ?_
  rintro e1 w1 ⟨rfl, rfl⟩
  go_wp2_with fail
  go_ret3
  exact ⟨rfl, (by (repeat' (first | with_reducible exact Below.refl _ _ | with_reducible refine below_alloc ?_ _ ?_ | with_reducible refine Below.setCell ?_ ?_ _ | with_reducible refine Below.drew ?_ | with_reducible refine below_drewN ?_ _ | with_reducible refine below_step ?_ (by assumption) ?_ | with_reducible refine below_mark ?_ (by assumption) ?_)); all_goals (first | omega | (simp; done) | (simp; omega)))⟩
set_option maxRecDepth 100000 in
set_option maxHeartbeats 400000 in
theorem any_impl_2_yes (s : ByteArray) (i : Int) (w : World) (hs : s.size ≤ 9223372036854775800) (hi0 : 0 ≤ i) (hi1 : i < s.size) (hlow : byteAt s i % 32 = 25) (hfit : i + 1 + 2 ≤ s.size) :
    Calls Tryd.prog 133 #[.string s, .int .i64 i] w fun e w' => Head3 (byteAt s i / 32) (wval (sub s.data.toList (i.toNat + 1) 2)) (i + 1 + 2) e ∧ Below w.heap.size w w' := by
  have hlt : i.toNat < s.size := by omega
  have HB := Lib.hid (byteAt_eq s i hlt)
  obtain ⟨hb0, hb1⟩ := byteAt_range s i
  have ha := and31 (byteAt s i) hb0 hb1
  rw [hlow] at ha
  have hw := wval_sub_lt s.data.toList (i.toNat + 1) 2 (by decide)
  generalize byteAt s i = b at *
  have he := HB.out.symm
  have HV := Lib.hid (u64_back _ hw)
  generalize hv : wval (sub s.data.toList (i.toNat + 1) 2) = v at *
  have HVV := Lib.hid hv; clear hv
  go_enter Tryd.func133, Tryd.ntmps133
  go_wp2_with (go_at_call 105; refine (within_yes _ _ _ _ (by omega) (by omega)).mono ?_; rintro e w' ⟨rfl, rfl⟩)
  go_quiet (fail)
  go_wp2_with fail
  refine (GetWide_any s _ _ _ (by omega) (by omega) (by omega) (by omega) (by omega)).mono ?_
  rintro e1 w1 ⟨rfl, rfl⟩
  rw [show (i + 1).toNat = i.toNat + 1 by omega, show (2 : Int).toNat = 2 from rfl, HVV.out]
  have hx := HV.out
  go_wp2_with fail
  go_ret3
  exact ⟨rfl, (by (repeat' (first | with_reducible exact Below.refl _ _ | with_reducible refine below_alloc ?_ _ ?_ | with_reducible refine Below.setCell ?_ ?_ _ | with_reducible refine Below.drew ?_ | with_reducible refine below_drewN ?_ _ | with_reducible refine below_step ?_ (by assumption) ?_ | with_reducible refine below_mark ?_ (by assumption) ?_)); all_goals (first | omega | (simp; done) | (simp; omega)))⟩
set_option maxRecDepth 100000 in
set_option maxHeartbeats 400000 in
theorem any_impl_2_no (s : ByteArray) (i : Int) (w : World) (hs : s.size ≤ 9223372036854775800) (hi0 : 0 ≤ i) (hi1 : i < s.size) (hlow : byteAt s i % 32 = 25) (hfit : (s.size : Int) < i + 1 + 2) :
    Calls Tryd.prog 133 #[.string s, .int .i64 i] w fun e w' => Head3 (-1) 0 (-1) e ∧ Below w.heap.size w w' := by
  have hlt : i.toNat < s.size := by omega
  have HB := Lib.hid (byteAt_eq s i hlt)
  obtain ⟨hb0, hb1⟩ := byteAt_range s i
  have ha := and31 (byteAt s i) hb0 hb1
  rw [hlow] at ha
  have hw := wval_sub_lt s.data.toList (i.toNat + 1) 2 (by decide)
  generalize byteAt s i = b at *
  have he := HB.out.symm
  have HV := Lib.hid (u64_back _ hw)
  generalize hv : wval (sub s.data.toList (i.toNat + 1) 2) = v at *
  have HVV := Lib.hid hv; clear hv
  go_enter Tryd.func133, Tryd.ntmps133
  go_wp2_with (go_at_call 105; refine (within_yes _ _ _ _ (by omega) (by omega)).mono ?_; rintro e w' ⟨rfl, rfl⟩)
  go_quiet (fail)
  go_wp2_with fail
  refine (GetWide_no s _ _ _ (by omega) (by omega) (by omega) (by omega)).mono ?_
  rintro e1 w1 ⟨rfl, rfl⟩
  go_wp2_with fail
  go_ret3
  exact ⟨rfl, (by (repeat' (first | with_reducible exact Below.refl _ _ | with_reducible refine below_alloc ?_ _ ?_ | with_reducible refine Below.setCell ?_ ?_ _ | with_reducible refine Below.drew ?_ | with_reducible refine below_drewN ?_ _ | with_reducible refine below_step ?_ (by assumption) ?_ | with_reducible refine below_mark ?_ (by assumption) ?_)); all_goals (first | omega | (simp; done) | (simp; omega)))⟩
set_option maxRecDepth 100000 in
set_option maxHeartbeats 400000 in
theorem any_impl_4_yes (s : ByteArray) (i : Int) (w : World) (hs : s.size ≤ 9223372036854775800) (hi0 : 0 ≤ i) (hi1 : i < s.size) (hlow : byteAt s i % 32 = 26) (hfit : i + 1 + 4 ≤ s.size) :
    Calls Tryd.prog 133 #[.string s, .int .i64 i] w fun e w' => Head3 (byteAt s i / 32) (wval (sub s.data.toList (i.toNat + 1) 4)) (i + 1 + 4) e ∧ Below w.heap.size w w' := by
  have hlt : i.toNat < s.size := by omega
  have HB := Lib.hid (byteAt_eq s i hlt)
  obtain ⟨hb0, hb1⟩ := byteAt_range s i
  have ha := and31 (byteAt s i) hb0 hb1
  rw [hlow] at ha
  have hw := wval_sub_lt s.data.toList (i.toNat + 1) 4 (by decide)
  generalize byteAt s i = b at *
  have he := HB.out.symm
  have HV := Lib.hid (u64_back _ hw)
  generalize hv : wval (sub s.data.toList (i.toNat + 1) 4) = v at *
  have HVV := Lib.hid hv; clear hv
  go_enter Tryd.func133, Tryd.ntmps133
  go_wp2_with (go_at_call 105; refine (within_yes _ _ _ _ (by omega) (by omega)).mono ?_; rintro e w' ⟨rfl, rfl⟩)
  go_quiet (fail)
  go_wp2_with fail
  refine (GetWide_any s _ _ _ (by omega) (by omega) (by omega) (by omega) (by omega)).mono ?_
  rintro e1 w1 ⟨rfl, rfl⟩
  rw [show (i + 1).toNat = i.toNat + 1 by omega, show (4 : Int).toNat = 4 from rfl, HVV.out]
  have hx := HV.out
  go_wp2_with fail
  go_ret3
  exact ⟨rfl, (by (repeat' (first | with_reducible exact Below.refl _ _ | with_reducible refine below_alloc ?_ _ ?_ | with_reducible refine Below.setCell ?_ ?_ _ | with_reducible refine Below.drew ?_ | with_reducible refine below_drewN ?_ _ | with_reducible refine below_step ?_ (by assumption) ?_ | with_reducible refine below_mark ?_ (by assumption) ?_)); all_goals (first | omega | (simp; done) | (simp; omega)))⟩
set_option maxRecDepth 100000 in
set_option maxHeartbeats 400000 in
theorem any_impl_4_no (s : ByteArray) (i : Int) (w : World) (hs : s.size ≤ 9223372036854775800) (hi0 : 0 ≤ i) (hi1 : i < s.size) (hlow : byteAt s i % 32 = 26) (hfit : (s.size : Int) < i + 1 + 4) :
    Calls Tryd.prog 133 #[.string s, .int .i64 i] w fun e w' => Head3 (-1) 0 (-1) e ∧ Below w.heap.size w w' := by
  have hlt : i.toNat < s.size := by omega
  have HB := Lib.hid (byteAt_eq s i hlt)
  obtain ⟨hb0, hb1⟩ := byteAt_range s i
  have ha := and31 (byteAt s i) hb0 hb1
  rw [hlow] at ha
  have hw := wval_sub_lt s.data.toList (i.toNat + 1) 4 (by decide)
  generalize byteAt s i = b at *
  have he := HB.out.symm
  have HV := Lib.hid (u64_back _ hw)
  generalize hv : wval (sub s.data.toList (i.toNat + 1) 4) = v at *
  have HVV := Lib.hid hv; clear hv
  go_enter Tryd.func133, Tryd.ntmps133
  go_wp2_with (go_at_call 105; refine (within_yes _ _ _ _ (by omega) (by omega)).mono ?_; rintro e w' ⟨rfl, rfl⟩)
  go_quiet (fail)
  go_wp2_with fail
  refine (GetWide_no s _ _ _ (by omega) (by omega) (by omega) (by omega)).mono ?_
  rintro e1 w1 ⟨rfl, rfl⟩
  go_wp2_with fail
  go_ret3
  exact ⟨rfl, (by (repeat' (first | with_reducible exact Below.refl _ _ | with_reducible refine below_alloc ?_ _ ?_ | with_reducible refine Below.setCell ?_ ?_ _ | with_reducible refine Below.drew ?_ | with_reducible refine below_drewN ?_ _ | with_reducible refine below_step ?_ (by assumption) ?_ | with_reducible refine below_mark ?_ (by assumption) ?_)); all_goals (first | omega | (simp; done) | (simp; omega)))⟩
set_option maxRecDepth 100000 in
set_option maxHeartbeats 400000 in
theorem any_impl_8_yes (s : ByteArray) (i : Int) (w : World) (hs : s.size ≤ 9223372036854775800) (hi0 : 0 ≤ i) (hi1 : i < s.size) (hlow : byteAt s i % 32 = 27) (hfit : i + 1 + 8 ≤ s.size) :
    Calls Tryd.prog 133 #[.string s, .int .i64 i] w fun e w' => Head3 (byteAt s i / 32) (wval (sub s.data.toList (i.toNat + 1) 8)) (i + 1 + 8) e ∧ Below w.heap.size w w' := by
  have hlt : i.toNat < s.size := by omega
  have HB := Lib.hid (byteAt_eq s i hlt)
  obtain ⟨hb0, hb1⟩ := byteAt_range s i
  have ha := and31 (byteAt s i) hb0 hb1
  rw [hlow] at ha
  have hw := wval_sub_lt s.data.toList (i.toNat + 1) 8 (by decide)
  generalize byteAt s i = b at *
  have he := HB.out.symm
  have HV := Lib.hid (u64_back _ hw)
  generalize hv : wval (sub s.data.toList (i.toNat + 1) 8) = v at *
  have HVV := Lib.hid hv; clear hv
  go_enter Tryd.func133, Tryd.ntmps133
  go_wp2_with (go_at_call 105; refine (within_yes _ _ _ _ (by omega) (by omega)).mono ?_; rintro e w' ⟨rfl, rfl⟩)
  go_quiet (fail)
  go_wp2_with fail
  refine (GetWide_any s _ _ _ (by omega) (by omega) (by omega) (by omega) (by omega)).mono ?_
  rintro e1 w1 ⟨rfl, rfl⟩
  rw [show (i + 1).toNat = i.toNat + 1 by omega, show (8 : Int).toNat = 8 from rfl, HVV.out]
  have hx := HV.out
  go_wp2_with fail
  go_ret3
  exact ⟨rfl, (by (repeat' (first | with_reducible exact Below.refl _ _ | with_reducible refine below_alloc ?_ _ ?_ | with_reducible refine Below.setCell ?_ ?_ _ | with_reducible refine Below.drew ?_ | with_reducible refine below_drewN ?_ _ | with_reducible refine below_step ?_ (by assumption) ?_ | with_reducible refine below_mark ?_ (by assumption) ?_)); all_goals (first | omega | (simp; done) | (simp; omega)))⟩
set_option maxRecDepth 100000 in
set_option maxHeartbeats 400000 in
theorem any_impl_8_no (s : ByteArray) (i : Int) (w : World) (hs : s.size ≤ 9223372036854775800) (hi0 : 0 ≤ i) (hi1 : i < s.size) (hlow : byteAt s i % 32 = 27) (hfit : (s.size : Int) < i + 1 + 8) :
    Calls Tryd.prog 133 #[.string s, .int .i64 i] w fun e w' => Head3 (-1) 0 (-1) e ∧ Below w.heap.size w w' := by
  have hlt : i.toNat < s.size := by omega
  have HB := Lib.hid (byteAt_eq s i hlt)
  obtain ⟨hb0, hb1⟩ := byteAt_range s i
  have ha := and31 (byteAt s i) hb0 hb1
  rw [hlow] at ha
  have hw := wval_sub_lt s.data.toList (i.toNat + 1) 8 (by decide)
  generalize byteAt s i = b at *
  have he := HB.out.symm
  have HV := Lib.hid (u64_back _ hw)
  generalize hv : wval (sub s.data.toList (i.toNat + 1) 8) = v at *
  have HVV := Lib.hid hv; clear hv
  go_enter Tryd.func133, Tryd.ntmps133
  go_wp2_with (go_at_call 105; refine (within_yes _ _ _ _ (by omega) (by omega)).mono ?_; rintro e w' ⟨rfl, rfl⟩)
  go_quiet (fail)
  go_wp2_with fail
  refine (GetWide_no s _ _ _ (by omega) (by omega) (by omega) (by omega)).mono ?_
  rintro e1 w1 ⟨rfl, rfl⟩
  go_wp2_with fail
  go_ret3
  exact ⟨rfl, (by (repeat' (first | with_reducible exact Below.refl _ _ | with_reducible refine below_alloc ?_ _ ?_ | with_reducible refine Below.setCell ?_ ?_ _ | with_reducible refine Below.drew ?_ | with_reducible refine below_drewN ?_ _ | with_reducible refine below_step ?_ (by assumption) ?_ | with_reducible refine below_mark ?_ (by assumption) ?_)); all_goals (first | omega | (simp; done) | (simp; omega)))⟩
set_option maxRecDepth 100000 in
set_option maxHeartbeats 400000 in
theorem any_spec_out (s : ByteArray) (i : Int) (w : World) (hs : s.size ≤ 9223372036854775807) (hi0 : -9223372036854775808 ≤ i) (hi1 : i ≤ 9223372036854775807) (h : i < 0 ∨ s.size ≤ i) :
    Calls Tryd.prog 134 #[.string s, .int .i64 i] w fun e w' => Head3 (-1) 0 (-1) e ∧ Below w.heap.size w w' := by
  by_cases h1 : i < 0
  · clear h
    go_enter Tryd.func134, Tryd.ntmps134
    go_wp2_with fail
    go_ret3
    exact ⟨rfl, (by (repeat' (first | with_reducible exact Below.refl _ _ | with_reducible refine below_alloc ?_ _ ?_ | with_reducible refine Below.setCell ?_ ?_ _ | with_reducible refine Below.drew ?_ | with_reducible refine below_drewN ?_ _ | with_reducible refine below_step ?_ (by assumption) ?_ | with_reducible refine below_mark ?_ (by assumption) ?_)); all_goals (first | omega | (simp; done) | (simp; omega)))⟩
  · have h2 : s.size ≤ i := by omega
    clear h
    go_enter Tryd.func134, Tryd.ntmps134
    go_wp2_with fail
    go_ret3
    exact ⟨rfl, (by (repeat' (first | with_reducible exact Below.refl _ _ | with_reducible refine below_alloc ?_ _ ?_ | with_reducible refine Below.setCell ?_ ?_ _ | with_reducible refine Below.drew ?_ | with_reducible refine below_drewN ?_ _ | with_reducible refine below_step ?_ (by assumption) ?_ | with_reducible refine below_mark ?_ (by assumption) ?_)); all_goals (first | omega | (simp; done) | (simp; omega)))⟩
set_option maxRecDepth 100000 in
set_option maxHeartbeats 400000 in
theorem any_spec_short (s : ByteArray) (i : Int) (w : World) (hs : s.size ≤ 9223372036854775807) (hi0 : 0 ≤ i) (hi1 : i < s.size) (hlow : byteAt s i % 32 < 24) :
    Calls Tryd.prog 134 #[.string s, .int .i64 i] w fun e w' => Head3 (byteAt s i / 32) (byteAt s i % 32) (i + 1) e ∧ Below w.heap.size w w' := by
  have hlt : i.toNat < s.size := by omega
  have HB := Lib.hid (byteAt_eq s i hlt)
  obtain ⟨hb0, hb1⟩ := byteAt_range s i
  have ha := and31 (byteAt s i) hb0 hb1
  generalize byteAt s i = b at *
  have he := HB.out.symm
  go_enter Tryd.func134, Tryd.ntmps134
  go_wp2_with fail
  go_quiet (fail)
  go_wp2_with fail
  go_ret3
  exact ⟨rfl, (by (repeat' (first | with_reducible exact Below.refl _ _ | with_reducible refine below_alloc ?_ _ ?_ | with_reducible refine Below.setCell ?_ ?_ _ | with_reducible refine Below.drew ?_ | with_reducible refine below_drewN ?_ _ | with_reducible refine below_step ?_ (by assumption) ?_ | with_reducible refine below_mark ?_ (by assumption) ?_)); all_goals (first | omega | (simp; done) | (simp; omega)))⟩
set_option maxRecDepth 100000 in
set_option maxHeartbeats 400000 in
theorem any_spec_bad (s : ByteArray) (i : Int) (w : World) (hs : s.size ≤ 9223372036854775807) (hi0 : 0 ≤ i) (hi1 : i < s.size) (hlow : 27 < byteAt s i % 32) :
    Calls Tryd.prog 134 #[.string s, .int .i64 i] w fun e w' => Head3 (-1) 0 (-1) e ∧ Below w.heap.size w w' := by
  have hlt : i.toNat < s.size := by omega
  have HB := Lib.hid (byteAt_eq s i hlt)
  obtain ⟨hb0, hb1⟩ := byteAt_range s i
  have ha := and31 (byteAt s i) hb0 hb1
  generalize byteAt s i = b at *
  have he := HB.out.symm
  go_enter Tryd.func134, Tryd.ntmps134
  go_wp2_with fail
  go_quiet (fail)
  go_wp2_with fail
  go_ret3
  exact ⟨rfl, (by (repeat' (first | with_reducible exact Below.refl _ _ | with_reducible refine below_alloc ?_ _ ?_ | with_reducible refine Below.setCell ?_ ?_ _ | with_reducible refine Below.drew ?_ | with_reducible refine below_drewN ?_ _ | with_reducible refine below_step ?_ (by assumption) ?_ | with_reducible refine below_mark ?_ (by assumption) ?_)); all_goals (first | omega | (simp; done) | (simp; omega)))⟩
set_option maxRecDepth 100000 in
set_option maxHeartbeats 400000 in
theorem any_spec_1_yes (s : ByteArray) (i : Int) (w : World) (hs : s.size ≤ 9223372036854775800) (hi0 : 0 ≤ i) (hi1 : i < s.size) (hlow : byteAt s i % 32 = 24) (hfit : i + 1 + 1 ≤ s.size) :
    Calls Tryd.prog 134 #[.string s, .int .i64 i] w fun e w' => Head3 (byteAt s i / 32) (wval (sub s.data.toList (i.toNat + 1) 1)) (i + 1 + 1) e ∧ Below w.heap.size w w' := by
  have hlt : i.toNat < s.size := by omega
  have HB := Lib.hid (byteAt_eq s i hlt)
  obtain ⟨hb0, hb1⟩ := byteAt_range s i
  have ha := and31 (byteAt s i) hb0 hb1
  rw [hlow] at ha
  have hw := wval_sub_lt s.data.toList (i.toNat + 1) 1 (by decide)
  generalize byteAt s i = b at *
  have he := HB.out.symm
  go_enter Tryd.func134, Tryd.ntmps134
  go_wp2_with fail
  go_quiet (fail)
  have hbW : Below w.heap.size w (w.drewN nq) := below_drewN (Below.refl _ _) _
  generalize w.drewN nq = W at *
  go_wp2_with fail
  go_loop [10, 11] (fun n k => ∃ j : Nat, ∃ q : Nat, j ≤ 1 ∧ k = .int .i64 (j + 1) ∧ n = .int .u64 q ∧ Hid (q = wval (sub s.data.toList (i.toNat + 1) j))) (fun _ k => (1 + 1 - intOf k).toNat)
  case atStart => exact ⟨0, 0, by omega, rfl, rfl, Lib.hid (by simp [sub, wval])⟩
  case round =>
    obtain ⟨j, q, hj, rfl, rfl, HQ⟩ := hrel
    by_cases hlt2 : j < 1
    · have hq : q < 72057594037927936 := by
        rw [HQ.out]
        have h1 := wval_lt (sub s.data.toList (i.toNat + 1) j)
        have h2 : (sub s.data.toList (i.toNat + 1) j).length ≤ 7 := by simp [sub]; omega
        exact Nat.lt_of_lt_of_le h1 (Nat.pow_le_pow_right (by decide) h2)
      have hx : (i + ((j : Int) + 1)).toNat < s.size := by omega
      have HT := Lib.hid (show 256 * q + (s[(i + ((j : Int) + 1)).toNat]).toNat = wval (sub s.data.toList (i.toNat + 1) (j + 1)) by
        rw [sub_succ s (i.toNat + 1) j (by omega), wval_snoc, HQ.out]
        congr 2
        simp only [show (i + ((j : Int) + 1)).toNat = i.toNat + 1 + j by omega])
      have hcl := (s[(i + ((j : Int) + 1)).toNat]).toNat_lt
      generalize hcc : (s[(i + ((j : Int) + 1)).toNat]).toNat = c at *
      go_wp2_with fail
      go_round
      case rel => exact ⟨j + 1, 256 * q + c, by omega, by go_num, by go_num, HT⟩
      case measure => simp [intOf]; omega
    · have hjm : j = 1 := by omega
      have H := Lib.hid (show q = wval (sub s.data.toList (i.toNat + 1) 1) by rw [HQ.out, hjm])
      subst hjm
      clear hw
      generalize hv : wval (sub s.data.toList (i.toNat + 1) 1) = v at *
      go_wp2_with fail
      go_ret3
      exact ⟨by rw [← H.out]; rfl, below_alloc hbW _ (Nat.le_refl _)⟩
set_option maxRecDepth 100000 in
set_option maxHeartbeats 400000 in
theorem any_spec_1_no (s : ByteArray) (i : Int) (w : World) (hs : s.size ≤ 9223372036854775800) (hi0 : 0 ≤ i) (hi1 : i < s.size) (hlow : byteAt s i % 32 = 24) (hfit : (s.size : Int) < i + 1 + 1) :
    Calls Tryd.prog 134 #[.string s, .int .i64 i] w fun e w' => Head3 (-1) 0 (-1) e ∧ Below w.heap.size w w' := by
  have hlt : i.toNat < s.size := by omega
  have HB := Lib.hid (byteAt_eq s i hlt)
  obtain ⟨hb0, hb1⟩ := byteAt_range s i
  have ha := and31 (byteAt s i) hb0 hb1
  rw [hlow] at ha
  have hw := wval_sub_lt s.data.toList (i.toNat + 1) 1 (by decide)
  generalize byteAt s i = b at *
  have he := HB.out.symm
  go_enter Tryd.func134, Tryd.ntmps134
  go_wp2_with fail
  go_quiet (fail)
  have hbW : Below w.heap.size w (w.drewN nq) := below_drewN (Below.refl _ _) _
  generalize w.drewN nq = W at *
  go_wp2_with fail
  go_ret3
  exact ⟨rfl, below_alloc hbW _ (Nat.le_refl _)⟩
set_option maxRecDepth 100000 in
set_option maxHeartbeats 400000 in
theorem any_spec_2_yes (s : ByteArray) (i : Int) (w : World) (hs : s.size ≤ 9223372036854775800) (hi0 : 0 ≤ i) (hi1 : i < s.size) (hlow : byteAt s i % 32 = 25) (hfit : i + 1 + 2 ≤ s.size) :
    Calls Tryd.prog 134 #[.string s, .int .i64 i] w fun e w' => Head3 (byteAt s i / 32) (wval (sub s.data.toList (i.toNat + 1) 2)) (i + 1 + 2) e ∧ Below w.heap.size w w' := by
  have hlt : i.toNat < s.size := by omega
  have HB := Lib.hid (byteAt_eq s i hlt)
  obtain ⟨hb0, hb1⟩ := byteAt_range s i
  have ha := and31 (byteAt s i) hb0 hb1
  rw [hlow] at ha
  have hw := wval_sub_lt s.data.toList (i.toNat + 1) 2 (by decide)
  generalize byteAt s i = b at *
  have he := HB.out.symm
  go_enter Tryd.func134, Tryd.ntmps134
  go_wp2_with fail
  go_quiet (fail)
  have hbW : Below w.heap.size w (w.drewN nq) := below_drewN (Below.refl _ _) _
  generalize w.drewN nq = W at *
  go_wp2_with fail
  go_loop [10, 11] (fun n k => ∃ j : Nat, ∃ q : Nat, j ≤ 2 ∧ k = .int .i64 (j + 1) ∧ n = .int .u64 q ∧ Hid (q = wval (sub s.data.toList (i.toNat + 1) j))) (fun _ k => (2 + 1 - intOf k).toNat)
  case atStart => exact ⟨0, 0, by omega, rfl, rfl, Lib.hid (by simp [sub, wval])⟩
  case round =>
    obtain ⟨j, q, hj, rfl, rfl, HQ⟩ := hrel
    by_cases hlt2 : j < 2
    · have hq : q < 72057594037927936 := by
        rw [HQ.out]
        have h1 := wval_lt (sub s.data.toList (i.toNat + 1) j)
        have h2 : (sub s.data.toList (i.toNat + 1) j).length ≤ 7 := by simp [sub]; omega
        exact Nat.lt_of_lt_of_le h1 (Nat.pow_le_pow_right (by decide) h2)
      have hx : (i + ((j : Int) + 1)).toNat < s.size := by omega
      have HT := Lib.hid (show 256 * q + (s[(i + ((j : Int) + 1)).toNat]).toNat = wval (sub s.data.toList (i.toNat + 1) (j + 1)) by
        rw [sub_succ s (i.toNat + 1) j (by omega), wval_snoc, HQ.out]
        congr 2
        simp only [show (i + ((j : Int) + 1)).toNat = i.toNat + 1 + j by omega])
      have hcl := (s[(i + ((j : Int) + 1)).toNat]).toNat_lt
      generalize hcc : (s[(i + ((j : Int) + 1)).toNat]).toNat = c at *
      go_wp2_with fail
      go_round
      case rel => exact ⟨j + 1, 256 * q + c, by omega, by go_num, by go_num, HT⟩
      case measure => simp [intOf]; omega
    · have hjm : j = 2 := by omega
      have H := Lib.hid (show q = wval (sub s.data.toList (i.toNat + 1) 2) by rw [HQ.out, hjm])
      subst hjm
      clear hw
      generalize hv : wval (sub s.data.toList (i.toNat + 1) 2) = v at *
      go_wp2_with fail
      go_ret3
      exact ⟨by rw [← H.out]; rfl, below_alloc hbW _ (Nat.le_refl _)⟩
set_option maxRecDepth 100000 in
set_option maxHeartbeats 400000 in
theorem any_spec_2_no (s : ByteArray) (i : Int) (w : World) (hs : s.size ≤ 9223372036854775800) (hi0 : 0 ≤ i) (hi1 : i < s.size) (hlow : byteAt s i % 32 = 25) (hfit : (s.size : Int) < i + 1 + 2) :
    Calls Tryd.prog 134 #[.string s, .int .i64 i] w fun e w' => Head3 (-1) 0 (-1) e ∧ Below w.heap.size w w' := by
  have hlt : i.toNat < s.size := by omega
  have HB := Lib.hid (byteAt_eq s i hlt)
  obtain ⟨hb0, hb1⟩ := byteAt_range s i
  have ha := and31 (byteAt s i) hb0 hb1
  rw [hlow] at ha
  have hw := wval_sub_lt s.data.toList (i.toNat + 1) 2 (by decide)
  generalize byteAt s i = b at *
  have he := HB.out.symm
  go_enter Tryd.func134, Tryd.ntmps134
  go_wp2_with fail
  go_quiet (fail)
  have hbW : Below w.heap.size w (w.drewN nq) := below_drewN (Below.refl _ _) _
  generalize w.drewN nq = W at *
  go_wp2_with fail
  go_ret3
  exact ⟨rfl, below_alloc hbW _ (Nat.le_refl _)⟩
set_option maxRecDepth 100000 in
set_option maxHeartbeats 400000 in
theorem any_spec_4_yes (s : ByteArray) (i : Int) (w : World) (hs : s.size ≤ 9223372036854775800) (hi0 : 0 ≤ i) (hi1 : i < s.size) (hlow : byteAt s i % 32 = 26) (hfit : i + 1 + 4 ≤ s.size) :
    Calls Tryd.prog 134 #[.string s, .int .i64 i] w fun e w' => Head3 (byteAt s i / 32) (wval (sub s.data.toList (i.toNat + 1) 4)) (i + 1 + 4) e ∧ Below w.heap.size w w' := by
  have hlt : i.toNat < s.size := by omega
  have HB := Lib.hid (byteAt_eq s i hlt)
  obtain ⟨hb0, hb1⟩ := byteAt_range s i
  have ha := and31 (byteAt s i) hb0 hb1
  rw [hlow] at ha
  have hw := wval_sub_lt s.data.toList (i.toNat + 1) 4 (by decide)
  generalize byteAt s i = b at *
  have he := HB.out.symm
  go_enter Tryd.func134, Tryd.ntmps134
  go_wp2_with fail
  go_quiet (fail)
  have hbW : Below w.heap.size w (w.drewN nq) := below_drewN (Below.refl _ _) _
  generalize w.drewN nq = W at *
  go_wp2_with fail
  go_loop [10, 11] (fun n k => ∃ j : Nat, ∃ q : Nat, j ≤ 4 ∧ k = .int .i64 (j + 1) ∧ n = .int .u64 q ∧ Hid (q = wval (sub s.data.toList (i.toNat + 1) j))) (fun _ k => (4 + 1 - intOf k).toNat)
  case atStart => exact ⟨0, 0, by omega, rfl, rfl, Lib.hid (by simp [sub, wval])⟩
  case round =>
    obtain ⟨j, q, hj, rfl, rfl, HQ⟩ := hrel
    by_cases hlt2 : j < 4
    · have hq : q < 72057594037927936 := by
        rw [HQ.out]
        have h1 := wval_lt (sub s.data.toList (i.toNat + 1) j)
        have h2 : (sub s.data.toList (i.toNat + 1) j).length ≤ 7 := by simp [sub]; omega
        exact Nat.lt_of_lt_of_le h1 (Nat.pow_le_pow_right (by decide) h2)
      have hx : (i + ((j : Int) + 1)).toNat < s.size := by omega
      have HT := Lib.hid (show 256 * q + (s[(i + ((j : Int) + 1)).toNat]).toNat = wval (sub s.data.toList (i.toNat + 1) (j + 1)) by
        rw [sub_succ s (i.toNat + 1) j (by omega), wval_snoc, HQ.out]
        congr 2
        simp only [show (i + ((j : Int) + 1)).toNat = i.toNat + 1 + j by omega])
      have hcl := (s[(i + ((j : Int) + 1)).toNat]).toNat_lt
      generalize hcc : (s[(i + ((j : Int) + 1)).toNat]).toNat = c at *
      go_wp2_with fail
      go_round
      case rel => exact ⟨j + 1, 256 * q + c, by omega, by go_num, by go_num, HT⟩
      case measure => simp [intOf]; omega
    · have hjm : j = 4 := by omega
      have H := Lib.hid (show q = wval (sub s.data.toList (i.toNat + 1) 4) by rw [HQ.out, hjm])
      subst hjm
      clear hw
      generalize hv : wval (sub s.data.toList (i.toNat + 1) 4) = v at *
      go_wp2_with fail
      go_ret3
      exact ⟨by rw [← H.out]; rfl, below_alloc hbW _ (Nat.le_refl _)⟩
set_option maxRecDepth 100000 in
set_option maxHeartbeats 400000 in
theorem any_spec_4_no (s : ByteArray) (i : Int) (w : World) (hs : s.size ≤ 9223372036854775800) (hi0 : 0 ≤ i) (hi1 : i < s.size) (hlow : byteAt s i % 32 = 26) (hfit : (s.size : Int) < i + 1 + 4) :
    Calls Tryd.prog 134 #[.string s, .int .i64 i] w fun e w' => Head3 (-1) 0 (-1) e ∧ Below w.heap.size w w' := by
  have hlt : i.toNat < s.size := by omega
  have HB := Lib.hid (byteAt_eq s i hlt)
  obtain ⟨hb0, hb1⟩ := byteAt_range s i
  have ha := and31 (byteAt s i) hb0 hb1
  rw [hlow] at ha
  have hw := wval_sub_lt s.data.toList (i.toNat + 1) 4 (by decide)
  generalize byteAt s i = b at *
  have he := HB.out.symm
  go_enter Tryd.func134, Tryd.ntmps134
  go_wp2_with fail
  go_quiet (fail)
  have hbW : Below w.heap.size w (w.drewN nq) := below_drewN (Below.refl _ _) _
  generalize w.drewN nq = W at *
  go_wp2_with fail
  go_ret3
  exact ⟨rfl, below_alloc hbW _ (Nat.le_refl _)⟩
set_option maxRecDepth 100000 in
set_option maxHeartbeats 400000 in
theorem any_spec_8_yes (s : ByteArray) (i : Int) (w : World) (hs : s.size ≤ 9223372036854775800) (hi0 : 0 ≤ i) (hi1 : i < s.size) (hlow : byteAt s i % 32 = 27) (hfit : i + 1 + 8 ≤ s.size) :
    Calls Tryd.prog 134 #[.string s, .int .i64 i] w fun e w' => Head3 (byteAt s i / 32) (wval (sub s.data.toList (i.toNat + 1) 8)) (i + 1 + 8) e ∧ Below w.heap.size w w' := by
  have hlt : i.toNat < s.size := by omega
  have HB := Lib.hid (byteAt_eq s i hlt)
  obtain ⟨hb0, hb1⟩ := byteAt_range s i
  have ha := and31 (byteAt s i) hb0 hb1
  rw [hlow] at ha
  have hw := wval_sub_lt s.data.toList (i.toNat + 1) 8 (by decide)
  generalize byteAt s i = b at *
  have he := HB.out.symm
  go_enter Tryd.func134, Tryd.ntmps134
  go_wp2_with fail
  go_quiet (fail)
  have hbW : Below w.heap.size w (w.drewN nq) := below_drewN (Below.refl _ _) _
  generalize w.drewN nq = W at *
  go_wp2_with fail
  go_loop [10, 11] (fun n k => ∃ j : Nat, ∃ q : Nat, j ≤ 8 ∧ k = .int .i64 (j + 1) ∧ n = .int .u64 q ∧ Hid (q = wval (sub s.data.toList (i.toNat + 1) j))) (fun _ k => (8 + 1 - intOf k).toNat)
  case atStart => exact ⟨0, 0, by omega, rfl, rfl, Lib.hid (by simp [sub, wval])⟩
  case round =>
    obtain ⟨j, q, hj, rfl, rfl, HQ⟩ := hrel
    by_cases hlt2 : j < 8
    · have hq : q < 72057594037927936 := by
        rw [HQ.out]
        have h1 := wval_lt (sub s.data.toList (i.toNat + 1) j)
        have h2 : (sub s.data.toList (i.toNat + 1) j).length ≤ 7 := by simp [sub]; omega
        exact Nat.lt_of_lt_of_le h1 (Nat.pow_le_pow_right (by decide) h2)
      have hx : (i + ((j : Int) + 1)).toNat < s.size := by omega
      have HT := Lib.hid (show 256 * q + (s[(i + ((j : Int) + 1)).toNat]).toNat = wval (sub s.data.toList (i.toNat + 1) (j + 1)) by
        rw [sub_succ s (i.toNat + 1) j (by omega), wval_snoc, HQ.out]
        congr 2
        simp only [show (i + ((j : Int) + 1)).toNat = i.toNat + 1 + j by omega])
      have hcl := (s[(i + ((j : Int) + 1)).toNat]).toNat_lt
      generalize hcc : (s[(i + ((j : Int) + 1)).toNat]).toNat = c at *
      go_wp2_with fail
      go_round
      case rel => exact ⟨j + 1, 256 * q + c, by omega, by go_num, by go_num, HT⟩
      case measure => simp [intOf]; omega
    · have hjm : j = 8 := by omega
      have H := Lib.hid (show q = wval (sub s.data.toList (i.toNat + 1) 8) by rw [HQ.out, hjm])
      subst hjm
      clear hw
      generalize hv : wval (sub s.data.toList (i.toNat + 1) 8) = v at *
      go_wp2_with fail
      go_ret3
      exact ⟨by rw [← H.out]; rfl, below_alloc hbW _ (Nat.le_refl _)⟩
set_option maxRecDepth 100000 in
set_option maxHeartbeats 400000 in
theorem any_spec_8_no (s : ByteArray) (i : Int) (w : World) (hs : s.size ≤ 9223372036854775800) (hi0 : 0 ≤ i) (hi1 : i < s.size) (hlow : byteAt s i % 32 = 27) (hfit : (s.size : Int) < i + 1 + 8) :
    Calls Tryd.prog 134 #[.string s, .int .i64 i] w fun e w' => Head3 (-1) 0 (-1) e ∧ Below w.heap.size w w' := by
  have hlt : i.toNat < s.size := by omega
  have HB := Lib.hid (byteAt_eq s i hlt)
  obtain ⟨hb0, hb1⟩ := byteAt_range s i
  have ha := and31 (byteAt s i) hb0 hb1
  rw [hlow] at ha
  have hw := wval_sub_lt s.data.toList (i.toNat + 1) 8 (by decide)
  generalize byteAt s i = b at *
  have he := HB.out.symm
  go_enter Tryd.func134, Tryd.ntmps134
  go_wp2_with fail
  go_quiet (fail)
  have hbW : Below w.heap.size w (w.drewN nq) := below_drewN (Below.refl _ _) _
  generalize w.drewN nq = W at *
  go_wp2_with fail
  go_ret3
  exact ⟨rfl, below_alloc hbW _ (Nat.le_refl _)⟩
end Go.Proofs.YtgbgeocmjdgmoaaDoor
namespace Go.Proofs.YtgbgeocmjdgmoaaDoor
set_option linter.unusedSimpArgs false
set_option linter.unusedVariables false
set_option maxRecDepth 100000
open Go.RowKit
def PredRet (I J : World → Prop) (e : Ending) (w' : World) : Prop := (e = .returned (.bool false) ∧ I w') ∨ (e = .returned (.bool true) ∧ J w')
def IdxRet (I J : Nat → World → Prop) (n : Nat) (e : Ending) (w' : World) : Prop := (e = .returned (.int .i64 (-1)) ∧ I n w') ∨ ∃ i, i < n ∧ e = .returned (.int .i64 (i : Nat)) ∧ J i w'
def HasRet (I J : Nat → World → Prop) (n : Nat) (e : Ending) (w' : World) : Prop := (e = .returned (.bool false) ∧ I n w') ∨ ∃ i, i < n ∧ e = .returned (.bool true) ∧ J i w'
set_option maxHeartbeats 1000000 in
theorem index2_any (w0 : World) (F : FuncId) (c1 c2 : Value) (hF : ∀ (args : Array Value) (w : World), (callFunc F args).run Tryd.prog w = .ok (.enter F args) w) (v : Value) (ts : List V) (h : RepS w0 v ts) (I J : Nat → World → Prop)
    (hI0 : ∀ i w, I i w → Below w0.heap.size w0 w)
    (hY : ∀ i (hi : i < ts.length) (sl : Value) (w : World), RepS w0 sl ts[i].kids → ts[i].wf → I i w → Calls Tryd.prog F #[ts[i].agg sl, c1, c2] w (PredRet (I (i + 1)) (J i))) (w : World) (hw : I 0 w) :
    Calls Tryd.prog 164 #[v, .func (.func F) #[] #[c1, c2]] w (IdxRet I J ts.length) := by
  obtain ⟨a, b, off, cap, rfl, ha, hc, hm, sls, hel⟩ := h.opened
  have HA := Lib.hid ha; have HE := Lib.hid hel; have HY := Lib.hid hY; have HI := Lib.hid hI0; have HW := Lib.hid hw
  have hl63 : ts.length ≤ 9223372036854775807 := by omega
  have HP1 := Lib.hid (show ∀ w', I ts.length w' → IdxRet I J ts.length (.returned (.int .i64 (-1))) w' from fun w' h => .inl ⟨rfl, h⟩)
  have HP2 := Lib.hid (show ∀ i w', i < ts.length → J i w' → IdxRet I J ts.length (.returned (.int .i64 (i : Nat))) w' from fun i w' h1 h2 => .inr ⟨i, h1, rfl, h2⟩)
  clear ha hel hY hI0 hw hc hm h
  go_enter Tryd.func164, Tryd.ntmps164
  go_wp2_with fail
  go_loopw [8] (fun i wr => ∃ k : Nat, k ≤ ts.length ∧ i = .int .i64 k ∧ Hid (I k wr)) (fun i _ => ts.length - (intOf i).toNat)
  case atStart => exact ⟨0, by omega, rfl, HW⟩
  case round =>
    obtain ⟨k, hk, rfl, HK⟩ := hrel
    by_cases hlt : k < ts.length
    · have hne : ts ≠ [] := by intro e; rw [e] at hlt; simp at hlt
      obtain ⟨rfl, hbw⟩ := HA.out hne
      have HWR := Lib.hid (HI.out k wr HK.out)
      obtain ⟨c0, c1', c2', c3, c4⟩ := (HE.out k hlt).1.keep (HWR.out.block b hbw)
      have Y1 := Lib.hid (HY.out k hlt (sls k) wr (HE.out k hlt).2.2 (HE.out k hlt).2.1 HK.out)
      obtain ⟨a3, cap3, hs3⟩ := (HE.out k hlt).2.2.slice
      rw [hs3] at c4 Y1
      unfold V.agg at Y1
      clear hs3
      generalize ts[k].k = xk at *
      generalize ts[k].n = xn at *
      generalize ts[k].e = xe at *
      generalize ts[k].s = xs at *
      go_wp2_with fail
      refine Y1.out.mono ?_
      rintro e1 w1 hpost
      rcases hpost with ⟨rfl, hi1⟩ | ⟨rfl, hj1⟩
      · have HI1 := Lib.hid hi1; clear hi1
        go_wp2_with fail
        go_roundw
        case rel => exact ⟨k + 1, by omega, by go_num, HI1⟩
        case measure => simp [intOf]; omega
      · have HP := Lib.hid (HP2.out k w1 hlt hj1); clear hj1
        go_wp2_with fail
        go_ret
        exact HP.out
    · have hkl : k = ts.length := by omega
      subst hkl
      have HP := Lib.hid (HP1.out wr HK.out)
      go_wp2_with fail
      go_ret
      exact HP.out
set_option maxHeartbeats 400000 in
theorem has2_any (w0 : World) (F : FuncId) (c1 c2 : Value) (hF : ∀ (args : Array Value) (w : World), (callFunc F args).run Tryd.prog w = .ok (.enter F args) w) (v : Value) (ts : List V) (h : RepS w0 v ts) (I J : Nat → World → Prop)
    (hI0 : ∀ i w, I i w → Below w0.heap.size w0 w)
    (hY : ∀ i (hi : i < ts.length) (sl : Value) (w : World), RepS w0 sl ts[i].kids → ts[i].wf → I i w → Calls Tryd.prog F #[ts[i].agg sl, c1, c2] w (PredRet (I (i + 1)) (J i))) (w : World) (hw : I 0 w) :
    Calls Tryd.prog 106 #[v, .func (.func F) #[] #[c1, c2]] w (HasRet I J ts.length) := by
  have IX := Lib.hid (index2_any w0 F c1 c2 hF v ts h I J hI0 hY w hw)
  obtain ⟨a, b, off, cap, rfl, _⟩ := h.opened
  have HP1 := Lib.hid (show ∀ w', I ts.length w' → HasRet I J ts.length (.returned (.bool false)) w' from fun w' h => .inl ⟨rfl, h⟩)
  have HP2 := Lib.hid (show ∀ i w', i < ts.length → J i w' → HasRet I J ts.length (.returned (.bool true)) w' from fun i w' h1 h2 => .inr ⟨i, h1, rfl, h2⟩)
  clear hI0 hY hw h
  go_enter Tryd.func106, Tryd.ntmps106
  go_wp2_with fail
  refine IX.out.mono ?_
  rintro e1 w1 hpost
  rcases hpost with ⟨rfl, hi1⟩ | ⟨i, hi, rfl, hj1⟩
  · have HP := Lib.hid (HP1.out w1 hi1); clear hi1
    go_wp2_with fail
    go_ret
    exact HP.out
  · have HP := Lib.hid (HP2.out i w1 hi hj1); clear hj1
    have h0 : (0 : Int) ≤ (i : Int) := by omega
    go_wp2_with fail
    go_ret
    exact HP.out
end Go.Proofs.YtgbgeocmjdgmoaaDoor
namespace Go.Proofs.YtgbgeocmjdgmoaaDoor
set_option linter.unusedSimpArgs false
set_option linter.unusedVariables false
set_option maxRecDepth 100000
open Go.RowKit
theorem Box.overB {w w' : World} {B b : Nat} {k n e : Int} {s : ByteArray} {sl : Value} {T : TypeId} (h : Box w b k n e s sl T) (hb : Below B w w') (hB : b < B) : Box w' b k n e s sl T := (hb.block b hB).trans h
def Cell1 (w : World) (c : Nat) (v : Value) (T : TypeId) : Prop := w.heap[c]? = some (.cells #[v] T (0, 0))
theorem Cell1.over {w w' : World} {c : Nat} {v : Value} {T : TypeId} (h : Cell1 w c v T) (hb : w'.heap[c]? = w.heap[c]?) : Cell1 w' c v T := hb.trans h
def oneC (c : Nat) : Nat → Prop := fun x => x = c
def LeftIs (c : Nat) (w w' : World) (L : Int) : Prop := Cell1 w' c (.int .i64 L) 3 ∧ -1 ≤ L ∧ L ≤ 300 ∧ Touch (oneC c) (oneC c) w w'
def IVRet (o : Option Int) (c : Nat) (w : World) (e : Ending) (w' : World) : Prop := e = .returned (.bool o.isSome) ∧ ∃ L', LeftIs c w w' L' ∧ ∀ r, o = some r → L' = r
def IV1Ret (o : Option Int) (c : Nat) (w : World) (e : Ending) (w' : World) : Prop := e = .returned (.bool (!o.isSome)) ∧ ∃ L', LeftIs c w w' L' ∧ ∀ r, o = some r → L' = r
set_option maxHeartbeats 400000 in
theorem isValue1_any (k n e : Int) (s : ByteArray) (sl : Value) (p1 p2 c : Nat) (d : Int) (o : Option Int) (hd0 : 0 ≤ d) (hd1 : d ≤ 20) (w : World) (h1 : Cell1 w p1 (.int .i64 d) 3) (h2 : Cell1 w p2 (.pointer (some ⟨c, 0, none⟩)) 91)
    (hc : c < w.heap.size) (IVH : ∀ W, Below w.heap.size w W → Calls Tryd.prog 96 #[.agg #[.int .i64 k, .int .i64 n, .int .i64 e, .string s, sl], .int .i64 (d + 1), .pointer (some ⟨c, 0, none⟩)] W (IVRet o c W)) :
    Calls Tryd.prog 156 #[.agg #[.int .i64 k, .int .i64 n, .int .i64 e, .string s, sl], .pointer (some ⟨p1, 0, none⟩), .pointer (some ⟨p2, 0, none⟩)] w (IV1Ret o c w) := by
  have d1 := cell_of_one h1
  have d2 := cell_of_one h2
  have l1 := lt_of_heap h1
  have l2 := lt_of_heap h2
  have IV := Lib.hid IVH
  clear h1 h2 IVH
  go_enter Tryd.func156, Tryd.ntmps156
  go_wp2_with fail
  refine (IV.out _ (by (repeat' (first | with_reducible exact Below.refl _ _ | with_reducible refine below_alloc ?_ _ ?_ | with_reducible refine Below.setCell ?_ ?_ _ | with_reducible refine Below.drew ?_ | with_reducible refine below_drewN ?_ _ | with_reducible refine below_step ?_ (by assumption) ?_ | with_reducible refine below_mark ?_ (by assumption) ?_)); all_goals (first | omega | (simp; done) | (simp; omega)))).mono ?_
  rintro x w1 ⟨rfl, L', ⟨hL1, hL2, hL3, hL4⟩, hL5⟩
  have HL := Lib.hid (show ∃ L', LeftIs c w w1 L' ∧ ∀ r, o = some r → L' = r from ⟨L', ⟨hL1, hL2, hL3, Touch.trans (Touch.of_below (A := oneC c) ((by (repeat' (first | with_reducible exact Below.refl _ _ | with_reducible refine below_alloc ?_ _ ?_ | with_reducible refine Below.setCell ?_ ?_ _ | with_reducible refine Below.drew ?_ | with_reducible refine below_drewN ?_ _ | with_reducible refine below_step ?_ (by assumption) ?_ | with_reducible refine below_mark ?_ (by assumption) ?_)); all_goals (first | omega | (simp; done) | (simp; omega))))) hL4⟩, hL5⟩)
  clear hL1 hL2 hL3 hL4 hL5
  go_wp2_with fail
  go_ret
  exact ⟨by cases o <;> rfl, HL.out⟩
theorem enters_isValue1 : ∀ (args : Array Value) (w : World), (callFunc 156 args).run Tryd.prog w = .ok (.enter 156 args) w := by
  intro args w
  have h1 : (Tryd.f156.name == "runtime.NumGoroutine") = false := by kernel_rfl
  have h2 : Tryd.f156.body.isNone = false := by kernel_rfl
  have h1' : ¬ Tryd.f156.name = "runtime.NumGoroutine" := by simpa using h1
  have h2' : ¬ Tryd.f156.body = none := by intro e; rw [e] at h2; cases h2
  simp [callFunc, Tryd.func156, go_sem, h1', h2']
theorem imps_take (ts : List V) (d L : Int) (i : Nat) (h : i < ts.length) : imps (ts.take (i + 1)) d L = (imps (ts.take i) d L).bind fun x => imp ts[i] d x := by
  have app : ∀ (a b : List V) (L : Int), imps (a ++ b) d L = (imps a d L).bind fun x => imps b d x := by
    intro a
    induction a with
    | nil => intro b L; simp [imps]
    | cons t a ih => intro b L; simp only [List.cons_append, imps]; cases imp t d L <;> simp [ih]
  rw [List.take_succ_eq_append_getElem h, app]
  congr 1
  funext x
  simp only [imps]
  cases imp ts[i] d x <;> rfl
theorem imps_none (ts : List V) (d L : Int) (i : Nat) (h : imps (ts.take i) d L = none) : imps ts d L = none := by
  have app : ∀ (a b : List V) (L : Int), imps (a ++ b) d L = (imps a d L).bind fun x => imps b d x := by
    intro a
    induction a with
    | nil => intro b L; simp [imps]
    | cons t a ih => intro b L; simp only [List.cons_append, imps]; cases imp t d L <;> simp [ih]
  have := app (ts.take i) (ts.drop i) L
  rw [List.take_append_drop, h] at this
  exact this
theorem imp_bounds (t : V) (d L r : Int) (hd : 0 ≤ d) (h0 : 0 ≤ L) (h1 : L ≤ 300) (h : imp t d L = some r) : 0 ≤ r ∧ r ≤ 300 := by
  rw [imp_is t d L hd h0 h1] at h
  split at h
  · injection h with h; omega
  · cases h
set_option maxHeartbeats 4000000 in
theorem isValue_all (w0 : World) (hE : Env w0) : ∀ (N : Nat) (v : Value) (ts : List V), szs ts ≤ N → RepS w0 v ts → szs ts ≤ 1048576 → ∀ (u : V), u.kids = ts → u.wf → ∀ (d L : Int) (c : Nat) (w : World), 0 ≤ d → d ≤ 13 → 0 ≤ L → L ≤ 300 → w0.heap.size ≤ c →
    Cell1 w c (.int .i64 L) 3 → Below w0.heap.size w0 w → Calls Tryd.prog 96 #[u.agg v, .int .i64 d, .pointer (some ⟨c, 0, none⟩)] w (IVRet (imp u d L) c w) := by
  intro N
  induction N using Nat.strongRecOn with
  | ind N ih =>
  intro v ts hN hrep hsz u huk uwf d L c w hd0 hd1 hL0 hL1 hc0 hcell hw
  obtain ⟨a, cap, rfl⟩ := hrep.slice
  have hcw := lt_of_heap hcell
  have hlen : ts.length ≤ 1048576 := Nat.le_trans (szs_length ts) hsz
  have HO := Lib.hid (show imp u d L = if impStep u d L then imps ts (d + 1) (L - 1) else none by rw [imp_eq, huk])
  have HS := Lib.hid (show impStep u d L = (decide (0 ≤ L - 1 ∧ d ≤ 12 ∧ (ts.length : Int) ≤ L - 1) && nodeB u && areB u) by unfold impStep; rw [huk])
  have ND := Lib.hid (fun (W : World) (hW : Below w0.heap.size w0 W) => isNode_any u (.slice a ts.length cap) W uwf (hE.keep hW))
  have AK := Lib.hid (fun (W : World) (hW : Below w0.heap.size w0 W) => areKids_any w0 u (.slice a ts.length cap) (by rw [huk]; exact hrep) uwf W hW (by rw [huk]; exact hlen))
  have IH := Lib.hid (show ∀ i (hi : i < ts.length) (sl : Value), RepS w0 sl ts[i].kids → ∀ (d L : Int) (c : Nat) (w : World), 0 ≤ d → d ≤ 13 → 0 ≤ L → L ≤ 300 → w0.heap.size ≤ c → Cell1 w c (.int .i64 L) 3 → Below w0.heap.size w0 w → ts[i].wf → Calls Tryd.prog 96 #[ts[i].agg sl, .int .i64 d, .pointer (some ⟨c, 0, none⟩)] w (IVRet (imp ts[i] d L) c w) from
    fun i hi sl hrs d L c w h1 h2 h3 h4 h5 h6 h7 h8 => by
      have q1 := szs_mem (List.getElem_mem hi); have q2 := V.sz_eq ts[i]
      exact ih (szs ts[i].kids) (by omega) sl ts[i].kids (Nat.le_refl _) hrs (by omega) ts[i] rfl h8 d L c w h1 h2 h3 h4 h5 h6 h7)
  have HREP := Lib.hid hrep; have HSZ := Lib.hid hsz
  clear ih hsz hrep hE
  have HW := Lib.hid hw
  have hws := hw.size
  obtain ⟨o, ho⟩ : ∃ o, o = imp u d L := ⟨_, rfl⟩
  rw [← ho] at HO ⊢
  have HCELL := Lib.hid hcell
  clear ho hw hcell
  unfold V.agg at ND AK ⊢
  generalize nodeB u = nb at *
  generalize areB u = ab at *
  generalize u.k = vk at *
  generalize u.n = vn at *
  generalize u.e = ve at *
  generalize u.s = vs at *
  generalize hW3 : ((w.alloc (.cells #[.int .i64 vk, .int .i64 vn, .int .i64 ve, .string vs, .slice a ts.length cap] 26)).alloc (.cells #[.int .i64 d] 3)).alloc (.cells #[.pointer (some ⟨c, 0, none⟩)] 91) = W3
  have HB3 := Lib.hid (show Below w.heap.size w W3 by rw [← hW3]; exact (by (repeat' (first | with_reducible exact Below.refl _ _ | with_reducible refine below_alloc ?_ _ ?_ | with_reducible refine Below.setCell ?_ ?_ _ | with_reducible refine Below.drew ?_ | with_reducible refine below_drewN ?_ _ | with_reducible refine below_step ?_ (by assumption) ?_ | with_reducible refine below_mark ?_ (by assumption) ?_)); all_goals (first | omega | (simp; done) | (simp; omega))))
  have HX3 := Lib.hid (show Box W3 w.heap.size vk vn ve vs (.slice a ts.length cap) 26 ∧ Cell1 W3 (w.heap.size + 1) (.int .i64 d) 3 ∧ Cell1 W3 (w.heap.size + 1 + 1) (.pointer (some ⟨c, 0, none⟩)) 91 by
    have z1 : (w.alloc (.cells #[.int .i64 vk, .int .i64 vn, .int .i64 ve, .string vs, .slice a ts.length cap] 26)).heap.size = w.heap.size + 1 := by simp
    have z2 : ((w.alloc (.cells #[.int .i64 vk, .int .i64 vn, .int .i64 ve, .string vs, .slice a ts.length cap] 26)).alloc (.cells #[.int .i64 d] 3)).heap.size = w.heap.size + 1 + 1 := by simp
    rw [← hW3]
    refine ⟨((Box.new w vk vn ve vs _ _).alloc _).alloc _, ?_, ?_⟩
    · refine Cell1.over ?_ (heap_alloc_old _ _ (by rw [z2]; omega))
      have := heap_alloc_new (w.alloc (.cells #[.int .i64 vk, .int .i64 vn, .int .i64 ve, .string vs, .slice a ts.length cap] 26)) (.cells #[.int .i64 d] 3)
      rw [z1] at this; exact this
    · have := heap_alloc_new ((w.alloc (.cells #[.int .i64 vk, .int .i64 vn, .int .i64 ve, .string vs, .slice a ts.length cap] 26)).alloc (.cells #[.int .i64 d] 3)) (.cells #[.pointer (some ⟨c, 0, none⟩)] 91)
      rw [z2] at this; exact this)
  have hz3 : W3.heap.size = w.heap.size + 1 + 1 + 1 := by rw [← hW3]; simp
  have HZ3 := Lib.hid hz3
  have dc : (((w.alloc (.cells #[.int .i64 vk, .int .i64 vn, .int .i64 ve, .string vs, .slice a ts.length cap] 26)).alloc (.cells #[.int .i64 d] 3)).alloc (.cells #[.pointer (some ⟨c, 0, none⟩)] 91)).cell? ⟨c, 0, none⟩ = some (.int .i64 L) := by rw [hW3]; exact cell_of_one ((HB3.out.block c hcw).trans HCELL.out)
  have fc : (((w.alloc (.cells #[.int .i64 vk, .int .i64 vn, .int .i64 ve, .string vs, .slice a ts.length cap] 26)).alloc (.cells #[.int .i64 d] 3)).alloc (.cells #[.pointer (some ⟨c, 0, none⟩)] 91)).frozen? ⟨c, 0, none⟩ = false := by rw [hW3]; exact free_of_one ((HB3.out.block c hcw).trans HCELL.out)
  have HW3 := Lib.hid hW3
  clear hW3 hz3
  go_enter Tryd.func96, Tryd.ntmps96
  go_wp2_with fail
  rw [HW3.out]
  clear dc fc
  generalize hW4 : W3.setCell ⟨c, 0, none⟩ (.int .i64 (L - 1)) = W4
  have HC4 := Lib.hid (show Cell1 W4 c (.int .i64 (L - 1)) 3 by
    rw [← hW4]; have := heap_setCell_same W3 c 0 #[.int .i64 L] _ (.int .i64 (L - 1)) ((HB3.out.block c hcw).trans HCELL.out); exact this)
  have ho4 : ∀ x, x ≠ c → W4.heap[x]? = W3.heap[x]? := fun x hx => by rw [← hW4]; exact heap_setCell_other _ _ _ _ hx
  have HX4 := Lib.hid (show Box W4 w.heap.size vk vn ve vs (.slice a ts.length cap) 26 ∧ Cell1 W4 (w.heap.size + 1) (.int .i64 d) 3 ∧ Cell1 W4 (w.heap.size + 1 + 1) (.pointer (some ⟨c, 0, none⟩)) 91 from
    ⟨(ho4 _ (by omega)).trans HX3.out.1, HX3.out.2.1.over (ho4 _ (by omega)), HX3.out.2.2.over (ho4 _ (by omega))⟩)
  have HT4 := Lib.hid (show Touch (oneC c) (oneC c) w W4 from (Touch.of_below HB3.out).trans (by rw [← hW4]; exact touch_cell W3 c 0 _ rfl))
  have HB4 := Lib.hid (show Below w0.heap.size w0 W4 from HW.out.trans ((HT4.out.below (fun x hx => by have h1 : x = c := hx; omega) hws)))
  have hz4 : W4.heap.size = w.heap.size + 1 + 1 + 1 := by rw [← hW4]; simpa using HZ3.out
  clear hW4 ho4 HX3 HB3 HZ3 HW3 HCELL
  -- what is handed back
  have HNO := Lib.hid (show ∀ (W : World), Below W4.heap.size W4 W → o = none → IVRet o c w (.returned (.bool false)) W from fun W hW h => by
    subst h
    exact ⟨rfl, L - 1, ⟨HC4.out.over (hW.block c (by omega)), by omega, by omega, HT4.out.trans (Touch.of_below hW)⟩, fun r h => by cases h⟩)
  obtain ⟨b0, b1, b2, b3, b4⟩ := HX4.out.1.cells
  have e1 := cell_of_one HX4.out.2.1
  have e2 := cell_of_one HX4.out.2.2
  have e3 := cell_of_one HC4.out
  by_cases c1 : L - 1 < 0
  · have H := Lib.hid (HNO.out · · (show o = none by rw [HO.out, HS.out, decide_eq_false (by omega)]; rfl))
    clear HO HS ND AK IH
    go_quiet (fail)
    all_goals go_wp2_with fail
    all_goals go_ret
    all_goals exact H.out _ (by (repeat' (first | with_reducible exact Below.refl _ _ | with_reducible refine below_alloc ?_ _ ?_ | with_reducible refine Below.setCell ?_ ?_ _ | with_reducible refine Below.drew ?_ | with_reducible refine below_drewN ?_ _ | with_reducible refine below_step ?_ (by assumption) ?_ | with_reducible refine below_mark ?_ (by assumption) ?_)); all_goals (first | omega | (simp; done) | (simp; omega)))
  by_cases c2 : 12 < d
  · have H := Lib.hid (HNO.out · · (show o = none by rw [HO.out, HS.out, decide_eq_false (by omega)]; rfl))
    clear HO HS ND AK IH
    go_quiet (fail)
    all_goals go_wp2_with fail
    all_goals go_ret
    all_goals exact H.out _ (by (repeat' (first | with_reducible exact Below.refl _ _ | with_reducible refine below_alloc ?_ _ ?_ | with_reducible refine Below.setCell ?_ ?_ _ | with_reducible refine Below.drew ?_ | with_reducible refine below_drewN ?_ _ | with_reducible refine below_step ?_ (by assumption) ?_ | with_reducible refine below_mark ?_ (by assumption) ?_)); all_goals (first | omega | (simp; done) | (simp; omega)))
  by_cases c3 : L - 1 < ts.length
  · have H := Lib.hid (HNO.out · · (show o = none by rw [HO.out, HS.out, decide_eq_false (by omega)]; rfl))
    clear HO HS ND AK IH
    go_quiet (fail)
    all_goals go_wp2_with fail
    all_goals go_ret
    all_goals exact H.out _ (by (repeat' (first | with_reducible exact Below.refl _ _ | with_reducible refine below_alloc ?_ _ ?_ | with_reducible refine Below.setCell ?_ ?_ _ | with_reducible refine Below.drew ?_ | with_reducible refine below_drewN ?_ _ | with_reducible refine below_step ?_ (by assumption) ?_ | with_reducible refine below_mark ?_ (by assumption) ?_)); all_goals (first | omega | (simp; done) | (simp; omega)))
  cases nb
  case false =>
    have H := Lib.hid (HNO.out · · (show o = none by rw [HO.out, HS.out]; simp))
    clear HO HS AK IH
    go_region_with (go_at_call 154; refine (ND.out _ (below_mark HB4.out (show Below W4.heap.size W4 _ by exact (by (repeat' (first | with_reducible exact Below.refl _ _ | with_reducible refine below_alloc ?_ _ ?_ | with_reducible refine Below.setCell ?_ ?_ _ | with_reducible refine Below.drew ?_ | with_reducible refine below_drewN ?_ _ | with_reducible refine below_step ?_ (by assumption) ?_ | with_reducible refine below_mark ?_ (by assumption) ?_)); all_goals (first | omega | (simp; done) | (simp; omega)))) (by have := HB4.out.size; omega))).mono ?_; rintro x5 w5 ⟨rfl, hb5⟩)
    all_goals go_wp2_with fail
    all_goals go_ret
    all_goals exact H.out _ (by (repeat' (first | with_reducible exact Below.refl _ _ | with_reducible refine below_alloc ?_ _ ?_ | with_reducible refine Below.setCell ?_ ?_ _ | with_reducible refine Below.drew ?_ | with_reducible refine below_drewN ?_ _ | with_reducible refine below_step ?_ (by assumption) ?_ | with_reducible refine below_mark ?_ (by assumption) ?_)); all_goals (first | omega | (simp; done) | (simp; omega)))
  case true =>
    go_cut [38] (fun s wx => s = .bool (!ab) ∧ Below W4.heap.size W4 wx)
    case first =>
      go_region_with (first | (go_at_call 154; refine (ND.out _ (below_mark HB4.out (show Below W4.heap.size W4 _ by exact (by (repeat' (first | with_reducible exact Below.refl _ _ | with_reducible refine below_alloc ?_ _ ?_ | with_reducible refine Below.setCell ?_ ?_ _ | with_reducible refine Below.drew ?_ | with_reducible refine below_drewN ?_ _ | with_reducible refine below_step ?_ (by assumption) ?_ | with_reducible refine below_mark ?_ (by assumption) ?_)); all_goals (first | omega | (simp; done) | (simp; omega)))) (by have := HB4.out.size; omega))).mono ?_; rintro x5 w5 ⟨rfl, hb5⟩; obtain ⟨y0, y1, y2, y3, y4⟩ := (HX4.out.1.overB (show Below W4.heap.size W4 w5 by exact (by (repeat' (first | with_reducible exact Below.refl _ _ | with_reducible refine below_alloc ?_ _ ?_ | with_reducible refine Below.setCell ?_ ?_ _ | with_reducible refine Below.drew ?_ | with_reducible refine below_drewN ?_ _ | with_reducible refine below_step ?_ (by assumption) ?_ | with_reducible refine below_mark ?_ (by assumption) ?_)); all_goals (first | omega | (simp; done) | (simp; omega)))) (by omega)).cells) | (go_at_call 155; refine (AK.out _ (below_mark HB4.out (show Below W4.heap.size W4 _ by exact (by (repeat' (first | with_reducible exact Below.refl _ _ | with_reducible refine below_alloc ?_ _ ?_ | with_reducible refine Below.setCell ?_ ?_ _ | with_reducible refine Below.drew ?_ | with_reducible refine below_drewN ?_ _ | with_reducible refine below_step ?_ (by assumption) ?_ | with_reducible refine below_mark ?_ (by assumption) ?_)); all_goals (first | omega | (simp; done) | (simp; omega)))) (by have := HB4.out.size; omega))).mono ?_; rintro x6 w6 ⟨rfl, hb6⟩))
      all_goals (go_wp2_with fail; go_meet; exact ⟨rfl, (by (repeat' (first | with_reducible exact Below.refl _ _ | with_reducible refine below_alloc ?_ _ ?_ | with_reducible refine Below.setCell ?_ ?_ _ | with_reducible refine Below.drew ?_ | with_reducible refine below_drewN ?_ _ | with_reducible refine below_step ?_ (by assumption) ?_ | with_reducible refine below_mark ?_ (by assumption) ?_)); all_goals (first | omega | (simp; done) | (simp; omega)))⟩)
    case rest =>
      obtain ⟨rfl, hbc⟩ := hcut
      cases ab
      case false =>
        have H := Lib.hid (HNO.out · · (show o = none by rw [HO.out, HS.out]; simp))
        clear HO HS IH
        go_wp2_with fail
        go_ret
        exact H.out _ hbc
      case true =>
        have HO2 := Lib.hid (show o = imps ts (d + 1) (L - 1) by rw [HO.out, HS.out, decide_eq_true (by omega)]; rfl)
        clear HO HS HNO b0 b1 b2 b3 b4 e1 e2 e3
        have BX := Lib.hid (HX4.out.1.overB hbc (by omega))
        obtain ⟨b0, b1, b2, b3, b4⟩ := BX.out.cells
        have HI := Lib.hid (has2_any w0 156 (.pointer (some ⟨w.heap.size + 1, 0, none⟩)) (.pointer (some ⟨w.heap.size + 1 + 1, 0, none⟩)) enters_isValue1 (.slice a ts.length cap) ts HREP.out
          (fun i W => ∃ Li, imps (ts.take i) (d + 1) (L - 1) = some Li ∧ Cell1 W c (.int .i64 Li) 3 ∧ Cell1 W (w.heap.size + 1) (.int .i64 d) 3 ∧ Cell1 W (w.heap.size + 1 + 1) (.pointer (some ⟨c, 0, none⟩)) 91 ∧ 0 ≤ Li ∧ Li ≤ 300 ∧ Touch (oneC c) (oneC c) w W)
          (fun i W => o = none ∧ ∃ L', LeftIs c w W L')
          (fun i W ⟨Li, _, _, _, _, _, _, ht⟩ => HW.out.trans (ht.below (fun x hx => by have h1 : x = c := hx; omega) hws))
          (fun i hi sl W hrs wfi ⟨Li, h1, h2, h3, h4, h5, h6, ht⟩ => by
            have hbW : Below w0.heap.size w0 W := HW.out.trans (ht.below (fun x hx => by have h1 : x = c := hx; omega) hws)
            refine (isValue1_any ts[i].k ts[i].n ts[i].e ts[i].s sl (w.heap.size + 1) (w.heap.size + 1 + 1) c d (imp ts[i] (d + 1) Li) hd0 (by omega) W h3 h4 (by have := ht.size; omega) (fun W' hW' => ?_)).mono ?_
            · exact IH.out i hi sl hrs (d + 1) Li c W' (by omega) (by omega) h5 h6 hc0 (h2.over (hW'.block c (by have := ht.size; omega))) (hbW.trans (hW'.mono hbW.size)) wfi
            · rintro e w' ⟨rfl, L', ⟨g1, g2, g3, g4⟩, g5⟩
              have ht' := ht.trans g4
              cases hq : imp ts[i] (d + 1) Li with
              | none =>
                right
                refine ⟨rfl, ?_, L', g1, g2, g3, ht'⟩
                rw [HO2.out]
                exact imps_none ts (d + 1) (L - 1) (i + 1) (by rw [imps_take ts (d + 1) (L - 1) i hi, h1]; exact hq)
              | some r =>
                left
                obtain rfl := g5 r hq
                have hbd := imp_bounds ts[i] (d + 1) Li L' (by omega) h5 h6 hq
                refine ⟨rfl, L', by rw [imps_take ts (d + 1) (L - 1) i hi, h1]; exact hq, g1, h3.over (g4.block _ (by have := lt_of_heap h3; omega) (fun hx => by have : w.heap.size + 1 = c := hx; omega)), h4.over (g4.block _ (by have := lt_of_heap h4; omega) (fun hx => by have : w.heap.size + 1 + 1 = c := hx; omega)), hbd.1, hbd.2, ht'⟩) wc
          ⟨L - 1, by simp [imps], HC4.out.over (hbc.block c (by omega)), HX4.out.2.1.over (hbc.block _ (by omega)), HX4.out.2.2.over (hbc.block _ (by omega)), by omega, by omega, HT4.out.trans (Touch.of_below hbc)⟩)
        clear IH
        go_wp2_with fail
        refine HI.out.mono ?_
        rintro x7 w7 hpost
        rcases hpost with ⟨rfl, hi⟩ | ⟨i, hi, rfl, ho, L', hL⟩
        · have HF := Lib.hid (show IVRet o c w (.returned (.bool true)) w7 by
            obtain ⟨Li, h1, h2, h3, h4, h5, h6, ht⟩ := hi
            rw [List.take_length] at h1
            have ho : o = some Li := by rw [HO2.out, h1]
            rw [ho]
            exact ⟨rfl, Li, ⟨h2, by omega, h6, ht⟩, fun r hr => by injection hr⟩)
          clear hi
          go_wp2_with fail
          go_ret
          exact HF.out
        · have HF := Lib.hid (show IVRet o c w (.returned (.bool false)) w7 by
            subst ho
            exact ⟨rfl, L', hL, fun r hr => by cases hr⟩)
          clear hL ho
          go_wp2_with fail
          go_ret
          exact HF.out
set_option maxHeartbeats 400000 in
theorem ValueOk_impl (w0 : World) (hE : Env w0) (v : Value) (t : V) (h : Rep w0 v t) (hsz : t.sz ≤ 1048576) (w : World) (hw : Below w0.heap.size w0 w) : Calls Tryd.prog 19 #[v] w fun e w' => e = .returned (.bool (okT t)) ∧ Below w.heap.size w w' := by
  obtain ⟨sl, rfl, hwf, hr⟩ := h
  have hws := hw.size
  have IV := Lib.hid (fun (c : Nat) (W : World) (hc : w.heap.size ≤ c) (h1 : Cell1 W c (.int .i64 300) 3) (hW : Below w.heap.size w W) => isValue_all w0 hE _ sl t.kids (Nat.le_refl _) hr (by have := V.sz_eq t; omega) t rfl hwf 0 300 c W (by omega) (by omega) (by omega) (by omega) (by omega) h1 (hw.trans (hW.mono hws)))
  obtain ⟨b, hb⟩ : ∃ b, b = okT t := ⟨_, rfl⟩
  rw [← hb]
  have HB := Lib.hid (show (imp t 0 300).isSome = b by rw [hb]; exact imp_ok t)
  clear hr hw hE hb
  unfold V.agg at IV ⊢
  generalize imp t 0 300 = o at *
  generalize t.k = vk at *
  generalize t.n = vn at *
  generalize t.e = ve at *
  generalize t.s = vs at *
  go_enter Tryd.func19, Tryd.ntmps19
  go_wp2_with fail
  have HC := Lib.hid (show Cell1 ((w.alloc (.cells #[.int .i64 vk, .int .i64 vn, .int .i64 ve, .string vs, sl] 26)).alloc (.cells #[.int .i64 300] 3)) (w.heap.size + 1) (.int .i64 300) 3 by
    have := heap_alloc_new (w.alloc (.cells #[.int .i64 vk, .int .i64 vn, .int .i64 ve, .string vs, sl] 26)) (.cells #[.int .i64 300] 3)
    rw [show (w.alloc (.cells #[.int .i64 vk, .int .i64 vn, .int .i64 ve, .string vs, sl] 26)).heap.size = w.heap.size + 1 by simp] at this; exact this)
  refine (IV.out _ _ (by omega) HC.out (by (repeat' (first | with_reducible exact Below.refl _ _ | with_reducible refine below_alloc ?_ _ ?_ | with_reducible refine Below.setCell ?_ ?_ _ | with_reducible refine Below.drew ?_ | with_reducible refine below_drewN ?_ _ | with_reducible refine below_step ?_ (by assumption) ?_ | with_reducible refine below_mark ?_ (by assumption) ?_)); all_goals (first | omega | (simp; done) | (simp; omega)))).mono ?_
  rintro x w1 ⟨rfl, L', ⟨_, _, _, ht⟩, _⟩
  have HT := Lib.hid (ht.below (B := w.heap.size) (fun x hx => by have : x = w.heap.size + 1 := hx; omega) (by simp; omega))
  clear ht
  go_wp2_with fail
  go_ret
  exact ⟨by rw [← HB.out]; rfl, Below.trans ((by (repeat' (first | with_reducible exact Below.refl _ _ | with_reducible refine below_alloc ?_ _ ?_ | with_reducible refine Below.setCell ?_ ?_ _ | with_reducible refine Below.drew ?_ | with_reducible refine below_drewN ?_ _ | with_reducible refine below_step ?_ (by assumption) ?_ | with_reducible refine below_mark ?_ (by assumption) ?_)); all_goals (first | omega | (simp; done) | (simp; omega)))) HT.out⟩
end Go.Proofs.YtgbgeocmjdgmoaaDoor
namespace Go.Proofs.YtgbgeocmjdgmoaaDoor
set_option linter.unusedSimpArgs false
set_option linter.unusedVariables false
set_option maxRecDepth 100000
open Go.RowKit
set_option maxHeartbeats 400000 in
theorem walk2_any (w0 : World) (F : FuncId) (c1 c2 : Value) (I : List V → (Nat → Prop) → World → Prop) (hF : ∀ (args : Array Value) (w : World), (callFunc F args).run Tryd.prog w = .ok (.enter F args) w)
    (hI : ∀ L A w w', I L A w → Below w.heap.size w w' → I L A w') (hA : ∀ L A w, I L A w → ∀ x, A x → w0.heap.size ≤ x ∧ x < w.heap.size)
    (hY : ∀ (u : V) (sl : Value) (L : List V) (A : Nat → Prop) (w : World), u.wf → RepS w0 sl u.kids → I L A w → Below w0.heap.size w0 w → Few (L ++ [u]) → Calls Tryd.prog F #[u.agg sl, c1, c2] w (Yields I A w (L ++ [u])))
    (v : Value) (ts : List V) (h : RepS w0 v ts) : ∀ (u : V), u.kids = ts → u.wf → ∀ (L : List V) (A : Nat → Prop) (w : World), I L A w → Below w0.heap.size w0 w → Few (L ++ u.pre) →
      Calls Tryd.prog 165 #[u.agg v, .func (.func F) #[] #[c1, c2]] w (Yields I A w (L ++ u.pre)) := by
  have HI := Lib.hid hI; have HY := Lib.hid hY; have HAA := Lib.hid hA
  clear hI hY hA
  induction h with
  | mk a b off cap0 ts sls ha hc hm hbb cells wfs kids ih =>
  intro u huk uwf L A w hiw hw hfew
  have hrep := RepS.mk a b off cap0 ts sls ha hc hm hbb cells wfs kids
  rw [← huk] at hrep
  have Y1 := Lib.hid (fun w'' (hh : Below w.heap.size w w'') => HY.out u _ L A w'' uwf hrep (HI.out L A w w'' hiw hh) (below_step hw hh (Nat.le_refl _)) (by rw [V.pre_eq, show L ++ u :: pres u.kids = (L ++ [u]) ++ pres u.kids by simp] at hfew; exact hfew.of_append))
  have HP := Lib.hid (show L ++ u.pre = L ++ [u] ++ pres ts by rw [V.pre_eq, huk]; simp)
  have HFEW := Lib.hid hfew; clear hfew
  have IH := Lib.hid ih; have CC := Lib.hid cells; have WF := Lib.hid wfs; have HA := Lib.hid ha; have HIW := Lib.hid hiw; have KK := Lib.hid kids
  have hlen : ts.length ≤ 9223372036854775807 := by omega
  clear ih cells wfs kids ha hrep uwf hc hm hiw
  rw [huk] at Y1
  clear huk
  unfold V.agg at Y1 ⊢
  generalize u.k = vk at *
  generalize u.n = vn at *
  generalize u.e = ve at *
  generalize u.s = vs at *
  go_enter Tryd.func165, Tryd.ntmps165
  go_wp2_with fail
  refine (Y1.out _ (by (repeat' (first | with_reducible exact Below.refl _ _ | with_reducible refine below_alloc ?_ _ ?_ | with_reducible refine Below.setCell ?_ ?_ _ | with_reducible refine Below.drew ?_ | with_reducible refine below_drewN ?_ _ | with_reducible refine below_step ?_ (by assumption) ?_ | with_reducible refine below_mark ?_ (by assumption) ?_)); all_goals (first | omega | (simp; done) | (simp; omega)))).mono ?_
  rintro e1 w1 ⟨rfl, A1, hi1, ht1⟩
  have hz1 := ht1.size
  simp at hz1
  have hnA : ¬ A w.heap.size := fun e => by have := (HAA.out L A w HIW.out _ e).2; omega
  have hblk := ht1.block w.heap.size (by simp) hnA
  have hcb : w1.cell? ⟨w.heap.size, 4, none⟩ = some (.slice a ts.length cap0) := by
    rw [World.cell?_of_block (a := ⟨w.heap.size, 4, none⟩) hblk]; simp
  have HT1 := Lib.hid ht1
  have HI1 := Lib.hid hi1
  clear ht1 hi1 hblk
  go_wp2_with fail
  have HTW := Lib.hid ((Touch.of_below (A := A) (((Below.refl w.heap.size w).alloc (Nat.le_refl _) _))).trans HT1.out)
  clear hcb
  go_loopw [12, 5] (fun i _ wr => ∃ k : Nat, ∃ A' : Nat → Prop, k ≤ ts.length ∧ i = .int .i64 k ∧ I (L ++ [u] ++ pres (ts.take k)) A' wr ∧ Touch A A' w wr) (fun i _ _ => ts.length - (intOf i).toNat)
  case atStart => exact ⟨0, A1, by omega, rfl, by simpa [pres] using HI1.out, HTW.out⟩
  case round =>
    obtain ⟨k, A', hk, rfl, hik, htk⟩ := hrel
    have hbk : Below w0.heap.size w0 wr := hw.trans (htk.below (fun x hx => (HAA.out L A w HIW.out x hx).1) hw.size)
    have HIK := Lib.hid hik; have HTK := Lib.hid htk
    clear hik htk
    by_cases hlt : k < ts.length
    · have hne : ts ≠ [] := by intro e; rw [e] at hlt; simp at hlt
      obtain rfl := HA.out hne
      have hbw := hbb hne
      obtain ⟨c0, c1', c2', c3, c4⟩ := (CC.out k hlt).keep (hbk.block b hbw)
      have V1 := Lib.hid (fun w'' (hh : Below wr.heap.size wr w'') => IH.out k hlt ts[k] rfl (WF.out k hlt) (L ++ [u] ++ pres (ts.take k)) A' w'' (HI.out _ _ _ _ HIK.out hh) (below_step hbk hh (Nat.le_refl _)) (by have := HFEW.out; rw [HP.out, ← List.take_append_drop (k + 1) ts, pres_append, ← List.append_assoc, pres_take ts k hlt, ← List.append_assoc] at this; exact this.of_append))
      obtain ⟨a3, cap3, hs3⟩ := (KK.out k hlt).slice
      rw [hs3] at c4 V1
      have HX := Lib.hid (pres_take ts k hlt)
      unfold V.agg at V1
      clear hbk hs3
      generalize ts[k].k = xk at *
      generalize ts[k].n = xn at *
      generalize ts[k].e = xe at *
      generalize ts[k].s = xs at *
      go_wp2_with fail
      refine (V1.out _ (by (repeat' (first | with_reducible exact Below.refl _ _ | with_reducible refine below_alloc ?_ _ ?_ | with_reducible refine Below.setCell ?_ ?_ _ | with_reducible refine Below.drew ?_ | with_reducible refine below_drewN ?_ _ | with_reducible refine below_step ?_ (by assumption) ?_ | with_reducible refine below_mark ?_ (by assumption) ?_)); all_goals (first | omega | (simp; done) | (simp; omega)))).mono ?_
      rintro e2 w2 ⟨rfl, A2, hi2, ht2⟩
      have HI2 := Lib.hid hi2; have HT2 := Lib.hid ht2; clear hi2 ht2
      go_wp2_with fail
      go_roundw
      case rel =>
        refine ⟨k + 1, A2, by omega, by go_num, by rw [HX.out, ← List.append_assoc]; exact HI2.out, ?_⟩
        refine HTK.out.trans (Touch.trans (Touch.of_below ?_) HT2.out)
        exact (by (repeat' (first | with_reducible exact Below.refl _ _ | with_reducible refine below_alloc ?_ _ ?_ | with_reducible refine Below.setCell ?_ ?_ _ | with_reducible refine Below.drew ?_ | with_reducible refine below_drewN ?_ _ | with_reducible refine below_step ?_ (by assumption) ?_ | with_reducible refine below_mark ?_ (by assumption) ?_)); all_goals (first | omega | (simp; done) | (simp; omega)))
      case measure => simp [intOf]; omega
    · have hkl : k = ts.length := by omega
      subst hkl
      clear hbk
      go_wp2_with fail
      go_end0
      refine ⟨rfl, A', ?_, HTK.out⟩
      rw [HP.out]
      simpa using HIK.out
end Go.Proofs.YtgbgeocmjdgmoaaDoor
namespace Go.Proofs.YtgbgeocmjdgmoaaDoor
set_option linter.unusedSimpArgs false
set_option linter.unusedVariables false
set_option maxRecDepth 100000
open Go.RowKit
set_option maxHeartbeats 400000 in
theorem putInt_any (n : Int) (hn : In64 n) (w : World) : Calls Tryd.prog 203 #[.int .i64 n] w (TxtRet w (numL n)) := by
  obtain ⟨h1, h2⟩ := hn
  by_cases h : n < 0
  · have HR := Lib.hid (show numL n = headL 1 (-1 - n).toNat by rw [numL, if_pos h])
    have t1 : decide (n < 0) = true := decide_eq_true h
    have hw0 : wrap64 (-1 - n) = -1 - n := by unfold wrap64; omega
    have hw := u64w (-1 - n) (by omega) (by omega)
    have PH := Lib.hid (fun (W : World) => PutHead_impl 1 (-1 - n) W (by omega) (by omega) (by omega) (by omega))
    rw [HR.out]
    go_enter Tryd.func203, Tryd.ntmps203
    go_wp2_with fail
    refine (PH.out _).mono ?_
    rintro x w1 ⟨rfl, hb1⟩
    go_wp2_with fail
    go_ret
    exact ⟨rfl, hb1⟩
  · have HR := Lib.hid (show numL n = headL 0 n.toNat by rw [numL, if_neg h])
    have t1 : decide (n < 0) = false := decide_eq_false h
    have hw := u64w n (by omega) (by omega)
    have PH := Lib.hid (fun (W : World) => PutHead_impl 0 n W (by omega) (by omega) (by omega) (by omega))
    rw [HR.out]
    go_enter Tryd.func203, Tryd.ntmps203
    go_wp2_with fail
    refine (PH.out _).mono ?_
    rintro x w1 ⟨rfl, hb1⟩
    go_wp2_with fail
    go_ret
    exact ⟨rfl, hb1⟩
def tagF (n : Int) (x : V) : Bool := decide (x.k = 9) && decide (x.n = n)
structure TOf (B c1 c2 : Nat) (n : Int) (b : Bool) (w : World) : Prop where
  b1 : B ≤ c1
  n12 : c1 ≠ c2
  h1 : Cell1 w c1 (.bool b) 4
  h2 : Cell1 w c2 (.int .i64 n) 3
def TInv (B c1 c2 : Nat) (n : Int) (L : List V) (A : Nat → Prop) (w : World) : Prop := TOf B c1 c2 n (L.any (tagF n)) w ∧ A = oneC c1
theorem hasTag_pre (n : Int) (t : V) : hasT n n t = t.pre.any (tagF n) := by
  rw [hasT_pre]; congr 1; funext x; rw [Bool.or_self]; rfl
set_option maxHeartbeats 1000000 in
theorem hasTag1_any (B c1 c2 : Nat) (n : Int) (u : V) (sl : Value) (L : List V) (A : Nat → Prop) (w : World) (hsl : ∃ a n c, sl = .slice a n c) (hi : TInv B c1 c2 n L A w) :
    Calls Tryd.prog 202 #[u.agg sl, .pointer (some ⟨c1, 0, none⟩), .pointer (some ⟨c2, 0, none⟩)] w (Yields (TInv B c1 c2 n) A w (L ++ [u])) := by
  obtain ⟨hk, rfl⟩ := hi
  obtain ⟨sa, sn, sc, rfl⟩ := hsl
  have l1 := lt_of_heap hk.h1
  have l2 := lt_of_heap hk.h2
  have D1 := Lib.hid (fun (W : World) (hW : Below w.heap.size w W) => show W.cell? ⟨c1, 0, none⟩ = some (.bool (L.any (tagF n))) ∧ W.frozen? ⟨c1, 0, none⟩ = false from ⟨cell_of_one ((hW.block c1 l1).trans hk.h1), free_of_one ((hW.block c1 l1).trans hk.h1)⟩)
  have D2 := Lib.hid (fun (W : World) (hW : Below w.heap.size w W) => show W.cell? ⟨c2, 0, none⟩ = some (.int .i64 n) from cell_of_one ((hW.block c2 l2).trans hk.h2))
  have HY := Lib.hid (show ∀ (r : Bool) (o : Obj), r = (L.any (tagF n) || tagF n u) → Yields (TInv B c1 c2 n) (oneC c1) w (L ++ [u]) (.returned (.tuple #[])) ((w.setCell ⟨c1, 0, none⟩ (.bool r)).alloc o) from fun r o hr => by
    have hz : (w.setCell ⟨c1, 0, none⟩ (.bool r)).heap.size = w.heap.size := by simp [World.setCell]
    have hm : Below w.heap.size (w.setCell ⟨c1, 0, none⟩ (.bool r)) ((w.setCell ⟨c1, 0, none⟩ (.bool r)).alloc o) := (Below.refl _ _).alloc (by omega) o
    refine ⟨rfl, oneC c1, ⟨⟨hk.b1, hk.n12, Cell1.over ?_ (hm.block c1 l1), Cell1.over ?_ (hm.block c2 l2)⟩, rfl⟩, ?_⟩
    · unfold Cell1
      rw [heap_setCell_same w c1 0 _ _ _ hk.h1, List.any_append, List.any_cons, List.any_nil, Bool.or_false, ← hr]; rfl
    · exact (heap_setCell_other _ _ _ _ (fun e => hk.n12 e.symm)).trans hk.h2
    · refine Touch.trans (A' := oneC c1) (b := w.setCell ⟨c1, 0, none⟩ (.bool r)) ⟨rfl, rfl, rfl, by omega, fun x hx hn => ?_, fun x hx => .inl hx⟩ (Touch.of_below (by rw [hz]; exact hm))
      refine heap_setCell_other _ _ _ _ (fun e => hn ?_)
      exact e)
  clear hk
  have HT := Lib.hid (show tagF n u = (decide (u.k = 9) && decide (u.n = n)) from rfl)
  unfold V.agg
  generalize L.any (tagF n) = b at *
  generalize tagF n u = f at *
  generalize u.k = vk at *
  generalize u.n = vn at *
  generalize u.e = ve at *
  generalize u.s = vs at *
  have hcase : b = true ∨ b = false ∧ (vk == 9) = false ∧ f = false ∨ b = false ∧ (vk == 9) = true ∧ (vn == n) = f := by
    cases b with
    | true => exact .inl rfl
    | false =>
      rw [HT.out]
      by_cases h : vk = 9
      · exact .inr (.inr ⟨rfl, by simpa using h, by rw [h, Bool.eq_iff_iff]; simp⟩)
      · exact .inr (.inl ⟨rfl, by simpa using h, by simp [h]⟩)
  clear HT
  rcases hcase with rfl | ⟨rfl, t1, rfl⟩ | ⟨rfl, t1, rfl⟩
  all_goals
    go_enter Tryd.func202, Tryd.ntmps202
    have HB := Lib.hid (show Below w.heap.size w (w.alloc (.cells #[.int .i64 vk, .int .i64 vn, .int .i64 ve, .string vs, .slice sa sn sc] 26)) from (by (repeat' (first | with_reducible exact Below.refl _ _ | with_reducible refine below_alloc ?_ _ ?_ | with_reducible refine Below.setCell ?_ ?_ _ | with_reducible refine Below.drew ?_ | with_reducible refine below_drewN ?_ _ | with_reducible refine below_step ?_ (by assumption) ?_ | with_reducible refine below_mark ?_ (by assumption) ?_)); all_goals (first | omega | (simp; done) | (simp; omega))))
    have d2 := D2.out _ HB.out
    obtain ⟨d1, d3⟩ := D1.out _ HB.out
    go_wp2_with fail
    go_end0
    refine HY.out _ _ ?_
    simp
theorem enters_hasTag1 : ∀ (args : Array Value) (w : World), (callFunc 202 args).run Tryd.prog w = .ok (.enter 202 args) w := by
  intro args w
  have h1 : (Tryd.f202.name == "runtime.NumGoroutine") = false := by kernel_rfl
  have h2 : Tryd.f202.body.isNone = false := by kernel_rfl
  have h1' : ¬ Tryd.f202.name = "runtime.NumGoroutine" := by simpa using h1
  have h2' : ¬ Tryd.f202.body = none := by intro e; rw [e] at h2; cases h2
  simp [callFunc, Tryd.func202, go_sem, h1', h2']
set_option maxHeartbeats 400000 in
theorem hasTag_any (w0 : World) (v : Value) (t : V) (h : Rep w0 v t) (hsz : t.sz ≤ 1048576) (n : Int) (w : World) (hw : Below w0.heap.size w0 w) :
    Calls Tryd.prog 135 #[v, .int .i64 n] w (BoolRet (hasT n n t) w) := by
  obtain ⟨sl, rfl, hwf, hr⟩ := h.keep hw
  clear hw h
  have HR := Lib.hid (hasTag_pre n t)
  have HW := Lib.hid (fun (c1 c2 : Nat) (L : List V) (A : Nat → Prop) (W : World) (hi : TInv w.heap.size c1 c2 n L A W) (hW : Below w.heap.size w W) (hf : Few (L ++ t.pre)) =>
    walk2_any w 202 (.pointer (some ⟨c1, 0, none⟩)) (.pointer (some ⟨c2, 0, none⟩)) (TInv w.heap.size c1 c2 n) enters_hasTag1
      (fun L A _ _ ⟨h1, h2⟩ hb => ⟨⟨h1.b1, h1.n12, h1.h1.over (hb.block _ (lt_of_heap h1.h1)), h1.h2.over (hb.block _ (lt_of_heap h1.h2))⟩, h2⟩)
      (fun L A _ ⟨h1, h2⟩ x hx => by subst h2; cases hx; exact ⟨h1.b1, lt_of_heap h1.h1⟩)
      (fun u sl L A W hu hs hi hw hf => hasTag1_any w.heap.size c1 c2 n u sl L A W (by obtain ⟨a, c, e⟩ := hs.slice; exact ⟨a, _, c, e⟩) hi) sl t.kids hr t rfl hwf L A W hi hW hf)
  have HF := Lib.hid (few_pre hsz)
  have hss := hr.slice
  obtain ⟨sa, sc, hss⟩ := hss
  subst hss
  clear hr hwf
  unfold V.agg at HW ⊢
  generalize hasT n n t = R at *
  generalize t.k = vk at *
  generalize t.n = vn at *
  generalize t.e = ve at *
  generalize t.s = vs at *
  go_enter Tryd.func135, Tryd.ntmps135
  go_wp2_with fail
  have HK := Lib.hid (show TOf w.heap.size (w.heap.size + 1 + 1) (w.heap.size + 1) n false (((w.alloc (.cells #[.int .i64 vk, .int .i64 vn, .int .i64 ve, .string vs, .slice sa t.kids.length sc] 26)).alloc (.cells #[.int .i64 n] 3)).alloc (.cells #[.bool false] 4)) by
    have z1 : (w.alloc (.cells #[.int .i64 vk, .int .i64 vn, .int .i64 ve, .string vs, .slice sa t.kids.length sc] 26)).heap.size = w.heap.size + 1 := by simp
    have z2 : ((w.alloc (.cells #[.int .i64 vk, .int .i64 vn, .int .i64 ve, .string vs, .slice sa t.kids.length sc] 26)).alloc (.cells #[.int .i64 n] 3)).heap.size = w.heap.size + 1 + 1 := by simp
    refine { b1 := by omega, n12 := by omega, h1 := ?_, h2 := ?_ }
    · have := heap_alloc_new ((w.alloc (.cells #[.int .i64 vk, .int .i64 vn, .int .i64 ve, .string vs, .slice sa t.kids.length sc] 26)).alloc (.cells #[.int .i64 n] 3)) (.cells #[.bool false] 4)
      rw [z2] at this; exact this
    · refine Cell1.over ?_ (heap_alloc_old _ _ (by rw [z2]; omega))
      have := heap_alloc_new (w.alloc (.cells #[.int .i64 vk, .int .i64 vn, .int .i64 ve, .string vs, .slice sa t.kids.length sc] 26)) (.cells #[.int .i64 n] 3)
      rw [z1] at this; exact this)
  refine (HW.out _ _ [] _ _ ⟨HK.out, rfl⟩ (by (repeat' (first | with_reducible exact Below.refl _ _ | with_reducible refine below_alloc ?_ _ ?_ | with_reducible refine Below.setCell ?_ ?_ _ | with_reducible refine Below.drew ?_ | with_reducible refine below_drewN ?_ _ | with_reducible refine below_step ?_ (by assumption) ?_ | with_reducible refine below_mark ?_ (by assumption) ?_)); all_goals (first | omega | (simp; done) | (simp; omega))) HF.out).mono ?_
  rintro e1 w1 ⟨rfl, A1, ⟨hk1, rfl⟩, ht⟩
  have d2 := cell_of_one hk1.h1
  have HT := Lib.hid (ht.below (B := w.heap.size) (fun x hx => by cases hx; exact HK.out.b1) (by simp; omega))
  rw [List.nil_append] at d2
  clear hk1 ht
  go_wp2_with fail
  go_ret
  refine ⟨by rw [HR.out]; rfl, Below.trans ?_ HT.out⟩
  exact (by (repeat' (first | with_reducible exact Below.refl _ _ | with_reducible refine below_alloc ?_ _ ?_ | with_reducible refine Below.setCell ?_ ?_ _ | with_reducible refine Below.drew ?_ | with_reducible refine below_drewN ?_ _ | with_reducible refine below_step ?_ (by assumption) ?_ | with_reducible refine below_mark ?_ (by assumption) ?_)); all_goals (first | omega | (simp; done) | (simp; omega)))
end Go.Proofs.YtgbgeocmjdgmoaaDoor
namespace Go.Proofs.YtgbgeocmjdgmoaaDoor
set_option linter.unusedSimpArgs false
set_option linter.unusedVariables false
set_option maxRecDepth 100000
open Go.RowKit
theorem rightsB_get : ∀ {ts : List V} {d : Int}, rightsB ts d = true → ∀ (j : Nat) (hj : j < ts.length), rightB ts[j] d = true
  | [], _, _, j, hj => by simp at hj
  | t :: ts, d, h, j, hj => by
    rw [rightsB, Bool.and_eq_true] at h
    cases j with
    | zero => exact h.1
    | succ j => exact rightsB_get h.2 j (by simpa using hj)
theorem nodess_mem : ∀ {ts : List V} {x : V}, x ∈ ts → x.nodes ≤ nodess ts
  | t :: ts, x, h => by
    rw [nodess]
    rcases List.mem_cons.1 h with rfl | h
    · omega
    · have := nodess_mem h; omega
theorem box_cells (w : World) (k n e : Int) (s : ByteArray) (sl : Value) (T : TypeId) {W : World} (h : Box W w.heap.size k n e s sl T) :
    W.cell? ⟨w.heap.size, 0, none⟩ = some (.int .i64 k) ∧ W.cell? ⟨w.heap.size, 1, none⟩ = some (.int .i64 n) ∧ W.cell? ⟨w.heap.size, 2, none⟩ = some (.int .i64 e) ∧
    W.cell? ⟨w.heap.size, 3, none⟩ = some (.string s) ∧ W.cell? ⟨w.heap.size, 4, none⟩ = some sl := h.cells
theorem cat4 (a b c d : List UInt8) : (⟨a.toArray⟩ : ByteArray) ++ ⟨b.toArray⟩ ++ ⟨c.toArray⟩ ++ ⟨d.toArray⟩ = ⟨(a ++ b ++ c ++ d).toArray⟩ := by simp [ByteArray.ext_iff]
theorem cat2 (a : List UInt8) (s : ByteArray) : (⟨a.toArray⟩ : ByteArray) ++ s = ⟨(a ++ s.data.toList).toArray⟩ := by simp [ByteArray.ext_iff]
theorem keep1 {W w2 : World} {b i : Nat} {x : Value} (hb : Below W.heap.size W w2) (h : W.cell? ⟨b, i, none⟩ = some x) : w2.cell? ⟨b, i, none⟩ = some x :=
  (hb.cell (p := ⟨b, i, none⟩) (World.block_lt_of_cell? _ _ h)).trans h
theorem keep2b {w W w2 : World} {b i c j : Nat} {x y : Value} (hb : Below W.heap.size W w2) (h : W.cell? ⟨b, i, none⟩ = some x ∧ W.cell? ⟨c, j, none⟩ = some y ∧ Below w.heap.size w W) : w2.cell? ⟨b, i, none⟩ = some x ∧ w2.cell? ⟨c, j, none⟩ = some y ∧ Below w.heap.size w w2 :=
  ⟨keep1 hb h.1, keep1 hb h.2.1, h.2.2.trans (hb.mono h.2.2.size)⟩
theorem keep1b {w W w2 : World} {b i : Nat} {x : Value} (hb : Below W.heap.size W w2) (h : W.cell? ⟨b, i, none⟩ = some x ∧ Below w.heap.size w W) : w2.cell? ⟨b, i, none⟩ = some x ∧ Below w.heap.size w w2 :=
  ⟨keep1 hb h.1, h.2.trans (hb.mono h.2.size)⟩
set_option maxHeartbeats 1000000 in
theorem l05Put_0 (n e : Int) (s : ByteArray) (sl : Value) (w : World) : Calls Tryd.prog 140 #[.agg #[.int .i64 0, .int .i64 n, .int .i64 e, .string s, sl]] w (TxtRet w (headL 7 22)) := by
  have PH := Lib.hid (fun (W : World) => PutHead_spec 7 22 W (by omega) (by omega) (by omega) (by omega))
  go_enter Tryd.func140, Tryd.ntmps140
  go_wp2_with fail
  refine (PH.out _).mono ?_
  rintro x w1 ⟨rfl, hb1⟩
  go_wp2_with fail
  go_ret
  exact ⟨rfl, (by (repeat' (first | with_reducible exact Below.refl _ _ | with_reducible refine below_alloc ?_ _ ?_ | with_reducible refine Below.setCell ?_ ?_ _ | with_reducible refine Below.drew ?_ | with_reducible refine below_drewN ?_ _ | with_reducible refine below_step ?_ (by assumption) ?_ | with_reducible refine below_mark ?_ (by assumption) ?_)); all_goals (first | omega | (simp; done) | (simp; omega)))⟩
set_option maxHeartbeats 1000000 in
theorem l05Put_12 (k n e : Int) (hk : k = 1 ∨ k = 2) (s : ByteArray) (sl : Value) (w : World) : Calls Tryd.prog 140 #[.agg #[.int .i64 k, .int .i64 n, .int .i64 e, .string s, sl]] w (TxtRet w (headL 7 (19 + k).toNat)) := by
  have hw0 : wrap64 (19 + k) = 19 + k := by unfold wrap64; omega
  have hw := u64w (19 + k) (by omega) (by omega)
  have PH := Lib.hid (fun (W : World) => PutHead_spec 7 (19 + k) W (by omega) (by omega) (by omega) (by omega))
  have t0 : (k == 0) = false := by simp; omega
  have key : (k == 1) = true ∨ (k == 1) = false ∧ (k == 2) = true := by rcases hk with rfl | rfl <;> simp
  rcases key with t1 | ⟨t1, t2⟩
  all_goals
    go_enter Tryd.func140, Tryd.ntmps140
    go_wp2_with fail
    refine (PH.out _).mono ?_
    rintro x w1 ⟨rfl, hb1⟩
    go_wp2_with fail
    go_ret
    exact ⟨rfl, (by (repeat' (first | with_reducible exact Below.refl _ _ | with_reducible refine below_alloc ?_ _ ?_ | with_reducible refine Below.setCell ?_ ?_ _ | with_reducible refine Below.drew ?_ | with_reducible refine below_drewN ?_ _ | with_reducible refine below_step ?_ (by assumption) ?_ | with_reducible refine below_mark ?_ (by assumption) ?_)); all_goals (first | omega | (simp; done) | (simp; omega)))⟩
set_option maxHeartbeats 1000000 in
theorem l05Put_3 (n e : Int) (hn : In64 n) (s : ByteArray) (sl : Value) (w : World) : Calls Tryd.prog 140 #[.agg #[.int .i64 3, .int .i64 n, .int .i64 e, .string s, sl]] w (TxtRet w (numL n)) := by
  have PH := Lib.hid (fun (W : World) => l05Num_any n hn W)
  go_enter Tryd.func140, Tryd.ntmps140
  go_wp2_with fail
  refine (PH.out _).mono ?_
  rintro x w1 ⟨rfl, hb1⟩
  go_wp2_with fail
  go_ret
  exact ⟨rfl, (by (repeat' (first | with_reducible exact Below.refl _ _ | with_reducible refine below_alloc ?_ _ ?_ | with_reducible refine Below.setCell ?_ ?_ _ | with_reducible refine Below.drew ?_ | with_reducible refine below_drewN ?_ _ | with_reducible refine below_step ?_ (by assumption) ?_ | with_reducible refine below_mark ?_ (by assumption) ?_)); all_goals (first | omega | (simp; done) | (simp; omega)))⟩
set_option maxHeartbeats 0 in
theorem l05Put_4 (n e : Int) (hn : In64 n) (he : In64 e) (s : ByteArray) (sl : Value) (w : World) : Calls Tryd.prog 140 #[.agg #[.int .i64 4, .int .i64 n, .int .i64 e, .string s, sl]] w (TxtRet w (headL 6 4 ++ headL 4 2 ++ numL e ++ numL n)) := by
  have P1 := Lib.hid (fun (W : World) => PutHead_spec 6 4 W (by omega) (by omega) (by omega) (by omega))
  have P2 := Lib.hid (fun (W : World) => PutHead_spec 4 2 W (by omega) (by omega) (by omega) (by omega))
  have PN := Lib.hid (fun (W : World) => l05Num_any n hn W)
  have PE := Lib.hid (fun (W : World) => l05Num_any e he W)
  have L1 := headL_le 6 4
  have L2 := headL_le 4 2
  have L3 := numL_le e
  have L4 := numL_le n
  have S1 : ¬ 9223372036854775807 < (headL 6 4).length + (headL 4 2).length := by omega
  have S2 : ¬ 9223372036854775807 < (headL 6 4).length + (headL 4 2).length + (numL e).length := by omega
  have S3 : ¬ 9223372036854775807 < (headL 6 4).length + (headL 4 2).length + (numL e).length + (numL n).length := by omega
  clear L1 L2 L3 L4
  have BX := Lib.hid (box_cells w 4 n e s sl 26 (Box.new w 4 n e s sl 26))
  go_enter Tryd.func140, Tryd.ntmps140
  obtain ⟨q0, q1, q2, q3, q4⟩ := BX.out
  go_wp2_with fail
  have hbw : Below w.heap.size w (w.alloc (.cells #[.int .i64 4, .int .i64 n, .int .i64 e, .string s, sl] 26)) := (by (repeat' (first | with_reducible exact Below.refl _ _ | with_reducible refine below_alloc ?_ _ ?_ | with_reducible refine Below.setCell ?_ ?_ _ | with_reducible refine Below.drew ?_ | with_reducible refine below_drewN ?_ _ | with_reducible refine below_step ?_ (by assumption) ?_ | with_reducible refine below_mark ?_ (by assumption) ?_)); all_goals (first | omega | (simp; done) | (simp; omega)))
  go_region_held3 (fun w' => w'.cell? ⟨w.heap.size, 1, none⟩ = some (.int .i64 n) ∧ w'.cell? ⟨w.heap.size, 2, none⟩ = some (.int .i64 e) ∧ Below w.heap.size w w') (first | with_reducible exact ⟨by assumption, by assumption, by assumption⟩ | with_reducible assumption | exact ⟨q1, q2, hbw.drew⟩ | go_keep) (((first | with_reducible refine (P1.out _).mono ?_ | with_reducible refine (P2.out _).mono ?_ | with_reducible refine (PN.out _).mono ?_ | with_reducible refine (PE.out _).mono ?_); rintro e2 w2 ⟨rfl, hb2⟩; have hS := keep2b hb2 (by with_reducible assumption); obtain ⟨hS1, hS2, hS3⟩ := hS))
  go_wp2_with fail
  go_ret
  exact ⟨ret_str (cat4 _ _ _ _), hS3⟩
set_option maxHeartbeats 1000000 in
theorem l05Put_56 (k m n e : Int) (hk : k = 5 ∧ m = 3 ∨ k = 6 ∧ m = 2) (s : ByteArray) (hs : s.size ≤ 2000) (sl : Value) (w : World) : Calls Tryd.prog 140 #[.agg #[.int .i64 k, .int .i64 n, .int .i64 e, .string s, sl]] w (TxtRet w (headL m.toNat s.size ++ s.data.toList)) := by
  have P1 := Lib.hid (fun (W : World) => PutHead_spec m s.size W (by omega) (by omega) (by omega) (by omega))
  have hw := u64w s.size (by omega) (by omega)
  have L1 := headL_le m.toNat s.size
  rw [Int.toNat_natCast] at P1
  generalize headL m.toNat s.size = H at *
  have S1 : ¬ 9223372036854775807 < H.length + s.size := by omega
  have BX := Lib.hid (box_cells w k n e s sl 26 (Box.new w k n e s sl 26))
  clear L1
  have hbw : Below w.heap.size w (w.alloc (.cells #[.int .i64 k, .int .i64 n, .int .i64 e, .string s, sl] 26)) := (by (repeat' (first | with_reducible exact Below.refl _ _ | with_reducible refine below_alloc ?_ _ ?_ | with_reducible refine Below.setCell ?_ ?_ _ | with_reducible refine Below.drew ?_ | with_reducible refine below_drewN ?_ _ | with_reducible refine below_step ?_ (by assumption) ?_ | with_reducible refine below_mark ?_ (by assumption) ?_)); all_goals (first | omega | (simp; done) | (simp; omega)))
  rcases hk with ⟨rfl, rfl⟩ | ⟨rfl, rfl⟩
  all_goals
    go_enter Tryd.func140, Tryd.ntmps140
    obtain ⟨q0, q1, q2, q3, q4⟩ := BX.out
    go_wp2_with fail
    go_region_held3 (fun w' => w'.cell? ⟨w.heap.size, 3, none⟩ = some (.string s) ∧ Below w.heap.size w w') (first | with_reducible exact ⟨by assumption, by assumption⟩ | with_reducible assumption | exact ⟨q3, hbw.drew⟩ | go_keep) (((with_reducible refine (P1.out _).mono ?_); rintro e2 w2 ⟨rfl, hb2⟩; have hS := keep1b hb2 (by with_reducible assumption); obtain ⟨hS1, hS3⟩ := hS))
    go_wp2_with fail
    go_ret
    exact ⟨ret_str (cat2 _ _), hS3⟩
theorem own_789 {t : V} (h : t.k = 7 ∨ t.k = 8 ∨ t.k = 9) : ∃ m x : Int, ownL t = headL m.toNat x.toNat ∧ (t.k = 7 → m = 4 ∧ x = t.kids.length) ∧ (t.k = 8 → m = 5 ∧ x = (t.kids.length / 2 : Nat)) ∧ (t.k = 9 → m = 6 ∧ x = t.n) := by
  unfold ownL
  rcases h with h | h | h
  · exact ⟨4, t.kids.length, by simp [h], fun _ => ⟨rfl, rfl⟩, fun h2 => absurd (h.symm.trans h2) (by decide), fun h2 => absurd (h.symm.trans h2) (by decide)⟩
  · exact ⟨5, (t.kids.length / 2 : Nat), by rw [if_neg (by omega), if_neg (by omega), if_neg (by omega), if_neg (by omega), if_neg (by omega), if_neg (by omega), if_neg (by omega), if_pos h, Int.toNat_natCast]; rfl, fun h2 => absurd (h.symm.trans h2) (by decide), fun _ => ⟨rfl, rfl⟩, fun h2 => absurd (h.symm.trans h2) (by decide)⟩
  · exact ⟨6, t.n, by simp [h], fun h2 => absurd (h.symm.trans h2) (by decide), fun h2 => absurd (h.symm.trans h2) (by decide), fun _ => ⟨rfl, rfl⟩⟩
set_option maxHeartbeats 2000000 in
theorem l05Put_any (w0 : World) : ∀ (N : Nat) (v : Value) (t : V) (d : Int), t.sz < N → rightB t d = true → Rep w0 v t → t.sz ≤ 1048576 → t.nodes ≤ 300 → ∀ (w : World), Below w0.heap.size w0 w →
    Calls Tryd.prog 140 #[v] w (TxtRet w (cborL t)) := by
  intro N
  induction N with
  | zero => intro v t d h; omega
  | succ N ih =>
  intro v t d hN hright h hsz hnd w hw
  obtain ⟨sl, rfl, hwf, hr⟩ := h
  have hts := V.sz_eq t
  have htn := V.nodes_eq t
  have hlen := szs_length t.kids
  obtain ⟨hn64, he64, hss⟩ : In64 t.n ∧ In64 t.e ∧ t.s.size ≤ 2000 := ⟨hwf.2.1, hwf.2.2.1, node_small (rightB_leaf hright).1⟩
  have hkin := kind_in hright
  have hC := cborL_eq t
  by_cases hpk : t.k ≠ 7 ∧ t.k ≠ 8 ∧ t.k ≠ 9
  · have hkids := plain_kids hright hpk
    rw [hkids, cborsL, List.append_nil] at hC
    rw [hC]
    unfold V.agg ownL
    have hcase : t.k = 0 ∨ (t.k = 1 ∨ t.k = 2) ∨ t.k = 3 ∨ t.k = 4 ∨ t.k = 5 ∨ t.k = 6 := by omega
    rcases hcase with h | h | h | h | h | h
    · rw [if_pos h, h]; exact l05Put_0 _ _ _ _ _
    · rw [if_neg (by omega), if_pos h]; exact l05Put_12 _ _ _ h _ _ _
    · rw [if_neg (by omega), if_neg (by omega), if_pos h, h]; exact l05Put_3 _ _ hn64 _ _ _
    · rw [if_neg (by omega), if_neg (by omega), if_neg (by omega), if_pos h, h]; exact l05Put_4 _ _ hn64 he64 _ _ _
    · rw [if_neg (by omega), if_neg (by omega), if_neg (by omega), if_neg (by omega), if_pos h, h]; exact l05Put_56 5 3 _ _ (.inl ⟨rfl, rfl⟩) _ hss _ _
    · rw [if_neg (by omega), if_neg (by omega), if_neg (by omega), if_neg (by omega), if_neg (by omega), if_pos h, h]; exact l05Put_56 6 2 _ _ (.inr ⟨rfl, rfl⟩) _ hss _ _
  obtain ⟨m, x, ho, h7, h8, h9⟩ := own_789 (t := t) (by omega)
  rw [ho] at hC
  obtain ⟨a, b, off, cap, rfl, ha, hc, hm, sls, hel⟩ := hr.opened
  have HA := Lib.hid ha; have HE := Lib.hid hel; have HW := Lib.hid hw
  have hkr := right_kids hright
  have hl : t.kids.length ≤ 1048576 := by omega
  have hnn : 0 ≤ x ∧ x ≤ 1048576 ∧ (0 ≤ m ∧ m ≤ 7) := by
    have htg := fun hk => tag_n hright hk
    have hcs : t.k = 7 ∨ t.k = 8 ∨ t.k = 9 := by omega
    rcases hcs with h | h | h
    · have := h7 h; omega
    · have := h8 h; omega
    · have := h9 h; have := htg h; omega
  have V1 := Lib.hid (fun (j : Nat) (hj : j < t.kids.length) (W : World) (hW : Below w0.heap.size w0 W) => ih (t.kids[j].agg (sls j)) t.kids[j] (d - 1) (by have h1 := szs_mem (List.getElem_mem hj); omega) (rightsB_get hkr j hj) ⟨sls j, rfl, (HE.out j hj).2.1, (HE.out j hj).2.2⟩ (by have h1 := szs_mem (List.getElem_mem hj); omega) (by have h1 := nodess_mem (List.getElem_mem hj); omega) W hW)
  have HR := Lib.hid hC
  have BX := Lib.hid (Box.new w t.k t.n t.e t.s (.slice a t.kids.length cap) 26)
  have hle := cbors_le t.kids (d - 1) hkr
  have hlh := headL_le m.toNat x.toNat
  have HL := Lib.hid (fun (j : Nat) (hj : j < t.kids.length) => show (headL m.toNat x.toNat ++ cborsL (t.kids.take j)).length + (cborL t.kids[j]).length ≤ 700000 by
    have e1 := cborsL_take t.kids j hj
    have e2 := cbors_take_le t.kids (j + 1)
    have e3 := congrArg List.length e1
    rw [List.length_append] at e3
    rw [List.length_append]; omega)
  have HT := Lib.hid (fun (j : Nat) (hj : j < t.kids.length) => cborsL_take t.kids j hj)
  have PH := Lib.hid (fun (W : World) => PutHead_spec m x W hnn.2.2.1 hnn.2.2.2 hnn.1 (by omega))
  have hux := u64w x (by omega) (by omega)
  have hcase : (t.k == 7) = true ∧ m = 4 ∧ x = t.kids.length ∨ (t.k == 7) = false ∧ (t.k == 8) = true ∧ m = 5 ∧ x = (t.kids.length / 2 : Nat) ∨ (t.k == 7) = false ∧ (t.k == 8) = false ∧ m = 6 ∧ x = t.n := by
    have hcs : t.k = 7 ∨ t.k = 8 ∨ t.k = 9 := by omega
    rcases hcs with h | h | h
    · exact .inl ⟨by simpa using h, h7 h⟩
    · exact .inr (.inl ⟨by rw [h]; rfl, by simpa using h, h8 h⟩)
    · exact .inr (.inr ⟨by rw [h]; rfl, by rw [h]; rfl, h9 h⟩)
  have n0 : (t.k == 0) = false := by simp; omega
  have n1 : (t.k == 1) = false := by simp; omega
  have n2 : (t.k == 2) = false := by simp; omega
  have n3 : (t.k == 3) = false := by simp; omega
  have n4 : (t.k == 4) = false := by simp; omega
  have n5 : (t.k == 5) = false := by simp; omega
  have n6 : (t.k == 6) = false := by simp; omega
  clear ih hel ha hc hm hN hr hwf hlen hts htn hsz hnd hright hkr hle hlh ho h7 h8 h9 hpk hkin hn64 he64 hss hnn hC hw
  unfold V.agg
  generalize cborL t = R at *
  generalize headL m.toNat x.toNat = H at *
  generalize t.k = k at *
  generalize t.n = n at *
  generalize t.e = e at *
  generalize t.s = s at *
  generalize t.kids = ts at *
  have BXW := Lib.hid (show Below w.heap.size w (w.alloc (.cells #[.int .i64 k, .int .i64 n, .int .i64 e, .string s, .slice a ts.length cap] 26)) from (by (repeat' (first | with_reducible exact Below.refl _ _ | with_reducible refine below_alloc ?_ _ ?_ | with_reducible refine Below.setCell ?_ ?_ _ | with_reducible refine Below.drew ?_ | with_reducible refine below_drewN ?_ _ | with_reducible refine below_step ?_ (by assumption) ?_ | with_reducible refine below_mark ?_ (by assumption) ?_)); all_goals (first | omega | (simp; done) | (simp; omega))))
  rcases hcase with ⟨t7, rfl, rfl⟩ | ⟨t7, t8, rfl, rfl⟩ | ⟨t7, t8, rfl, rfl⟩
  all_goals
    go_enter Tryd.func140, Tryd.ntmps140
    go_wp2_with fail
    refine (PH.out _).mono ?_
    rintro x1 w1 ⟨rfl, hb1⟩
    have hb0 := BXW.out.trans (hb1.mono BXW.out.size)
    have BX1 := Lib.hid (BX.out.stay hb1)
    go_wp2_with fail
    go_loopw [3, 4] (fun o i wr => ∃ j : Nat, j ≤ ts.length ∧ i = .int .i64 j ∧ o = bstr (H ++ cborsL (ts.take j)) ∧ Below w1.heap.size w1 wr) (fun _ i _ => ts.length + 1 - (intOf i).toNat)
    case atStart => exact ⟨0, by omega, rfl, by rw [List.take_zero, cborsL, List.append_nil], Below.refl _ _⟩
    case round =>
      obtain ⟨j, hj, rfl, rfl, hbl⟩ := hrel
      have HBL := Lib.hid (hb0.trans (hbl.mono hb0.size))
      obtain ⟨q0, -, -, -, q4⟩ := (BX1.out.stay hbl).cells
      by_cases hlt : j < ts.length
      · have hne : ts ≠ [] := by intro e; rw [e] at hlt; simp at hlt
        obtain ⟨rfl, hbw⟩ := HA.out hne
        have HWR := Lib.hid (HW.out.trans (HBL.out.mono HW.out.size))
        obtain ⟨c0, c1, c2, c3, c4⟩ := (HE.out j hlt).1.keep (HWR.out.block b hbw)
        have VJ := Lib.hid (fun (W : World) (hW : Below wr.heap.size wr W) => V1.out j hlt W (below_step HWR.out hW (by have := HWR.out.size; omega)))
        have hlj := HL.out j hlt
        have HTJ := Lib.hid (HT.out j hlt)
        obtain ⟨a3, cap3, hs3⟩ := (HE.out j hlt).2.2.slice
        rw [hs3] at c4 VJ
        clear hs3 V1
        unfold V.agg at VJ
        generalize cborL ts[j] = C at *
        generalize hQ : H ++ cborsL (ts.take j) = Q at *
        have HQ := Lib.hid hQ; clear hQ
        have S1 : ¬ 9223372036854775807 < Q.length + C.length := by omega
        clear hlj
        go_wp2_with fail
        refine (VJ.out _ ((by (repeat' (first | with_reducible exact Below.refl _ _ | with_reducible refine below_alloc ?_ _ ?_ | with_reducible refine Below.setCell ?_ ?_ _ | with_reducible refine Below.drew ?_ | with_reducible refine below_drewN ?_ _ | with_reducible refine below_step ?_ (by assumption) ?_ | with_reducible refine below_mark ?_ (by assumption) ?_)); all_goals (first | omega | (simp; done) | (simp; omega))))).mono ?_
        rintro x w2 ⟨rfl, hb2⟩
        go_wp2_with fail
        go_roundw
        case rel => exact ⟨j + 1, by omega, by go_num, by rw [HTJ.out, bstr_append, ← List.append_assoc, HQ.out], hbl.trans (Below.mono ((by (repeat' (first | with_reducible exact Below.refl _ _ | with_reducible refine below_alloc ?_ _ ?_ | with_reducible refine Below.setCell ?_ ?_ _ | with_reducible refine Below.drew ?_ | with_reducible refine below_drewN ?_ _ | with_reducible refine below_step ?_ (by assumption) ?_ | with_reducible refine below_mark ?_ (by assumption) ?_)); all_goals (first | omega | (simp; done) | (simp; omega)))) hbl.size)⟩
        case measure => simp [intOf]; omega
      · go_wp2_with fail
        go_ret
        refine ⟨?_, HBL.out⟩
        rw [HR.out, show j = ts.length by omega, List.take_length]
        rfl
end Go.Proofs.YtgbgeocmjdgmoaaDoor
namespace Go.Proofs.YtgbgeocmjdgmoaaDoor
set_option linter.unusedSimpArgs false
set_option linter.unusedVariables false
set_option maxRecDepth 100000
open Go.RowKit
theorem RepS.empty {w : World} {v : Value} (h : RepS w v []) (F : Nat → Prop) : OwnS w F v [] := by
  generalize hts : ([] : List V) = ts at h
  cases h with
  | mk a b off cap ts sls ha hc hm hbb cells wfs kids =>
    subst hts
    exact OwnS.mk F a b off cap [] sls (fun _ _ => False) (fun h => absurd rfl h) hc hm (fun h => absurd rfl h) (fun i hi => absurd hi (by simp)) (fun i j hij hj => absurd hj (by simp)) (fun i hi => absurd hi (by simp)) (fun i hi => absurd hi (by simp)) (fun i hi => absurd hi (by simp))
theorem VRow.snoc {w w' : World} {base : Nat} {E : TypeId} {G F : Nat → Prop} {v v' : Value} {ts : List V} {sls : List Value} {Fs : Nat → Nat → Prop} {t : V} {sl : Value} (h : VRow w base E G v ts sls Fs) (ht : t.wf) (ho : OwnS w F sl t.kids)
    (hF : ∀ x, F x → base ≤ x ∧ x < w.heap.size ∧ ¬ G x ∧ v.ownBlock ≠ some x)
    (hrow : w'.ownsRow base E 5 v' (ts.length + 1) (flat ts sls ++ flat [t] [sl])) (hg : w.grownBy w' v.ownBlock) (hfr : FreshOr w v v') :
    VRows w' base E (fun x => G x ∨ F x) v' (ts ++ [t]) := by
  have hk : ∀ x, (G x ∨ F x) → x < w.heap.size → w'.heap[x]? = w.heap[x]? := by
    intro x hx hs
    refine hg.block x hs (fun e => ?_)
    rcases hx with hx | hx
    · exact h.own x e.symm hx
    · exact (hF x hx).2.2.2 e.symm
  refine ⟨sls ++ [sl], fun i => if i < ts.length then Fs i else F, ?_, by simp [h.len], ?_, ?_, ?_, ?_, ?_, ?_⟩
  · rw [flat_append _ _ _ _ h.len, List.length_append]; exact hrow
  · intro i hi
    rw [List.length_append] at hi
    by_cases hlt : i < ts.length
    · rw [List.getElem_append_left hlt]; exact h.wfs i hlt
    · have : i = ts.length := by simp at hi; omega
      subst this; simpa using ht
  · intro i hi
    rw [List.length_append] at hi
    by_cases hlt : i < ts.length
    · have h1 := h.kids i hlt
      rw [if_pos hlt, List.getElem_append_left hlt]
      have : (sls ++ [sl]).getD i undef = sls.getD i undef := by
        rw [List.getD_eq_getElem?_getD, List.getD_eq_getElem?_getD, List.getElem?_append_left (by rw [h.len]; exact hlt)]
      rw [this]
      exact h1.keep (fun x hx hs => hk x (.inl (h.sub i hlt x hx)) hs)
    · have : i = ts.length := by simp at hi; omega
      subst this
      have e : (sls ++ [sl]).getD ts.length undef = sl := by rw [List.getD_eq_getElem?_getD, ← h.len]; simp
      rw [if_neg hlt, e]
      simpa using ho.keep (fun x hx hs => hk x (.inr hx) hs)
  · intro i hi x hx
    by_cases hlt : i < ts.length
    · simp only [if_pos hlt] at hx; exact .inl (h.sub i hlt x hx)
    · simp only [if_neg hlt] at hx; exact .inr hx
  · intro i j hij hj x hx hx'
    rw [List.length_append] at hj
    have hi : i < ts.length := by simp at hj; omega
    simp only [if_pos hi] at hx
    by_cases hlt : j < ts.length
    · simp only [if_pos hlt] at hx'; exact h.dis i j hij hlt x hx hx'
    · simp only [if_neg hlt] at hx'; exact (hF x hx').2.2.1 (h.sub i hi x hx)
  · intro g hg' hG
    rcases hfr with e | e
    · rw [e] at hg'
      rcases hG with hG | hG
      · exact h.own g hg' hG
      · exact (hF g hG).2.2.2 hg'
    · rw [e] at hg'
      simp only [Option.some.injEq] at hg'
      subst hg'
      rcases hG with hG | hG
      · have := (h.inG _ hG).2; omega
      · have := (hF _ hG).2.1; omega
  · intro x hx
    rcases hx with hx | hx
    · exact ⟨(h.inG x hx).1, Nat.lt_of_lt_of_le (h.inG x hx).2 hg.size⟩
    · exact ⟨(hF x hx).1, Nat.lt_of_lt_of_le (hF x hx).2.1 hg.size⟩
theorem VRows.slice3 {w : World} {base : Nat} {E : TypeId} {G : Nat → Prop} {v : Value} {ts : List V} (h : VRows w base E G v ts) : ∃ a n cap, v = .slice a n cap := by
  obtain ⟨a, cap, e⟩ := h.own.slice
  exact ⟨a, _, cap, e⟩
theorem VRows.made0 {w : World} {base b : Nat} {E : TypeId} (hb : base ≤ b) (h : w.heap[b]? = some (.cells #[] E (0, 0))) : VRows w base E (fun _ => False) (.slice (some ⟨b, 0, none⟩) 0 0) [] := by
  refine ⟨[], fun _ _ => False, ⟨?_, rfl, by simp, by simp, by simp, by simp, by simp, by simp⟩⟩
  exact ⟨rfl, .inr ⟨b, 0, #[], rfl, hb, h, Nat.le_refl 0, by simp [maxLen], by simp, by simp [flat]⟩⟩
theorem src_val {w : World} {b : Nat} {t : V} {sl : Value} (hb : w.heap[b]? = some (.cells #[.int .i64 t.k, .int .i64 t.n, .int .i64 t.e, .string t.s, sl] 26 (0, 0))) (h : RepS w sl t.kids) :
    Src Tryd.prog 5 24 (.slice (some ⟨b, 0, none⟩) 1 1) 1 (flat [t] [sl]) w := by
  refine Src.ofSlice _ Tryd.underlying24 _ _ _ _ (by simp [flat]) ?_ (flat_one [t] [sl] ?_)
  · intro j u hu
    rw [addr_add _ _ rfl, Nat.zero_add]
    rw [cell_of_row _ _ _ _ _ (0, 0) hb]
    simpa [flat] using hu
  · intro s hs
    obtain rfl := List.mem_singleton.1 hs
    obtain ⟨a, cap, e⟩ := h.slice
    exact ⟨a, _, cap, e⟩
section
variable {w : World} {ops : Array Oper} {rest : List Oper} {o : Oper} {a : Act} {Q : Exit → Act → World → Prop}
theorem app_own (hgd : o.guard = none) (s x : Operand)
    (ho : o.op = .call { callee := .builtin .append, args := #[s, x], argTypes := #[24, 24] })
    (base : Nat) (G F : Nat → Prop) (v : Value) (ts : List V) (hs : a.eval s = v) (hown : VRows w base 26 G v ts) (t : V) (sl : Value) (b : Nat) (hx : a.eval x = .slice (some ⟨b, 0, none⟩) 1 1)
    (hb : w.heap[b]? = some (.cells #[.int .i64 t.k, .int .i64 t.n, .int .i64 t.e, .string t.s, sl] 26 (0, 0))) (ht : t.wf) (hO : OwnS w F sl t.kids)
    (hF : ∀ x, F x → base ≤ x ∧ x < w.heap.size ∧ ¬ G x ∧ v.ownBlock ≠ some x)
    (h63 : ts.length ≤ 1099511627000) (hbase : base ≤ w.heap.size)
    (h : ∀ v' w', VRows w' base 26 (fun x => G x ∨ F x) v' (ts ++ [t]) → w.grownBy w' v.ownBlock → FreshOr w v v' → wpList Tryd.prog ops Q rest (a.put o.dst v') w') : wpList Tryd.prog ops Q (o :: rest) a w := by
  obtain ⟨i0, hi, hz0, hz1, hz2⟩ := info_parts info_impl
  obtain ⟨sls, Fs, hp⟩ := hown
  exact wpList_app hgd s x 24 24 ho base 26 i0 _ 5 64 Tryd.underlying24 hi hz0 hz1 hz2 rfl (by decide) v ts.length (flat ts sls) hs hp.row _ hx 1 (flat [t] [sl]) (src_val hb hO.rep) (by omega) hbase
    (fun v' w' h1 h2 h3 _ => h v' w' (hp.snoc ht hO hF h1 h2 h3) h2 h3)
end
end Go.Proofs.YtgbgeocmjdgmoaaDoor
namespace Go.Proofs.YtgbgeocmjdgmoaaDoor
set_option linter.unusedSimpArgs false
set_option linter.unusedVariables false
set_option maxRecDepth 100000
open Go.RowKit
theorem heap_alloc_here {w : World} {b : Nat} (o : Obj) (hb : b = w.heap.size) : (w.alloc o).heap[b]? = some o := by rw [hb]; exact heap_alloc_new w o
theorem Box.set4 {w : World} {b : Nat} {k n e : Int} {s : ByteArray} {sl v : Value} {T : TypeId} (h : Box w b k n e s sl T) : Box (w.setCell ⟨b, 4, none⟩ v) b k n e s v T := by
  unfold Box at *
  rw [heap_setCell_same w b 4 _ _ _ h]; rfl
theorem Box.free {w : World} {b i : Nat} {k n e : Int} {s : ByteArray} {sl : Value} {T : TypeId} (h : Box w b k n e s sl T) : w.frozen? ⟨b, i, none⟩ = false := frozen_of_row w b i _ _ h
theorem VRows.move {w w' : World} {base : Nat} {E : TypeId} {G : Nat → Prop} {v : Value} {ts : List V} (h : VRows w base E G v ts) (hz : w.heap.size ≤ w'.heap.size) (hk : ∀ x, (G x ∨ v.ownBlock = some x) → w'.heap[x]? = w.heap[x]?) : VRows w' base E G v ts := by
  obtain ⟨sls, Fs, h⟩ := h
  refine ⟨sls, Fs, ⟨⟨h.row.1, ?_⟩, h.len, h.wfs, fun i hi => (h.kids i hi).keep (fun x hx _ => hk x (.inl (h.sub i hi x hx))), h.sub, h.dis, h.own, fun x hx => ⟨(h.inG x hx).1, Nat.lt_of_lt_of_le (h.inG x hx).2 hz⟩⟩⟩
  rcases h.row.2 with h2 | ⟨g, cap, cur, rfl, hbg, hg, r⟩
  · exact .inl h2
  · exact .inr ⟨g, cap, cur, rfl, hbg, by rw [hk g (.inr rfl)]; exact hg, r⟩
theorem own_one {w : World} {F : Nat → Prop} {b : Nat} {t : V} {sl : Value} {E : TypeId} (hb : w.heap[b]? = some (.cells #[.int .i64 t.k, .int .i64 t.n, .int .i64 t.e, .string t.s, sl] E (0, 0))) (ht : t.wf) (h : OwnS w F sl t.kids) (hF : ¬ F b) :
    OwnS w (fun x => F x ∨ x = b) (.slice (some ⟨b, 0, none⟩) 1 1) [t] := by
  refine .mk _ (some ⟨b, 0, none⟩) b 0 1 [t] (fun _ => sl) (fun _ => F) (fun _ => rfl) (by simp) (by omega) (fun _ => ⟨.inr rfl, _, _, hb⟩) (fun i hi x hx => ⟨.inl hx, fun e => hF (e ▸ hx)⟩) (fun i j hij hj => by simp at hj; omega) (fun i hi => ?_) (fun i hi => ?_) (fun i hi => ?_)
  · obtain rfl : i = 0 := by simpa using hi
    have hc := fun j => cell_of_row w b j _ _ (0, 0) hb
    exact ⟨by rw [hc]; rfl, by rw [hc]; rfl, by rw [hc]; rfl, by rw [hc]; rfl, by rw [hc]; rfl⟩
  · obtain rfl : i = 0 := by simpa using hi
    exact ht
  · obtain rfl : i = 0 := by simpa using hi
    exact h
abbrev set5 (w : World) (c : Nat) (v0 v1 v2 v3 v4 : Value) : World := ((((w.setCell ⟨c, 0, none⟩ v0).setCell ⟨c, 1, none⟩ v1).setCell ⟨c, 2, none⟩ v2).setCell ⟨c, 3, none⟩ v3).setCell ⟨c, 4, none⟩ v4
theorem heap_set5 (w : World) (c x : Nat) (v0 v1 v2 v3 v4 : Value) (h : x ≠ c) : (set5 w c v0 v1 v2 v3 v4).heap[x]? = w.heap[x]? := by
  unfold set5
  rw [heap_setCell_other _ _ _ _ h, heap_setCell_other _ _ _ _ h, heap_setCell_other _ _ _ _ h, heap_setCell_other _ _ _ _ h, heap_setCell_other _ _ _ _ h]
theorem below_set5 (w : World) (c : Nat) (v0 v1 v2 v3 v4 : Value) : Below c w (set5 w c v0 v1 v2 v3 v4) := by
  unfold set5
  exact (((((Below.refl c w).setCell (Nat.le_refl c) v0).setCell (Nat.le_refl c) v1).setCell (Nat.le_refl c) v2).setCell (Nat.le_refl c) v3).setCell (Nat.le_refl c) v4
theorem size_set5 (w : World) (c : Nat) (v0 v1 v2 v3 v4 : Value) : (set5 w c v0 v1 v2 v3 v4).heap.size = w.heap.size := by simp [set5]
theorem OwnS.set5 {w : World} {F : Nat → Prop} {v : Value} {ts : List V} (h : OwnS w F v ts) (c : Nat) (hc : ¬ F c) (v0 v1 v2 v3 v4 : Value) : OwnS (Go.Proofs.YtgbgeocmjdgmoaaDoor.set5 w c v0 v1 v2 v3 v4) F v ts :=
  h.keep (fun x hx _ => heap_set5 _ _ _ _ _ _ _ _ (fun e => hc (e ▸ hx)))
theorem Touch.set5 {A A' : Nat → Prop} {w W : World} (h : Touch A A' w W) (c : Nat) (hc : w.heap.size ≤ c) (v0 v1 v2 v3 v4 : Value) : Touch A A' w (Go.Proofs.YtgbgeocmjdgmoaaDoor.set5 W c v0 v1 v2 v3 v4) :=
  ⟨(below_set5 W c v0 v1 v2 v3 v4).os.trans h.os, (below_set5 W c v0 v1 v2 v3 v4).tape.trans h.tape, (below_set5 W c v0 v1 v2 v3 v4).output.trans h.output, by rw [size_set5]; exact h.size, fun x hx hn => (heap_set5 _ _ _ _ _ _ _ _ (by omega)).trans (h.block x hx hn), h.new⟩
theorem l02Int_any (n : Int) (w : World) : Calls Tryd.prog 180 #[.int .i64 n] w fun e w' => e = .returned (.agg #[.int .i64 3, .int .i64 n, .int .i64 0, .string ⟨#[]⟩, .slice none 0 0]) ∧ Below w.heap.size w w' := by
  go_enter Tryd.func180, Tryd.ntmps180
  go_wp2_with fail
  exact bodyPost_ret (v := .agg #[.int .i64 3, .int .i64 n, .int .i64 0, .string ⟨#[]⟩, .slice none 0 0]) (by simp [results, Tryd.results180, go_sem]) rfl ⟨rfl, (by (repeat' (first | with_reducible exact Below.refl _ _ | with_reducible refine below_alloc ?_ _ ?_ | with_reducible refine Below.setCell ?_ ?_ _ | with_reducible refine Below.drew ?_ | with_reducible refine below_drewN ?_ _ | with_reducible refine below_step ?_ (by assumption) ?_ | with_reducible refine below_mark ?_ (by assumption) ?_)); all_goals (first | omega | (simp; done) | (simp; omega)))⟩
theorem l02Str_any (s : ByteArray) (w : World) : Calls Tryd.prog 152 #[.string s] w fun e w' => e = .returned (.agg #[.int .i64 5, .int .i64 0, .int .i64 0, .string s, .slice none 0 0]) ∧ Below w.heap.size w w' := by
  go_enter Tryd.func152, Tryd.ntmps152
  go_wp2_with fail
  exact bodyPost_ret (v := .agg #[.int .i64 5, .int .i64 0, .int .i64 0, .string s, .slice none 0 0]) (by simp [results, Tryd.results152, go_sem]) rfl ⟨rfl, (by (repeat' (first | with_reducible exact Below.refl _ _ | with_reducible refine below_alloc ?_ _ ?_ | with_reducible refine Below.setCell ?_ ?_ _ | with_reducible refine Below.drew ?_ | with_reducible refine below_drewN ?_ _ | with_reducible refine below_step ?_ (by assumption) ?_ | with_reducible refine below_mark ?_ (by assumption) ?_)); all_goals (first | omega | (simp; done) | (simp; omega)))⟩
end Go.Proofs.YtgbgeocmjdgmoaaDoor
