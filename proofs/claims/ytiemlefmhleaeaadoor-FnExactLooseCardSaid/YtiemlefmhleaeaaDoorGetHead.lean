/- What the two GetHead return: a head in its shortest form, or none. -/
import Derived.Test.YtiemlefmhleaeaaDoorAnyHead
import Derived.Test.YtiemlefmhleaeaaDoorHeadI
import Derived.Test.YtiemlefmhleaeaaDoorVal
import Derived.BigGuard
import Derived.Deep.RegionHeld3
namespace Go.Proofs.YtiemlefmhleaeaaDoor
set_option linter.unusedVariables false
set_option maxRecDepth 100000
open Go.RowKit
def hdManyOf (r : Int) : Nat := if r = 24 then 1 else if r = 25 then 2 else if r = 26 then 4 else 8
def anyH (s : ByteArray) (i : Int) : Int × Int × Int :=
  if i < 0 ∨ s.size ≤ i then (-1, 0, -1)
  else if byteAt s i % 32 < 24 then (byteAt s i / 32, byteAt s i % 32, i + 1)
  else if 27 < byteAt s i % 32 then (-1, 0, -1)
  else if (s.size : Int) < i + 1 + hdManyOf (byteAt s i % 32) then (-1, 0, -1)
  else (byteAt s i / 32, wval (sub s.data.toList (i.toNat + 1) (hdManyOf (byteAt s i % 32))), i + 1 + hdManyOf (byteAt s i % 32))
theorem big_snoc (m n c : Nat) (h : c < 256) : big (m + 1) (256 * n + c) = big m n ++ [UInt8.ofNat c] := by
  induction m with
  | zero => simp [big]
  | succ m ih =>
    rw [big, ih, big]
    have : (256 * n + c) / 256 ^ (m + 1) = n / 256 ^ m := by
      rw [Nat.pow_succ, Nat.mul_comm (256 ^ m) 256, ← Nat.div_div_eq_div_mul]
      congr 1
      omega
    rw [this]
    rfl
theorem big_wval (l : List UInt8) : big l.length (wval l) = l := by
  have : ∀ (k : Nat) (l : List UInt8), l.length = k → big k (wval l) = l := by
    intro k
    induction k with
    | zero => intro l h; simp [List.eq_nil_of_length_eq_zero h, big]
    | succ k ih =>
      intro l h
      have hne : l ≠ [] := by intro e; subst e; simp at h
      rw [← List.dropLast_concat_getLast hne, wval_snoc, big_snoc _ _ _ (UInt8.toNat_lt _), ih _ (by simp [h])]
      simp
  exact this _ l rfl
theorem sub_cons (s : ByteArray) (i m : Nat) (h : i < s.size) : sub s.data.toList i (m + 1) = s[i] :: sub s.data.toList (i + 1) m := by
  have hl : i < s.data.toList.length := by rw [← size_eq]; exact h
  rw [sub, List.drop_eq_getElem_cons hl, List.take_succ_cons]
  rfl
theorem byte_back (s : ByteArray) (i : Int) (h : i.toNat < s.size) (r : Nat) (hr : byteAt s i % 32 = r) : UInt8.ofNat (32 * (byteAt s i / 32).toNat + r) = s[i.toNat] := by
  have hb := byteAt_eq s i h
  have h2 := byteAt_range s i
  have : 32 * (byteAt s i / 32).toNat + r = (s[i.toNat]).toNat := by omega
  rw [this]; simp
theorem headL_many (a n : Nat) (m r : Nat) (hmr : (m = 1 ∧ r = 24) ∨ (m = 2 ∧ r = 25) ∨ (m = 4 ∧ r = 26) ∨ (m = 8 ∧ r = 27)) (hn : n < 256 ^ m) (hl : (headL a n).length = m + 1) :
    headL a n = UInt8.ofNat (32 * a + r) :: big m n := by
  rw [headL_length] at hl
  unfold headL
  rcases hmr with ⟨rfl, rfl⟩ | ⟨rfl, rfl⟩ | ⟨rfl, rfl⟩ | ⟨rfl, rfl⟩
  · by_cases h1 : n < 24
    · rw [if_pos h1] at hl; omega
    · rw [if_neg h1, if_pos (by omega)]
  · by_cases h1 : n < 24
    · rw [if_pos h1] at hl; omega
    · by_cases h2 : n < 256
      · rw [if_neg h1, if_pos h2] at hl; omega
      · rw [if_neg h1, if_neg h2, if_pos (by omega)]
  · by_cases h1 : n < 24
    · rw [if_pos h1] at hl; omega
    · by_cases h2 : n < 256
      · rw [if_neg h1, if_pos h2] at hl; omega
      · by_cases h3 : n < 65536
        · rw [if_neg h1, if_neg h2, if_pos h3] at hl; omega
        · rw [if_neg h1, if_neg h2, if_neg h3, if_pos (by omega)]
  · by_cases h1 : n < 24
    · rw [if_pos h1] at hl; omega
    · by_cases h2 : n < 256
      · rw [if_neg h1, if_pos h2] at hl; omega
      · by_cases h3 : n < 65536
        · rw [if_neg h1, if_neg h2, if_pos h3] at hl; omega
        · by_cases h4 : n < 4294967296
          · rw [if_neg h1, if_neg h2, if_neg h3, if_pos h4] at hl; omega
          · rw [if_neg h1, if_neg h2, if_neg h3, if_neg h4]
/-- what a head that was found is like -/
structure Found (s : ByteArray) (i a n x : Int) : Prop where
  i0 : 0 ≤ i
  a0 : 0 ≤ a
  a7 : a ≤ 7
  n0 : 0 ≤ n
  n1 : n < 18446744073709551616
  x0 : i < x
  x1 : x ≤ s.size
  x9 : x ≤ i + 9
  same : (headL a.toNat n.toNat).length = (x - i).toNat → headL a.toNat n.toNat = sub s.data.toList i.toNat (x - i).toNat
theorem anyH_found (s : ByteArray) (i : Int) : anyH s i = (-1, 0, -1) ∨ ∃ a n x, anyH s i = (a, n, x) ∧ Found s i a n x := by
  unfold anyH
  split
  · exact .inl rfl
  · rename_i h1
    have hb := byteAt_range s i
    have hlt : i.toNat < s.size := by omega
    split
    · rename_i h2
      refine .inr ⟨_, _, _, rfl, by omega, by omega, by omega, by omega, by omega, by omega, by omega, by omega, fun _ => ?_⟩
      have hr := byte_back s i hlt (byteAt s i % 32).toNat (by omega)
      rw [show (i + 1 - i).toNat = 0 + 1 by omega, sub_cons s i.toNat 0 hlt, headL, if_pos (by omega), hr]
      simp [sub]
    · split
      · exact .inl rfl
      · rename_i h2 h3
        split
        · exact .inl rfl
        · rename_i h4
          have hm : (hdManyOf (byteAt s i % 32) = 1 ∧ byteAt s i % 32 = 24) ∨ (hdManyOf (byteAt s i % 32) = 2 ∧ byteAt s i % 32 = 25) ∨ (hdManyOf (byteAt s i % 32) = 4 ∧ byteAt s i % 32 = 26) ∨ (hdManyOf (byteAt s i % 32) = 8 ∧ byteAt s i % 32 = 27) := by
            unfold hdManyOf; (repeat' split) <;> omega
          generalize hdManyOf (byteAt s i % 32) = m at *
          have hv := wval_sub_lt s.data.toList (i.toNat + 1) m (by omega)
          have hsl : (sub s.data.toList (i.toNat + 1) m).length = m := sub_length _ _ _ (by rw [← size_eq]; omega)
          have hv2 := wval_lt (sub s.data.toList (i.toNat + 1) m)
          rw [hsl] at hv2
          refine .inr ⟨_, _, _, rfl, by omega, by omega, by omega, by omega, by omega, by omega, by omega, by omega, fun hl => ?_⟩
          have hx : (i + 1 + (m : Int) - i).toNat = m + 1 := by omega
          rw [hx] at hl ⊢
          rw [Int.toNat_natCast] at hl ⊢
          rw [headL_many _ _ m (byteAt s i % 32).toNat (by omega) hv2 hl, byte_back s i hlt _ (by omega), sub_cons s i.toNat m hlt]
          congr 1
          have := big_wval (sub s.data.toList (i.toNat + 1) m)
          rw [hsl] at this
          exact this
def getH (s : ByteArray) (i : Int) : Int × Int × Int :=
  let r := anyH s i
  if r.2.2 < 0 ∨ (headL r.1.toNat r.2.1.toNat).length ≠ (r.2.2 - i).toNat then (-1, 0, -1) else r
theorem any_impl (s : ByteArray) (i : Int) (w : World) (hs : s.size ≤ 9223372036854775800) (hi0 : -9223372036854775808 ≤ i) (hi1 : i ≤ 9223372036854775807) :
    Calls Tryd.prog 117 #[.string s, .int .i64 i] w fun e w' => Head3 (anyH s i).1 (anyH s i).2.1 (anyH s i).2.2 e ∧ Below w.heap.size w w' := by
  unfold anyH
  by_cases h1 : i < 0 ∨ s.size ≤ i
  · rw [if_pos h1]; exact any_impl_out s i w (by omega) hi0 hi1 h1
  · rw [if_neg h1]
    by_cases h2 : byteAt s i % 32 < 24
    · rw [if_pos h2]; exact any_impl_short s i w (by omega) (by omega) (by omega) h2
    · rw [if_neg h2]
      by_cases h3 : 27 < byteAt s i % 32
      · rw [if_pos h3]; exact any_impl_bad s i w (by omega) (by omega) (by omega) h3
      · rw [if_neg h3]
        have hr : byteAt s i % 32 = 24 ∨ byteAt s i % 32 = 25 ∨ byteAt s i % 32 = 26 ∨ byteAt s i % 32 = 27 := by omega
        rcases hr with hr | hr | hr | hr
        · rw [hr, show hdManyOf 24 = 1 from rfl]
          by_cases h4 : (s.size : Int) < i + 1 + (1 : Nat)
          · rw [if_pos h4]; exact any_impl_1_no s i w (by omega) (by omega) (by omega) hr (by omega)
          · rw [if_neg h4]; exact any_impl_1_yes s i w (by omega) (by omega) (by omega) hr (by omega)
        · rw [hr, show hdManyOf 25 = 2 from rfl]
          by_cases h4 : (s.size : Int) < i + 1 + (2 : Nat)
          · rw [if_pos h4]; exact any_impl_2_no s i w (by omega) (by omega) (by omega) hr (by omega)
          · rw [if_neg h4]; exact any_impl_2_yes s i w (by omega) (by omega) (by omega) hr (by omega)
        · rw [hr, show hdManyOf 26 = 4 from rfl]
          by_cases h4 : (s.size : Int) < i + 1 + (4 : Nat)
          · rw [if_pos h4]; exact any_impl_4_no s i w (by omega) (by omega) (by omega) hr (by omega)
          · rw [if_neg h4]; exact any_impl_4_yes s i w (by omega) (by omega) (by omega) hr (by omega)
        · rw [hr, show hdManyOf 27 = 8 from rfl]
          by_cases h4 : (s.size : Int) < i + 1 + (8 : Nat)
          · rw [if_pos h4]; exact any_impl_8_no s i w (by omega) (by omega) (by omega) hr (by omega)
          · rw [if_neg h4]; exact any_impl_8_yes s i w (by omega) (by omega) (by omega) hr (by omega)
theorem any_spec (s : ByteArray) (i : Int) (w : World) (hs : s.size ≤ 9223372036854775800) (hi0 : -9223372036854775808 ≤ i) (hi1 : i ≤ 9223372036854775807) :
    Calls Tryd.prog 118 #[.string s, .int .i64 i] w fun e w' => Head3 (anyH s i).1 (anyH s i).2.1 (anyH s i).2.2 e ∧ Below w.heap.size w w' := by
  unfold anyH
  by_cases h1 : i < 0 ∨ s.size ≤ i
  · rw [if_pos h1]; exact any_spec_out s i w (by omega) hi0 hi1 h1
  · rw [if_neg h1]
    by_cases h2 : byteAt s i % 32 < 24
    · rw [if_pos h2]; exact any_spec_short s i w (by omega) (by omega) (by omega) h2
    · rw [if_neg h2]
      by_cases h3 : 27 < byteAt s i % 32
      · rw [if_pos h3]; exact any_spec_bad s i w (by omega) (by omega) (by omega) h3
      · rw [if_neg h3]
        have hr : byteAt s i % 32 = 24 ∨ byteAt s i % 32 = 25 ∨ byteAt s i % 32 = 26 ∨ byteAt s i % 32 = 27 := by omega
        rcases hr with hr | hr | hr | hr
        · rw [hr, show hdManyOf 24 = 1 from rfl]
          by_cases h4 : (s.size : Int) < i + 1 + (1 : Nat)
          · rw [if_pos h4]; exact any_spec_1_no s i w (by omega) (by omega) (by omega) hr (by omega)
          · rw [if_neg h4]; exact any_spec_1_yes s i w (by omega) (by omega) (by omega) hr (by omega)
        · rw [hr, show hdManyOf 25 = 2 from rfl]
          by_cases h4 : (s.size : Int) < i + 1 + (2 : Nat)
          · rw [if_pos h4]; exact any_spec_2_no s i w (by omega) (by omega) (by omega) hr (by omega)
          · rw [if_neg h4]; exact any_spec_2_yes s i w (by omega) (by omega) (by omega) hr (by omega)
        · rw [hr, show hdManyOf 26 = 4 from rfl]
          by_cases h4 : (s.size : Int) < i + 1 + (4 : Nat)
          · rw [if_pos h4]; exact any_spec_4_no s i w (by omega) (by omega) (by omega) hr (by omega)
          · rw [if_neg h4]; exact any_spec_4_yes s i w (by omega) (by omega) (by omega) hr (by omega)
        · rw [hr, show hdManyOf 27 = 8 from rfl]
          by_cases h4 : (s.size : Int) < i + 1 + (8 : Nat)
          · rw [if_pos h4]; exact any_spec_8_no s i w (by omega) (by omega) (by omega) hr (by omega)
          · rw [if_neg h4]; exact any_spec_8_yes s i w (by omega) (by omega) (by omega) hr (by omega)
set_option maxRecDepth 100000 in
set_option maxHeartbeats 800000 in
theorem GetHead_impl (s : ByteArray) (i : Int) (w : World) (hs : s.size ≤ 9223372036854775800) (hi0 : -9223372036854775808 ≤ i) (hi1 : i ≤ 9223372036854775807) :
    Calls Tryd.prog 64 #[.string s, .int .i64 i] w fun e w' => Head3 (getH s i).1 (getH s i).2.1 (getH s i).2.2 e ∧ Below w.heap.size w w' := by
  have hany := any_impl s i w hs hi0 hi1
  rcases anyH_found s i with e | ⟨a, n, x, e, hf⟩
  · have HG := Lib.hid (show getH s i = (-1, 0, -1) by unfold getH; rw [e]; rfl)
    rw [e] at hany
    have HA := Lib.hid hany
    clear hany e
    rw [HG.out]
    go_enter Tryd.func64, Tryd.ntmps64
    go_wp2_with fail
    refine HA.out.mono ?_
    rintro e1 w1 ⟨rfl, hb1⟩
    go_wp2_with fail
    go_ret3
    exact ⟨rfl, (by (repeat' (first | with_reducible exact Below.refl _ _ | with_reducible refine below_alloc ?_ _ ?_ | with_reducible refine Below.setCell ?_ ?_ _ | with_reducible refine Below.drew ?_ | with_reducible refine below_drewN ?_ _ | with_reducible refine below_step ?_ (by assumption) ?_ | with_reducible refine below_mark ?_ (by assumption) ?_)); all_goals (first | omega | (simp; done) | (simp; omega)))⟩
  · obtain ⟨i0, a0, a7, n0, n1, x0, x1, x9, hsame⟩ := hf
    rw [e] at hany
    have HA := Lib.hid hany
    clear hany hsame
    have hll := headL_le a.toNat n.toNat
    have PH := Lib.hid (fun W => PutHead_impl a n W a0 a7 n0 n1)
    by_cases hl : (headL a.toNat n.toNat).length = (x - i).toNat
    · have HG := Lib.hid (show getH s i = (a, n, x) by unfold getH; rw [e]; rw [if_neg]; simp only []; omega)
      clear e
      rw [HG.out]
      generalize headL a.toNat n.toNat = hh at *
      have t1 : ((hh.length : Int) != x - i) = false := by simp; omega
      have t2 : ((hh.length : Int) == x - i) = true := by simp; omega
      clear hl
      go_enter Tryd.func64, Tryd.ntmps64
      go_wp2_with fail
      refine HA.out.mono ?_
      rintro e1 w1 ⟨rfl, hb1⟩
      go_wp2_with fail
      refine (PH.out _).mono ?_
      rintro e2 w2 ⟨rfl, hb2⟩
      go_wp2_with fail
      go_ret3
      exact ⟨rfl, (by (repeat' (first | with_reducible exact Below.refl _ _ | with_reducible refine below_alloc ?_ _ ?_ | with_reducible refine Below.setCell ?_ ?_ _ | with_reducible refine Below.drew ?_ | with_reducible refine below_drewN ?_ _ | with_reducible refine below_step ?_ (by assumption) ?_ | with_reducible refine below_mark ?_ (by assumption) ?_)); all_goals (first | omega | (simp; done) | (simp; omega)))⟩
    · have HG := Lib.hid (show getH s i = (-1, 0, -1) by unfold getH; rw [e]; rw [if_pos]; exact .inr hl)
      clear e
      rw [HG.out]
      generalize headL a.toNat n.toNat = hh at *
      have t1 : ((hh.length : Int) != x - i) = true := by simp; omega
      have t2 : ((hh.length : Int) == x - i) = false := by simp; omega
      clear hl
      go_enter Tryd.func64, Tryd.ntmps64
      go_wp2_with fail
      refine HA.out.mono ?_
      rintro e1 w1 ⟨rfl, hb1⟩
      go_wp2_with fail
      refine (PH.out _).mono ?_
      rintro e2 w2 ⟨rfl, hb2⟩
      go_wp2_with fail
      go_ret3
      exact ⟨rfl, (by (repeat' (first | with_reducible exact Below.refl _ _ | with_reducible refine below_alloc ?_ _ ?_ | with_reducible refine Below.setCell ?_ ?_ _ | with_reducible refine Below.drew ?_ | with_reducible refine below_drewN ?_ _ | with_reducible refine below_step ?_ (by assumption) ?_ | with_reducible refine below_mark ?_ (by assumption) ?_)); all_goals (first | omega | (simp; done) | (simp; omega)))⟩
theorem extract_sub (s : ByteArray) (i x : Int) (h0 : 0 ≤ i) (h1 : i ≤ x) : s.extract i.toNat x.toNat = ⟨(sub s.data.toList i.toNat (x - i).toNat).toArray⟩ := by
  apply ba_ext
  simp [sub, ByteArray.data_extract, List.extract_eq_take_drop]
  congr 1
  omega
set_option maxRecDepth 100000 in
set_option maxHeartbeats 800000 in
theorem GetHead_spec (s : ByteArray) (i : Int) (w : World) (hs : s.size ≤ 9223372036854775800) (hi0 : -9223372036854775808 ≤ i) (hi1 : i ≤ 9223372036854775807) :
    Calls Tryd.prog 65 #[.string s, .int .i64 i] w fun e w' => Head3 (getH s i).1 (getH s i).2.1 (getH s i).2.2 e ∧ Below w.heap.size w w' := by
  have hany := any_spec s i w hs hi0 hi1
  rcases anyH_found s i with e | ⟨a, n, x, e, hf⟩
  · have HG := Lib.hid (show getH s i = (-1, 0, -1) by unfold getH; rw [e]; rfl)
    rw [e] at hany
    have HA := Lib.hid hany
    clear hany e
    rw [HG.out]
    go_enter Tryd.func65, Tryd.ntmps65
    go_wp2_with fail
    refine HA.out.mono ?_
    rintro e1 w1 ⟨rfl, hb1⟩
    go_wp2_with fail
    go_quiet (fail)
    go_wp2_with fail
    go_ret3
    exact ⟨rfl, (by (repeat' (first | with_reducible exact Below.refl _ _ | with_reducible refine below_alloc ?_ _ ?_ | with_reducible refine Below.setCell ?_ ?_ _ | with_reducible refine Below.drew ?_ | with_reducible refine below_drewN ?_ _ | with_reducible refine below_step ?_ (by assumption) ?_ | with_reducible refine below_mark ?_ (by assumption) ?_)); all_goals (first | omega | (simp; done) | (simp; omega)))⟩
  · obtain ⟨i0, a0, a7, n0, n1, x0, x1, x9, hsame⟩ := hf
    rw [e] at hany
    have HA := Lib.hid hany
    have hll := headL_le a.toNat n.toNat
    have HX := Lib.hid (extract_sub s i x i0 (by omega))
    have HS := Lib.hid hsame
    clear hany hsame
    have PH := Lib.hid (fun W => PutHead_spec a n W a0 a7 n0 n1)
    have hd : decide (x < 0) = false := by simp; omega
    have hix : i ≤ x := by omega
    have hx00 : 0 ≤ x := by omega
    by_cases hl : (headL a.toNat n.toNat).length = (x - i).toNat
    · have HG := Lib.hid (show getH s i = (a, n, x) by unfold getH; rw [e]; rw [if_neg]; simp only []; omega)
      have hq : (⟨(headL a.toNat n.toNat).toArray⟩ : ByteArray) = s.extract i.toNat x.toNat := by rw [HX.out, HS.out hl]
      have t1 : (headL a.toNat n.toNat == (s.extract i.toNat x.toNat).toList) = true := by have := ba_yes hq; rwa [ByteArray.toList_mk] at this
      clear e hq hl HS HX
      rw [HG.out]
      generalize headL a.toNat n.toNat = hh at *
      go_enter Tryd.func65, Tryd.ntmps65
      go_wp2_with fail
      refine HA.out.mono ?_
      rintro e1 w1 ⟨rfl, hb1⟩
      go_wp2_with fail
      go_region_held3 (fun w' => True) (first | exact trivial | go_keep) (first | (go_at_call 71; refine (PH.out _).mono ?_; rintro e2 w2 ⟨rfl, hb2⟩))
      go_wp2_with fail
      go_ret3
      exact ⟨rfl, (by (repeat' (first | with_reducible exact Below.refl _ _ | with_reducible refine below_alloc ?_ _ ?_ | with_reducible refine Below.setCell ?_ ?_ _ | with_reducible refine Below.drew ?_ | with_reducible refine below_drewN ?_ _ | with_reducible refine below_step ?_ (by assumption) ?_ | with_reducible refine below_mark ?_ (by assumption) ?_)); all_goals (first | omega | (simp; done) | (simp; omega)))⟩
    · have HG := Lib.hid (show getH s i = (-1, 0, -1) by unfold getH; rw [e]; rw [if_pos]; exact .inr hl)
      have hsl : (sub s.data.toList i.toNat (x - i).toNat).length = (x - i).toNat := sub_length _ _ _ (by rw [← size_eq]; omega)
      have hq : ¬ (⟨(headL a.toNat n.toNat).toArray⟩ : ByteArray) = s.extract i.toNat x.toNat := by
        rw [HX.out]; intro h
        apply hl
        have h2 : headL a.toNat n.toNat = sub s.data.toList i.toNat (x - i).toNat := by
          have := congrArg (fun b : ByteArray => b.data.toList) h
          simpa using this
        rw [h2, hsl]
      have t1 : (headL a.toNat n.toNat == (s.extract i.toNat x.toNat).toList) = false := by have := ba_no hq; rwa [ByteArray.toList_mk] at this
      clear e hq hl HS HX hsl
      rw [HG.out]
      generalize headL a.toNat n.toNat = hh at *
      go_enter Tryd.func65, Tryd.ntmps65
      go_wp2_with fail
      refine HA.out.mono ?_
      rintro e1 w1 ⟨rfl, hb1⟩
      go_wp2_with fail
      go_region_held3 (fun w' => True) (first | exact trivial | go_keep) (first | (go_at_call 71; refine (PH.out _).mono ?_; rintro e2 w2 ⟨rfl, hb2⟩))
      go_wp2_with fail
      go_ret3
      exact ⟨rfl, (by (repeat' (first | with_reducible exact Below.refl _ _ | with_reducible refine below_alloc ?_ _ ?_ | with_reducible refine Below.setCell ?_ ?_ _ | with_reducible refine Below.drew ?_ | with_reducible refine below_drewN ?_ _ | with_reducible refine below_step ?_ (by assumption) ?_ | with_reducible refine below_mark ?_ (by assumption) ?_)); all_goals (first | omega | (simp; done) | (simp; omega)))⟩
end Go.Proofs.YtiemlefmhleaeaaDoor
