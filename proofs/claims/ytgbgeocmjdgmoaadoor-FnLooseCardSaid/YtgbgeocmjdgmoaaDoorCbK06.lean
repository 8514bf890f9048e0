/- Lemmas for the statement of the last text of this claim: texts joined. -/
import Derived.Test.YtgbgeocmjdgmoaaDoorCbK01
import Derived.Test.YtgbgeocmjdgmoaaDoorCbK03
import Derived.Test.YtgbgeocmjdgmoaaDoorCbK04
import Derived.Test.YtgbgeocmjdgmoaaDoorCbK05
import Derived.BigGuard
import Derived.Deep.RegionHeld3
import Derived.Deep.RegionWith
import Derived.Deep.QuietTactic
import Derived.BigQuiet
namespace Go.Proofs.YtgbgeocmjdgmoaaDoor
set_option linter.unusedSimpArgs false
set_option linter.unusedVariables false
set_option maxRecDepth 100000
open Go.RowKit
def hdManyOf (r : Int) : Nat := if r = 24 then 1 else if r = 25 then 2 else if r = 26 then 4 else 8
def anyH (s : ByteArray) (i : Int) : Int × Int × Int :=
  if i < 0 ∨ s.size ≤ i then (-1, 0, -1)
  else if byteAt s i % 32 < 24 then (byteAt s i / 32, byteAt s i % 32, i + 1)
  else if 27 < byteAt s i % 32 then (-1, 0, -1)
  else if (s.size : Int) < i + 1 + hdManyOf (byteAt s i % 32) then (-1, 0, -1)
  else (byteAt s i / 32, wval (sub s.data.toList (i.toNat + 1) (hdManyOf (byteAt s i % 32))), i + 1 + hdManyOf (byteAt s i % 32))
theorem big_snoc (m n c : Nat) (h : c < 256) : big (m + 1) (256 * n + c) = big m n ++ [UInt8.ofNat c] := by
  induction m with
  | zero => simp [big]
  | succ m ih =>
    rw [big, ih, big]
    have : (256 * n + c) / 256 ^ (m + 1) = n / 256 ^ m := by
      rw [Nat.pow_succ, Nat.mul_comm (256 ^ m) 256, ← Nat.div_div_eq_div_mul]
      congr 1
      omega
    rw [this]
    rfl
theorem big_wval (l : List UInt8) : big l.length (wval l) = l := by
  have : ∀ (k : Nat) (l : List UInt8), l.length = k → big k (wval l) = l := by
    intro k
    induction k with
    | zero => intro l h; simp [List.eq_nil_of_length_eq_zero h, big]
    | succ k ih =>
      intro l h
      have hne : l ≠ [] := by intro e; subst e; simp at h
      rw [← List.dropLast_concat_getLast hne, wval_snoc, big_snoc _ _ _ (UInt8.toNat_lt _), ih _ (by simp [h])]
      simp
  exact this _ l rfl
theorem sub_cons (s : ByteArray) (i m : Nat) (h : i < s.size) : sub s.data.toList i (m + 1) = s[i] :: sub s.data.toList (i + 1) m := by
  have hl : i < s.data.toList.length := by rw [← size_eq]; exact h
  rw [sub, List.drop_eq_getElem_cons hl, List.take_succ_cons]
  rfl
theorem byte_back (s : ByteArray) (i : Int) (h : i.toNat < s.size) (r : Nat) (hr : byteAt s i % 32 = r) : UInt8.ofNat (32 * (byteAt s i / 32).toNat + r) = s[i.toNat] := by
  have hb := byteAt_eq s i h
  have h2 := byteAt_range s i
  have : 32 * (byteAt s i / 32).toNat + r = (s[i.toNat]).toNat := by omega
  rw [this]; simp
theorem headL_many (a n : Nat) (m r : Nat) (hmr : (m = 1 ∧ r = 24) ∨ (m = 2 ∧ r = 25) ∨ (m = 4 ∧ r = 26) ∨ (m = 8 ∧ r = 27)) (hn : n < 256 ^ m) (hl : (headL a n).length = m + 1) :
    headL a n = UInt8.ofNat (32 * a + r) :: big m n := by
  rw [headL_length] at hl
  unfold headL
  rcases hmr with ⟨rfl, rfl⟩ | ⟨rfl, rfl⟩ | ⟨rfl, rfl⟩ | ⟨rfl, rfl⟩
  · by_cases h1 : n < 24
    · rw [if_pos h1] at hl; omega
    · rw [if_neg h1, if_pos (by omega)]
  · by_cases h1 : n < 24
    · rw [if_pos h1] at hl; omega
    · by_cases h2 : n < 256
      · rw [if_neg h1, if_pos h2] at hl; omega
      · rw [if_neg h1, if_neg h2, if_pos (by omega)]
  · by_cases h1 : n < 24
    · rw [if_pos h1] at hl; omega
    · by_cases h2 : n < 256
      · rw [if_neg h1, if_pos h2] at hl; omega
      · by_cases h3 : n < 65536
        · rw [if_neg h1, if_neg h2, if_pos h3] at hl; omega
        · rw [if_neg h1, if_neg h2, if_neg h3, if_pos (by omega)]
  · by_cases h1 : n < 24
    · rw [if_pos h1] at hl; omega
    · by_cases h2 : n < 256
      · rw [if_neg h1, if_pos h2] at hl; omega
      · by_cases h3 : n < 65536
        · rw [if_neg h1, if_neg h2, if_pos h3] at hl; omega
        · by_cases h4 : n < 4294967296
          · rw [if_neg h1, if_neg h2, if_neg h3, if_pos h4] at hl; omega
          · rw [if_neg h1, if_neg h2, if_neg h3, if_neg h4]
structure Found (s : ByteArray) (i a n x : Int) : Prop where
  i0 : 0 ≤ i
  a0 : 0 ≤ a
  a7 : a ≤ 7
  n0 : 0 ≤ n
  n1 : n < 18446744073709551616
  x0 : i < x
  x1 : x ≤ s.size
  x9 : x ≤ i + 9
  same : (headL a.toNat n.toNat).length = (x - i).toNat → headL a.toNat n.toNat = sub s.data.toList i.toNat (x - i).toNat
theorem anyH_found (s : ByteArray) (i : Int) : anyH s i = (-1, 0, -1) ∨ ∃ a n x, anyH s i = (a, n, x) ∧ Found s i a n x := by
  unfold anyH
  split
  · exact .inl rfl
  · rename_i h1
    have hb := byteAt_range s i
    have hlt : i.toNat < s.size := by omega
    split
    · rename_i h2
      refine .inr ⟨_, _, _, rfl, by omega, by omega, by omega, by omega, by omega, by omega, by omega, by omega, fun _ => ?_⟩
      have hr := byte_back s i hlt (byteAt s i % 32).toNat (by omega)
      rw [show (i + 1 - i).toNat = 0 + 1 by omega, sub_cons s i.toNat 0 hlt, headL, if_pos (by omega), hr]
      simp [sub]
    · split
      · exact .inl rfl
      · rename_i h2 h3
        split
        · exact .inl rfl
        · rename_i h4
          have hm : (hdManyOf (byteAt s i % 32) = 1 ∧ byteAt s i % 32 = 24) ∨ (hdManyOf (byteAt s i % 32) = 2 ∧ byteAt s i % 32 = 25) ∨ (hdManyOf (byteAt s i % 32) = 4 ∧ byteAt s i % 32 = 26) ∨ (hdManyOf (byteAt s i % 32) = 8 ∧ byteAt s i % 32 = 27) := by
            unfold hdManyOf; (repeat' split) <;> omega
          generalize hdManyOf (byteAt s i % 32) = m at *
          have hv := wval_sub_lt s.data.toList (i.toNat + 1) m (by omega)
          have hsl : (sub s.data.toList (i.toNat + 1) m).length = m := sub_length _ _ _ (by rw [← size_eq]; omega)
          have hv2 := wval_lt (sub s.data.toList (i.toNat + 1) m)
          rw [hsl] at hv2
          refine .inr ⟨_, _, _, rfl, by omega, by omega, by omega, by omega, by omega, by omega, by omega, by omega, fun hl => ?_⟩
          have hx : (i + 1 + (m : Int) - i).toNat = m + 1 := by omega
          rw [hx] at hl ⊢
          rw [Int.toNat_natCast] at hl ⊢
          rw [headL_many _ _ m (byteAt s i % 32).toNat (by omega) hv2 hl, byte_back s i hlt _ (by omega), sub_cons s i.toNat m hlt]
          congr 1
          have := big_wval (sub s.data.toList (i.toNat + 1) m)
          rw [hsl] at this
          exact this
def getH (s : ByteArray) (i : Int) : Int × Int × Int :=
  let r := anyH s i
  if r.2.2 < 0 ∨ (headL r.1.toNat r.2.1.toNat).length ≠ (r.2.2 - i).toNat then (-1, 0, -1) else r
theorem any_impl (s : ByteArray) (i : Int) (w : World) (hs : s.size ≤ 9223372036854775800) (hi0 : -9223372036854775808 ≤ i) (hi1 : i ≤ 9223372036854775807) :
    Calls Tryd.prog 133 #[.string s, .int .i64 i] w fun e w' => Head3 (anyH s i).1 (anyH s i).2.1 (anyH s i).2.2 e ∧ Below w.heap.size w w' := by
  unfold anyH
  by_cases h1 : i < 0 ∨ s.size ≤ i
  · rw [if_pos h1]; exact any_impl_out s i w (by omega) hi0 hi1 h1
  · rw [if_neg h1]
    by_cases h2 : byteAt s i % 32 < 24
    · rw [if_pos h2]; exact any_impl_short s i w (by omega) (by omega) (by omega) h2
    · rw [if_neg h2]
      by_cases h3 : 27 < byteAt s i % 32
      · rw [if_pos h3]; exact any_impl_bad s i w (by omega) (by omega) (by omega) h3
      · rw [if_neg h3]
        have hr : byteAt s i % 32 = 24 ∨ byteAt s i % 32 = 25 ∨ byteAt s i % 32 = 26 ∨ byteAt s i % 32 = 27 := by omega
        rcases hr with hr | hr | hr | hr
        · rw [hr, show hdManyOf 24 = 1 from rfl]
          by_cases h4 : (s.size : Int) < i + 1 + (1 : Nat)
          · rw [if_pos h4]; exact any_impl_1_no s i w (by omega) (by omega) (by omega) hr (by omega)
          · rw [if_neg h4]; exact any_impl_1_yes s i w (by omega) (by omega) (by omega) hr (by omega)
        · rw [hr, show hdManyOf 25 = 2 from rfl]
          by_cases h4 : (s.size : Int) < i + 1 + (2 : Nat)
          · rw [if_pos h4]; exact any_impl_2_no s i w (by omega) (by omega) (by omega) hr (by omega)
          · rw [if_neg h4]; exact any_impl_2_yes s i w (by omega) (by omega) (by omega) hr (by omega)
        · rw [hr, show hdManyOf 26 = 4 from rfl]
          by_cases h4 : (s.size : Int) < i + 1 + (4 : Nat)
          · rw [if_pos h4]; exact any_impl_4_no s i w (by omega) (by omega) (by omega) hr (by omega)
          · rw [if_neg h4]; exact any_impl_4_yes s i w (by omega) (by omega) (by omega) hr (by omega)
        · rw [hr, show hdManyOf 27 = 8 from rfl]
          by_cases h4 : (s.size : Int) < i + 1 + (8 : Nat)
          · rw [if_pos h4]; exact any_impl_8_no s i w (by omega) (by omega) (by omega) hr (by omega)
          · rw [if_neg h4]; exact any_impl_8_yes s i w (by omega) (by omega) (by omega) hr (by omega)
theorem any_spec (s : ByteArray) (i : Int) (w : World) (hs : s.size ≤ 9223372036854775800) (hi0 : -9223372036854775808 ≤ i) (hi1 : i ≤ 9223372036854775807) :
    Calls Tryd.prog 134 #[.string s, .int .i64 i] w fun e w' => Head3 (anyH s i).1 (anyH s i).2.1 (anyH s i).2.2 e ∧ Below w.heap.size w w' := by
  unfold anyH
  by_cases h1 : i < 0 ∨ s.size ≤ i
  · rw [if_pos h1]; exact any_spec_out s i w (by omega) hi0 hi1 h1
  · rw [if_neg h1]
    by_cases h2 : byteAt s i % 32 < 24
    · rw [if_pos h2]; exact any_spec_short s i w (by omega) (by omega) (by omega) h2
    · rw [if_neg h2]
      by_cases h3 : 27 < byteAt s i % 32
      · rw [if_pos h3]; exact any_spec_bad s i w (by omega) (by omega) (by omega) h3
      · rw [if_neg h3]
        have hr : byteAt s i % 32 = 24 ∨ byteAt s i % 32 = 25 ∨ byteAt s i % 32 = 26 ∨ byteAt s i % 32 = 27 := by omega
        rcases hr with hr | hr | hr | hr
        · rw [hr, show hdManyOf 24 = 1 from rfl]
          by_cases h4 : (s.size : Int) < i + 1 + (1 : Nat)
          · rw [if_pos h4]; exact any_spec_1_no s i w (by omega) (by omega) (by omega) hr (by omega)
          · rw [if_neg h4]; exact any_spec_1_yes s i w (by omega) (by omega) (by omega) hr (by omega)
        · rw [hr, show hdManyOf 25 = 2 from rfl]
          by_cases h4 : (s.size : Int) < i + 1 + (2 : Nat)
          · rw [if_pos h4]; exact any_spec_2_no s i w (by omega) (by omega) (by omega) hr (by omega)
          · rw [if_neg h4]; exact any_spec_2_yes s i w (by omega) (by omega) (by omega) hr (by omega)
        · rw [hr, show hdManyOf 26 = 4 from rfl]
          by_cases h4 : (s.size : Int) < i + 1 + (4 : Nat)
          · rw [if_pos h4]; exact any_spec_4_no s i w (by omega) (by omega) (by omega) hr (by omega)
          · rw [if_neg h4]; exact any_spec_4_yes s i w (by omega) (by omega) (by omega) hr (by omega)
        · rw [hr, show hdManyOf 27 = 8 from rfl]
          by_cases h4 : (s.size : Int) < i + 1 + (8 : Nat)
          · rw [if_pos h4]; exact any_spec_8_no s i w (by omega) (by omega) (by omega) hr (by omega)
          · rw [if_neg h4]; exact any_spec_8_yes s i w (by omega) (by omega) (by omega) hr (by omega)
set_option maxRecDepth 100000 in
set_option maxHeartbeats 800000 in
theorem GetHead_impl (s : ByteArray) (i : Int) (w : World) (hs : s.size ≤ 9223372036854775800) (hi0 : -9223372036854775808 ≤ i) (hi1 : i ≤ 9223372036854775807) :
    Calls Tryd.prog 71 #[.string s, .int .i64 i] w fun e w' => Head3 (getH s i).1 (getH s i).2.1 (getH s i).2.2 e ∧ Below w.heap.size w w' := by
  have hany := any_impl s i w hs hi0 hi1
  rcases anyH_found s i with e | ⟨a, n, x, e, hf⟩
  · have HG := Lib.hid (show getH s i = (-1, 0, -1) by unfold getH; rw [e]; rfl)
    rw [e] at hany
    have HA := Lib.hid hany
    clear hany e
    rw [HG.out]
    go_enter Tryd.func71, Tryd.ntmps71
    go_wp2_with fail
    refine HA.out.mono ?_
    rintro e1 w1 ⟨rfl, hb1⟩
    go_wp2_with fail
    go_ret3
    exact ⟨rfl, (by (repeat' (first | with_reducible exact Below.refl _ _ | with_reducible refine below_alloc ?_ _ ?_ | with_reducible refine Below.setCell ?_ ?_ _ | with_reducible refine Below.drew ?_ | with_reducible refine below_drewN ?_ _ | with_reducible refine below_step ?_ (by assumption) ?_ | with_reducible refine below_mark ?_ (by assumption) ?_)); all_goals (first | omega | (simp; done) | (simp; omega)))⟩
  · obtain ⟨i0, a0, a7, n0, n1, x0, x1, x9, hsame⟩ := hf
    rw [e] at hany
    have HA := Lib.hid hany
    clear hany hsame
    have hll := headL_le a.toNat n.toNat
    have PH := Lib.hid (fun W => PutHead_impl a n W a0 a7 n0 n1)
    by_cases hl : (headL a.toNat n.toNat).length = (x - i).toNat
    · have HG := Lib.hid (show getH s i = (a, n, x) by unfold getH; rw [e]; rw [if_neg]; simp only []; omega)
      clear e
      rw [HG.out]
      generalize headL a.toNat n.toNat = hh at *
      have t1 : ((hh.length : Int) != x - i) = false := by simp; omega
      have t2 : ((hh.length : Int) == x - i) = true := by simp; omega
      clear hl
      go_enter Tryd.func71, Tryd.ntmps71
      go_wp2_with fail
      refine HA.out.mono ?_
      rintro e1 w1 ⟨rfl, hb1⟩
      go_wp2_with fail
      refine (PH.out _).mono ?_
      rintro e2 w2 ⟨rfl, hb2⟩
      go_wp2_with fail
      go_ret3
      exact ⟨rfl, (by (repeat' (first | with_reducible exact Below.refl _ _ | with_reducible refine below_alloc ?_ _ ?_ | with_reducible refine Below.setCell ?_ ?_ _ | with_reducible refine Below.drew ?_ | with_reducible refine below_drewN ?_ _ | with_reducible refine below_step ?_ (by assumption) ?_ | with_reducible refine below_mark ?_ (by assumption) ?_)); all_goals (first | omega | (simp; done) | (simp; omega)))⟩
    · have HG := Lib.hid (show getH s i = (-1, 0, -1) by unfold getH; rw [e]; rw [if_pos]; exact .inr hl)
      clear e
      rw [HG.out]
      generalize headL a.toNat n.toNat = hh at *
      have t1 : ((hh.length : Int) != x - i) = true := by simp; omega
      have t2 : ((hh.length : Int) == x - i) = false := by simp; omega
      clear hl
      go_enter Tryd.func71, Tryd.ntmps71
      go_wp2_with fail
      refine HA.out.mono ?_
      rintro e1 w1 ⟨rfl, hb1⟩
      go_wp2_with fail
      refine (PH.out _).mono ?_
      rintro e2 w2 ⟨rfl, hb2⟩
      go_wp2_with fail
      go_ret3
      exact ⟨rfl, (by (repeat' (first | with_reducible exact Below.refl _ _ | with_reducible refine below_alloc ?_ _ ?_ | with_reducible refine Below.setCell ?_ ?_ _ | with_reducible refine Below.drew ?_ | with_reducible refine below_drewN ?_ _ | with_reducible refine below_step ?_ (by assumption) ?_ | with_reducible refine below_mark ?_ (by assumption) ?_)); all_goals (first | omega | (simp; done) | (simp; omega)))⟩
theorem extract_sub (s : ByteArray) (i x : Int) (h0 : 0 ≤ i) (h1 : i ≤ x) : s.extract i.toNat x.toNat = ⟨(sub s.data.toList i.toNat (x - i).toNat).toArray⟩ := by
  apply ba_ext
  simp [sub, ByteArray.data_extract, List.extract_eq_take_drop]
  congr 1
  omega
set_option maxRecDepth 100000 in
set_option maxHeartbeats 800000 in
theorem GetHead_spec (s : ByteArray) (i : Int) (w : World) (hs : s.size ≤ 9223372036854775800) (hi0 : -9223372036854775808 ≤ i) (hi1 : i ≤ 9223372036854775807) :
    Calls Tryd.prog 72 #[.string s, .int .i64 i] w fun e w' => Head3 (getH s i).1 (getH s i).2.1 (getH s i).2.2 e ∧ Below w.heap.size w w' := by
  have hany := any_spec s i w hs hi0 hi1
  rcases anyH_found s i with e | ⟨a, n, x, e, hf⟩
  · have HG := Lib.hid (show getH s i = (-1, 0, -1) by unfold getH; rw [e]; rfl)
    rw [e] at hany
    have HA := Lib.hid hany
    clear hany e
    rw [HG.out]
    go_enter Tryd.func72, Tryd.ntmps72
    go_wp2_with fail
    refine HA.out.mono ?_
    rintro e1 w1 ⟨rfl, hb1⟩
    go_wp2_with fail
    go_quiet (fail)
    go_wp2_with fail
    go_ret3
    exact ⟨rfl, (by (repeat' (first | with_reducible exact Below.refl _ _ | with_reducible refine below_alloc ?_ _ ?_ | with_reducible refine Below.setCell ?_ ?_ _ | with_reducible refine Below.drew ?_ | with_reducible refine below_drewN ?_ _ | with_reducible refine below_step ?_ (by assumption) ?_ | with_reducible refine below_mark ?_ (by assumption) ?_)); all_goals (first | omega | (simp; done) | (simp; omega)))⟩
  · obtain ⟨i0, a0, a7, n0, n1, x0, x1, x9, hsame⟩ := hf
    rw [e] at hany
    have HA := Lib.hid hany
    have hll := headL_le a.toNat n.toNat
    have HX := Lib.hid (extract_sub s i x i0 (by omega))
    have HS := Lib.hid hsame
    clear hany hsame
    have PH := Lib.hid (fun W => PutHead_spec a n W a0 a7 n0 n1)
    have hd : decide (x < 0) = false := by simp; omega
    have hix : i ≤ x := by omega
    have hx00 : 0 ≤ x := by omega
    by_cases hl : (headL a.toNat n.toNat).length = (x - i).toNat
    · have HG := Lib.hid (show getH s i = (a, n, x) by unfold getH; rw [e]; rw [if_neg]; simp only []; omega)
      have hq : (⟨(headL a.toNat n.toNat).toArray⟩ : ByteArray) = s.extract i.toNat x.toNat := by rw [HX.out, HS.out hl]
      have t1 : (headL a.toNat n.toNat == (s.extract i.toNat x.toNat).toList) = true := by have := ba_yes hq; rwa [ByteArray.toList_mk] at this
      clear e hq hl HS HX
      rw [HG.out]
      generalize headL a.toNat n.toNat = hh at *
      go_enter Tryd.func72, Tryd.ntmps72
      go_wp2_with fail
      refine HA.out.mono ?_
      rintro e1 w1 ⟨rfl, hb1⟩
      go_wp2_with fail
      go_region_held3 (fun w' => True) (first | exact trivial | go_keep) (first | (go_at_call 80; refine (PH.out _).mono ?_; rintro e2 w2 ⟨rfl, hb2⟩))
      go_wp2_with fail
      go_ret3
      exact ⟨rfl, (by (repeat' (first | with_reducible exact Below.refl _ _ | with_reducible refine below_alloc ?_ _ ?_ | with_reducible refine Below.setCell ?_ ?_ _ | with_reducible refine Below.drew ?_ | with_reducible refine below_drewN ?_ _ | with_reducible refine below_step ?_ (by assumption) ?_ | with_reducible refine below_mark ?_ (by assumption) ?_)); all_goals (first | omega | (simp; done) | (simp; omega)))⟩
    · have HG := Lib.hid (show getH s i = (-1, 0, -1) by unfold getH; rw [e]; rw [if_pos]; exact .inr hl)
      have hsl : (sub s.data.toList i.toNat (x - i).toNat).length = (x - i).toNat := sub_length _ _ _ (by rw [← size_eq]; omega)
      have hq : ¬ (⟨(headL a.toNat n.toNat).toArray⟩ : ByteArray) = s.extract i.toNat x.toNat := by
        rw [HX.out]; intro h
        apply hl
        have h2 : headL a.toNat n.toNat = sub s.data.toList i.toNat (x - i).toNat := by
          have := congrArg (fun b : ByteArray => b.data.toList) h
          simpa using this
        rw [h2, hsl]
      have t1 : (headL a.toNat n.toNat == (s.extract i.toNat x.toNat).toList) = false := by have := ba_no hq; rwa [ByteArray.toList_mk] at this
      clear e hq hl HS HX hsl
      rw [HG.out]
      generalize headL a.toNat n.toNat = hh at *
      go_enter Tryd.func72, Tryd.ntmps72
      go_wp2_with fail
      refine HA.out.mono ?_
      rintro e1 w1 ⟨rfl, hb1⟩
      go_wp2_with fail
      go_region_held3 (fun w' => True) (first | exact trivial | go_keep) (first | (go_at_call 80; refine (PH.out _).mono ?_; rintro e2 w2 ⟨rfl, hb2⟩))
      go_wp2_with fail
      go_ret3
      exact ⟨rfl, (by (repeat' (first | with_reducible exact Below.refl _ _ | with_reducible refine below_alloc ?_ _ ?_ | with_reducible refine Below.setCell ?_ ?_ _ | with_reducible refine Below.drew ?_ | with_reducible refine below_drewN ?_ _ | with_reducible refine below_step ?_ (by assumption) ?_ | with_reducible refine below_mark ?_ (by assumption) ?_)); all_goals (first | omega | (simp; done) | (simp; omega)))⟩
end Go.Proofs.YtgbgeocmjdgmoaaDoor
namespace Go.Proofs.YtgbgeocmjdgmoaaDoor
set_option linter.unusedSimpArgs false
set_option linter.unusedVariables false
set_option maxRecDepth 100000
open Go.RowKit
abbrev MG := Option (V × Nat × Nat)
def mgStr (s : ByteArray) (k : Int) (i many l : Nat) : MG := if i + many ≤ s.size then some (.mk k 0 0 (s.extract i (i + many)) [], i + many, l) else none
def mgKids (g : Nat → Nat → MG) : Nat → Nat → Nat → Option (List V × Nat × Nat)
  | 0, i, l => some ([], i, l)
  | k + 1, i, l => (mgKids g k i l).bind fun p => (g p.2.1 p.2.2).map fun q => (p.1 ++ [q.1], q.2)
def mgNode (k n : Int) (o : Option (List V × Nat × Nat)) : MG := o.map fun p => (.mk k n 0 ⟨#[]⟩ p.1, p.2)
def mgLeaf (k n e : Int) (i l : Nat) : MG := some (.mk k n e ⟨#[]⟩ [], i, l)
def MGood (s : ByteArray) (i l : Nat) (o : MG) : Prop := ∀ v j m, o = some (v, j, m) → v.sz + 1 + i ≤ j ∧ j ≤ s.size ∧ m < l ∧ v.nodes + m = l ∧ v.wf
theorem szs_append' : ∀ a b : List V, szs (a ++ b) = szs a + szs b
  | [], b => by simp [szs]
  | t :: a, b => by rw [List.cons_append, szs, szs, szs_append' a b]; omega
theorem mgLeaf_good {s : ByteArray} {k n e : Int} {i j l : Nat} (h : i + 1 ≤ j) (hj : j ≤ s.size) (hk : In64 k) (hn : In64 n) (he : In64 e) : MGood s i (l + 1) (mgLeaf k n e j l) := by
  intro v j' m h1
  simp only [mgLeaf, Option.some.injEq, Prod.mk.injEq] at h1
  obtain ⟨rfl, rfl, rfl⟩ := h1
  refine ⟨?_, hj, by omega, ?_, hk, hn, he, by show ByteArray.size ⟨#[]⟩ ≤ _; simp [ByteArray.size]⟩
  · rw [V.sz, szs]; show ByteArray.size ⟨#[]⟩ + 0 + 1 + i ≤ _; simp [ByteArray.size]; omega
  · rw [V.nodes_eq]; simp [V.kids, nodess]; omega
theorem mgStr_good {s : ByteArray} {k : Int} {i0 i many l : Nat} (hs : s.size ≤ 1048576) (h : i0 + 1 ≤ i) (hk : In64 k) : MGood s i0 (l + 1) (mgStr s k i many l) := by
  intro v j' m h1
  unfold mgStr at h1
  split at h1
  · rename_i h2
    simp only [Option.some.injEq, Prod.mk.injEq] at h1
    obtain ⟨rfl, rfl, rfl⟩ := h1
    have hz : (s.extract i (i + many)).size = many := by rw [ByteArray.size_extract]; omega
    refine ⟨?_, h2, by omega, ?_, hk, ⟨by show (-9223372036854775808 : Int) ≤ 0; omega, by show (0 : Int) ≤ _; omega⟩, ⟨by show (-9223372036854775808 : Int) ≤ 0; omega, by show (0 : Int) ≤ _; omega⟩, by show (s.extract i (i + many)).size ≤ _; omega⟩
    · rw [V.sz, szs, hz]; omega
    · rw [V.nodes_eq]; simp [V.kids, nodess]; omega
  · cases h1
theorem mgKids_some {g : Nat → Nat → MG} {k i l : Nat} {p : List V × Nat × Nat} (h : mgKids g k i l = some p) {q : V × Nat × Nat} (hq : g p.2.1 p.2.2 = some q) : mgKids g (k + 1) i l = some (p.1 ++ [q.1], q.2) := by
  rw [mgKids, h, Option.bind_some, hq]; rfl
theorem mgKids_stop {g : Nat → Nat → MG} {k i l : Nat} {p : List V × Nat × Nat} (h : mgKids g k i l = some p) (hq : g p.2.1 p.2.2 = none) : mgKids g (k + 1) i l = none := by
  rw [mgKids, h, Option.bind_some, hq]; rfl
theorem mgKids_stuck {g : Nat → Nat → MG} {k i l : Nat} (h : mgKids g k i l = none) : ∀ d, mgKids g (k + d) i l = none
  | 0 => h
  | d + 1 => by rw [← Nat.add_assoc, mgKids, mgKids_stuck h d]; rfl
theorem mgKids_none {g : Nat → Nat → MG} {k n i l : Nat} (h : mgKids g k i l = none) (hk : k ≤ n) : mgKids g n i l = none := by
  have := mgKids_stuck h (n - k); rwa [show k + (n - k) = n by omega] at this
theorem nodess_ge : ∀ ts : List V, ts.length ≤ nodess ts
  | [] => by simp
  | t :: ts => by
    have := nodess_ge ts
    rw [nodess, V.nodes_eq, List.length_cons]; omega
theorem in0 : In64 0 := ⟨by show (-9223372036854775808 : Int) ≤ 0; omega, by show (0 : Int) ≤ _; omega⟩
theorem in3 : In64 3 := ⟨by show (-9223372036854775808 : Int) ≤ 3; omega, by show (3 : Int) ≤ _; omega⟩
theorem k64 (k : Int) (h1 : 0 ≤ k) (h2 : k ≤ 4294967296) : In64 k := by unfold In64; omega
structure RAcc (r : Nat) (w W : World) (b : Nat) (k n e : Int) (s : ByteArray) (us : List V) (o : Value) (G : Nat → Prop) : Prop where
  box : Box W b k n e s o 26
  rows : VRows W (b + 1) 26 G o us
  touch : Touch (fun x => x = r ∨ x = b) (fun x => x = r ∨ x = b) w W
  hwb : w.heap.size = b + 1
  hr : r < b
theorem RAcc.stay {r b : Nat} {w W W' : World} {k n e : Int} {s : ByteArray} {us : List V} {o : Value} {G : Nat → Prop} (h : RAcc r w W b k n e s us o G) (hb : Below W.heap.size W W') : RAcc r w W' b k n e s us o G :=
  ⟨h.box.stay hb, h.rows.keep hb, h.touch.trans (Touch.of_below hb), h.hwb, h.hr⟩
theorem RAcc.over {r b : Nat} {w W W' : World} {k n e : Int} {s : ByteArray} {us : List V} {o : Value} {G : Nat → Prop} (h : RAcc r w W b k n e s us o G) (ht : Touch (fun x => x = r) (fun x => x = r) W W') : RAcc r w W' b k n e s us o G := by
  have hr := h.hr
  refine ⟨(ht.block b h.box.lt (by omega)).trans h.box, h.rows.move ht.size (fun x hx => ht.block x ?_ ?_), h.touch.trans (ht.mono (fun x hx => .inl hx) (fun x hx => .inl (.inl hx))), h.hwb, h.hr⟩
  · rcases hx with hx | hx
    · exact (h.rows.inG x hx).2
    · exact (h.rows.lt x hx).2
  · rcases hx with hx | hx
    · have := (h.rows.inG x hx).1; omega
    · have := (h.rows.lt x hx).1; omega
theorem RAcc.same {r b : Nat} {w W W1 W2 : World} {k n e : Int} {s : ByteArray} {us : List V} {o : Value} {G : Nat → Prop} (h : RAcc r w W b k n e s us o G) (hW : Below W.heap.size W W1) (hg : W1.grownBy W2 o.ownBlock) (v2 : Value) :
    ∀ x, x < w.heap.size → x ≠ b → (W2.setCell ⟨b, 4, none⟩ v2).heap[x]? = W.heap[x]? := fun x hx hb => by
  have h1 := h.touch.size
  have h2 := h.hwb
  have h3 := hW.size
  rw [heap_setCell_other _ _ _ _ (show x ≠ b from hb), hg.block x (by omega) (fun e => by have := (h.rows.lt x e.symm).1; omega)]
  exact hW.block x (by omega)
theorem RAcc.put {r b : Nat} {w W W1 W2 : World} {k n e : Int} {s : ByteArray} {us us2 : List V} {o v2 : Value} {G G2 : Nat → Prop} (h : RAcc r w W b k n e s us o G) (hW : Below W.heap.size W W1) (hg : W1.grownBy W2 o.ownBlock) (hr2 : VRows W2 (b + 1) 26 G2 v2 us2) :
    RAcc r w (W2.setCell ⟨b, 4, none⟩ v2) b k n e s us2 v2 G2 := by
  have hl := h.box.lt
  have z1 := hW.size
  have z2 := hg.size
  have hz := h.touch.size
  have B2 : Box W2 b k n e s o 26 := by
    have hn : o.ownBlock ≠ some b := fun e => by have := (h.rows.lt b e).1; omega
    exact (hg.block b (by omega) (fun e => hn e.symm)).trans (h.box.stay hW)
  refine ⟨B2.set4, hr2.move (by simp) (fun x hx => heap_setCell_other _ _ _ _ (fun e => ?_)), ?_, h.hwb, h.hr⟩
  · have e' : x = b := e
    rcases hx with hx | hx
    · have := (hr2.inG x hx).1; omega
    · have := (hr2.lt x hx).1; omega
  · exact ⟨hg.os.trans (hW.os.trans h.touch.os), hg.tape.trans (hW.tape.trans h.touch.tape), hg.output.trans (hW.output.trans h.touch.output), by simp; omega, fun x hx hn => (h.same hW hg v2 x hx (fun e => hn (.inr e))).trans (h.touch.block x hx hn), h.touch.new⟩
theorem RAcc.nil {r b : Nat} {w : World} {k n e : Int} {s : ByteArray} (hB : Box w b k n e s (.slice none 0 0) 26) (hwb : w.heap.size = b + 1) (hr : r < b) : RAcc r w w b k n e s [] (.slice none 0 0) (fun _ => False) :=
  ⟨hB, VRows.nil _ _ _, Touch.refl _ _, hwb, hr⟩
theorem Touch.cellD {d i : Nat} {w W : World} (h : Touch (fun x => x = d) (fun x => x = d) w W) (v : Value) : Touch (fun x => x = d) (fun x => x = d) w (W.setCell ⟨d, i, none⟩ v) :=
  ⟨h.os, h.tape, h.output, by simpa using h.size, fun x hx hn => (heap_setCell_other _ _ _ _ hn).trans (h.block x hx hn), h.new⟩
theorem touch_drewN {d : Nat} {w W : World} (n : Nat) (h : Touch (fun x => x = d) (fun x => x = d) w W) : Touch (fun x => x = d) (fun x => x = d) w (W.drewN n) := h.trans (Touch.of_below (below_drewN (Below.refl _ _) n))
theorem touch_grown {d B : Nat} {w W w2 : World} {o : Value} (h : Touch (fun x => x = d) (fun x => x = d) w W) (hg : W.grownBy w2 o.ownBlock) (hB : w.heap.size ≤ B) (ho : ∀ k, o.ownBlock = some k → B ≤ k) : Touch (fun x => x = d) (fun x => x = d) w w2 :=
  ⟨hg.os.trans h.os, hg.tape.trans h.tape, hg.output.trans h.output, Nat.le_trans h.size hg.size,
    fun x hx hn => (hg.block x (Nat.lt_of_lt_of_le hx h.size) (fun e => by have := ho x e.symm; omega)).trans (h.block x hx hn), fun x hx => .inl hx⟩
theorem rows_over {d B : Nat} {w w' : World} {E : TypeId} {G : Nat → Prop} {v : Value} {us : List V} (h : VRows w B E G v us) (ht : Touch (fun x => x = d) (fun x => x = d) w w') (hd : d < B) : VRows w' B E G v us :=
  h.move ht.size (fun x hx => ht.block x (hx.elim (fun h1 => (h.inG x h1).2) (fun h1 => (h.lt x h1).2)) (fun e => by
    have h2 : B ≤ x := hx.elim (fun h1 => (h.inG x h1).1) (fun h1 => (h.lt x h1).1)
    omega))
end Go.Proofs.YtgbgeocmjdgmoaaDoor
namespace Go.Proofs.YtgbgeocmjdgmoaaDoor
set_option linter.unusedSimpArgs false
set_option linter.unusedVariables false
set_option maxRecDepth 100000
open Go.RowKit
def hdR (lo : Bool) (s : ByteArray) (i : Nat) : Option (Nat × Nat × Nat) :=
  if (if lo then anyH s i else getH s i).2.2 < 0 then none
  else some ((if lo then anyH s i else getH s i).1.toNat, (if lo then anyH s i else getH s i).2.1.toNat, (if lo then anyH s i else getH s i).2.2.toNat)
def cgChunks (s : ByteArray) (a : Nat) : Nat → Nat → Option (ByteArray × Nat)
  | 0, _ => none
  | f + 1, i => if h : i < s.size then (if s[i].toNat = 255 then some (⟨#[]⟩, i + 1) else
      match hdR true s i with
      | none => none
      | some (m, n, x) => if m = a ∧ x + n ≤ s.size ∧ (a = 3 → txt (s.extract x (x + n)) = true) then (cgChunks s a f (x + n)).map fun p => (s.extract x (x + n) ++ p.1, p.2) else none) else none
def cgUpto (s : ByteArray) (g : Nat → Nat → MG) : Nat → Nat → Nat → Option (List V × Nat × Nat)
  | 0, _, _ => none
  | f + 1, i, l => if h : i < s.size then (if s[i].toNat = 255 then some ([], i + 1, l) else
      (g i l).bind fun q => (cgUpto s g f q.2.1 q.2.2).map fun p => (q.1 :: p.1, p.2)) else none
def evenK (sp : Bool) (o : Option (List V × Nat × Nat)) : Option (List V × Nat × Nat) := o.bind fun p => if sp = true ∧ p.1.length % 2 = 1 then none else some p
def cgOpen (sp : Bool) (s : ByteArray) (g : Nat → Nat → MG) (a i l : Nat) : MG :=
  if a = 2 then (cgChunks s 2 (s.size + 1) i).map fun p => (.mk 6 0 0 p.1 [], p.2, l)
  else if a = 3 then (cgChunks s 3 (s.size + 1) i).map fun p => (.mk 5 0 0 p.1 [], p.2, l)
  else if a = 4 then mgNode 7 0 (cgUpto s g (s.size + 1) i l)
  else mgNode 8 0 (evenK sp (cgUpto s g (s.size + 1) i l))
def decOf : V × Nat × Nat → MG
  | (.mk k _ _ _ [x, y], j, m) => if k = 7 ∧ x.k = 3 ∧ y.k = 3 then mgLeaf 4 y.n x.n j m else none
  | _ => none
def cgTag (n : Nat) (q : V × Nat × Nat) : MG := if n = 4 then decOf q else some (.mk 9 (min n 4294967296 : Nat) 0 ⟨#[]⟩ [q.1], q.2)
def cgHead (sp lo : Bool) (s : ByteArray) (g : Nat → Nat → MG) (a n x l : Nat) : MG :=
  if a ≤ 1 then (if 9223372036854775807 < n then none else mgLeaf 3 (if a = 1 then -1 - (n : Int) else n) 0 x l)
  else if a = 2 then mgStr s 6 x n l
  else if a = 3 then mgStr s 5 x n l
  else if a = 4 then (if sp = true ∧ 300 < n then none else mgNode 7 0 (mgKids g n x l))
  else if a = 5 then (if sp = true ∧ 300 < n then none else mgNode 8 0 (mgKids g (2 * min n 4294967296) x l))
  else if a = 6 then (if sp = true ∧ 1000000 < n then none else (g x l).bind (cgTag n))
  else if n = 20 then mgLeaf 1 0 0 x l else if n = 21 then mgLeaf 2 0 0 x l
  else if n = 22 ∨ (n = 23 ∧ lo = true) then mgLeaf 0 0 0 x l else none
def isOpen (lo : Bool) (b : Nat) : Prop := lo = true ∧ b % 32 = 31 ∧ 2 ≤ b / 32 ∧ b / 32 ≤ 5
instance (lo : Bool) (b : Nat) : Decidable (isOpen lo b) := by unfold isOpen; exact inferInstance
def cgVal (sp lo : Bool) (s : ByteArray) (g : Nat → Nat → MG) (b i l : Nat) : MG :=
  if isOpen lo b then cgOpen sp s g (b / 32) (i + 1) l
  else match hdR lo s i with
    | none => none
    | some (a, n, x) => cgHead sp lo s g a n x l
def cg (sp lo : Bool) (s : ByteArray) : Nat → Nat → Nat → MG
  | 0, _, _ => none
  | f + 1, i, l => if h : i < s.size then (if l = 0 then none else cgVal sp lo s (cg sp lo s f) s[i].toNat i (l - 1)) else none
def VOk (t : V) : Prop := t.wf ∧ (t.k = 3 → t.kids = [])
def CGood (s : ByteArray) (i l : Nat) (o : MG) : Prop := ∀ v j m, o = some (v, j, m) → v.sz + 1 + i ≤ j ∧ j ≤ s.size ∧ m < l ∧ v.nodes + m ≤ l ∧ VOk v ∧ ∀ t ∈ v.kids, VOk t
def CKGood (s : ByteArray) (i l : Nat) (o : Option (List V × Nat × Nat)) : Prop := ∀ vs j m, o = some (vs, j, m) → szs vs + i ≤ j ∧ j ≤ s.size ∧ nodess vs + m ≤ l ∧ ∀ t ∈ vs, VOk t
theorem mgKids_cgood {s : ByteArray} {g : Nat → Nat → MG} (hg : ∀ i l, CGood s i l (g i l)) : ∀ k i l, i ≤ s.size → CKGood s i l (mgKids g k i l) ∧ (∀ vs j m, mgKids g k i l = some (vs, j, m) → vs.length = k)
  | 0, i, l, hi => by
    refine ⟨?_, ?_⟩ <;> intro vs j m h
    · simp only [mgKids, Option.some.injEq, Prod.mk.injEq] at h
      obtain ⟨rfl, rfl, rfl⟩ := h
      simp [szs, nodess, hi]
    · simp only [mgKids, Option.some.injEq, Prod.mk.injEq] at h
      obtain ⟨rfl, rfl, rfl⟩ := h
      rfl
  | k + 1, i, l, hi => by
    have key : ∀ vs j m, mgKids g (k + 1) i l = some (vs, j, m) → (szs vs + i ≤ j ∧ j ≤ s.size ∧ nodess vs + m ≤ l ∧ ∀ t ∈ vs, VOk t) ∧ vs.length = k + 1 := by
      intro vs j m h
      rw [mgKids] at h
      cases hp : mgKids g k i l with
      | none => rw [hp] at h; simp at h
      | some p =>
        obtain ⟨ps, pi, pl⟩ := p
        rw [hp] at h
        simp only [Option.bind_some, Option.map_eq_some_iff] at h
        obtain ⟨⟨v, j', m'⟩, h1, h2⟩ := h
        simp only [Prod.mk.injEq] at h2
        obtain ⟨rfl, rfl, rfl⟩ := h2
        have a := (mgKids_cgood hg k i l hi).1 ps pi pl hp
        have al := (mgKids_cgood hg k i l hi).2 ps pi pl hp
        have b := hg pi pl v j' m' h1
        refine ⟨⟨?_, b.2.1, ?_, ?_⟩, ?_⟩
        · rw [szs_append', szs, szs]; omega
        · rw [nodess_append, nodess, nodess]; omega
        · intro t ht
          rw [List.mem_append, List.mem_singleton] at ht
          rcases ht with ht | rfl
          · exact a.2.2.2 t ht
          · exact b.2.2.2.2.1
        · rw [List.length_append, al]; rfl
    exact ⟨fun vs j m h => (key vs j m h).1, fun vs j m h => (key vs j m h).2⟩
theorem cgUpto_good {s : ByteArray} {g : Nat → Nat → MG} (hg : ∀ i l, CGood s i l (g i l)) : ∀ f i l, CKGood s i l (cgUpto s g f i l)
  | 0, i, l => fun vs j m h => by cases h
  | f + 1, i, l => by
    intro vs j m h
    rw [cgUpto] at h
    split at h
    · rename_i hi
      split at h
      · simp only [Option.some.injEq, Prod.mk.injEq] at h
        obtain ⟨rfl, rfl, rfl⟩ := h
        simp [szs, nodess]; omega
      · cases hq : g i l with
        | none => rw [hq] at h; simp at h
        | some q =>
          obtain ⟨v, j1, m1⟩ := q
          rw [hq] at h
          simp only [Option.bind_some, Option.map_eq_some_iff] at h
          obtain ⟨⟨ps, j2, m2⟩, h1, h2⟩ := h
          simp only [Prod.mk.injEq] at h2
          obtain ⟨rfl, rfl, rfl⟩ := h2
          have a := hg i l v j1 m1 hq
          have b := cgUpto_good hg f j1 m1 ps j2 m2 h1
          refine ⟨?_, b.2.1, ?_, ?_⟩
          · rw [szs]; omega
          · rw [nodess]; omega
          · intro t ht
            rw [List.mem_cons] at ht
            rcases ht with rfl | ht
            · exact a.2.2.2.2.1
            · exact b.2.2.2 t ht
    · cases h
theorem hdR_some {lo : Bool} {s : ByteArray} {i a n x : Nat} (h : hdR lo s i = some (a, n, x)) : i + 1 ≤ x ∧ x ≤ s.size ∧ n < 18446744073709551616 ∧ a ≤ 7 ∧ (if lo then anyH s i else getH s i) = ((a : Int), (n : Int), (x : Int)) := by
  unfold hdR at h
  have hf := anyH_found s (i : Int)
  generalize hr : (if lo then anyH s i else getH s i) = r at *
  have hr2 : r = anyH s i ∨ r = (-1, 0, -1) := by
    rw [← hr]
    cases lo
    · simp only [Bool.false_eq_true, if_false, getH]; split <;> simp
    · simp
  obtain ⟨r1, r2, r3⟩ := r
  split at h
  · cases h
  · rename_i h3
    simp only [Option.some.injEq, Prod.mk.injEq] at h h3
    obtain ⟨rfl, rfl, rfl⟩ := h
    rcases hr2 with e | e
    · rcases hf with f | ⟨a', n', x', f, hF⟩
      · rw [f] at e; simp only [Prod.mk.injEq] at e; omega
      · rw [f] at e
        simp only [Prod.mk.injEq] at e
        obtain ⟨rfl, rfl, rfl⟩ := e
        have h1 := hF.i0; have h2 := hF.a0; have h4 := hF.a7; have h5 := hF.n0; have h6 := hF.n1; have h7 := hF.x0; have h8 := hF.x1
        refine ⟨by omega, by omega, by omega, by omega, ?_⟩
        simp only [Prod.mk.injEq]
        omega
    · simp only [Prod.mk.injEq] at e; omega
theorem cgChunks_good {s : ByteArray} {a : Nat} : ∀ f i t j, cgChunks s a f i = some (t, j) → t.size + i + 1 ≤ j ∧ j ≤ s.size
  | 0, i, t, j, h => by cases h
  | f + 1, i, t, j, h => by
    rw [cgChunks] at h
    split at h
    · rename_i hi
      split at h
      · simp only [Option.some.injEq, Prod.mk.injEq] at h
        obtain ⟨rfl, rfl⟩ := h
        have e0 : (⟨#[]⟩ : ByteArray).size = 0 := rfl
        omega
      · cases hh : hdR true s i with
        | none => rw [hh] at h; cases h
        | some q =>
          obtain ⟨m, n, x⟩ := q
          rw [hh] at h
          have h0 := hdR_some hh
          simp only at h
          split at h
          · rename_i hc
            simp only [Option.map_eq_some_iff] at h
            obtain ⟨⟨t', j'⟩, h1, h2⟩ := h
            simp only [Prod.mk.injEq] at h2
            obtain ⟨rfl, rfl⟩ := h2
            have b := cgChunks_good f (x + n) t' j' h1
            rw [ByteArray.size_append, ByteArray.size_extract]
            omega
          · cases h
    · cases h
theorem cgood_none (s : ByteArray) (i l : Nat) : CGood s i l none := fun _ _ _ h => by cases h
theorem cg_ite {s : ByteArray} {i l : Nat} {c : Prop} [Decidable c] {a b : MG} (ha : c → CGood s i l a) (hb : ¬ c → CGood s i l b) : CGood s i l (if c then a else b) := by
  by_cases h : c
  · rw [if_pos h]; exact ha h
  · rw [if_neg h]; exact hb h
theorem mgLeaf_kids {k n e : Int} {i l : Nat} {v : V} {j m : Nat} (h : mgLeaf k n e i l = some (v, j, m)) : v.kids = [] := by
  simp only [mgLeaf, Option.some.injEq, Prod.mk.injEq] at h
  obtain ⟨rfl, -⟩ := h; rfl
theorem mgStr_kids {s : ByteArray} {k : Int} {i many l : Nat} {v : V} {j m : Nat} (h : mgStr s k i many l = some (v, j, m)) : v.kids = [] := by
  unfold mgStr at h
  split at h
  · simp only [Option.some.injEq, Prod.mk.injEq] at h
    obtain ⟨rfl, -⟩ := h; rfl
  · cases h
theorem MGood.c {s : ByteArray} {i l : Nat} {o : MG} (h : MGood s i l o) (hk : ∀ v j m, o = some (v, j, m) → v.kids = []) : CGood s i l o := fun v j m e => by
  have := h v j m e
  exact ⟨this.1, this.2.1, this.2.2.1, by omega, ⟨this.2.2.2.2, fun _ => hk v j m e⟩, fun t ht => by rw [hk v j m e] at ht; cases ht⟩
theorem cgNode_good {s : ByteArray} {k n : Int} {i0 i l : Nat} {o : Option (List V × Nat × Nat)} (h : i0 + 1 ≤ i) (hk3 : k ≠ 3) (hk : In64 k) (hn : In64 n) (ho : CKGood s i l o) : CGood s i0 (l + 1) (mgNode k n o) := by
  intro v j' m h1
  simp only [mgNode, Option.map_eq_some_iff] at h1
  obtain ⟨⟨vs, j, m'⟩, h2, h3⟩ := h1
  simp only [Prod.mk.injEq] at h3
  obtain ⟨rfl, rfl, rfl⟩ := h3
  have a := ho vs _ _ h2
  refine ⟨?_, a.2.1, by omega, ?_, ⟨⟨hk, hn, ⟨by show (-9223372036854775808 : Int) ≤ 0; omega, by show (0 : Int) ≤ _; omega⟩, by show ByteArray.size ⟨#[]⟩ ≤ _; simp [ByteArray.size]⟩, fun h3 => absurd h3 hk3⟩, a.2.2.2⟩
  · rw [V.sz]; show ByteArray.size ⟨#[]⟩ + szs vs + 1 + i0 ≤ _; simp [ByteArray.size]; omega
  · rw [V.nodes_eq]; show 1 + nodess vs + m' ≤ l + 1; omega
theorem evenK_some {sp : Bool} {o : Option (List V × Nat × Nat)} {p : List V × Nat × Nat} (h : evenK sp o = some p) : o = some p ∧ (sp = true → p.1.length % 2 = 0) := by
  unfold evenK at h
  cases o with
  | none => cases h
  | some q =>
    simp only [Option.bind_some] at h
    split at h
    · cases h
    · rename_i hc
      simp only [Option.some.injEq] at h
      subst h
      exact ⟨rfl, fun hs => by
        by_cases h2 : q.1.length % 2 = 1
        · exact absurd ⟨hs, h2⟩ hc
        · omega⟩
theorem evenK_good {sp : Bool} {s : ByteArray} {i l : Nat} {o : Option (List V × Nat × Nat)} (h : CKGood s i l o) : CKGood s i l (evenK sp o) := fun vs j m e => h vs j m (evenK_some e).1
theorem cgText_good {s : ByteArray} {k : Int} {i0 a f i l : Nat} (hs : s.size ≤ 1048576) (h : i0 + 1 ≤ i) (hk : In64 k) : CGood s i0 (l + 1) ((cgChunks s a f i).map fun p => (.mk k 0 0 p.1 [], p.2, l)) := by
  intro v j m e
  simp only [Option.map_eq_some_iff] at e
  obtain ⟨⟨t, j'⟩, h1, h2⟩ := e
  simp only [Prod.mk.injEq] at h2
  obtain ⟨rfl, rfl, rfl⟩ := h2
  have a := cgChunks_good f i t j' h1
  refine ⟨?_, a.2, by omega, ?_, ⟨⟨hk, ⟨by show (-9223372036854775808 : Int) ≤ 0; omega, by show (0 : Int) ≤ _; omega⟩, ⟨by show (-9223372036854775808 : Int) ≤ 0; omega, by show (0 : Int) ≤ _; omega⟩, by show t.size ≤ _; omega⟩, fun _ => rfl⟩, fun t ht => by cases ht⟩
  · rw [V.sz, szs]; omega
  · rw [V.nodes_eq]; simp [V.kids, nodess]; omega
theorem z64 : In64 0 := by unfold In64; omega

theorem cgOpen_good {sp : Bool} {s : ByteArray} {g : Nat → Nat → MG} (hs : s.size ≤ 1048576) (hg : ∀ i l, CGood s i l (g i l)) (a i l : Nat) : CGood s i (l + 1) (cgOpen sp s g a (i + 1) l) := by
  unfold cgOpen
  refine cg_ite (fun _ => cgText_good hs (by omega) (k64 _ (by omega) (by omega))) (fun _ => ?_)
  refine cg_ite (fun _ => cgText_good hs (by omega) (k64 _ (by omega) (by omega))) (fun _ => ?_)
  refine cg_ite (fun _ => cgNode_good (by omega) (by decide) (k64 _ (by omega) (by omega)) z64 (cgUpto_good hg _ _ _)) (fun _ => ?_)
  exact cgNode_good (by omega) (by decide) (k64 _ (by omega) (by omega)) z64 (evenK_good (cgUpto_good hg _ _ _))
theorem decOf_some {q : V × Nat × Nat} {v : V} {j m : Nat} (h : decOf q = some (v, j, m)) : ∃ n e s x y, q = (.mk 7 n e s [x, y], j, m) ∧ x.k = 3 ∧ y.k = 3 ∧ v = .mk 4 y.n x.n ⟨#[]⟩ [] := by
  unfold decOf at h
  split at h
  · rename_i k n e s x y j' m'
    split at h
    · rename_i hc
      simp only [mgLeaf, Option.some.injEq, Prod.mk.injEq] at h
      obtain ⟨rfl, rfl, rfl⟩ := h
      obtain ⟨rfl, h1, h2⟩ := hc
      exact ⟨n, e, s, x, y, rfl, h1, h2, rfl⟩
    · cases h
  · cases h
theorem cgTag_good {s : ByteArray} {i x l n : Nat} {o : MG} (hx : i + 1 ≤ x) (ho : CGood s x l o) : CGood s i (l + 1) (o.bind (cgTag n)) := by
  intro v j m h
  cases o with
  | none => cases h
  | some q =>
    obtain ⟨v', j', m'⟩ := q
    have a := ho v' j' m' rfl
    rw [Option.bind_some] at h
    unfold cgTag at h
    split at h
    · obtain ⟨n1, e1, s1, x1, y1, e, hx1, hy1, rfl⟩ := decOf_some h
      simp only [Prod.mk.injEq] at e
      obtain ⟨rfl, rfl, rfl⟩ := e
      have wx := a.2.2.2.2.2 x1 (by simp [V.kids])
      have wy := a.2.2.2.2.2 y1 (by simp [V.kids])
      refine ⟨?_, a.2.1, by omega, ?_, ⟨⟨k64 4 (by omega) (by omega), wy.1.2.1, wx.1.2.1, by show ByteArray.size ⟨#[]⟩ ≤ _; simp [ByteArray.size]⟩, fun _ => rfl⟩, fun t ht => by cases ht⟩
      · rw [V.sz, szs]; simp [ByteArray.size]; omega
      · rw [V.nodes_eq]; simp [V.kids, nodess]; omega
    · simp only [Option.some.injEq, Prod.mk.injEq] at h
      obtain ⟨rfl, rfl, rfl⟩ := h
      refine ⟨?_, a.2.1, by omega, ?_, ⟨⟨k64 9 (by omega) (by omega), k64 ((min n 4294967296 : Nat) : Int) (by omega) (by omega), z64, by show ByteArray.size ⟨#[]⟩ ≤ _; simp [ByteArray.size]⟩, fun h3 => absurd (show (9 : Int) = 3 from h3) (by decide)⟩, fun t ht => ?_⟩
      · rw [V.sz, szs, szs]; simp [ByteArray.size]; omega
      · rw [V.nodes_eq]; simp [V.kids, nodess]; omega
      · obtain rfl : t = v' := by simpa [V.kids] using ht
        exact a.2.2.2.2.1
theorem cgHead_good {sp lo : Bool} {s : ByteArray} {g : Nat → Nat → MG} (hs : s.size ≤ 1048576) (hg : ∀ i l, CGood s i l (g i l)) (a n i x l : Nat) (hx : i + 1 ≤ x) (hxs : x ≤ s.size) : CGood s i (l + 1) (cgHead sp lo s g a n x l) := by
  have lf : ∀ k n : Int, 0 ≤ k → k ≤ 9 → In64 n → CGood s i (l + 1) (mgLeaf k n 0 x l) := fun k n h1 h2 h3 => (mgLeaf_good hx hxs (k64 _ h1 (by omega)) h3 z64).c (fun _ _ _ e => mgLeaf_kids e)
  have st : ∀ k : Int, 0 ≤ k → k ≤ 9 → CGood s i (l + 1) (mgStr s k x n l) := fun k h1 h2 => (mgStr_good hs hx (k64 _ h1 (by omega))).c (fun _ _ _ e => mgStr_kids e)
  unfold cgHead
  refine cg_ite (fun _ => cg_ite (fun _ => cgood_none _ _ _) (fun h => lf 3 _ (by omega) (by omega) (by unfold In64; split <;> omega))) (fun _ => ?_)
  refine cg_ite (fun _ => st 6 (by omega) (by omega)) (fun _ => ?_)
  refine cg_ite (fun _ => st 5 (by omega) (by omega)) (fun _ => ?_)
  refine cg_ite (fun _ => cg_ite (fun _ => cgood_none _ _ _) (fun _ => cgNode_good hx (by decide) (k64 _ (by omega) (by omega)) z64 (mgKids_cgood hg _ _ _ hxs).1)) (fun _ => ?_)
  refine cg_ite (fun _ => cg_ite (fun _ => cgood_none _ _ _) (fun _ => cgNode_good hx (by decide) (k64 _ (by omega) (by omega)) z64 (mgKids_cgood hg _ _ _ hxs).1)) (fun _ => ?_)
  refine cg_ite (fun _ => cg_ite (fun _ => cgood_none _ _ _) (fun _ => cgTag_good hx (hg _ _))) (fun _ => ?_)
  refine cg_ite (fun _ => lf 1 0 (by omega) (by omega) z64) (fun _ => ?_)
  refine cg_ite (fun _ => lf 2 0 (by omega) (by omega) z64) (fun _ => ?_)
  exact cg_ite (fun _ => lf 0 0 (by omega) (by omega) z64) (fun _ => cgood_none _ _ _)
theorem cg_good {sp lo : Bool} {s : ByteArray} (hs : s.size ≤ 1048576) : ∀ f i l, CGood s i l (cg sp lo s f i l)
  | 0, i, l => cgood_none _ _ _
  | f + 1, i, l => by
    rw [cg]
    split
    · rename_i h
      split
      · exact cgood_none _ _ _
      · obtain ⟨l', rfl⟩ : ∃ l', l = l' + 1 := ⟨l - 1, by omega⟩
        rw [show l' + 1 - 1 = l' by omega]
        unfold cgVal
        refine cg_ite (fun _ => cgOpen_good hs (cg_good hs f) _ _ _) (fun _ => ?_)
        cases hh : hdR lo s i with
        | none => exact cgood_none _ _ _
        | some q =>
          obtain ⟨a, n, x⟩ := q
          have := hdR_some hh
          exact cgHead_good hs (cg_good hs f) a n i x l' this.1 this.2.1
    · exact cgood_none _ _ _
def Sub (g g' : Nat → Nat → MG) : Prop := ∀ i l r, g i l = some r → g' i l = some r
theorem mgKids_sub {g g' : Nat → Nat → MG} (h : Sub g g') : ∀ k i l r, mgKids g k i l = some r → mgKids g' k i l = some r
  | 0, i, l, r, e => e
  | k + 1, i, l, r, e => by
    rw [mgKids] at e ⊢
    cases hp : mgKids g k i l with
    | none => rw [hp] at e; cases e
    | some p =>
      rw [hp, Option.bind_some, Option.map_eq_some_iff] at e
      obtain ⟨q, h1, h2⟩ := e
      rw [mgKids_sub h k i l p hp, Option.bind_some, h _ _ _ h1, Option.map_some, h2]
theorem cgUpto_sub {s : ByteArray} {g g' : Nat → Nat → MG} (h : Sub g g') : ∀ f i l r, cgUpto s g f i l = some r → cgUpto s g' f i l = some r
  | 0, i, l, r, e => e
  | f + 1, i, l, r, e => by
    rw [cgUpto] at e ⊢
    split at e
    · rename_i hi
      rw [dif_pos hi]
      split at e
      · rename_i h5; rw [if_pos h5]; exact e
      · rename_i h5
        rw [if_neg h5]
        cases hq : g i l with
        | none => rw [hq] at e; cases e
        | some q =>
          rw [hq, Option.bind_some, Option.map_eq_some_iff] at e
          obtain ⟨p, h1, h2⟩ := e
          rw [h _ _ _ hq, Option.bind_some, cgUpto_sub h f _ _ _ h1, Option.map_some, h2]
    · cases e
theorem map_sub {α β : Type} {o o' : Option α} {f : α → β} (h : ∀ r, o = some r → o' = some r) : ∀ r, o.map f = some r → o'.map f = some r := fun r e => by
  rw [Option.map_eq_some_iff] at e ⊢
  obtain ⟨a, h1, h2⟩ := e
  exact ⟨a, h a h1, h2⟩
theorem cgHead_sub {lo : Bool} {s : ByteArray} {g g' : Nat → Nat → MG} (h : Sub g g') (a n x l : Nat) : ∀ r, cgHead true lo s g a n x l = some r → cgHead false lo s g' a n x l = some r := by
  intro r e
  unfold cgHead at e ⊢
  by_cases h1 : a ≤ 1
  · rw [if_pos h1] at e ⊢; exact e
  rw [if_neg h1] at e ⊢
  by_cases h2 : a = 2
  · rw [if_pos h2] at e ⊢; exact e
  rw [if_neg h2] at e ⊢
  by_cases h3 : a = 3
  · rw [if_pos h3] at e ⊢; exact e
  rw [if_neg h3] at e ⊢
  by_cases h4 : a = 4
  · rw [if_pos h4] at e ⊢
    rw [if_neg (by simp)]
    split at e
    · cases e
    · exact map_sub (mgKids_sub h _ _ _) _ e
  rw [if_neg h4] at e ⊢
  by_cases h5 : a = 5
  · rw [if_pos h5] at e ⊢
    rw [if_neg (by simp)]
    split at e
    · cases e
    · exact map_sub (mgKids_sub h _ _ _) _ e
  rw [if_neg h5] at e ⊢
  by_cases h6 : a = 6
  · rw [if_pos h6] at e ⊢
    rw [if_neg (by simp)]
    split at e
    · cases e
    · cases hq : g x l with
      | none => rw [hq] at e; cases e
      | some q => rw [hq, Option.bind_some] at e; rw [h _ _ _ hq, Option.bind_some]; exact e
  rw [if_neg h6] at e ⊢
  exact e
theorem cgOpen_sub {s : ByteArray} {g g' : Nat → Nat → MG} (h : Sub g g') (a i l : Nat) : ∀ r, cgOpen true s g a i l = some r → cgOpen false s g' a i l = some r := by
  intro r e
  unfold cgOpen at e ⊢
  by_cases h2 : a = 2
  · rw [if_pos h2] at e ⊢; exact e
  rw [if_neg h2] at e ⊢
  by_cases h3 : a = 3
  · rw [if_pos h3] at e ⊢; exact e
  rw [if_neg h3] at e ⊢
  by_cases h4 : a = 4
  · rw [if_pos h4] at e ⊢
    exact map_sub (cgUpto_sub h _ _ _) _ e
  rw [if_neg h4] at e ⊢
  refine map_sub (fun r e => ?_) _ e
  have := (evenK_some e).1
  rw [cgUpto_sub h _ _ _ _ this]
  simp [evenK]
theorem cg_sub (lo : Bool) (s : ByteArray) : ∀ f f', f ≤ f' → Sub (cg true lo s f) (cg false lo s f')
  | 0, f', _ => fun i l r e => by cases e
  | f + 1, f', hf => fun i l r e => by
    obtain ⟨f2, rfl⟩ : ∃ f2, f' = f2 + 1 := ⟨f' - 1, by omega⟩
    have ih := cg_sub lo s f f2 (by omega)
    rw [cg] at e ⊢
    split at e
    · rename_i hi
      rw [dif_pos hi]
      split at e
      · cases e
      · rename_i hl
        rw [if_neg hl]
        unfold cgVal at e ⊢
        split at e
        · rename_i ho; rw [if_pos ho]; exact cgOpen_sub ih _ _ _ _ e
        · rename_i ho
          rw [if_neg ho]
          split at e
          · cases e
          · rename_i a n x hh
            exact cgHead_sub ih _ _ _ _ _ e
    · cases e
mutual
def limB : V → Nat → Bool
  | .mk k n e s ks, f => decide (1 ≤ f) && (if k = 4 then decide (3 ≤ f) else true) && (if k = 7 then decide (ks.length ≤ 300) else true) && (if k = 8 then decide (ks.length ≤ 600 ∧ ks.length % 2 = 0) else true) && (if k = 9 then decide (0 ≤ n ∧ n ≤ 1000000) else true) && limsB ks (f - 1)
def limsB : List V → Nat → Bool
  | [], _ => true
  | t :: ts, f => limB t f && limsB ts f
 end
theorem limB_eq (t : V) (f : Nat) : limB t f = (decide (1 ≤ f) && (if t.k = 4 then decide (3 ≤ f) else true) && (if t.k = 7 then decide (t.kids.length ≤ 300) else true) && (if t.k = 8 then decide (t.kids.length ≤ 600 ∧ t.kids.length % 2 = 0) else true) && (if t.k = 9 then decide (0 ≤ t.n ∧ t.n ≤ 1000000) else true) && limsB t.kids (f - 1)) := by cases t; rw [limB]; rfl
theorem limsB_append : ∀ (a b : List V) (f : Nat), limsB (a ++ b) f = (limsB a f && limsB b f)
  | [], b, f => by simp [limsB]
  | t :: a, b, f => by rw [List.cons_append, limsB, limsB, limsB_append a b f, Bool.and_assoc]
def Back (g g' : Nat → Nat → MG) (f : Nat) : Prop := ∀ i l v j m, g' i l = some (v, j, m) → limB v f = true → g i l = some (v, j, m)
theorem mgKids_back {g g' : Nat → Nat → MG} {f : Nat} (h : Back g g' f) : ∀ k i l vs j m, mgKids g' k i l = some (vs, j, m) → limsB vs f = true → mgKids g k i l = some (vs, j, m)
  | 0, i, l, vs, j, m, e, _ => e
  | k + 1, i, l, vs, j, m, e, hl => by
    rw [mgKids] at e ⊢
    cases hp : mgKids g' k i l with
    | none => rw [hp] at e; cases e
    | some p =>
      obtain ⟨ps, pj, pm⟩ := p
      rw [hp, Option.bind_some, Option.map_eq_some_iff] at e
      obtain ⟨⟨q, qj, qm⟩, h1, h2⟩ := e
      simp only [Prod.mk.injEq] at h2
      obtain ⟨rfl, rfl, rfl⟩ := h2
      rw [limsB_append, Bool.and_eq_true, limsB, limsB, Bool.and_true] at hl
      rw [mgKids_back h k i l ps pj pm hp hl.1, Option.bind_some, h _ _ _ _ _ h1 hl.2]
      rfl
theorem cgUpto_back {s : ByteArray} {g g' : Nat → Nat → MG} {f0 : Nat} (h : Back g g' f0) : ∀ f i l vs j m, cgUpto s g' f i l = some (vs, j, m) → limsB vs f0 = true → cgUpto s g f i l = some (vs, j, m)
  | 0, i, l, vs, j, m, e, _ => e
  | f + 1, i, l, vs, j, m, e, hl => by
    rw [cgUpto] at e ⊢
    split at e
    · rename_i hi
      rw [dif_pos hi]
      split at e
      · rename_i h5; rw [if_pos h5]; exact e
      · rename_i h5
        rw [if_neg h5]
        cases hq : g' i l with
        | none => rw [hq] at e; cases e
        | some q =>
          obtain ⟨v, j1, m1⟩ := q
          rw [hq, Option.bind_some, Option.map_eq_some_iff] at e
          obtain ⟨⟨ps, j2, m2⟩, h1, h2⟩ := e
          simp only [Prod.mk.injEq] at h2
          obtain ⟨rfl, rfl, rfl⟩ := h2
          rw [limsB, Bool.and_eq_true] at hl
          rw [h _ _ _ _ _ hq hl.1, Option.bind_some, cgUpto_back h f _ _ _ _ _ h1 hl.2]
          rfl
    · cases e
theorem mgNode_some {k n : Int} {o : Option (List V × Nat × Nat)} {v : V} {j m : Nat} (h : mgNode k n o = some (v, j, m)) : ∃ vs, o = some (vs, j, m) ∧ v = .mk k n 0 ⟨#[]⟩ vs := by
  simp only [mgNode, Option.map_eq_some_iff] at h
  obtain ⟨⟨vs, j', m'⟩, h1, h2⟩ := h
  simp only [Prod.mk.injEq] at h2
  obtain ⟨rfl, rfl, rfl⟩ := h2
  exact ⟨vs, h1, rfl⟩
theorem lim_kids {t : V} {f : Nat} (h : limB t f = true) : limsB t.kids (f - 1) = true ∧ 1 ≤ f := by
  rw [limB_eq] at h
  simp only [Bool.and_eq_true, decide_eq_true_eq] at h
  exact ⟨h.2, h.1.1.1.1.1⟩
theorem cgOpen_back {s : ByteArray} {g g' : Nat → Nat → MG} {f : Nat} (h : Back g g' (f - 1)) (a i l : Nat) : ∀ v j m, cgOpen false s g' a i l = some (v, j, m) → limB v f = true → cgOpen true s g a i l = some (v, j, m) := by
  intro v j m e hl
  unfold cgOpen at e ⊢
  by_cases h2 : a = 2
  · rw [if_pos h2] at e ⊢; exact e
  rw [if_neg h2] at e ⊢
  by_cases h3 : a = 3
  · rw [if_pos h3] at e ⊢; exact e
  rw [if_neg h3] at e ⊢
  by_cases h4 : a = 4
  · rw [if_pos h4] at e ⊢
    obtain ⟨vs, h1, rfl⟩ := mgNode_some e
    rw [cgUpto_back h _ _ _ _ _ _ h1 (lim_kids hl).1]
    rfl
  rw [if_neg h4] at e ⊢
  obtain ⟨vs, h1, rfl⟩ := mgNode_some e
  have h5 := (evenK_some h1).1
  rw [cgUpto_back h _ _ _ _ _ _ h5 (lim_kids hl).1]
  rw [limB_eq] at hl
  simp only [Bool.and_eq_true, V.k, V.kids] at hl
  have h6 := hl.1.1.2
  rw [if_pos trivial] at h6; replace h6 := of_decide_eq_true h6
  simp [evenK, h6.2, mgNode]
theorem cgHead_back {lo : Bool} {s : ByteArray} {g g' : Nat → Nat → MG} {f : Nat} (hg' : ∀ i l, CGood s i l (g' i l)) (h : Back g g' (f - 1)) (a n x l : Nat) (hx : x ≤ s.size) : ∀ v j m, cgHead false lo s g' a n x l = some (v, j, m) → limB v f = true → cgHead true lo s g a n x l = some (v, j, m) := by
  intro v j m e hl
  unfold cgHead at e ⊢
  by_cases h1 : a ≤ 1
  · rw [if_pos h1] at e ⊢; exact e
  rw [if_neg h1] at e ⊢
  by_cases h2 : a = 2
  · rw [if_pos h2] at e ⊢; exact e
  rw [if_neg h2] at e ⊢
  by_cases h3 : a = 3
  · rw [if_pos h3] at e ⊢; exact e
  rw [if_neg h3] at e ⊢
  by_cases h4 : a = 4
  · rw [if_pos h4] at e ⊢
    rw [if_neg (by simp)] at e
    obtain ⟨vs, h5, rfl⟩ := mgNode_some e
    have hlen := (mgKids_cgood hg' _ _ _ hx).2 _ _ _ h5
    have hl2 := hl
    rw [limB_eq] at hl2
    simp only [Bool.and_eq_true, V.k, V.kids] at hl2
    have h6 := hl2.1.1.1.2
    rw [if_pos trivial] at h6; replace h6 := of_decide_eq_true h6
    rw [if_neg (by omega), mgKids_back h _ _ _ _ _ _ h5 (lim_kids hl).1]
    rfl
  rw [if_neg h4] at e ⊢
  by_cases h5 : a = 5
  · rw [if_pos h5] at e ⊢
    rw [if_neg (by simp)] at e
    obtain ⟨vs, h5, rfl⟩ := mgNode_some e
    have hlen := (mgKids_cgood hg' _ _ _ hx).2 _ _ _ h5
    have hl2 := hl
    rw [limB_eq] at hl2
    simp only [Bool.and_eq_true, V.k, V.kids] at hl2
    have h6 := hl2.1.1.2
    rw [if_pos trivial] at h6; replace h6 := of_decide_eq_true h6
    rw [if_neg (by omega), mgKids_back h _ _ _ _ _ _ h5 (lim_kids hl).1]
    rfl
  rw [if_neg h5] at e ⊢
  by_cases h6 : a = 6
  · rw [if_pos h6] at e ⊢
    rw [if_neg (by simp)] at e
    cases hq : g' x l with
    | none => rw [hq] at e; cases e
    | some q =>
      obtain ⟨v', j', m'⟩ := q
      rw [hq, Option.bind_some] at e
      have e0 := e
      unfold cgTag at e
      by_cases h7 : n = 4
      · rw [if_pos h7] at e
        obtain ⟨n1, e1, s1, x1, y1, e2, hx1, hy1, rfl⟩ := decOf_some e
        simp only [Prod.mk.injEq] at e2
        obtain ⟨rfl, rfl, rfl⟩ := e2
        rw [limB_eq] at hl
        simp only [Bool.and_eq_true, V.k, V.kids] at hl
        have h8 := hl.1.1.1.1.2
        rw [if_pos trivial] at h8; replace h8 := of_decide_eq_true h8
        have hgd := (hg' x l _ _ _ hq).2.2.2.2.2
        have hi : ∀ t : V, VOk t → t.k = 3 → limB t (f - 1 - 1) = true := by
          intro t hv ht
          rw [limB_eq, ht, hv.2 ht]
          simp [limsB]; omega
        have hb : limB (.mk 7 n1 e1 s1 [x1, y1]) (f - 1) = true := by
          rw [limB, limsB, limsB, limsB, hi x1 (hgd _ (by simp [V.kids])) hx1, hi y1 (hgd _ (by simp [V.kids])) hy1]
          simp; omega
        rw [if_neg (by omega), h _ _ _ _ _ hq hb, Option.bind_some]
        exact e0
      · rw [if_neg h7] at e
        simp only [Option.some.injEq, Prod.mk.injEq] at e
        obtain ⟨rfl, rfl, rfl⟩ := e
        have hl3 := (lim_kids hl).1
        rw [limB_eq] at hl
        simp only [Bool.and_eq_true, V.k, V.n, V.kids] at hl
        have h8 := hl.1.2
        rw [if_pos trivial] at h8; replace h8 := of_decide_eq_true h8
        simp only [V.kids, limsB, Bool.and_true] at hl3
        rw [if_neg (by omega), h _ _ _ _ _ hq hl3, Option.bind_some]
        exact e0
  rw [if_neg h6] at e ⊢
  exact e
theorem cg_back (lo : Bool) (s : ByteArray) (hs : s.size ≤ 1048576) : ∀ f f', f ≤ f' → Back (cg true lo s f) (cg false lo s f') f
  | 0, f', _ => fun i l v j m e hl => by
    have := (lim_kids hl).2; omega
  | f + 1, f', hf => fun i l v j m e hl => by
    obtain ⟨f2, rfl⟩ : ∃ f2, f' = f2 + 1 := ⟨f' - 1, by omega⟩
    have ih := cg_back lo s hs f f2 (by omega)
    rw [cg] at e ⊢
    split at e
    · rename_i hi
      rw [dif_pos hi]
      split at e
      · cases e
      · rename_i hl2
        rw [if_neg hl2]
        unfold cgVal at e ⊢
        split at e
        · rename_i ho; rw [if_pos ho]; exact cgOpen_back (f := f + 1) ih _ _ _ _ _ _ e hl
        · rename_i ho
          rw [if_neg ho]
          split at e
          · cases e
          · rename_i a n x hh
            have := hdR_some hh
            exact cgHead_back (f := f + 1) (cg_good hs f2) ih _ _ _ _ this.2.1 _ _ _ e hl
    · cases e
theorem map_even {t : V} {d : Int} (h : rightB t d = true) (h8 : t.k = 8) : t.kids.length % 2 = 0 := by
  rw [rightB_eq] at h
  simp only [Bool.and_eq_true, ownB] at h
  have h3 := h.1.2.2
  rw [if_neg (by omega), if_neg (by omega), if_pos h8] at h3
  unfold pairsB at h3
  simp only [Bool.and_eq_true, decide_eq_true_eq] at h3
  exact h3.1.2
mutual
theorem right_lim : ∀ (t : V) (d : Nat), rightB t d = true → t.nodes ≤ 300 → limB t (d + 3) = true
  | .mk k n e s ks, d, h, hn => by
    have hk := nodess_length ks
    rw [V.nodes] at hn
    have h2 := h
    rw [rightB_eq] at h2
    simp only [Bool.and_eq_true, ownB, V.k, V.kids] at h2
    have h9 := tag_n h
    have hks := rights_lim ks (d - 1) (by have := h2.2; by_cases hd : 0 < d; · rwa [show ((d - 1 : Nat) : Int) = (d : Int) - 1 by omega]
                                          · cases ks with
                                            | nil => rfl
                                            | cons t ts =>
                                              rw [rightsB, Bool.and_eq_true] at this
                                              have h3 := this.1
                                              rw [rightB_eq] at h3
                                              simp only [Bool.and_eq_true, decide_eq_true_eq] at h3
                                              omega) (by omega)
    rw [limB]
    simp only [Bool.and_eq_true, decide_eq_true_eq]
    refine ⟨⟨⟨⟨⟨by omega, ?_⟩, ?_⟩, ?_⟩, ?_⟩, ?_⟩
    · split <;> simp
    · split
      · simp; omega
      · rfl
    · split
      · rename_i h8
        have h3 : ks.length % 2 = 0 := map_even h h8
        simp; omega
      · rfl
    · split
      · rename_i h8
        have h10 : 0 ≤ n ∧ n ≤ 1000000 := h9 h8
        simpa using h10
      · rfl
    · by_cases hd : 0 < d
      · rwa [show d - 1 + 3 = d + 3 - 1 by omega] at hks
      · have : ks = [] := by
          have h3 := h2.2
          cases ks with
          | nil => rfl
          | cons t ts =>
            rw [rightsB, Bool.and_eq_true] at h3
            have h4 := h3.1
            rw [rightB_eq] at h4
            simp only [Bool.and_eq_true, decide_eq_true_eq] at h4
            omega
        rw [this]; rfl
theorem rights_lim : ∀ (ts : List V) (d : Nat), rightsB ts d = true → nodess ts ≤ 300 → limsB ts (d + 3) = true
  | [], _, _, _ => rfl
  | t :: ts, d, h, hn => by
    rw [rightsB, Bool.and_eq_true] at h
    rw [nodess] at hn
    rw [limsB, right_lim t d h.1 (by omega), rights_lim ts d h.2 (by omega)]
    rfl
 end
theorem ok_lim {t : V} (h : okT t = true) : limB t 15 = true := by
  simp only [okT, Bool.and_eq_true, decide_eq_true_eq] at h
  exact right_lim t 12 h.1 h.2
theorem headL_ne (a n : Nat) : headL a n ≠ [] := by
  intro e
  have := congrArg List.length e
  rw [headL_length] at this
  revert this
  (repeat' split) <;> simp
theorem cborL_ne (t : V) : cborL t ≠ [] := by
  rw [cborL_eq]
  intro e
  have e := (List.append_eq_nil_iff.1 e).1
  unfold ownL numL at e
  revert e
  (repeat' split) <;> simp [headL_ne]
theorem cborB_ne {t : V} (h : cborB t ≠ []) : okT t = true := by
  unfold cborB at h
  split at h
  · rename_i h2; simp only [Bool.and_eq_true] at h2; exact h2.1
  · exact absurd rfl h
def VZ : V := .mk 0 0 0 ⟨#[]⟩ []
def cborR (o : MG) (s : ByteArray) (i : Nat) : V × Int := match o with
  | some (v, j, _) => if cborB v = (s.extract i j).data.toList then (v, (j : Int)) else (VZ, -1)
  | none => (VZ, -1)
theorem getc_same (s : ByteArray) (i : Nat) (hs : s.size ≤ 1048576) : cborR (cg true false s 15 i 1204) s i = cborR (cg false false s 17 i 1204) s i := by
  cases h : cg true false s 15 i 1204 with
  | some r => rw [cg_sub false s 15 17 (by omega) _ _ _ h]
  | none =>
    cases h2 : cg false false s 17 i 1204 with
    | none => rfl
    | some r =>
      obtain ⟨v, j, m⟩ := r
      have hg := cg_good hs 17 i 1204 v j m h2
      unfold cborR
      simp only
      rw [if_neg]
      intro e
      have hne : cborB v ≠ [] := by
        rw [e]
        intro e2
        have := congrArg List.length e2
        rw [Array.length_toList] at this
        have h3 : (s.extract i j).size = 0 := this
        rw [ByteArray.size_extract] at h3
        omega
      rw [cg_back false s hs 15 17 (by omega) _ _ _ _ _ h2 (ok_lim (cborB_ne hne))] at h
      cases h
def looseR (o : MG) (s : ByteArray) : V × Bool := match o with
  | some (v, j, _) => if j = s.size ∧ cborB v ≠ [] then (v, true) else (VZ, false)
  | none => (VZ, false)
theorem loose_same (s : ByteArray) (hs : s.size ≤ 1048576) : looseR (cg true true s 15 0 1204) s = looseR (cg false true s 17 0 1204) s := by
  cases h : cg true true s 15 0 1204 with
  | some r => rw [cg_sub true s 15 17 (by omega) _ _ _ h]
  | none =>
    cases h2 : cg false true s 17 0 1204 with
    | none => rfl
    | some r =>
      obtain ⟨v, j, m⟩ := r
      unfold looseR
      simp only
      rw [if_neg]
      rintro ⟨-, hne⟩
      rw [cg_back true s hs 15 17 (by omega) _ _ _ _ _ h2 (ok_lim (cborB_ne hne))] at h
      cases h
end Go.Proofs.YtgbgeocmjdgmoaaDoor
namespace Go.Proofs.YtgbgeocmjdgmoaaDoor
set_option linter.unusedSimpArgs false
set_option linter.unusedVariables false
set_option maxRecDepth 100000
open Go.RowKit
def CuX (w0 : World) (c : Nat) (v : Value) (N : Nat) (w : World) : Prop := ∃ st, Cu w0 c v N st w
theorem CuX.lt {w0 w : World} {c N : Nat} {v : Value} (h : CuX w0 c v N w) : c < w.heap.size := by obtain ⟨st, h⟩ := h; exact lt_of_heap h.cb
theorem CuX.below {w0 w : World} {c N : Nat} {v : Value} (h : CuX w0 c v N w) : Below w0.heap.size w0 w := by obtain ⟨st, h⟩ := h; exact h.below
theorem CuX.hc {w0 w : World} {c N : Nat} {v : Value} (h : CuX w0 c v N w) : w0.heap.size ≤ c := by obtain ⟨st, h⟩ := h; exact h.hc
theorem CuX.stay {w0 w w' : World} {c N : Nat} {v : Value} (h : CuX w0 c v N w) (hb : Below w.heap.size w w') : CuX w0 c v N w' := by obtain ⟨st, h⟩ := h; exact ⟨st, h.stay hb⟩
theorem CuX.over {w0 w w' : World} {c N : Nat} {v : Value} (h : CuX w0 c v N w) (hb : w'.heap[c]? = w.heap[c]?) (hw : Below w0.heap.size w0 w') : CuX w0 c v N w' := by obtain ⟨st, h⟩ := h; exact ⟨st, h.over hb hw⟩
def DX (w0 : World) (c : Nat) (v : Value) (N : Nat) (w w' : World) : Prop := CuX w0 c v N w' ∧ Touch (fun x => x = c) (fun x => x = c) w w'
theorem DX.trans {w0 w w' w2 : World} {c N : Nat} {v : Value} (h : DX w0 c v N w w') (h2 : DX w0 c v N w' w2) : DX w0 c v N w w2 := ⟨h2.1, h.2.trans h2.2⟩
theorem DX.stay {w0 w w' w2 : World} {c N : Nat} {v : Value} (h : DX w0 c v N w w') (hb : Below w'.heap.size w' w2) : DX w0 c v N w w2 := ⟨h.1.stay hb, h.2.trans (Touch.of_below hb)⟩
theorem DX.refl {w0 w : World} {c N : Nat} {v : Value} (h : CuX w0 c v N w) : DX w0 c v N w w := ⟨h, Touch.refl _ _⟩
structure Drw (w0 : World) (v : Value) (N : Nat) : Prop where
  rd : ∃ L, BRead w0 v L ∧ N = L.length
  le : N ≤ 1048576
theorem Below1_any (w0 : World) (c : Nat) (v : Value) (N : Nat) (hD : Drw w0 v N) (n : Int) (hn64 : In64 n) (w : World) (h : CuX w0 c v N w) :
    Calls Tryd.prog 123 #[.pointer (some ⟨c, 0, none⟩), .int .i64 n] w fun e w' => ∃ (x : Int), e = .returned (.int .i64 x) ∧ 0 ≤ x ∧ (x < n ∨ x = 0) ∧ DX w0 c v N w w' := by
  obtain ⟨⟨L, hL, rfl⟩, hn⟩ := hD
  obtain ⟨st, h⟩ := h
  refine (l01Below_any w0 c v L hL hn n hn64 st w h).mono ?_
  rintro e w' ⟨x, m, rfl, h0, h1, -, -, -, hc, ht⟩
  exact ⟨x, rfl, h0, h1, ⟨_, hc⟩, ht⟩
theorem Once_any (w0 : World) (c : Nat) (v : Value) (N : Nat) (hD : Drw w0 v N) (n : Int) (hn64 : In64 n) (w : World) (h : CuX w0 c v N w) :
    Calls Tryd.prog 139 #[.pointer (some ⟨c, 0, none⟩), .int .i64 n] w fun e w' => ∃ (b : Bool), e = .returned (.bool b) ∧ DX w0 c v N w w' := by
  obtain ⟨⟨L, hL, rfl⟩, hn⟩ := hD
  obtain ⟨st, h⟩ := h
  refine (l01Once_any w0 c v L hL hn n hn64 st w h).mono ?_
  rintro e w' ⟨x, m, rfl, -, hc, ht⟩
  exact ⟨x, rfl, ⟨_, hc⟩, ht⟩
theorem lit_cells (W : World) (T : TypeId) (vs : Array Value) (j : Nat) (hj : j < vs.size) : (W.alloc (.cells vs T)).cell? ⟨W.heap.size, 0 + j, none⟩ = some vs[j] := by
  rw [Nat.zero_add, cell_of_row _ _ _ _ _ (0, 0) (heap_alloc_new W _)]
  simp [hj]
theorem PickI_any (w0 : World) (c : Nat) (v : Value) (N : Nat) (hD : Drw w0 v N) (zs : List Int) (T : TypeId) (hz : ∀ z ∈ zs, In64 z) (hk : 1 ≤ zs.length ∧ zs.length ≤ 1000) (k cap : Nat) (hkk : k = zs.length) (w : World) (h : CuX w0 c v N w) (vs : Array Value) (hvs : vs = (zs.map (Value.int .i64)).toArray) :
    Calls Tryd.prog 119 #[.pointer (some ⟨c, 0, none⟩), .slice (some ⟨w.heap.size, 0, none⟩) k cap] (w.alloc (.cells vs T)) fun e w' => ∃ (z : Int), e = .returned (.int .i64 z) ∧ In64 z ∧ DX w0 c v N w w' := by
  obtain ⟨⟨L, hL, rfl⟩, hn⟩ := hD
  have hcw := h.lt
  obtain ⟨st, h⟩ := h
  subst hvs hkk
  have hb : Below w.heap.size w (w.alloc (.cells (zs.map (Value.int .i64)).toArray T)) := (Below.refl _ _).alloc (Nat.le_refl _) _
  refine (l01PickInt_any w0 c v L hL hn w.heap.size 0 zs.length cap hk st _ (h.stay hb) (by simp) (by omega) ?_).mono ?_
  · intro j hj
    refine ⟨zs[j], ?_, hz _ (List.getElem_mem hj)⟩
    rw [lit_cells _ _ _ _ (by simpa using hj)]
    simp
  · rintro e w' ⟨z, m, rfl, hz, -, hc, ht⟩
    exact ⟨z, rfl, hz, ⟨_, hc⟩, (Touch.of_below hb).trans ht⟩
theorem PickS_any (w0 : World) (c : Nat) (v : Value) (N : Nat) (hD : Drw w0 v N) (B : Nat) (zs : List ByteArray) (T : TypeId) (hz : ∀ z ∈ zs, z.size ≤ B) (hk : 1 ≤ zs.length ∧ zs.length ≤ 1000) (k cap : Nat) (hkk : k = zs.length) (w : World) (h : CuX w0 c v N w) (vs : Array Value) (hvs : vs = (zs.map Value.string).toArray) :
    Calls Tryd.prog 175 #[.pointer (some ⟨c, 0, none⟩), .slice (some ⟨w.heap.size, 0, none⟩) k cap] (w.alloc (.cells vs T)) fun e w' => ∃ (z : ByteArray), e = .returned (.string z) ∧ z.size ≤ B ∧ DX w0 c v N w w' := by
  obtain ⟨⟨L, hL, rfl⟩, hn⟩ := hD
  have hcw := h.lt
  obtain ⟨st, h⟩ := h
  subst hvs hkk
  have hb : Below w.heap.size w (w.alloc (.cells (zs.map Value.string).toArray T)) := (Below.refl _ _).alloc (Nat.le_refl _) _
  refine (l01Pick_any w0 c v L hL hn w.heap.size 0 zs.length cap B hk st _ (h.stay hb) (by simp) (by omega) ?_).mono ?_
  · intro j hj
    refine ⟨zs[j], ?_, hz _ (List.getElem_mem hj)⟩
    rw [lit_cells _ _ _ _ (by simpa using hj)]
    simp
  · rintro e w' ⟨z, m, rfl, hz, -, hc, ht⟩
    exact ⟨z, rfl, hz, ⟨_, hc⟩, (Touch.of_below hb).trans ht⟩
theorem Text_any (w0 : World) (c : Nat) (v : Value) (N : Nat) (hD : Drw w0 v N) (n : Nat) (hn100 : n ≤ 100000) (w : World) (h : CuX w0 c v N w) :
    Calls Tryd.prog 261 #[.pointer (some ⟨c, 0, none⟩), .int .i64 n] w fun e w' => ∃ (t : ByteArray), e = .returned (.string t) ∧ t.size = n ∧ DX w0 c v N w w' := by
  obtain ⟨⟨L, hL, rfl⟩, hn⟩ := hD
  obtain ⟨st, h⟩ := h
  refine (l01Text_any w0 c v L hL hn n hn100 st w h).mono ?_
  rintro e w' ⟨t, m, rfl, h0, hc, ht⟩
  exact ⟨t, rfl, h0, ⟨_, hc⟩, ht⟩
set_option maxHeartbeats 4000000 in
theorem l01Some_any (w0 : World) (c : Nat) (v : Value) (N : Nat) (hD : Drw w0 v N) (w : World) (h : CuX w0 c v N w) :
    Calls Tryd.prog 262 #[.pointer (some ⟨c, 0, none⟩)] w fun e w' => ∃ (t : ByteArray), e = .returned (.string t) ∧ t.size ≤ 16 ∧ DX w0 c v N w w' := by
  have BL := Lib.hid (Below1_any w0 c v N hD 5 (by unfold In64; omega) w h)
  have PK := Lib.hid (fun (W : World) (h : CuX w0 c v N W) => PickS_any w0 c v N hD 4 [⟨#[97]⟩, ⟨#[98]⟩, ⟨#[110, 97, 109, 101]⟩, ⟨#[34]⟩, ⟨#[92]⟩, ⟨#[10]⟩, ⟨#[1]⟩, ⟨#[195, 169]⟩, ⟨#[226, 130, 172]⟩, ⟨#[240, 159, 152, 128]⟩, ⟨#[47]⟩, ⟨#[48]⟩, ⟨#[32]⟩] 9 (by decide) (by decide) 13 13 rfl W h _ rfl)
  clear h hD
  go_enter Tryd.func262, Tryd.ntmps262
  go_wp2_with fail
  refine BL.out.mono ?_
  rintro e1 w1 ⟨k, rfl, hk0, hk1, hd1⟩
  have HD1 := Lib.hid hd1
  clear hd1
  have hk5 : k < 5 := by omega
  clear hk1
  go_wp2_with fail
  go_loopw [3, 5] (fun tt ii wr => ∃ (i : Nat) (t : ByteArray), tt = .string t ∧ ii = .int .i64 i ∧ (i : Int) ≤ k ∧ t.size ≤ 4 * i ∧ DX w0 c v N w wr) (fun _ ii _ => (k - intOf ii).toNat)
  case atStart => exact ⟨0, _, rfl, rfl, by omega, by simp [ByteArray.size], HD1.out⟩
  case round =>
    obtain ⟨i, t, rfl, rfl, hik, ht, hd2⟩ := hrel
    have HD2 := Lib.hid hd2
    clear hd2
    by_cases hik2 : (i : Int) < k
    · go_wp2_with fail
      refine (PK.out wr HD2.out.1).mono ?_
      rintro e3 w3 ⟨z, rfl, hz, hd3⟩
      have HD3 := Lib.hid (HD2.out.trans hd3)
      clear hd3
      go_wp2_with fail
      go_roundw
      case rel => exact ⟨i + 1, _, rfl, by push_cast; rfl, by omega, by rw [ByteArray.size_append]; omega, HD3.out⟩
      case measure => simp only [intOf]; omega
    · go_wp2_with fail
      go_ret
      exact ⟨_, rfl, by omega, HD2.out⟩
def DVal (w0 : World) (c : Nat) (v : Value) (N B : Nat) (w : World) (e : Ending) (w' : World) : Prop :=
  ∃ (t : V) (sl : Value) (G : Nat → Prop), e = .returned (t.agg sl) ∧ t.wf ∧ t.sz ≤ B ∧ PRow w' w.heap.size G sl t.kids ∧ (∀ x, G x → w.heap.size ≤ x) ∧ DX w0 c v N w w'
theorem DVal.leaf {w0 w w' : World} {c N B : Nat} {v : Value} (k n e : Int) (s : ByteArray) (hk : In64 k) (hn : In64 n) (he : In64 e) (hs : s.size ≤ B) (hB : B ≤ 1000000) (h : DX w0 c v N w w') :
    DVal w0 c v N B w (.returned (.agg #[.int .i64 k, .int .i64 n, .int .i64 e, .string s, .slice none 0 0])) w' :=
  ⟨.mk k n e s [], .slice none 0 0, fun _ => False, rfl, ⟨hk, hn, he, by show s.size ≤ _; omega⟩, by rw [V.sz, szs]; omega, PRow.nil _ _, fun _ h => h.elim, h⟩
theorem PRow.low {w : World} {b b' : Nat} {G : Nat → Prop} {v : Value} {ts : List V} (h : PRow w b G v ts) (hb : b' ≤ b) : PRow w b' G v ts := by
  obtain ⟨sls, h⟩ := h
  refine ⟨sls, ⟨⟨h.row.1, ?_⟩, h.len, h.wfs, h.kids, h.own, h.inG⟩⟩
  rcases h.row.2 with h2 | ⟨g, cap, cur, hv, hbg, rest⟩
  · exact .inl h2
  · exact .inr ⟨g, cap, cur, hv, Nat.le_trans hb hbg, rest⟩
theorem PRow.set5 {w : World} {b z : Nat} {G : Nat → Prop} {v : Value} {ts : List V} (h : PRow w b G v ts) (hz : z < b) (hG : ∀ x, G x → z < x) (v0 v1 v2 v3 v4 : Value) : PRow (Go.Proofs.YtgbgeocmjdgmoaaDoor.set5 w z v0 v1 v2 v3 v4) b G v ts := by
  refine h.keep (by rw [size_set5]; exact Nat.le_refl _) (fun x hx _ => heap_set5 _ _ _ _ _ _ _ _ ?_)
  rcases hx with hx | hx
  · have := hG x hx; omega
  · have := (h.lt x hx).1; omega
theorem PRow.over {w w' : World} {b c : Nat} {G : Nat → Prop} {v : Value} {ts : List V} (h : PRow w b G v ts) (hG : ∀ x, G x → b ≤ x) (ht : Touch (fun x => x = c) (fun x => x = c) w w') (hc : c < b) : PRow w' b G v ts := by
  refine h.keep ht.size (fun x hx hxs => ht.block x hxs ?_)
  rcases hx with hx | hx
  · have := hG x hx; omega
  · have := (h.lt x hx).1; omega
theorem DX.cell {w0 w W : World} {c N b i : Nat} {v u : Value} (h : DX w0 c v N w W) (hb : w.heap.size ≤ b) (hc : c < w.heap.size) : DX w0 c v N w (W.setCell ⟨b, i, none⟩ u) := by
  have e : (W.setCell ⟨b, i, none⟩ u).heap[c]? = W.heap[c]? := heap_setCell_other _ _ _ _ (by show ¬ c = b; omega)
  refine ⟨h.1.over e ?_, ?_⟩
  · have hB := h.1.below
    have := h.1.hc
    exact ⟨hB.os, hB.tape, hB.output, by simpa using hB.size, fun k hk => (heap_setCell_other _ _ _ _ (by show ¬ k = b; omega)).trans (hB.block k hk)⟩
  · exact ⟨h.2.os, h.2.tape, h.2.output, by simpa using h.2.size, fun x hx hn => (heap_setCell_other _ _ _ _ (by show ¬ x = b; omega)).trans (h.2.block x hx hn), h.2.new⟩
theorem Box.overC {W W' : World} {b c : Nat} {k n e : Int} {s : ByteArray} {sl : Value} {T : TypeId} (h : Box W b k n e s sl T) (ht : Touch (fun x => x = c) (fun x => x = c) W W') (hbc : ¬ b = c) : Box W' b k n e s sl T := (ht.block b (lt_of_heap h) hbc).trans h
set_option maxHeartbeats 8000000 in
theorem l02Leaf_any (w0 : World) (c : Nat) (v : Value) (N : Nat) (hD : Drw w0 v N) (pl : Bool) (w : World) (h : CuX w0 c v N w) :
    Calls Tryd.prog 218 #[.pointer (some ⟨c, 0, none⟩), .bool pl] w (DVal w0 c v N 20 w) := by
  have BL := Lib.hid (fun (q : Int) (hq : In64 q) (W : World) (h : CuX w0 c v N W) => Below1_any w0 c v N hD q hq W h)
  have PK := Lib.hid (fun (W : World) (h : CuX w0 c v N W) => PickS_any w0 c v N hD 20 [⟨#[99, 111, 109, 109, 111, 110, 32, 118, 97, 108, 117, 101]⟩, ⟨#[99, 111, 109, 109, 111, 110, 32, 118, 97, 108]⟩, ⟨#[97, 110, 111, 116, 104, 101, 114, 32, 99, 111, 109, 109, 111, 110, 32, 118, 97, 108, 117, 101]⟩, ⟨#[120]⟩, ⟨#[]⟩] 9 (by decide) (by decide) 5 5 rfl W h _ rfl)
  have PA := Lib.hid (fun (W : World) (h : CuX w0 c v N W) => PickI_any w0 c v N hD [15, -3, 1, 9007199254740993, -999999999999999999] 3 (by unfold In64; decide) (by decide) 5 5 rfl W h _ rfl)
  have PE := Lib.hid (fun (W : World) (h : CuX w0 c v N W) => PickI_any w0 c v N hD [-1, -2, 19, 20, -20] 3 (by unfold In64; decide) (by decide) 5 5 rfl W h _ rfl)
  have PI := Lib.hid (fun (z : Int) (hz : 0 ≤ z ∧ z ≤ 1000) (W : World) (h : CuX w0 c v N W) => PickI_any w0 c v N hD [0, 1, 23, 24, 255, 256, 65535, 65536, 4294967295, 4294967296, -1, -24, -25, -256, -257, 9223372036854775807, -9223372036854775808, z] 3 (by unfold In64; intro y hy; simp at hy; omega) (by simp) 18 18 rfl W h _ rfl)
  have TX := Lib.hid (fun (n : Nat) (hn : n ≤ 100000) (W : World) (h : CuX w0 c v N W) => Text_any w0 c v N hD n hn W h)
  have SO := Lib.hid (fun (W : World) (h : CuX w0 c v N W) => l01Some_any w0 c v N hD W h)
  have BZ := Lib.hid (Box.new w 0 0 0 ⟨#[]⟩ (.slice none 0 0) 26)
  have hcw := h.lt
  have HD0 := Lib.hid (show DX w0 c v N w (w.alloc (.cells #[.int .i64 0, .int .i64 0, .int .i64 0, .string ⟨#[]⟩, .slice none 0 0] 26)) from (DX.refl h).stay ((Below.refl _ _).alloc (Nat.le_refl _) _))
  have hnc : ¬ w.heap.size = c := by omega
  clear h hD
  go_enter Tryd.func218, Tryd.ntmps218
  go_wp2_with fail
  generalize (w.alloc (.cells #[.int .i64 0, .int .i64 0, .int .i64 0, .string ⟨#[]⟩, .slice none 0 0] 26)) = W0 at *
  refine (BL.out 9 (by unfold In64; omega) W0 HD0.out.1).mono ?_
  rintro e1 w1 ⟨x, rfl, hx0, hx1, hd1⟩
  have HD1 := Lib.hid (HD0.out.trans hd1)
  have BZ1 := Lib.hid (BZ.out.overC hd1.2 hnc)
  clear hd1
  have hx9 : x = 0 ∨ x = 1 ∨ (x = 2 ∧ pl = true) ∨ (x = 2 ∧ pl = false) ∨ x = 3 ∨ x = 4 ∨ x = 5 ∨ (¬ x = 0 ∧ ¬ x = 1 ∧ ¬ x = 2 ∧ ¬ x = 3 ∧ ¬ x = 4 ∧ ¬ x = 5) := by cases pl <;> simp <;> omega
  clear hx0 hx1
  rcases hx9 with rfl | rfl | ⟨rfl, rfl⟩ | ⟨rfl, rfl⟩ | rfl | rfl | rfl | ⟨h0, h1, h2, h3, h4, h5⟩
  · go_wp2_with fail
    refine (BL.out 3 (by unfold In64; omega) w1 HD1.out.1).mono ?_
    rintro e2 w2 ⟨y, rfl, hy0, hy1, hd2⟩
    have HD2 := Lib.hid (HD1.out.trans hd2)
    have BZ2 := Lib.hid (BZ1.out.overC hd2.2 hnc)
    clear hd2
    have HY := Lib.hid (show In64 y by unfold In64; omega)
    clear hy0 hy1
    obtain ⟨z0, z1, z2, z3, z4⟩ := BZ2.out.cells
    have zf0 := BZ2.out.free (i := 0); have zf1 := BZ2.out.free (i := 1); have zf2 := BZ2.out.free (i := 2); have zf3 := BZ2.out.free (i := 3); have zf4 := BZ2.out.free (i := 4)
    go_wp2_with fail
    exact bodyPost_ret (v := .agg #[.int .i64 y, .int .i64 0, .int .i64 0, .string ⟨#[]⟩, .slice none 0 0]) (by simp [results, Tryd.results218, go_sem, z0, z1, z2, z3, z4]) rfl (DVal.leaf _ _ _ _ HY.out in0 in0 (by simp [ByteArray.size]) (by omega) (((((HD2.out.cell (Nat.le_refl _) hcw).cell (Nat.le_refl _) hcw).cell (Nat.le_refl _) hcw).cell (Nat.le_refl _) hcw).cell (Nat.le_refl _) hcw))
  · go_wp2_with fail
    refine (PA.out w1 HD1.out.1).mono ?_
    rintro e2 w2 ⟨y, rfl, hy, hd2⟩
    have HD2 := Lib.hid (HD1.out.trans hd2)
    have BZ2 := Lib.hid (BZ1.out.overC hd2.2 hnc)
    clear hd2
    have HY := Lib.hid hy
    clear hy
    go_wp2_with fail
    refine (PE.out w2 HD2.out.1).mono ?_
    rintro e3 w3 ⟨x, rfl, hx, hd3⟩
    have HD3 := Lib.hid (HD2.out.trans hd3)
    have BZ3 := Lib.hid (BZ2.out.overC hd3.2 hnc)
    clear hd3
    have HX := Lib.hid hx
    clear hx
    obtain ⟨z0, z1, z2, z3, z4⟩ := BZ3.out.cells
    have zf0 := BZ3.out.free (i := 0); have zf1 := BZ3.out.free (i := 1); have zf2 := BZ3.out.free (i := 2); have zf3 := BZ3.out.free (i := 3); have zf4 := BZ3.out.free (i := 4)
    go_wp2_with fail
    exact bodyPost_ret (v := .agg #[.int .i64 4, .int .i64 y, .int .i64 x, .string ⟨#[]⟩, .slice none 0 0]) (by simp [results, Tryd.results218, go_sem, z0, z1, z2, z3, z4]) rfl (DVal.leaf _ _ _ _ (by unfold In64; omega) HY.out HX.out (by simp [ByteArray.size]) (by omega) (((((HD3.out.cell (Nat.le_refl _) hcw).cell (Nat.le_refl _) hcw).cell (Nat.le_refl _) hcw).cell (Nat.le_refl _) hcw).cell (Nat.le_refl _) hcw))
  · go_wp2_with fail
    refine (BL.out 1000 (by unfold In64; omega) w1 HD1.out.1).mono ?_
    rintro e2 w2 ⟨y, rfl, hy0, hy1, hd2⟩
    have HD2 := Lib.hid (HD1.out.trans hd2)
    have BZ2 := Lib.hid (BZ1.out.overC hd2.2 hnc)
    clear hd2
    have hy : 0 ≤ y ∧ y ≤ 1000 := by omega
    clear hy0 hy1
    go_wp2_with fail
    refine (PI.out y hy w2 HD2.out.1).mono ?_
    rintro e3 w3 ⟨x, rfl, hx, hd3⟩
    have HD3 := Lib.hid (HD2.out.trans hd3)
    have BZ3 := Lib.hid (BZ2.out.overC hd3.2 hnc)
    clear hd3
    have HX := Lib.hid hx
    clear hx
    go_wp2_with fail
    refine (l02Int_any x w3).mono ?_
    rintro e4 w4 ⟨rfl, hd4⟩
    have HD4 := Lib.hid (HD3.out.stay hd4)
    have BZ4 := Lib.hid (BZ3.out.stay hd4)
    clear hd4
    obtain ⟨z0, z1, z2, z3, z4⟩ := BZ4.out.cells
    have zf0 := BZ4.out.free (i := 0); have zf1 := BZ4.out.free (i := 1); have zf2 := BZ4.out.free (i := 2); have zf3 := BZ4.out.free (i := 3); have zf4 := BZ4.out.free (i := 4)
    go_wp2_with fail
    exact bodyPost_ret (v := .agg #[.int .i64 3, .int .i64 x, .int .i64 0, .string ⟨#[]⟩, .slice none 0 0]) (by simp [results, Tryd.results218, go_sem, z0, z1, z2, z3, z4]) rfl (DVal.leaf _ _ _ _ in3 HX.out in0 (by simp [ByteArray.size]) (by omega) (((((HD4.out.cell (Nat.le_refl _) hcw).cell (Nat.le_refl _) hcw).cell (Nat.le_refl _) hcw).cell (Nat.le_refl _) hcw).cell (Nat.le_refl _) hcw))
  · go_wp2_with fail
    refine (BL.out 8 (by unfold In64; omega) w1 HD1.out.1).mono ?_
    rintro e2 w2 ⟨y, rfl, hy0, hy1, hd2⟩
    have HD2 := Lib.hid (HD1.out.trans hd2)
    have BZ2 := Lib.hid (BZ1.out.overC hd2.2 hnc)
    clear hd2
    obtain ⟨y, rfl⟩ : ∃ y2 : Nat, y = y2 := ⟨y.toNat, by omega⟩
    have hy : y ≤ 8 := by omega
    clear hy0 hy1
    go_wp2_with fail
    refine (TX.out y (by omega) w2 HD2.out.1).mono ?_
    rintro e3 w3 ⟨t, rfl, ht, hd3⟩
    have HD3 := Lib.hid (HD2.out.trans hd3)
    have BZ3 := Lib.hid (BZ2.out.overC hd3.2 hnc)
    clear hd3
    obtain ⟨z0, z1, z2, z3, z4⟩ := BZ3.out.cells
    have zf0 := BZ3.out.free (i := 0); have zf1 := BZ3.out.free (i := 1); have zf2 := BZ3.out.free (i := 2); have zf3 := BZ3.out.free (i := 3); have zf4 := BZ3.out.free (i := 4)
    go_wp2_with fail
    exact bodyPost_ret (v := .agg #[.int .i64 6, .int .i64 0, .int .i64 0, .string t, .slice none 0 0]) (by simp [results, Tryd.results218, go_sem, z0, z1, z2, z3, z4]) rfl (DVal.leaf _ _ _ _ (by unfold In64; omega) in0 in0 (by omega) (by omega) (((((HD3.out.cell (Nat.le_refl _) hcw).cell (Nat.le_refl _) hcw).cell (Nat.le_refl _) hcw).cell (Nat.le_refl _) hcw).cell (Nat.le_refl _) hcw))
  · go_wp2_with fail
    refine (PK.out w1 HD1.out.1).mono ?_
    rintro e2 w2 ⟨t, rfl, ht, hd2⟩
    have HD2 := Lib.hid (HD1.out.trans hd2)
    have BZ2 := Lib.hid (BZ1.out.overC hd2.2 hnc)
    clear hd2
    go_wp2_with fail
    refine (l02Str_any t w2).mono ?_
    rintro e3 w3 ⟨rfl, hd3⟩
    have HD3 := Lib.hid (HD2.out.stay hd3)
    have BZ3 := Lib.hid (BZ2.out.stay hd3)
    clear hd3
    obtain ⟨z0, z1, z2, z3, z4⟩ := BZ3.out.cells
    have zf0 := BZ3.out.free (i := 0); have zf1 := BZ3.out.free (i := 1); have zf2 := BZ3.out.free (i := 2); have zf3 := BZ3.out.free (i := 3); have zf4 := BZ3.out.free (i := 4)
    go_wp2_with fail
    exact bodyPost_ret (v := .agg #[.int .i64 5, .int .i64 0, .int .i64 0, .string t, .slice none 0 0]) (by simp [results, Tryd.results218, go_sem, z0, z1, z2, z3, z4]) rfl (DVal.leaf _ _ _ _ (by unfold In64; omega) in0 in0 ht (by omega) (((((HD3.out.cell (Nat.le_refl _) hcw).cell (Nat.le_refl _) hcw).cell (Nat.le_refl _) hcw).cell (Nat.le_refl _) hcw).cell (Nat.le_refl _) hcw))
  · go_wp2_with fail
    refine (PK.out w1 HD1.out.1).mono ?_
    rintro e2 w2 ⟨t, rfl, ht, hd2⟩
    have HD2 := Lib.hid (HD1.out.trans hd2)
    have BZ2 := Lib.hid (BZ1.out.overC hd2.2 hnc)
    clear hd2
    go_wp2_with fail
    refine (l02Str_any t w2).mono ?_
    rintro e3 w3 ⟨rfl, hd3⟩
    have HD3 := Lib.hid (HD2.out.stay hd3)
    have BZ3 := Lib.hid (BZ2.out.stay hd3)
    clear hd3
    obtain ⟨z0, z1, z2, z3, z4⟩ := BZ3.out.cells
    have zf0 := BZ3.out.free (i := 0); have zf1 := BZ3.out.free (i := 1); have zf2 := BZ3.out.free (i := 2); have zf3 := BZ3.out.free (i := 3); have zf4 := BZ3.out.free (i := 4)
    go_wp2_with fail
    exact bodyPost_ret (v := .agg #[.int .i64 5, .int .i64 0, .int .i64 0, .string t, .slice none 0 0]) (by simp [results, Tryd.results218, go_sem, z0, z1, z2, z3, z4]) rfl (DVal.leaf _ _ _ _ (by unfold In64; omega) in0 in0 ht (by omega) (((((HD3.out.cell (Nat.le_refl _) hcw).cell (Nat.le_refl _) hcw).cell (Nat.le_refl _) hcw).cell (Nat.le_refl _) hcw).cell (Nat.le_refl _) hcw))
  · go_wp2_with fail
    refine (SO.out w1 HD1.out.1).mono ?_
    rintro e2 w2 ⟨t, rfl, ht, hd2⟩
    have HD2 := Lib.hid (HD1.out.trans hd2)
    have BZ2 := Lib.hid (BZ1.out.overC hd2.2 hnc)
    clear hd2
    go_wp2_with fail
    refine (l02Str_any t w2).mono ?_
    rintro e3 w3 ⟨rfl, hd3⟩
    have HD3 := Lib.hid (HD2.out.stay hd3)
    have BZ3 := Lib.hid (BZ2.out.stay hd3)
    clear hd3
    obtain ⟨z0, z1, z2, z3, z4⟩ := BZ3.out.cells
    have zf0 := BZ3.out.free (i := 0); have zf1 := BZ3.out.free (i := 1); have zf2 := BZ3.out.free (i := 2); have zf3 := BZ3.out.free (i := 3); have zf4 := BZ3.out.free (i := 4)
    go_wp2_with fail
    exact bodyPost_ret (v := .agg #[.int .i64 5, .int .i64 0, .int .i64 0, .string t, .slice none 0 0]) (by simp [results, Tryd.results218, go_sem, z0, z1, z2, z3, z4]) rfl (DVal.leaf _ _ _ _ (by unfold In64; omega) in0 in0 (by omega) (by omega) (((((HD3.out.cell (Nat.le_refl _) hcw).cell (Nat.le_refl _) hcw).cell (Nat.le_refl _) hcw).cell (Nat.le_refl _) hcw).cell (Nat.le_refl _) hcw))
  · go_wp2_with fail
    refine (BL.out 1000 (by unfold In64; omega) w1 HD1.out.1).mono ?_
    rintro e2 w2 ⟨y, rfl, hy0, hy1, hd2⟩
    have HD2 := Lib.hid (HD1.out.trans hd2)
    have BZ2 := Lib.hid (BZ1.out.overC hd2.2 hnc)
    clear hd2
    have hy : 0 ≤ y ∧ y ≤ 1000 := by omega
    clear hy0 hy1
    go_wp2_with fail
    refine (PI.out y hy w2 HD2.out.1).mono ?_
    rintro e3 w3 ⟨x, rfl, hx, hd3⟩
    have HD3 := Lib.hid (HD2.out.trans hd3)
    have BZ3 := Lib.hid (BZ2.out.overC hd3.2 hnc)
    clear hd3
    have HX := Lib.hid hx
    clear hx
    go_wp2_with fail
    refine (l02Int_any x w3).mono ?_
    rintro e4 w4 ⟨rfl, hd4⟩
    have HD4 := Lib.hid (HD3.out.stay hd4)
    have BZ4 := Lib.hid (BZ3.out.stay hd4)
    clear hd4
    obtain ⟨z0, z1, z2, z3, z4⟩ := BZ4.out.cells
    have zf0 := BZ4.out.free (i := 0); have zf1 := BZ4.out.free (i := 1); have zf2 := BZ4.out.free (i := 2); have zf3 := BZ4.out.free (i := 3); have zf4 := BZ4.out.free (i := 4)
    go_wp2_with fail
    exact bodyPost_ret (v := .agg #[.int .i64 3, .int .i64 x, .int .i64 0, .string ⟨#[]⟩, .slice none 0 0]) (by simp [results, Tryd.results218, go_sem, z0, z1, z2, z3, z4]) rfl (DVal.leaf _ _ _ _ in3 HX.out in0 (by simp [ByteArray.size]) (by omega) (((((HD4.out.cell (Nat.le_refl _) hcw).cell (Nat.le_refl _) hcw).cell (Nat.le_refl _) hcw).cell (Nat.le_refl _) hcw).cell (Nat.le_refl _) hcw))
end Go.Proofs.YtgbgeocmjdgmoaaDoor
