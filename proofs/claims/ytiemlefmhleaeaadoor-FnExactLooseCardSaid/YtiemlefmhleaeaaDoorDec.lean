/- Whether a decimal is right: impl.fits, isDec, isKey; spec.l02Whole. -/
import Derived.Test.YtiemlefmhleaeaaDoorValM
import Derived.Test.YtiemlefmhleaeaaDoorWithin
import Derived.Test.YtiemlefmhleaeaaDoorLawAid
import Derived.WalkSpells
import Derived.Lib.Hide
import Derived.IntWalk
import Derived.Deep.QuietTactic
import Derived.BigQuiet
import Derived.OwnWalk
namespace Go.Proofs.YtiemlefmhleaeaaDoor
set_option linter.unusedVariables false
set_option maxRecDepth 100000
open Go.RowKit
theorem fits10_zero : ∀ k, fits10 0 k = some 0
  | 0 => rfl
  | k + 1 => by rw [fits10, if_pos (by omega)]; simpa using fits10_zero k
theorem fits10_step (n e : Int) (he : 0 < e) : fits10 n e.toNat = if -9223372036854775808 ≤ n * 10 ∧ n * 10 ≤ 9223372036854775807 then fits10 (n * 10) (e - 1).toNat else none := by
  obtain ⟨k, hk⟩ : ∃ k : Nat, e.toNat = k + 1 := ⟨e.toNat - 1, by omega⟩
  rw [hk, show (e - 1).toNat = k by omega]; rfl
def fitV (o : Option Int) : Int := o.getD 0
def FitRet (o : Option Int) (w : World) (e : Ending) (w' : World) : Prop := e = .returned (.tuple #[.int .i64 (fitV o), .bool o.isSome]) ∧ w' = w
set_option maxHeartbeats 400000 in
theorem fits_any (n e : Int) (hn : In64 n) (he : In64 e) (w : World) : Calls Tryd.prog 251 #[.int .i64 n, .int .i64 e] w (FitRet (fits10 n e.toNat) w) := by
  obtain ⟨hn0, hn1⟩ := hn
  obtain ⟨he0, he1⟩ := he
  generalize hG : fits10 n e.toNat = G
  have HG := Lib.hid hG; clear hG
  go_enter Tryd.func251, Tryd.ntmps251
  go_wp2_with fail
  go_loop [0, 1] (fun a b => ∃ x y : Int, a = .int .i64 x ∧ b = .int .i64 y ∧ -9223372036854775808 ≤ x ∧ x ≤ 9223372036854775807 ∧ -9223372036854775808 ≤ y ∧ y ≤ 9223372036854775807 ∧ Hid (G = fits10 x y.toNat)) (fun _ b => (intOf b).toNat)
  case atStart => exact ⟨n, e, rfl, rfl, hn0, hn1, he0, he1, Lib.hid HG.out.symm⟩
  case round =>
    obtain ⟨x, y, rfl, rfl, hx0, hx1, hy0, hy1, HX⟩ := hrel
    by_cases hy : 0 < y
    · have HS := Lib.hid (fits10_step x y hy)
      by_cases hx : x = 0
      · have H := Lib.hid (show G = some 0 by rw [HX.out, hx, fits10_zero])
        have t1 : (x != 0) = false := by simpa using hx
        clear HS
        go_wp2_with fail
        go_ret2
        exact ⟨by rw [H.out]; simp [fitV], rfl⟩
      · have t1 : (x != 0) = true := by simpa using hx
        have t2 : (x == 0) = false := by simpa using hx
        clear hx
        by_cases h1 : 922337203685477580 < x
        · have H := Lib.hid (show G = none by rw [HX.out, HS.out, if_neg (by omega)])
          clear HS
          go_wp2_with fail
          go_ret2
          exact ⟨by rw [H.out]; rfl, rfl⟩
        · by_cases h2 : x < -922337203685477580
          · have H := Lib.hid (show G = none by rw [HX.out, HS.out, if_neg (by omega)])
            clear HS
            go_wp2_with fail
            go_ret2
            exact ⟨by rw [H.out]; rfl, rfl⟩
          · have H := Lib.hid (show G = fits10 (x * 10) (y - 1).toNat by rw [HX.out, HS.out, if_pos (by omega)])
            have m0 : -9223372036854775808 ≤ x * 10 := by omega
            have m1 : x * 10 ≤ 9223372036854775807 := by omega
            clear HS
            go_wp2_with fail
            go_round
            case rel => exact ⟨x * 10, y - 1, rfl, rfl, m0, m1, by omega, by omega, H⟩
            case measure => simp [intOf]; omega
    · have H := Lib.hid (show G = some x by rw [HX.out, show y.toNat = 0 by omega]; rfl)
      go_wp2_with fail
      go_ret2
      exact ⟨by rw [H.out]; rfl, rfl⟩
set_option maxHeartbeats 400000 in
theorem isKey_any (k n e : Int) (s : ByteArray) (sl : Value) (w : World) : Calls Tryd.prog 231 #[.agg #[.int .i64 k, .int .i64 n, .int .i64 e, .string s, sl]] w
    fun x w' => x = .returned (.bool (decide (k = 5 ∨ k = 3))) ∧ Below w.heap.size w w' := by
  have hpost : ∃ b : Bool, b = decide (k = 5 ∨ k = 3) := ⟨_, rfl⟩
  obtain ⟨b, hb⟩ := hpost
  rw [← hb]
  have HB := Lib.hid hb; clear hb
  by_cases h5 : k = 5
  · have H := Lib.hid (show b = true by rw [HB.out]; simp [h5])
    have t1 : (k == 5) = true := by simpa using h5
    clear h5
    go_enter Tryd.func231, Tryd.ntmps231
    go_wp2_with fail
    go_ret
    exact ⟨by rw [H.out]; rfl, (by (repeat' (first | with_reducible exact Below.refl _ _ | with_reducible refine below_alloc ?_ _ ?_ | with_reducible refine Below.setCell ?_ ?_ _ | with_reducible refine Below.drew ?_ | with_reducible refine below_drewN ?_ _ | with_reducible refine below_step ?_ (by assumption) ?_ | with_reducible refine below_mark ?_ (by assumption) ?_)); all_goals (first | omega | (simp; done) | (simp; omega)))⟩
  · have t1 : (k == 5) = false := by simpa using h5
    by_cases h6 : k = 3
    · have H := Lib.hid (show b = true by rw [HB.out]; simp [h6])
      have t2 : (k == 3) = true := by simpa using h6
      clear h5 h6
      go_enter Tryd.func231, Tryd.ntmps231
      go_wp2_with fail
      go_ret
      exact ⟨by rw [H.out]; rfl, (by (repeat' (first | with_reducible exact Below.refl _ _ | with_reducible refine below_alloc ?_ _ ?_ | with_reducible refine Below.setCell ?_ ?_ _ | with_reducible refine Below.drew ?_ | with_reducible refine below_drewN ?_ _ | with_reducible refine below_step ?_ (by assumption) ?_ | with_reducible refine below_mark ?_ (by assumption) ?_)); all_goals (first | omega | (simp; done) | (simp; omega)))⟩
    · have H := Lib.hid (show b = false by rw [HB.out]; simp [h5, h6])
      have t2 : (k == 3) = false := by simpa using h6
      clear h5 h6
      go_enter Tryd.func231, Tryd.ntmps231
      go_wp2_with fail
      go_ret
      exact ⟨by rw [H.out]; rfl, (by (repeat' (first | with_reducible exact Below.refl _ _ | with_reducible refine below_alloc ?_ _ ?_ | with_reducible refine Below.setCell ?_ ?_ _ | with_reducible refine Below.drew ?_ | with_reducible refine below_drewN ?_ _ | with_reducible refine below_step ?_ (by assumption) ?_ | with_reducible refine below_mark ?_ (by assumption) ?_)); all_goals (first | omega | (simp; done) | (simp; omega)))⟩
theorem decOk_eq (n e : Int) : decOk n e = (decide (n.tmod 10 ≠ 0) && decide (-999999999999999999 ≤ n ∧ n ≤ 999999999999999999) && decide (-20 ≤ e ∧ e ≤ 20) && decide (e ≠ 0) && !(decide (0 < e) && (fits10 n e.toNat).isSome)) := by
  unfold decOk
  congr 1
  rw [Bool.eq_iff_iff]
  simp only [Bool.and_eq_true, decide_eq_true_eq]
  constructor
  · rintro ⟨a, b, c, d, f, g⟩; exact ⟨⟨⟨a, b, c⟩, d, f⟩, g⟩
  · rintro ⟨⟨⟨a, b, c⟩, d, f⟩, g⟩; exact ⟨a, b, c, d, f, g⟩
set_option maxHeartbeats 1000000 in
theorem isDec_any (k n e : Int) (s : ByteArray) (sl : Value) (hn : In64 n) (he : In64 e) (w : World) : Calls Tryd.prog 229 #[.agg #[.int .i64 k, .int .i64 n, .int .i64 e, .string s, sl]] w
    fun x w' => x = .returned (.bool (decOk n e)) ∧ Below w.heap.size w w' := by
  have hpost : ∃ b : Bool, b = decOk n e := ⟨_, rfl⟩
  obtain ⟨b, hb⟩ := hpost
  rw [← hb]
  rw [decOk_eq] at hb
  have HB := Lib.hid hb; clear hb
  have FT := Lib.hid (fun W => fits_any n e hn he W)
  obtain ⟨hn0, hn1⟩ := hn
  obtain ⟨he0, he1⟩ := he
  by_cases c1 : -20 ≤ e ∧ e ≤ 20
  · have W1 := Lib.hid (fun W => within_yes e (-20) 20 W c1.1 c1.2)
    obtain ⟨c10, c11⟩ := c1
    by_cases c2 : e = 0
    · have H := Lib.hid (show b = false by rw [HB.out]; simp [c2])
      have t1 : (e == 0) = true := by simpa using c2
      clear c2 FT
      go_enter Tryd.func229, Tryd.ntmps229
      go_wp2_with fail
      refine (W1.out _).mono ?_
      rintro x w1 ⟨rfl, rfl⟩
      go_wp2_with fail
      go_ret
      exact ⟨by rw [H.out]; rfl, (by (repeat' (first | with_reducible exact Below.refl _ _ | with_reducible refine below_alloc ?_ _ ?_ | with_reducible refine Below.setCell ?_ ?_ _ | with_reducible refine Below.drew ?_ | with_reducible refine below_drewN ?_ _ | with_reducible refine below_step ?_ (by assumption) ?_ | with_reducible refine below_mark ?_ (by assumption) ?_)); all_goals (first | omega | (simp; done) | (simp; omega)))⟩
    · have t1 : (e == 0) = false := by simpa using c2
      by_cases c3 : -999999999999999999 ≤ n ∧ n ≤ 999999999999999999
      · have W2 := Lib.hid (fun W => within_yes n (-999999999999999999) 999999999999999999 W c3.1 c3.2)
        by_cases c4 : n.tmod 10 = 0
        · have H := Lib.hid (show b = false by rw [HB.out]; simp [c4])
          have t2 : (n.tmod 10 == 0) = true := by simpa using c4
          clear c2 c3 c4 FT
          go_enter Tryd.func229, Tryd.ntmps229
          go_wp2_with fail
          refine (W1.out _).mono ?_
          rintro x w1 ⟨rfl, rfl⟩
          go_wp2_with fail
          refine (W2.out _).mono ?_
          rintro x w2 ⟨rfl, rfl⟩
          go_wp2_with fail
          go_ret
          exact ⟨by rw [H.out]; rfl, (by (repeat' (first | with_reducible exact Below.refl _ _ | with_reducible refine below_alloc ?_ _ ?_ | with_reducible refine Below.setCell ?_ ?_ _ | with_reducible refine Below.drew ?_ | with_reducible refine below_drewN ?_ _ | with_reducible refine below_step ?_ (by assumption) ?_ | with_reducible refine below_mark ?_ (by assumption) ?_)); all_goals (first | omega | (simp; done) | (simp; omega)))⟩
        · have t2 : (n.tmod 10 == 0) = false := by simpa using c4
          have HH := Lib.hid (show b = !(decide (0 < e) && (fits10 n e.toNat).isSome) by rw [HB.out]; simp [c2, c3, c4, c10, c11])
          by_cases c5 : 0 < e
          · have H := Lib.hid (show b = !(fits10 n e.toNat).isSome by rw [HH.out]; simp [c5])
            clear c2 c3 c4 HH HB
            go_enter Tryd.func229, Tryd.ntmps229
            go_wp2_with fail
            refine (W1.out _).mono ?_
            rintro x w1 ⟨rfl, rfl⟩
            go_wp2_with fail
            refine (W2.out _).mono ?_
            rintro x w2 ⟨rfl, rfl⟩
            go_wp2_with fail
            refine (FT.out _).mono ?_
            rintro x w3 ⟨rfl, rfl⟩
            go_wp2_with fail
            go_ret
            exact ⟨by rw [H.out]; cases fits10 n e.toNat <;> rfl, (by (repeat' (first | with_reducible exact Below.refl _ _ | with_reducible refine below_alloc ?_ _ ?_ | with_reducible refine Below.setCell ?_ ?_ _ | with_reducible refine Below.drew ?_ | with_reducible refine below_drewN ?_ _ | with_reducible refine below_step ?_ (by assumption) ?_ | with_reducible refine below_mark ?_ (by assumption) ?_)); all_goals (first | omega | (simp; done) | (simp; omega)))⟩
          · have H := Lib.hid (show b = true by rw [HH.out]; simp [c5])
            clear c2 c3 c4 HH HB FT
            go_enter Tryd.func229, Tryd.ntmps229
            go_wp2_with fail
            refine (W1.out _).mono ?_
            rintro x w1 ⟨rfl, rfl⟩
            go_wp2_with fail
            refine (W2.out _).mono ?_
            rintro x w2 ⟨rfl, rfl⟩
            go_wp2_with fail
            go_ret
            exact ⟨by rw [H.out]; rfl, (by (repeat' (first | with_reducible exact Below.refl _ _ | with_reducible refine below_alloc ?_ _ ?_ | with_reducible refine Below.setCell ?_ ?_ _ | with_reducible refine Below.drew ?_ | with_reducible refine below_drewN ?_ _ | with_reducible refine below_step ?_ (by assumption) ?_ | with_reducible refine below_mark ?_ (by assumption) ?_)); all_goals (first | omega | (simp; done) | (simp; omega)))⟩
      · have W2 := Lib.hid (fun W => within_no n (-999999999999999999) 999999999999999999 W (by omega))
        have H := Lib.hid (show b = false by rw [HB.out, decide_eq_false c3]; simp)
        clear c2 c3 FT
        go_enter Tryd.func229, Tryd.ntmps229
        go_wp2_with fail
        refine (W1.out _).mono ?_
        rintro x w1 ⟨rfl, rfl⟩
        go_wp2_with fail
        refine (W2.out _).mono ?_
        rintro x w2 ⟨rfl, rfl⟩
        go_wp2_with fail
        go_ret
        exact ⟨by rw [H.out]; rfl, (by (repeat' (first | with_reducible exact Below.refl _ _ | with_reducible refine below_alloc ?_ _ ?_ | with_reducible refine Below.setCell ?_ ?_ _ | with_reducible refine Below.drew ?_ | with_reducible refine below_drewN ?_ _ | with_reducible refine below_step ?_ (by assumption) ?_ | with_reducible refine below_mark ?_ (by assumption) ?_)); all_goals (first | omega | (simp; done) | (simp; omega)))⟩
  · have W1 := Lib.hid (fun W => within_no e (-20) 20 W (by omega))
    have H := Lib.hid (show b = false by rw [HB.out, decide_eq_false c1]; simp)
    clear c1 FT
    go_enter Tryd.func229, Tryd.ntmps229
    go_wp2_with fail
    refine (W1.out _).mono ?_
    rintro x w1 ⟨rfl, rfl⟩
    go_wp2_with fail
    go_ret
    exact ⟨by rw [H.out]; rfl, (by (repeat' (first | with_reducible exact Below.refl _ _ | with_reducible refine below_alloc ?_ _ ?_ | with_reducible refine Below.setCell ?_ ?_ _ | with_reducible refine Below.drew ?_ | with_reducible refine below_drewN ?_ _ | with_reducible refine below_step ?_ (by assumption) ?_ | with_reducible refine below_mark ?_ (by assumption) ?_)); all_goals (first | omega | (simp; done) | (simp; omega)))⟩
theorem wrap_div (x : Int) (h0 : -9223372036854775808 ≤ x) (h1 : x ≤ 9223372036854775807) : ((wrap64 (x * 10)).tdiv 10 != x) = decide (¬ (-9223372036854775808 ≤ x * 10 ∧ x * 10 ≤ 9223372036854775807)) := by
  by_cases h : -9223372036854775808 ≤ x * 10 ∧ x * 10 ≤ 9223372036854775807
  · have hw : wrap64 (x * 10) = x * 10 := by unfold wrap64; omega
    rw [hw, Int.mul_tdiv_cancel _ (by decide)]
    simp [h]
  · have hne : (wrap64 (x * 10)).tdiv 10 ≠ x := by
      intro e
      have h2 : x * 10 - wrap64 (x * 10) ≤ 9 ∧ -9 ≤ x * 10 - wrap64 (x * 10) → False := by unfold wrap64; omega
      apply h2
      have h3 := Int.tdiv_mul_add_tmod (wrap64 (x * 10)) 10
      have h4 := Int.tmod_lt_of_pos (wrap64 (x * 10)) (show (0 : Int) < 10 by decide)
      have h5 := Int.lt_tmod_of_pos (wrap64 (x * 10)) (show (0 : Int) < 10 by decide)
      omega
    simp only [bne_iff_ne, ne_eq, hne, not_false_eq_true, h, decide_true]
set_option maxHeartbeats 400000 in
theorem l02Whole_any (n e : Int) (hn : In64 n) (he : In64 e) (w : World) : Calls Tryd.prog 215 #[.int .i64 n, .int .i64 e] w fun x w' => x = .returned (.bool (decide (0 < e) && (fits10 n e.toNat).isSome)) ∧ w' = w := by
  obtain ⟨hn0, hn1⟩ := hn
  obtain ⟨he0, he1⟩ := he
  generalize hG : fits10 n e.toNat = G
  have HG := Lib.hid hG; clear hG
  go_enter Tryd.func215, Tryd.ntmps215
  go_wp2_with fail
  go_loop [0, 5] (fun a b => ∃ (x : Int) (y : Int), a = .int .i64 x ∧ b = .int .i64 y ∧ -9223372036854775808 ≤ x ∧ x ≤ 9223372036854775807 ∧ 0 ≤ y ∧ (y ≤ e ∨ y = 0) ∧ Hid (G = fits10 x (e - y).toNat)) (fun _ b => (e - intOf b).toNat)
  case atStart => exact ⟨n, 0, rfl, rfl, hn0, hn1, by omega, .inr rfl, Lib.hid (by rw [← HG.out]; simp)⟩
  case round =>
    obtain ⟨x, y, rfl, rfl, hx0, hx1, hy0, hy1, HX⟩ := hrel
    by_cases hy : y < e
    · have HS := Lib.hid (fits10_step x (e - y) (by omega))
      have HW := wrap_div x hx0 hx1
      clear hy1
      by_cases hc : -9223372036854775808 ≤ x * 10 ∧ x * 10 ≤ 9223372036854775807
      · have H := Lib.hid (show G = fits10 (x * 10) (e - (y + 1)).toNat by rw [HX.out, HS.out, if_pos hc, show e - y - 1 = e - (y + 1) by omega])
        obtain ⟨m0, m1⟩ := hc
        have hd : (x * 10).tdiv 10 = x := Int.mul_tdiv_cancel _ (by decide)
        have hd2 : (x * 10) / 10 = x := Int.mul_ediv_cancel _ (by decide)
        have t1 : (x != x) = false := by simp
        clear HW HS
        go_wp2_with fail
        go_round
        case rel => exact ⟨x * 10, y + 1, rfl, rfl, m0, m1, by omega, .inl (by omega), H⟩
        case measure => simp [intOf]; omega
      · have H := Lib.hid (show G = none by rw [HX.out, HS.out, if_neg hc])
        have t0 : ((wrap64 (x * 10)).tdiv 10 != x) = true := by rw [HW]; exact decide_eq_true hc
        have t1 : (wrap64 ((wrap64 (x * 10)).tdiv 10) != x) = true := by
          have h2 : -9223372036854775808 ≤ wrap64 (x * 10) ∧ wrap64 (x * 10) ≤ 9223372036854775807 := by unfold wrap64; omega
          have h3 := Int.tdiv_mul_add_tmod (wrap64 (x * 10)) 10
          have h4 := Int.tmod_lt_of_pos (wrap64 (x * 10)) (show (0 : Int) < 10 by decide)
          have h5 := Int.lt_tmod_of_pos (wrap64 (x * 10)) (show (0 : Int) < 10 by decide)
          have h6 : wrap64 ((wrap64 (x * 10)).tdiv 10) = (wrap64 (x * 10)).tdiv 10 := by
            generalize (wrap64 (x * 10)).tdiv 10 = q at *
            unfold wrap64; omega
          rw [h6]; exact t0
        clear HW HS hc t0
        go_wp2_with fail
        go_ret
        exact ⟨by rw [H.out]; simp, rfl⟩
    · go_wp2_with fail
      go_ret
      refine ⟨?_, rfl⟩
      have h1 : G = some x := by rw [HX.out, show (e - y).toNat = 0 by omega]; rfl
      rw [h1]; simp
end Go.Proofs.YtiemlefmhleaeaaDoor
