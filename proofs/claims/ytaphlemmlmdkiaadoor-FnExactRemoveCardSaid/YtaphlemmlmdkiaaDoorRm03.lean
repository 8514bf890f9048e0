/- Lemmas for the statement of the last text of this claim: texts joined. -/
import Derived.Test.YtaphlemmlmdkiaaDoorRm01
import Derived.Test.YtaphlemmlmdkiaaDoorRm02
import Derived.Lib.AtoiAll
import Derived.Lib.AtoiAllCases
import Derived.Lib.ItoaMem
import Derived.Lib.ItoaLen
import Derived.WalkSpells
import Derived.Lib.Hide
import Derived.IntWalk
import Derived.Deep.QuietTactic
import Derived.BigQuiet
import Derived.OwnWalk
import Derived.Deep.RegionWith
import Derived.Deep.RegionHeld3
import Derived.Deep.RegionLaw
import Derived.BigRegion
namespace Go.Proofs.YtaphlemmlmdkiaaDoor
set_option linter.unusedSimpArgs false
set_option linter.unusedVariables false
set_option maxRecDepth 100000
theorem dd_last {u : Nat} (h : ¬ u < 10) : Lib.decDigits u = Lib.decDigits (u / 10) ++ [UInt8.ofNat (48 + u % 10)] := by rw [Lib.decDigits, dif_neg h]
theorem dd_digit (u : Nat) : ∀ c ∈ Lib.decDigits u, 48 ≤ c.toNat ∧ c.toNat ≤ 57 := by
  induction u using Nat.strongRecOn with
  | _ u ih =>
    intro c hc
    by_cases h : u < 10
    · rw [Lib.decDigits_one h, List.mem_singleton] at hc
      subst hc
      rw [UInt8.toNat_ofNat']; omega
    · rw [dd_last h, List.mem_append, List.mem_singleton] at hc
      rcases hc with hc | hc
      · exact ih (u / 10) (by omega) c hc
      · subst hc
        rw [UInt8.toNat_ofNat']; omega
theorem dd_ne (u : Nat) : Lib.decDigits u ≠ [] := by
  have := Lib.decDigits_length u
  have h2 := Lib.nDigits_pos u
  intro e; rw [e] at this; simp at this; omega
theorem parse_snoc (c : UInt8) : ∀ (l : List UInt8) (acc : Nat), Lib.parseUint10 acc (l ++ [c]) = (match Lib.parseUint10 acc l with | .ok a => Lib.parseUint10 a [c] | e => e)
  | [], acc => by simp [Lib.parseUint10]
  | b :: l, acc => by
    rw [List.cons_append, Lib.parseUint10, Lib.parseUint10]
    split
    · split
      · rfl
      · split
        · rfl
        · exact parse_snoc c l _
    · rfl
theorem parse_dd (u : Nat) (h : u < 18446744073709551616) : Lib.parseUint10 0 (Lib.decDigits u) = .ok u := by
  induction u using Nat.strongRecOn with
  | _ u ih =>
    by_cases h10 : u < 10
    · rw [Lib.decDigits_one h10]
      unfold Lib.parseUint10
      have e : (UInt8.ofNat (48 + u)).toNat = 48 + u := by rw [UInt8.toNat_ofNat']; omega
      rw [e, if_pos (by omega), if_neg (by omega), if_neg (by omega)]
      unfold Lib.parseUint10
      congr 1; omega
    · rw [dd_last h10, parse_snoc, ih (u / 10) (by omega) (by omega)]
      show Lib.parseUint10 (u / 10) [UInt8.ofNat (48 + u % 10)] = .ok u
      unfold Lib.parseUint10
      have e : (UInt8.ofNat (48 + u % 10)).toNat = 48 + u % 10 := by rw [UInt8.toNat_ofNat']; omega
      rw [e, if_pos (by omega), if_neg (by omega), if_neg (by omega)]
      unfold Lib.parseUint10
      congr 1; omega
theorem mag_dd (u : Nat) (h : u < 18446744073709551616) : Lib.parseMag (Lib.decDigits u) = .ok u := by
  unfold Lib.parseMag
  rw [if_neg (dd_ne u), parse_dd u h]
theorem atoi_itoa (n : Int) (h0 : -9223372036854775808 ≤ n) (h1 : n ≤ 9223372036854775807) : Lib.atoiAll (Lib.itoa n) = .ok n := by
  rcases Int.lt_or_le n 0 with h | h
  · obtain ⟨u, rfl⟩ : ∃ u : Nat, n = -(u : Int) := ⟨n.natAbs, by omega⟩
    rw [Lib.itoa_neg u (by omega), Lib.atoiAll_minus, mag_dd u (by omega)]
    unfold Lib.signed
    simp only []
    rw [if_neg (by omega)]
  · obtain ⟨u, rfl⟩ := Int.eq_ofNat_of_zero_le h
    rw [Lib.itoa_nonneg]
    cases hd : Lib.decDigits u with
    | nil => exact absurd hd (dd_ne u)
    | cons c r =>
      have hc := dd_digit u c (by rw [hd]; exact List.mem_cons_self ..)
      rw [Lib.atoiAll_plain c r (by omega) (by omega), ← hd, mag_dd u (by omega)]
      unfold Lib.signless
      simp only []
      rw [if_neg (by omega)]
def rdec (s : List UInt8) : Option Int := match Lib.atoiAll s with | .ok v => if Lib.itoa v = s then some v else none | _ => none
theorem rdec_some {s : List UInt8} {n : Int} (hn : In64 n) (h : Lib.itoa n = s) : rdec s = some n := by
  unfold rdec
  rw [← h, atoi_itoa n hn.1 hn.2]
  simp
theorem rdec_is {s : List UInt8} {n : Int} (h : rdec s = some n) : In64 n ∧ Lib.itoa n = s := by
  unfold rdec at h
  split at h
  · rename_i v hv
    split at h
    · rename_i e
      injection h with h
      subst h
      exact ⟨Lib.atoiAll_bounds hv, e⟩
    · cases h
  · cases h
theorem rdec_none {s : List UInt8} (h : ∀ n, In64 n → Lib.itoa n ≠ s) : rdec s = none := by
  cases e : rdec s with
  | none => rfl
  | some n =>
    obtain ⟨h1, h2⟩ := rdec_is e
    exact absurd h2 (h n h1)
theorem rdec_ok {s : List UInt8} {v : Int} (h : Lib.atoiAll s = .ok v) : rdec s = if Lib.itoa v = s then some v else none := by unfold rdec; rw [h]
def synI : Lib.NumEnd Int := Lib.atoiAll []
theorem rdec_syn {s : List UInt8} (h : Lib.atoiAll s = synI) : rdec s = none := by unfold rdec; rw [h]; rfl
theorem rdec_range {s : List UInt8} (h : Lib.atoiAll s = .range) : rdec s = none := by unfold rdec; rw [h]
def wdec (a : Int) (c : UInt8) : Int := (10 * a + c.toNat - 48 + 9223372036854775808) % 18446744073709551616 - 9223372036854775808
def wfold (l : List UInt8) : Int := l.foldl wdec 0
theorem wfold_snoc (l : List UInt8) (c : UInt8) : wfold (l ++ [c]) = wdec (wfold l) c := by unfold wfold; rw [List.foldl_append]; rfl
theorem wfold_dd (u : Nat) (h : u < 18446744073709551616) : wfold (Lib.decDigits u) = ((u : Int) + 9223372036854775808) % 18446744073709551616 - 9223372036854775808 := by
  induction u using Nat.strongRecOn with
  | _ u ih =>
    by_cases h10 : u < 10
    · rw [Lib.decDigits_one h10]
      have e : (UInt8.ofNat (48 + u)).toNat = 48 + u := by rw [UInt8.toNat_ofNat']; omega
      show wdec 0 (UInt8.ofNat (48 + u)) = _
      unfold wdec
      rw [e]; omega
    · rw [dd_last h10, wfold_snoc, ih (u / 10) (by omega) (by omega)]
      have e : (UInt8.ofNat (48 + u % 10)).toNat = 48 + u % 10 := by rw [UInt8.toNat_ofNat']; omega
      unfold wdec
      rw [e]; omega
theorem wfold_range (l : List UInt8) : In64 (wfold l) := by
  rcases List.eq_nil_or_concat l with rfl | ⟨l, c, rfl⟩
  · show In64 0; unfold In64; omega
  · rw [List.concat_eq_append, wfold_snoc]
    unfold wdec In64; omega
def negT (s : List UInt8) : Bool := s.head? == some 45
def tailT (s : List UInt8) : List UInt8 := if negT s then s.drop 1 else s
def numT (s : List UInt8) : Int := if negT s then (-(wfold (tailT s)) + 9223372036854775808) % 18446744073709551616 - 9223372036854775808 else wfold (tailT s)
theorem nDigits_le : ∀ (k u : Nat), u < 10 ^ (k + 1) → Lib.nDigits u ≤ k + 1
  | 0, u, h => by rw [Lib.nDigits_small (by simpa using h)]; omega
  | k + 1, u, h => by
    by_cases h10 : u < 10
    · rw [Lib.nDigits_small h10]; omega
    · rw [Nat.pow_succ] at h
      rw [Lib.nDigits_big h10]
      have := nDigits_le k (u / 10) (by omega)
      omega
theorem itoa_parts {n : Int} (h : In64 n) : (∀ c ∈ tailT (Lib.itoa n), 48 ≤ c.toNat ∧ c.toNat ≤ 57) ∧ (tailT (Lib.itoa n)).length ≤ 19 ∧ tailT (Lib.itoa n) ≠ [] ∧ numT (Lib.itoa n) = n := by
  unfold In64 at h
  have hd : ∀ u : Nat, u ≤ 9223372036854775808 → (Lib.decDigits u).length ≤ 19 := by
    intro u hu
    rw [Lib.decDigits_length]
    exact nDigits_le 18 u (by omega)
  rcases Int.lt_or_le n 0 with hn | hn
  · obtain ⟨u, rfl⟩ : ∃ u : Nat, n = -(u : Int) := ⟨n.natAbs, by omega⟩
    have e := Lib.itoa_neg u (by omega)
    have ht : tailT (Lib.itoa (-(u : Int))) = Lib.decDigits u := by rw [e]; rfl
    have hg : negT (Lib.itoa (-(u : Int))) = true := by rw [e]; rfl
    rw [ht]
    refine ⟨dd_digit u, hd u (by omega), dd_ne u, ?_⟩
    unfold numT
    rw [if_pos hg, ht, wfold_dd u (by omega)]; omega
  · obtain ⟨u, rfl⟩ := Int.eq_ofNat_of_zero_le hn
    have e := Lib.itoa_nonneg u
    have hg : negT (Lib.itoa (u : Int)) = false := by
      rw [e]
      cases hd : Lib.decDigits u with
      | nil => exact absurd hd (dd_ne u)
      | cons c r =>
        have hc := dd_digit u c (by rw [hd]; exact List.mem_cons_self ..)
        unfold negT
        simp
        intro e; subst e; simp at hc
    have ht : tailT (Lib.itoa (u : Int)) = Lib.decDigits u := by unfold tailT; rw [hg]; exact e
    rw [ht]
    refine ⟨dd_digit u, hd u (by omega), dd_ne u, ?_⟩
    unfold numT
    rw [if_neg (by simp [hg]), ht, wfold_dd u (by omega)]; omega
theorem numT_range (s : List UInt8) : In64 (numT s) := by
  unfold numT
  split
  · unfold In64; omega
  · exact wfold_range _
theorem rdec_numT (s : List UInt8) : rdec s = if Lib.itoa (numT s) = s then some (numT s) else none := by
  by_cases h : Lib.itoa (numT s) = s
  · rw [if_pos h]; exact rdec_some (numT_range s) h
  · rw [if_neg h]
    refine rdec_none (fun n hn e => h ?_)
    rw [← e, (itoa_parts hn).2.2.2]
theorem rdec_bad {s : List UInt8} (h : ¬ ((∀ c ∈ tailT s, 48 ≤ c.toNat ∧ c.toNat ≤ 57) ∧ (tailT s).length ≤ 19 ∧ tailT s ≠ [])) : rdec s = none := by
  refine rdec_none (fun n hn e => h ?_)
  obtain ⟨h1, h2, h3, -⟩ := itoa_parts hn
  rw [e] at h1 h2 h3
  exact ⟨h1, h2, h3⟩
end Go.Proofs.YtaphlemmlmdkiaaDoor
namespace Go.Proofs.YtaphlemmlmdkiaaDoor
set_option linter.unusedSimpArgs false
set_option linter.unusedVariables false
set_option maxRecDepth 100000
open Go.RowKit
theorem fits10_zero : ∀ k, fits10 0 k = some 0
  | 0 => rfl
  | k + 1 => by rw [fits10, if_pos (by omega)]; simpa using fits10_zero k
theorem fits10_step (n e : Int) (he : 0 < e) : fits10 n e.toNat = if -9223372036854775808 ≤ n * 10 ∧ n * 10 ≤ 9223372036854775807 then fits10 (n * 10) (e - 1).toNat else none := by
  obtain ⟨k, hk⟩ : ∃ k : Nat, e.toNat = k + 1 := ⟨e.toNat - 1, by omega⟩
  rw [hk, show (e - 1).toNat = k by omega]; rfl
def fitV (o : Option Int) : Int := o.getD 0
def FitRet (o : Option Int) (w : World) (e : Ending) (w' : World) : Prop := e = .returned (.tuple #[.int .i64 (fitV o), .bool o.isSome]) ∧ w' = w
set_option maxHeartbeats 400000 in
theorem fits_any (n e : Int) (hn : In64 n) (he : In64 e) (w : World) : Calls Tryd.prog 103 #[.int .i64 n, .int .i64 e] w (FitRet (fits10 n e.toNat) w) := by
  obtain ⟨hn0, hn1⟩ := hn
  obtain ⟨he0, he1⟩ := he
  generalize hG : fits10 n e.toNat = G
  have HG := Lib.hid hG; clear hG
  go_enter Tryd.func103, Tryd.ntmps103
  go_wp2_with fail
  go_loop [0, 1] (fun a b => ∃ x y : Int, a = .int .i64 x ∧ b = .int .i64 y ∧ -9223372036854775808 ≤ x ∧ x ≤ 9223372036854775807 ∧ -9223372036854775808 ≤ y ∧ y ≤ 9223372036854775807 ∧ Hid (G = fits10 x y.toNat)) (fun _ b => (intOf b).toNat)
  case atStart => exact ⟨n, e, rfl, rfl, hn0, hn1, he0, he1, Lib.hid HG.out.symm⟩
  case round =>
    obtain ⟨x, y, rfl, rfl, hx0, hx1, hy0, hy1, HX⟩ := hrel
    by_cases hy : 0 < y
    · have HS := Lib.hid (fits10_step x y hy)
      by_cases hx : x = 0
      · have H := Lib.hid (show G = some 0 by rw [HX.out, hx, fits10_zero])
        have t1 : (x != 0) = false := by simpa using hx
        clear HS
        go_wp2_with fail
        go_ret2
        exact ⟨by rw [H.out]; simp [fitV], rfl⟩
      · have t1 : (x != 0) = true := by simpa using hx
        have t2 : (x == 0) = false := by simpa using hx
        clear hx
        by_cases h1 : 922337203685477580 < x
        · have H := Lib.hid (show G = none by rw [HX.out, HS.out, if_neg (by omega)])
          clear HS
          go_wp2_with fail
          go_ret2
          exact ⟨by rw [H.out]; rfl, rfl⟩
        · by_cases h2 : x < -922337203685477580
          · have H := Lib.hid (show G = none by rw [HX.out, HS.out, if_neg (by omega)])
            clear HS
            go_wp2_with fail
            go_ret2
            exact ⟨by rw [H.out]; rfl, rfl⟩
          · have H := Lib.hid (show G = fits10 (x * 10) (y - 1).toNat by rw [HX.out, HS.out, if_pos (by omega)])
            have m0 : -9223372036854775808 ≤ x * 10 := by omega
            have m1 : x * 10 ≤ 9223372036854775807 := by omega
            clear HS
            go_wp2_with fail
            go_round
            case rel => exact ⟨x * 10, y - 1, rfl, rfl, m0, m1, by omega, by omega, H⟩
            case measure => simp [intOf]; omega
    · have H := Lib.hid (show G = some x by rw [HX.out, show y.toNat = 0 by omega]; rfl)
      go_wp2_with fail
      go_ret2
      exact ⟨by rw [H.out]; rfl, rfl⟩
set_option maxHeartbeats 400000 in
theorem isKey_any (k n e : Int) (s : ByteArray) (sl : Value) (w : World) : Calls Tryd.prog 92 #[.agg #[.int .i64 k, .int .i64 n, .int .i64 e, .string s, sl]] w
    fun x w' => x = .returned (.bool (decide (k = 5 ∨ k = 3))) ∧ Below w.heap.size w w' := by
  have hpost : ∃ b : Bool, b = decide (k = 5 ∨ k = 3) := ⟨_, rfl⟩
  obtain ⟨b, hb⟩ := hpost
  rw [← hb]
  have HB := Lib.hid hb; clear hb
  by_cases h5 : k = 5
  · have H := Lib.hid (show b = true by rw [HB.out]; simp [h5])
    have t1 : (k == 5) = true := by simpa using h5
    clear h5
    go_enter Tryd.func92, Tryd.ntmps92
    go_wp2_with fail
    go_ret
    exact ⟨by rw [H.out]; rfl, (by (repeat' (first | with_reducible exact Below.refl _ _ | with_reducible refine below_alloc ?_ _ ?_ | with_reducible refine Below.setCell ?_ ?_ _ | with_reducible refine Below.drew ?_ | with_reducible refine Go.below_drewN ?_ _ | with_reducible refine below_step ?_ (by assumption) ?_ | with_reducible refine below_mark ?_ (by assumption) ?_)); all_goals (first | omega | (simp; done) | (simp; omega)))⟩
  · have t1 : (k == 5) = false := by simpa using h5
    by_cases h6 : k = 3
    · have H := Lib.hid (show b = true by rw [HB.out]; simp [h6])
      have t2 : (k == 3) = true := by simpa using h6
      clear h5 h6
      go_enter Tryd.func92, Tryd.ntmps92
      go_wp2_with fail
      go_ret
      exact ⟨by rw [H.out]; rfl, (by (repeat' (first | with_reducible exact Below.refl _ _ | with_reducible refine below_alloc ?_ _ ?_ | with_reducible refine Below.setCell ?_ ?_ _ | with_reducible refine Below.drew ?_ | with_reducible refine Go.below_drewN ?_ _ | with_reducible refine below_step ?_ (by assumption) ?_ | with_reducible refine below_mark ?_ (by assumption) ?_)); all_goals (first | omega | (simp; done) | (simp; omega)))⟩
    · have H := Lib.hid (show b = false by rw [HB.out]; simp [h5, h6])
      have t2 : (k == 3) = false := by simpa using h6
      clear h5 h6
      go_enter Tryd.func92, Tryd.ntmps92
      go_wp2_with fail
      go_ret
      exact ⟨by rw [H.out]; rfl, (by (repeat' (first | with_reducible exact Below.refl _ _ | with_reducible refine below_alloc ?_ _ ?_ | with_reducible refine Below.setCell ?_ ?_ _ | with_reducible refine Below.drew ?_ | with_reducible refine Go.below_drewN ?_ _ | with_reducible refine below_step ?_ (by assumption) ?_ | with_reducible refine below_mark ?_ (by assumption) ?_)); all_goals (first | omega | (simp; done) | (simp; omega)))⟩
theorem decOk_eq (n e : Int) : decOk n e = (decide (n.tmod 10 ≠ 0) && decide (-999999999999999999 ≤ n ∧ n ≤ 999999999999999999) && decide (-20 ≤ e ∧ e ≤ 20) && decide (e ≠ 0) && !(decide (0 < e) && (fits10 n e.toNat).isSome)) := by
  unfold decOk
  congr 1
  rw [Bool.eq_iff_iff]
  simp only [Bool.and_eq_true, decide_eq_true_eq]
  constructor
  · rintro ⟨a, b, c, d, f, g⟩; exact ⟨⟨⟨a, b, c⟩, d, f⟩, g⟩
  · rintro ⟨⟨⟨a, b, c⟩, d, f⟩, g⟩; exact ⟨a, b, c, d, f, g⟩
set_option maxHeartbeats 1000000 in
theorem isDec_any (k n e : Int) (s : ByteArray) (sl : Value) (hn : In64 n) (he : In64 e) (w : World) : Calls Tryd.prog 90 #[.agg #[.int .i64 k, .int .i64 n, .int .i64 e, .string s, sl]] w
    fun x w' => x = .returned (.bool (decOk n e)) ∧ Below w.heap.size w w' := by
  have hpost : ∃ b : Bool, b = decOk n e := ⟨_, rfl⟩
  obtain ⟨b, hb⟩ := hpost
  rw [← hb]
  rw [decOk_eq] at hb
  have HB := Lib.hid hb; clear hb
  have FT := Lib.hid (fun W => fits_any n e hn he W)
  obtain ⟨hn0, hn1⟩ := hn
  obtain ⟨he0, he1⟩ := he
  by_cases c1 : -20 ≤ e ∧ e ≤ 20
  · have W1 := Lib.hid (fun W => within_yes e (-20) 20 W c1.1 c1.2)
    obtain ⟨c10, c11⟩ := c1
    by_cases c2 : e = 0
    · have H := Lib.hid (show b = false by rw [HB.out]; simp [c2])
      have t1 : (e == 0) = true := by simpa using c2
      clear c2 FT
      go_enter Tryd.func90, Tryd.ntmps90
      go_wp2_with fail
      refine (W1.out _).mono ?_
      rintro x w1 ⟨rfl, rfl⟩
      go_wp2_with fail
      go_ret
      exact ⟨by rw [H.out]; rfl, (by (repeat' (first | with_reducible exact Below.refl _ _ | with_reducible refine below_alloc ?_ _ ?_ | with_reducible refine Below.setCell ?_ ?_ _ | with_reducible refine Below.drew ?_ | with_reducible refine Go.below_drewN ?_ _ | with_reducible refine below_step ?_ (by assumption) ?_ | with_reducible refine below_mark ?_ (by assumption) ?_)); all_goals (first | omega | (simp; done) | (simp; omega)))⟩
    · have t1 : (e == 0) = false := by simpa using c2
      by_cases c3 : -999999999999999999 ≤ n ∧ n ≤ 999999999999999999
      · have W2 := Lib.hid (fun W => within_yes n (-999999999999999999) 999999999999999999 W c3.1 c3.2)
        by_cases c4 : n.tmod 10 = 0
        · have H := Lib.hid (show b = false by rw [HB.out]; simp [c4])
          have t2 : (n.tmod 10 == 0) = true := by simpa using c4
          clear c2 c3 c4 FT
          go_enter Tryd.func90, Tryd.ntmps90
          go_wp2_with fail
          refine (W1.out _).mono ?_
          rintro x w1 ⟨rfl, rfl⟩
          go_wp2_with fail
          refine (W2.out _).mono ?_
          rintro x w2 ⟨rfl, rfl⟩
          go_wp2_with fail
          go_ret
          exact ⟨by rw [H.out]; rfl, (by (repeat' (first | with_reducible exact Below.refl _ _ | with_reducible refine below_alloc ?_ _ ?_ | with_reducible refine Below.setCell ?_ ?_ _ | with_reducible refine Below.drew ?_ | with_reducible refine Go.below_drewN ?_ _ | with_reducible refine below_step ?_ (by assumption) ?_ | with_reducible refine below_mark ?_ (by assumption) ?_)); all_goals (first | omega | (simp; done) | (simp; omega)))⟩
        · have t2 : (n.tmod 10 == 0) = false := by simpa using c4
          have HH := Lib.hid (show b = !(decide (0 < e) && (fits10 n e.toNat).isSome) by rw [HB.out]; simp [c2, c3, c4, c10, c11])
          by_cases c5 : 0 < e
          · have H := Lib.hid (show b = !(fits10 n e.toNat).isSome by rw [HH.out]; simp [c5])
            clear c2 c3 c4 HH HB
            go_enter Tryd.func90, Tryd.ntmps90
            go_wp2_with fail
            refine (W1.out _).mono ?_
            rintro x w1 ⟨rfl, rfl⟩
            go_wp2_with fail
            refine (W2.out _).mono ?_
            rintro x w2 ⟨rfl, rfl⟩
            go_wp2_with fail
            refine (FT.out _).mono ?_
            rintro x w3 ⟨rfl, rfl⟩
            go_wp2_with fail
            go_ret
            exact ⟨by rw [H.out]; cases fits10 n e.toNat <;> rfl, (by (repeat' (first | with_reducible exact Below.refl _ _ | with_reducible refine below_alloc ?_ _ ?_ | with_reducible refine Below.setCell ?_ ?_ _ | with_reducible refine Below.drew ?_ | with_reducible refine Go.below_drewN ?_ _ | with_reducible refine below_step ?_ (by assumption) ?_ | with_reducible refine below_mark ?_ (by assumption) ?_)); all_goals (first | omega | (simp; done) | (simp; omega)))⟩
          · have H := Lib.hid (show b = true by rw [HH.out]; simp [c5])
            clear c2 c3 c4 HH HB FT
            go_enter Tryd.func90, Tryd.ntmps90
            go_wp2_with fail
            refine (W1.out _).mono ?_
            rintro x w1 ⟨rfl, rfl⟩
            go_wp2_with fail
            refine (W2.out _).mono ?_
            rintro x w2 ⟨rfl, rfl⟩
            go_wp2_with fail
            go_ret
            exact ⟨by rw [H.out]; rfl, (by (repeat' (first | with_reducible exact Below.refl _ _ | with_reducible refine below_alloc ?_ _ ?_ | with_reducible refine Below.setCell ?_ ?_ _ | with_reducible refine Below.drew ?_ | with_reducible refine Go.below_drewN ?_ _ | with_reducible refine below_step ?_ (by assumption) ?_ | with_reducible refine below_mark ?_ (by assumption) ?_)); all_goals (first | omega | (simp; done) | (simp; omega)))⟩
      · have W2 := Lib.hid (fun W => within_no n (-999999999999999999) 999999999999999999 W (by omega))
        have H := Lib.hid (show b = false by rw [HB.out, decide_eq_false c3]; simp)
        clear c2 c3 FT
        go_enter Tryd.func90, Tryd.ntmps90
        go_wp2_with fail
        refine (W1.out _).mono ?_
        rintro x w1 ⟨rfl, rfl⟩
        go_wp2_with fail
        refine (W2.out _).mono ?_
        rintro x w2 ⟨rfl, rfl⟩
        go_wp2_with fail
        go_ret
        exact ⟨by rw [H.out]; rfl, (by (repeat' (first | with_reducible exact Below.refl _ _ | with_reducible refine below_alloc ?_ _ ?_ | with_reducible refine Below.setCell ?_ ?_ _ | with_reducible refine Below.drew ?_ | with_reducible refine Go.below_drewN ?_ _ | with_reducible refine below_step ?_ (by assumption) ?_ | with_reducible refine below_mark ?_ (by assumption) ?_)); all_goals (first | omega | (simp; done) | (simp; omega)))⟩
  · have W1 := Lib.hid (fun W => within_no e (-20) 20 W (by omega))
    have H := Lib.hid (show b = false by rw [HB.out, decide_eq_false c1]; simp)
    clear c1 FT
    go_enter Tryd.func90, Tryd.ntmps90
    go_wp2_with fail
    refine (W1.out _).mono ?_
    rintro x w1 ⟨rfl, rfl⟩
    go_wp2_with fail
    go_ret
    exact ⟨by rw [H.out]; rfl, (by (repeat' (first | with_reducible exact Below.refl _ _ | with_reducible refine below_alloc ?_ _ ?_ | with_reducible refine Below.setCell ?_ ?_ _ | with_reducible refine Below.drew ?_ | with_reducible refine Go.below_drewN ?_ _ | with_reducible refine below_step ?_ (by assumption) ?_ | with_reducible refine below_mark ?_ (by assumption) ?_)); all_goals (first | omega | (simp; done) | (simp; omega)))⟩
theorem wrap_div (x : Int) (h0 : -9223372036854775808 ≤ x) (h1 : x ≤ 9223372036854775807) : ((wrap64 (x * 10)).tdiv 10 != x) = decide (¬ (-9223372036854775808 ≤ x * 10 ∧ x * 10 ≤ 9223372036854775807)) := by
  by_cases h : -9223372036854775808 ≤ x * 10 ∧ x * 10 ≤ 9223372036854775807
  · have hw : wrap64 (x * 10) = x * 10 := by unfold wrap64; omega
    rw [hw, Int.mul_tdiv_cancel _ (by decide)]
    simp [h]
  · have hne : (wrap64 (x * 10)).tdiv 10 ≠ x := by
      intro e
      have h2 : x * 10 - wrap64 (x * 10) ≤ 9 ∧ -9 ≤ x * 10 - wrap64 (x * 10) → False := by unfold wrap64; omega
      apply h2
      have h3 := Int.tdiv_mul_add_tmod (wrap64 (x * 10)) 10
      have h4 := Int.tmod_lt_of_pos (wrap64 (x * 10)) (show (0 : Int) < 10 by decide)
      have h5 := Int.lt_tmod_of_pos (wrap64 (x * 10)) (show (0 : Int) < 10 by decide)
      omega
    simp only [bne_iff_ne, ne_eq, hne, not_false_eq_true, h, decide_true]
set_option maxHeartbeats 400000 in
theorem l02Whole_any (n e : Int) (hn : In64 n) (he : In64 e) (w : World) : Calls Tryd.prog 85 #[.int .i64 n, .int .i64 e] w fun x w' => x = .returned (.bool (decide (0 < e) && (fits10 n e.toNat).isSome)) ∧ w' = w := by
  obtain ⟨hn0, hn1⟩ := hn
  obtain ⟨he0, he1⟩ := he
  generalize hG : fits10 n e.toNat = G
  have HG := Lib.hid hG; clear hG
  go_enter Tryd.func85, Tryd.ntmps85
  go_wp2_with fail
  go_loop [0, 5] (fun a b => ∃ (x : Int) (y : Int), a = .int .i64 x ∧ b = .int .i64 y ∧ -9223372036854775808 ≤ x ∧ x ≤ 9223372036854775807 ∧ 0 ≤ y ∧ (y ≤ e ∨ y = 0) ∧ Hid (G = fits10 x (e - y).toNat)) (fun _ b => (e - intOf b).toNat)
  case atStart => exact ⟨n, 0, rfl, rfl, hn0, hn1, by omega, .inr rfl, Lib.hid (by rw [← HG.out]; simp)⟩
  case round =>
    obtain ⟨x, y, rfl, rfl, hx0, hx1, hy0, hy1, HX⟩ := hrel
    by_cases hy : y < e
    · have HS := Lib.hid (fits10_step x (e - y) (by omega))
      have HW := wrap_div x hx0 hx1
      clear hy1
      by_cases hc : -9223372036854775808 ≤ x * 10 ∧ x * 10 ≤ 9223372036854775807
      · have H := Lib.hid (show G = fits10 (x * 10) (e - (y + 1)).toNat by rw [HX.out, HS.out, if_pos hc, show e - y - 1 = e - (y + 1) by omega])
        obtain ⟨m0, m1⟩ := hc
        have hd : (x * 10).tdiv 10 = x := Int.mul_tdiv_cancel _ (by decide)
        have hd2 : (x * 10) / 10 = x := Int.mul_ediv_cancel _ (by decide)
        have t1 : (x != x) = false := by simp
        clear HW HS
        go_wp2_with fail
        go_round
        case rel => exact ⟨x * 10, y + 1, rfl, rfl, m0, m1, by omega, .inl (by omega), H⟩
        case measure => simp [intOf]; omega
      · have H := Lib.hid (show G = none by rw [HX.out, HS.out, if_neg hc])
        have t0 : ((wrap64 (x * 10)).tdiv 10 != x) = true := by rw [HW]; exact decide_eq_true hc
        have t1 : (wrap64 ((wrap64 (x * 10)).tdiv 10) != x) = true := by
          have h2 : -9223372036854775808 ≤ wrap64 (x * 10) ∧ wrap64 (x * 10) ≤ 9223372036854775807 := by unfold wrap64; omega
          have h3 := Int.tdiv_mul_add_tmod (wrap64 (x * 10)) 10
          have h4 := Int.tmod_lt_of_pos (wrap64 (x * 10)) (show (0 : Int) < 10 by decide)
          have h5 := Int.lt_tmod_of_pos (wrap64 (x * 10)) (show (0 : Int) < 10 by decide)
          have h6 : wrap64 ((wrap64 (x * 10)).tdiv 10) = (wrap64 (x * 10)).tdiv 10 := by
            generalize (wrap64 (x * 10)).tdiv 10 = q at *
            unfold wrap64; omega
          rw [h6]; exact t0
        clear HW HS hc t0
        go_wp2_with fail
        go_ret
        exact ⟨by rw [H.out]; simp, rfl⟩
    · go_wp2_with fail
      go_ret
      refine ⟨?_, rfl⟩
      have h1 : G = some x := by rw [HX.out, show (e - y).toNat = 0 by omega]; rfl
      rw [h1]; simp
end Go.Proofs.YtaphlemmlmdkiaaDoor
namespace Go.Proofs.YtaphlemmlmdkiaaDoor
set_option linter.unusedSimpArgs false
set_option linter.unusedVariables false
set_option maxRecDepth 100000
open Go.RowKit
theorem evV_take : ∀ (ts : List V) (i : Nat), i % 2 = 0 → (h : i < ts.length) → evV (ts.take (i + 2)) = evV (ts.take i) ++ [ts[i]]
  | [], i, _, h => by simp at h
  | [t], i, _, h => by
    have : i = 0 := by simp at h; omega
    subst this; simp [evV]
  | t :: u :: ts, 0, _, _ => by simp [evV]
  | t :: u :: ts, 1, h, _ => by omega
  | t :: u :: ts, i + 2, h, hl => by
    have := evV_take ts i (by omega) (by simpa using hl)
    simp only [List.take_succ_cons, evV, this, List.cons_append, List.getElem_cons_succ]
theorem evV_split : ∀ (ts : List V) (i : Nat), i % 2 = 0 → evV ts = evV (ts.take i) ++ evV (ts.drop i)
  | [], i, _ => by simp [evV]
  | [t], 0, _ => by simp [evV]
  | [t], 1, h => by omega
  | [t], i + 2, _ => by simp [evV]
  | t :: u :: ts, 0, _ => by simp [evV]
  | t :: u :: ts, 1, h => by omega
  | t :: u :: ts, i + 2, h => by
    have := evV_split ts i (by omega)
    simp only [List.take_succ_cons, List.drop_succ_cons, evV, this, List.cons_append]
theorem mem_evV_take : ∀ (ts : List V) (i : Nat), i % 2 = 0 → ∀ x, x ∈ evV (ts.take i) ↔ ∃ q, ∃ h : q < ts.length, q < i ∧ q % 2 = 0 ∧ ts[q] = x := by
  intro ts i hi x
  constructor
  · intro h
    induction i using Nat.strongRecOn with
    | ind i ih =>
      by_cases h0 : i = 0
      · subst h0; simp [evV] at h
      · obtain ⟨j, rfl⟩ : ∃ j, i = j + 2 := ⟨i - 2, by omega⟩
        by_cases hl : j < ts.length
        · rw [evV_take ts j (by omega) hl, List.mem_append] at h
          rcases h with h | h
          · obtain ⟨q, hq, h1, h2⟩ := ih j (by omega) (by omega) h
            exact ⟨q, hq, by omega, h2⟩
          · exact ⟨j, hl, by omega, by omega, (List.mem_singleton.1 h).symm⟩
        · have e : ts.take (j + 2) = ts.take j := by rw [List.take_of_length_le (by omega), List.take_of_length_le (by omega)]
          rw [e] at h
          obtain ⟨q, hq, h1, h2⟩ := ih j (by omega) (by omega) h
          exact ⟨q, hq, by omega, h2⟩
  · rintro ⟨q, hq, h1, h2, rfl⟩
    have hq2 : ts[q] ∈ evV (ts.take (q + 2)) := by rw [evV_take ts q h2 hq]; simp
    have := evV_split (ts.take i) (q + 2) (by omega)
    rw [List.take_take, show min (q + 2) i = q + 2 by omega] at this
    rw [this]
    exact List.mem_append_left _ hq2
theorem keysB_append (eq : V → V → Bool) (L M : List V) (h : keysB eq (L ++ M) = true) : keysB eq L = true := by
  unfold keysB at *
  simp only [Bool.and_eq_true, decide_eq_true_eq, List.all_append, List.pairwise_append] at h ⊢
  exact ⟨h.1.1, h.2.1⟩
theorem keysB_snoc (eq : V → V → Bool) (L : List V) (x : V) : keysB eq (L ++ [x]) = (keysB eq L && isKeyB x && L.all fun y => !(eq y x)) := by
  unfold keysB
  rw [Bool.eq_iff_iff]
  simp only [Bool.and_eq_true, decide_eq_true_eq, List.all_append, List.pairwise_append, List.all_cons, List.all_nil, List.mem_singleton, forall_eq, List.pairwise_singleton, List.all_eq_true, Bool.not_eq_true', true_and, and_true]
  constructor
  · rintro ⟨⟨a, b⟩, c, d⟩; exact ⟨⟨⟨a, c⟩, b⟩, d⟩
  · rintro ⟨⟨⟨a, c⟩, b⟩, d⟩; exact ⟨⟨a, b⟩, c, d⟩
theorem keysB_stuck (eq : V → V → Bool) (ts : List V) (i : Nat) (hi : i % 2 = 0) (hl : i < ts.length) (h : isKeyB ts[i] = false ∨ ∃ q, ∃ hq : q < ts.length, q < i ∧ q % 2 = 0 ∧ eq ts[q] ts[i] = true) : keysB eq (evV ts) = false := by
  cases hk : keysB eq (evV ts)
  · rfl
  · exfalso
    have h1 := evV_split ts (i + 2) (by omega)
    rw [h1] at hk
    have h2 := keysB_append eq _ _ hk
    rw [evV_take ts i hi hl, keysB_snoc] at h2
    simp only [Bool.and_eq_true, List.all_eq_true, Bool.not_eq_true'] at h2
    rcases h with h | ⟨q, hq, hqi, hq2, he⟩
    · rw [h] at h2; simp at h2
    · have := h2.2 ts[q] ((mem_evV_take ts i hi _).2 ⟨q, hq, hqi, hq2, rfl⟩)
      rw [this] at he; cases he
def eqB (a b : V) : Bool := decide (a = b)
set_option maxHeartbeats 1000000 in
theorem areKids_plain (k n e : Int) (s : ByteArray) (a : Option Addr) (len cap : Nat) (w : World) (hlen : len ≤ 9223372036854775807) (h8 : k ≠ 8) :
    Calls Tryd.prog 69 #[.agg #[.int .i64 k, .int .i64 n, .int .i64 e, .string s, .slice a len cap]] w (BoolRet (if k = 7 then true else if k = 9 then decide (len = 1) else decide (len = 0)) w) := by
  obtain ⟨b, hb⟩ : ∃ b : Bool, b = (if k = 7 then true else if k = 9 then decide (len = 1) else decide (len = 0)) := ⟨_, rfl⟩
  rw [← hb]
  have HB := Lib.hid hb; clear hb
  have t8 : (k == 8) = false := by simpa using h8
  by_cases h7 : k = 7
  · have H := Lib.hid (show b = true by rw [HB.out, if_pos h7])
    have t7 : (k == 7) = true := by simpa using h7
    clear h8 h7 HB
    go_enter Tryd.func69, Tryd.ntmps69
    go_wp2_with fail
    go_ret
    exact ⟨by rw [H.out]; rfl, (by (repeat' (first | with_reducible exact Below.refl _ _ | with_reducible refine below_alloc ?_ _ ?_ | with_reducible refine Below.setCell ?_ ?_ _ | with_reducible refine Below.drew ?_ | with_reducible refine Go.below_drewN ?_ _ | with_reducible refine below_step ?_ (by assumption) ?_ | with_reducible refine below_mark ?_ (by assumption) ?_)); all_goals (first | omega | (simp; done) | (simp; omega)))⟩
  have t7 : (k == 7) = false := by simpa using h7
  by_cases h9 : k = 9
  · have H := Lib.hid (show b = ((len : Int) == 1) by rw [HB.out, if_neg h7, if_pos h9, Bool.eq_iff_iff]; simp; omega)
    have t9 : (k == 9) = true := by simpa using h9
    clear h8 h7 h9 HB
    go_enter Tryd.func69, Tryd.ntmps69
    go_wp2_with fail
    go_ret
    exact ⟨by rw [H.out]; first | rfl | (simp; done), (by (repeat' (first | with_reducible exact Below.refl _ _ | with_reducible refine below_alloc ?_ _ ?_ | with_reducible refine Below.setCell ?_ ?_ _ | with_reducible refine Below.drew ?_ | with_reducible refine Go.below_drewN ?_ _ | with_reducible refine below_step ?_ (by assumption) ?_ | with_reducible refine below_mark ?_ (by assumption) ?_)); all_goals (first | omega | (simp; done) | (simp; omega)))⟩
  have t9 : (k == 9) = false := by simpa using h9
  have H := Lib.hid (show b = ((len : Int) == 0) by rw [HB.out, if_neg h7, if_neg h9, Bool.eq_iff_iff]; simp)
  clear h8 h7 h9 HB
  go_enter Tryd.func69, Tryd.ntmps69
  go_wp2_with fail
  go_ret
  exact ⟨by rw [H.out]; first | rfl | (simp; done), (by (repeat' (first | with_reducible exact Below.refl _ _ | with_reducible refine below_alloc ?_ _ ?_ | with_reducible refine Below.setCell ?_ ?_ _ | with_reducible refine Below.drew ?_ | with_reducible refine Go.below_drewN ?_ _ | with_reducible refine below_step ?_ (by assumption) ?_ | with_reducible refine below_mark ?_ (by assumption) ?_)); all_goals (first | omega | (simp; done) | (simp; omega)))⟩
set_option maxHeartbeats 6000000 in
theorem areKids_map (w0 : World) (n e : Int) (s : ByteArray) (sl : Value) (ts : List V) (hr : RepS w0 sl ts) (w : World) (hw : Below w0.heap.size w0 w) (hlen : ts.length ≤ 1048576) :
    Calls Tryd.prog 69 #[.agg #[.int .i64 8, .int .i64 n, .int .i64 e, .string s, sl]] w (BoolRet (pairsI ts) w) := by
  obtain ⟨b, hb⟩ : ∃ b : Bool, b = pairsI ts := ⟨_, rfl⟩
  rw [← hb]
  have HB := Lib.hid (show b = (keysB eqB (evV ts) && decide (ts.length % 2 = 0)) from hb)
  clear hb
  obtain ⟨a, bb, off, cap, rfl, ha, hc, hm, sls, hel⟩ := hr.opened
  have HA := Lib.hid ha; have HE := Lib.hid hel; have HR := Lib.hid hr
  clear ha hel hr hc hm
  have HW := Lib.hid hw
  have B0 := Lib.hid (Box.new w 8 n e s (.slice a ts.length cap) 30)
  go_enter Tryd.func69, Tryd.ntmps69
  go_wp2_with fail
  generalize hW1 : w.alloc (.cells #[.int .i64 8, .int .i64 n, .int .i64 e, .string s, .slice a ts.length cap] 30) = W1 at *
  have HB1 := Lib.hid (show Below w.heap.size w W1 by rw [← hW1]; exact (Below.refl _ _).alloc (Nat.le_refl _) _)
  have hz1 : w.heap.size + 1 = W1.heap.size := by rw [← hW1]; simp
  have HZ1 := Lib.hid hz1
  clear hW1 hz1
  go_loopw [3, 4] (fun i q wr => ∃ j : Nat, j % 2 = 0 ∧ j ≤ ts.length + 1 ∧ i = .int .i64 j ∧ Hid (keysB eqB (evV (ts.take j)) = true) ∧ Below W1.heap.size W1 wr) (fun i _ _ => ts.length + 2 - (intOf i).toNat)
  case atStart => exact ⟨0, rfl, by omega, rfl, Lib.hid rfl, Below.refl _ _⟩
  case round =>
    obtain ⟨j, hj2, hj, rfl, HN, hbl⟩ := hrel
    obtain ⟨p0, p1, p2, p3, p4⟩ := (B0.out.stay hbl).cells
    by_cases hlt : j < ts.length
    · have hne : ts ≠ [] := by intro e; rw [e] at hlt; simp at hlt
      obtain ⟨rfl, hbw⟩ := HA.out hne
      have HWR := Lib.hid (show Below w0.heap.size w0 wr from HW.out.trans ((HB1.out.mono HW.out.size).trans (hbl.mono (by have := HW.out.size; have := HZ1.out; omega))))
      obtain ⟨c0, c1, c2, c3, c4⟩ := (HE.out j hlt).1.keep (HWR.out.block bb hbw)
      obtain ⟨ak, kcap, hks⟩ := (HE.out j hlt).2.2.slice
      rw [hks] at c4
      have HKJ := Lib.hid (isKey_any ts[j].k ts[j].n ts[j].e ts[j].s (.slice ak ts[j].kids.length kcap) wr)
      have HS := Lib.hid (show keysB eqB (evV (ts.take (j + 2))) = (keysB eqB (evV (ts.take j)) && isKeyB ts[j] && (evV (ts.take j)).all fun y => !(eqB y ts[j])) by rw [evV_take ts j hj2 hlt, keysB_snoc])
      have HST := Lib.hid (keysB_stuck eqB ts j hj2 hlt)
      have HSL := Lib.hid hks
      have hbr : bb < wr.heap.size := Nat.lt_of_lt_of_le hbw HWR.out.size
      clear hks
      cases hkey : isKeyB ts[j]
      · have HX := Lib.hid (show b = false by rw [HB.out, HST.out (.inl hkey)]; rfl)
        have hk' : decide (ts[j].k = 5 ∨ ts[j].k = 3) = false := hkey
        rw [hk'] at HKJ
        clear hkey hk' HS HST HN
        generalize ts[j].k = xk at *
        generalize ts[j].n = xn at *
        generalize ts[j].e = xe at *
        generalize ts[j].s = xs at *
        go_wp2_with fail
        refine HKJ.out.mono ?_
        rintro e1 w1 ⟨rfl, hb1⟩
        go_wp2_with fail
        go_ret
        exact ⟨by rw [HX.out]; rfl, HB1.out.trans ((hbl.trans (hb1.mono hbl.size)).mono (by have := HZ1.out; omega))⟩
      · have hk' : decide (ts[j].k = 5 ∨ ts[j].k = 3) = true := hkey
        rw [hk'] at HKJ
        rw [hkey] at HS
        clear hkey hk'
        have HRJ := Lib.hid (show ∀ W : World, Below wr.heap.size wr W → Rep W (ts[j].agg (.slice ak ts[j].kids.length kcap)) ts[j] from fun W hW => ⟨_, rfl, (HE.out j hlt).2.1, by rw [← HSL.out]; exact ((HE.out j hlt).2.2.keep (HWR.out.trans (hW.mono HWR.out.size)))⟩)
        generalize htj : ts[j] = tj at *
        have HTJ := Lib.hid htj; clear htj
        unfold V.agg at HRJ
        go_wp2_with fail
        refine HKJ.out.mono ?_
        rintro e1 w1 ⟨rfl, hb1⟩
        go_wp2_with fail
        have HW1B := Lib.hid (show Below W1.heap.size W1 w1 from hbl.trans (hb1.mono hbl.size))
        have HW10 := Lib.hid (show Below w0.heap.size w0 w1 from HWR.out.trans (hb1.mono HWR.out.size))
        have HRJ1 := Lib.hid (HRJ.out w1 hb1)
        have BX1 := Lib.hid ((B0.out.stay hbl).stay hb1)
        have HNJ := Lib.hid (show b = (keysB eqB (evV ts) && decide (ts.length % 2 = 0)) from HB.out)
        clear c0 c1 c2 c3 c4 p0 p1 p2 p3 p4 hb1 hbl HKJ HRJ HWR hbr
        go_loopw [4] (fun i w2 => ∃ q : Nat, q % 2 = 0 ∧ q ≤ j + 1 ∧ i = .int .i64 q ∧ Hid (∀ x, (hx : x < q) → (hl : x < ts.length) → x % 2 = 0 → ts[x] ≠ tj) ∧ Below w1.heap.size w1 w2) (fun i _ => j + 2 - (intOf i).toNat)
        case atStart => exact ⟨0, rfl, by omega, rfl, Lib.hid (by omega), Below.refl _ _⟩
        case round =>
          obtain ⟨q, hq2, hqj, rfl, HNE, hbl2⟩ := hrel
          obtain ⟨p0, p1, p2, p3, p4⟩ := (BX1.out.stay hbl2).cells
          by_cases hqlt : q < j
          · have hqts : q < ts.length := by omega
            have HWR2 := Lib.hid (show Below w0.heap.size w0 wr from HW10.out.trans (hbl2.mono HW10.out.size))
            obtain ⟨c0, c1, c2, c3, c4⟩ := (HE.out q hqts).1.keep (HWR2.out.block bb hbw)
            obtain ⟨d0, d1, d2, d3, d4⟩ := (HE.out j hlt).1.keep (HWR2.out.block bb hbw)
            obtain ⟨aq, qcap, hqs⟩ := (HE.out q hqts).2.2.slice
            rw [hqs] at c4
            rw [HSL.out] at d4
            have hRQ : Rep w1 (ts[q].agg (.slice aq ts[q].kids.length qcap)) ts[q] := ⟨_, rfl, (HE.out q hqts).2.1, by rw [← hqs]; exact (HE.out q hqts).2.2.keep HW10.out⟩
            have SM := Lib.hid (fun (W : World) (hW : Below wr.heap.size wr W) => same_any w1 _ _ tj ts[q] HRJ1.out hRQ W (hbl2.trans (hW.mono hbl2.size)))
            have HTQ := Lib.hid (show eqB ts[q] tj = decide (tj = ts[q]) by unfold eqB; rw [decide_eq_decide]; exact eq_comm)
            rw [HTJ.out] at d0 d1 d2 d3
            try simp only [HTJ.out] at d4
            unfold V.agg at SM
            clear hqs hRQ
            have hbr2 : bb < wr.heap.size := Nat.lt_of_lt_of_le hbw HWR2.out.size
            by_cases heq : tj = ts[q]
            · rw [decide_eq_true heq] at SM HTQ
              have HX := Lib.hid (show b = false by rw [HNJ.out, HST.out (.inr ⟨q, hqts, hqlt, hq2, HTQ.out⟩)]; rfl)
              clear heq HST HS HNE HTQ
              go_wp2_with fail
              go_region_with (go_at_call 49; refine (SM.out _ (by (repeat' (first | with_reducible exact Below.refl _ _ | with_reducible refine below_alloc ?_ _ ?_ | with_reducible refine Below.setCell ?_ ?_ _ | with_reducible refine Below.drew ?_ | with_reducible refine Go.below_drewN ?_ _ | with_reducible refine below_step ?_ (by assumption) ?_ | with_reducible refine below_mark ?_ (by assumption) ?_)); all_goals (first | omega | (simp; done) | (simp; omega)))).mono ?_; rintro e3 w3 ⟨rfl, hb3⟩)
              all_goals go_wp2_with fail
              all_goals go_ret
              all_goals exact ⟨by rw [HX.out]; rfl, HB1.out.trans ((HW1B.out.trans (Below.mono (show Below w1.heap.size w1 w3 by exact (by (repeat' (first | with_reducible exact Below.refl _ _ | with_reducible refine below_alloc ?_ _ ?_ | with_reducible refine Below.setCell ?_ ?_ _ | with_reducible refine Below.drew ?_ | with_reducible refine Go.below_drewN ?_ _ | with_reducible refine below_step ?_ (by assumption) ?_ | with_reducible refine below_mark ?_ (by assumption) ?_)); all_goals (first | omega | (simp; done) | (simp; omega)))) HW1B.out.size)).mono (by have := HZ1.out; omega))⟩
            · rw [decide_eq_false heq] at SM
              have HX := Lib.hid (show ∀ x, (hx : x < q + 2) → (hl : x < ts.length) → x % 2 = 0 → ts[x] ≠ tj from fun x hx hl hx2 => by
                by_cases hxq : x < q
                · exact HNE.out x hxq hl hx2
                · have : x = q := by omega
                  subst this; exact fun e => heq e.symm)
              clear heq HNE HTQ
              go_wp2_with fail
              go_region_with (go_at_call 49; refine (SM.out _ (by (repeat' (first | with_reducible exact Below.refl _ _ | with_reducible refine below_alloc ?_ _ ?_ | with_reducible refine Below.setCell ?_ ?_ _ | with_reducible refine Below.drew ?_ | with_reducible refine Go.below_drewN ?_ _ | with_reducible refine below_step ?_ (by assumption) ?_ | with_reducible refine below_mark ?_ (by assumption) ?_)); all_goals (first | omega | (simp; done) | (simp; omega)))).mono ?_; rintro e3 w3 ⟨rfl, hb3⟩)
              all_goals go_wp2_with fail
              all_goals go_roundw
              all_goals first
                | (simp [intOf]; omega)
                | exact ⟨q + 2, by omega, by omega, by go_num, HX, (by (repeat' (first | with_reducible exact Below.refl _ _ | with_reducible refine below_alloc ?_ _ ?_ | with_reducible refine Below.setCell ?_ ?_ _ | with_reducible refine Below.drew ?_ | with_reducible refine Go.below_drewN ?_ _ | with_reducible refine below_step ?_ (by assumption) ?_ | with_reducible refine below_mark ?_ (by assumption) ?_)); all_goals (first | omega | (simp; done) | (simp; omega)))⟩
          · have HX := Lib.hid (show keysB eqB (evV (ts.take (j + 2))) = true by
              rw [HS.out, HN.out, Bool.true_and, Bool.true_and, List.all_eq_true]
              intro y hy
              obtain ⟨x, hx, hxj, hx2, rfl⟩ := (mem_evV_take ts j hj2 y).1 hy
              have := HNE.out x (by omega) hx hx2
              simp only [eqB, Bool.not_eq_true', decide_eq_false_iff_not]
              exact this)
            clear HST HS HNE
            go_wp2_with fail
            go_roundw
            case rel => exact ⟨j + 2, by omega, by omega, by go_num, HX, HW1B.out.trans (hbl2.mono HW1B.out.size)⟩
            case measure => simp [intOf]; omega
    · have HX := Lib.hid (show b = decide (ts.length % 2 = 0) by
        rw [HB.out]
        have h1 := HN.out
        rw [List.take_of_length_le (by omega)] at h1
        rw [h1]; rfl)
      go_wp2_with fail
      go_ret
      exact ⟨by rw [HX.out]; simp; rw [Bool.eq_iff_iff]; simp; omega, HB1.out.trans (hbl.mono (by have := HZ1.out; omega))⟩
theorem areKids_any (w0 : World) (t : V) (sl : Value) (hr : RepS w0 sl t.kids) (hw0 : t.wf) (w : World) (hw : Below w0.heap.size w0 w) (hlen : t.kids.length ≤ 1048576) : Calls Tryd.prog 69 #[t.agg sl] w (BoolRet (areB t) w) := by
  unfold areB V.agg
  by_cases h8 : t.k = 8
  · rw [if_neg (by omega), if_neg (by omega), if_pos h8, h8]
    exact areKids_map w0 t.n t.e t.s sl t.kids hr w hw hlen
  · obtain ⟨a, cap, rfl⟩ := hr.slice
    have := areKids_plain t.k t.n t.e t.s a t.kids.length cap w (by omega) h8
    simp only [if_neg h8]
    exact this
end Go.Proofs.YtaphlemmlmdkiaaDoor
namespace Go.Proofs.YtaphlemmlmdkiaaDoor
set_option linter.unusedSimpArgs false
set_option linter.unusedVariables false
set_option maxRecDepth 100000
open Go.RowKit
def keqB (a b : V) : Bool := decide (keyEq a b)
set_option maxHeartbeats 4000000 in
theorem l02Pairs_any (w0 : World) (v : Value) (ts : List V) (h : RepS w0 v ts) (w : World) (hw : Below w0.heap.size w0 w) (hlen : ts.length ≤ 1048576) :
    Calls Tryd.prog 87 #[v] w (BoolRet (pairsB ts) w) := by
  obtain ⟨b, hb⟩ : ∃ b : Bool, b = pairsB ts := ⟨_, rfl⟩
  rw [← hb]
  have HB := Lib.hid (show b = (keysB keqB (evV ts) && decide (ts.length % 2 = 0) && decide (ts.length ≤ 300)) from hb)
  clear hb
  obtain ⟨a, bb, off, cap, rfl, ha, hc, hm, sls, hel⟩ := h.opened
  have HA := Lib.hid ha; have HE := Lib.hid hel
  clear ha hel h hc hm
  have HW := Lib.hid hw
  go_enter Tryd.func87, Tryd.ntmps87
  go_wp2_with fail
  go_loopw [3, 4] (fun i q wr => ∃ j : Nat, j % 2 = 0 ∧ j ≤ ts.length + 1 ∧ i = .int .i64 j ∧ Hid (keysB keqB (evV (ts.take j)) = true) ∧ Below w.heap.size w wr) (fun i _ _ => ts.length + 2 - (intOf i).toNat)
  case atStart => exact ⟨0, rfl, by omega, rfl, Lib.hid rfl, Below.refl _ _⟩
  case round =>
    obtain ⟨j, hj2, hj, rfl, HN, hbl⟩ := hrel
    by_cases hlt : j < ts.length
    · have hne : ts ≠ [] := by intro e; rw [e] at hlt; simp at hlt
      obtain ⟨rfl, hbw⟩ := HA.out hne
      have HWR := Lib.hid (show Below w0.heap.size w0 wr from HW.out.trans (hbl.mono HW.out.size))
      obtain ⟨c0, c1, c2, c3, c4⟩ := (HE.out j hlt).1.keep (HWR.out.block bb hbw)
      clear c1 c2 c4
      have HS := Lib.hid (show keysB keqB (evV (ts.take (j + 2))) = (keysB keqB (evV (ts.take j)) && isKeyB ts[j] && (evV (ts.take j)).all fun y => !(keqB y ts[j])) by rw [evV_take ts j hj2 hlt, keysB_snoc])
      have HST := Lib.hid (keysB_stuck keqB ts j hj2 hlt)
      cases hkey : isKeyB ts[j]
      · have HX := Lib.hid (show b = false by rw [HB.out, HST.out (.inl hkey)]; rfl)
        have hk' : ¬ (ts[j].k = 5 ∨ ts[j].k = 3) := of_decide_eq_false hkey
        have t1 : (ts[j].k != 5) = true := by simp; omega
        have t2 : (ts[j].k != 3) = true := by simp; omega
        clear hkey hk' HS HST HN
        generalize ts[j].k = xk at *
        go_wp2_with fail
        go_ret
        exact ⟨by rw [HX.out]; rfl, (by (repeat' (first | with_reducible exact Below.refl _ _ | with_reducible refine below_alloc ?_ _ ?_ | with_reducible refine Below.setCell ?_ ?_ _ | with_reducible refine Below.drew ?_ | with_reducible refine Go.below_drewN ?_ _ | with_reducible refine below_step ?_ (by assumption) ?_ | with_reducible refine below_mark ?_ (by assumption) ?_)); all_goals (first | omega | (simp; done) | (simp; omega)))⟩
      · have hk' : ts[j].k = 5 ∨ ts[j].k = 3 := of_decide_eq_true hkey
        rw [hkey] at HS
        clear hkey
        have HKK := Lib.hid hk'
        clear hk'
        have hcase : (ts[j].k != 5) = false ∨ ((ts[j].k != 5) = true ∧ (ts[j].k != 3) = false) := by
          rcases HKK.out with h | h
          · left; simp [h]
          · right; simp [h]
        rcases hcase with t1 | ⟨t1, t2⟩
        · go_wp2_with fail
          go_loopw [4] (fun i w2 => ∃ q : Nat, q % 2 = 0 ∧ q ≤ j + 1 ∧ i = .int .i64 q ∧ Hid (∀ x, (hx : x < q) → (hl : x < ts.length) → x % 2 = 0 → keqB ts[x] ts[j] = false) ∧ Below w.heap.size w w2) (fun i _ => j + 2 - (intOf i).toNat)
          case atStart => exact ⟨0, rfl, by omega, rfl, Lib.hid (by omega), hbl⟩
          case round =>
            clear c0 c3 hbl HWR
            obtain ⟨q, hq2, hqj, rfl, HNE, hbl⟩ := hrel
            have HWR := Lib.hid (show Below w0.heap.size w0 wr from HW.out.trans (hbl.mono HW.out.size))
            by_cases hqlt : q < j
            · have hqts : q < ts.length := by omega
              obtain ⟨c0, c1, c2, c3, c4⟩ := (HE.out q hqts).1.keep (HWR.out.block bb hbw)
              obtain ⟨d0, d1, d2, d3, d4⟩ := (HE.out j hlt).1.keep (HWR.out.block bb hbw)
              clear c2 c4 d2 d4
              have HX1 := Lib.hid (show keqB ts[q] ts[j] = true → b = false from fun e => by rw [HB.out, HST.out (.inr ⟨q, hqts, hqlt, hq2, e⟩)]; rfl)
              have HX2 := Lib.hid (show keqB ts[q] ts[j] = false → ∀ x, (hx : x < q + 2) → (hl : x < ts.length) → x % 2 = 0 → keqB ts[x] ts[j] = false from fun e x hx hl hx2 => by
                by_cases hxq : x < q
                · exact HNE.out x hxq hl hx2
                · have : x = q := by omega
                  subst this; exact e)
              have HKQ := Lib.hid (show keqB ts[q] ts[j] = decide (ts[q].k = ts[j].k ∧ ts[q].n = ts[j].n ∧ ts[q].s = ts[j].s) from rfl)
              clear HNE HS HST
              generalize ts[q].k = qk at *
              generalize ts[q].n = qn at *
              generalize ts[q].s = qs at *
              generalize ts[j].k = jk at *
              generalize ts[j].n = jn at *
              generalize ts[j].s = js at *
              by_cases e1 : qk = jk
              case neg =>
                have s1 : (qk == jk) = false := by simpa using e1
                have HX2 := Lib.hid (HX2.out (by rw [HKQ.out]; exact decide_eq_false (fun h => e1 h.1)))
                clear e1
                go_wp2_with fail
                go_quiet (fail)
                all_goals go_wp2_with fail
                all_goals go_roundw
                all_goals first
                  | (simp [intOf]; omega)
                  | exact ⟨q + 2, by omega, by omega, by go_num, HX2, (by (repeat' (first | with_reducible exact Below.refl _ _ | with_reducible refine below_alloc ?_ _ ?_ | with_reducible refine Below.setCell ?_ ?_ _ | with_reducible refine Below.drew ?_ | with_reducible refine Go.below_drewN ?_ _ | with_reducible refine below_step ?_ (by assumption) ?_ | with_reducible refine below_mark ?_ (by assumption) ?_)); all_goals (first | omega | (simp; done) | (simp; omega)))⟩
              have s1 : (qk == jk) = true := by simpa using e1
              by_cases e2 : qn = jn
              case neg =>
                have s2 : (qn == jn) = false := by simpa using e2
                have HX2 := Lib.hid (HX2.out (by rw [HKQ.out]; exact decide_eq_false (fun h => e2 h.2.1)))
                clear e1 e2
                go_wp2_with fail
                go_quiet (fail)
                all_goals go_wp2_with fail
                all_goals go_roundw
                all_goals first
                  | (simp [intOf]; omega)
                  | exact ⟨q + 2, by omega, by omega, by go_num, HX2, (by (repeat' (first | with_reducible exact Below.refl _ _ | with_reducible refine below_alloc ?_ _ ?_ | with_reducible refine Below.setCell ?_ ?_ _ | with_reducible refine Below.drew ?_ | with_reducible refine Go.below_drewN ?_ _ | with_reducible refine below_step ?_ (by assumption) ?_ | with_reducible refine below_mark ?_ (by assumption) ?_)); all_goals (first | omega | (simp; done) | (simp; omega)))⟩
              have s2 : (qn == jn) = true := by simpa using e2
              by_cases e3 : qs = js
              case neg =>
                have s3 := ba_no e3
                have HX2 := Lib.hid (HX2.out (by rw [HKQ.out]; exact decide_eq_false (fun h => e3 h.2.2)))
                clear e1 e2 e3
                go_wp2_with fail
                go_quiet (fail)
                all_goals go_wp2_with fail
                all_goals go_roundw
                all_goals first
                  | (simp [intOf]; omega)
                  | exact ⟨q + 2, by omega, by omega, by go_num, HX2, (by (repeat' (first | with_reducible exact Below.refl _ _ | with_reducible refine below_alloc ?_ _ ?_ | with_reducible refine Below.setCell ?_ ?_ _ | with_reducible refine Below.drew ?_ | with_reducible refine Go.below_drewN ?_ _ | with_reducible refine below_step ?_ (by assumption) ?_ | with_reducible refine below_mark ?_ (by assumption) ?_)); all_goals (first | omega | (simp; done) | (simp; omega)))⟩
              have s3 := ba_yes e3
              have HX := Lib.hid (HX1.out (by rw [HKQ.out]; exact decide_eq_true ⟨e1, e2, e3⟩))
              clear e1 e2 e3 HX1 HX2
              go_wp2_with fail
              go_quiet (fail)
              all_goals go_wp2_with fail
              all_goals go_ret
              all_goals exact ⟨by rw [HX.out]; rfl, (by (repeat' (first | with_reducible exact Below.refl _ _ | with_reducible refine below_alloc ?_ _ ?_ | with_reducible refine Below.setCell ?_ ?_ _ | with_reducible refine Below.drew ?_ | with_reducible refine Go.below_drewN ?_ _ | with_reducible refine below_step ?_ (by assumption) ?_ | with_reducible refine below_mark ?_ (by assumption) ?_)); all_goals (first | omega | (simp; done) | (simp; omega)))⟩
            · have HX := Lib.hid (show keysB keqB (evV (ts.take (j + 2))) = true by
                rw [HS.out, HN.out, Bool.true_and, Bool.true_and, List.all_eq_true]
                intro y hy
                obtain ⟨x, hx, hxj, hx2, rfl⟩ := (mem_evV_take ts j hj2 y).1 hy
                simp [HNE.out x (by omega) hx hx2])
              clear HST HS HNE
              go_wp2_with fail
              go_roundw
              case rel => exact ⟨j + 2, by omega, by omega, by go_num, HX, hbl⟩
              case measure => simp [intOf]; omega
        · go_wp2_with fail
          go_loopw [4] (fun i w2 => ∃ q : Nat, q % 2 = 0 ∧ q ≤ j + 1 ∧ i = .int .i64 q ∧ Hid (∀ x, (hx : x < q) → (hl : x < ts.length) → x % 2 = 0 → keqB ts[x] ts[j] = false) ∧ Below w.heap.size w w2) (fun i _ => j + 2 - (intOf i).toNat)
          case atStart => exact ⟨0, rfl, by omega, rfl, Lib.hid (by omega), hbl⟩
          case round =>
            clear c0 c3 hbl HWR
            obtain ⟨q, hq2, hqj, rfl, HNE, hbl⟩ := hrel
            have HWR := Lib.hid (show Below w0.heap.size w0 wr from HW.out.trans (hbl.mono HW.out.size))
            by_cases hqlt : q < j
            · have hqts : q < ts.length := by omega
              obtain ⟨c0, c1, c2, c3, c4⟩ := (HE.out q hqts).1.keep (HWR.out.block bb hbw)
              obtain ⟨d0, d1, d2, d3, d4⟩ := (HE.out j hlt).1.keep (HWR.out.block bb hbw)
              clear c2 c4 d2 d4
              have HX1 := Lib.hid (show keqB ts[q] ts[j] = true → b = false from fun e => by rw [HB.out, HST.out (.inr ⟨q, hqts, hqlt, hq2, e⟩)]; rfl)
              have HX2 := Lib.hid (show keqB ts[q] ts[j] = false → ∀ x, (hx : x < q + 2) → (hl : x < ts.length) → x % 2 = 0 → keqB ts[x] ts[j] = false from fun e x hx hl hx2 => by
                by_cases hxq : x < q
                · exact HNE.out x hxq hl hx2
                · have : x = q := by omega
                  subst this; exact e)
              have HKQ := Lib.hid (show keqB ts[q] ts[j] = decide (ts[q].k = ts[j].k ∧ ts[q].n = ts[j].n ∧ ts[q].s = ts[j].s) from rfl)
              clear HNE HS HST
              generalize ts[q].k = qk at *
              generalize ts[q].n = qn at *
              generalize ts[q].s = qs at *
              generalize ts[j].k = jk at *
              generalize ts[j].n = jn at *
              generalize ts[j].s = js at *
              by_cases e1 : qk = jk
              case neg =>
                have s1 : (qk == jk) = false := by simpa using e1
                have HX2 := Lib.hid (HX2.out (by rw [HKQ.out]; exact decide_eq_false (fun h => e1 h.1)))
                clear e1
                go_wp2_with fail
                go_quiet (fail)
                all_goals go_wp2_with fail
                all_goals go_roundw
                all_goals first
                  | (simp [intOf]; omega)
                  | exact ⟨q + 2, by omega, by omega, by go_num, HX2, (by (repeat' (first | with_reducible exact Below.refl _ _ | with_reducible refine below_alloc ?_ _ ?_ | with_reducible refine Below.setCell ?_ ?_ _ | with_reducible refine Below.drew ?_ | with_reducible refine Go.below_drewN ?_ _ | with_reducible refine below_step ?_ (by assumption) ?_ | with_reducible refine below_mark ?_ (by assumption) ?_)); all_goals (first | omega | (simp; done) | (simp; omega)))⟩
              have s1 : (qk == jk) = true := by simpa using e1
              by_cases e2 : qn = jn
              case neg =>
                have s2 : (qn == jn) = false := by simpa using e2
                have HX2 := Lib.hid (HX2.out (by rw [HKQ.out]; exact decide_eq_false (fun h => e2 h.2.1)))
                clear e1 e2
                go_wp2_with fail
                go_quiet (fail)
                all_goals go_wp2_with fail
                all_goals go_roundw
                all_goals first
                  | (simp [intOf]; omega)
                  | exact ⟨q + 2, by omega, by omega, by go_num, HX2, (by (repeat' (first | with_reducible exact Below.refl _ _ | with_reducible refine below_alloc ?_ _ ?_ | with_reducible refine Below.setCell ?_ ?_ _ | with_reducible refine Below.drew ?_ | with_reducible refine Go.below_drewN ?_ _ | with_reducible refine below_step ?_ (by assumption) ?_ | with_reducible refine below_mark ?_ (by assumption) ?_)); all_goals (first | omega | (simp; done) | (simp; omega)))⟩
              have s2 : (qn == jn) = true := by simpa using e2
              by_cases e3 : qs = js
              case neg =>
                have s3 := ba_no e3
                have HX2 := Lib.hid (HX2.out (by rw [HKQ.out]; exact decide_eq_false (fun h => e3 h.2.2)))
                clear e1 e2 e3
                go_wp2_with fail
                go_quiet (fail)
                all_goals go_wp2_with fail
                all_goals go_roundw
                all_goals first
                  | (simp [intOf]; omega)
                  | exact ⟨q + 2, by omega, by omega, by go_num, HX2, (by (repeat' (first | with_reducible exact Below.refl _ _ | with_reducible refine below_alloc ?_ _ ?_ | with_reducible refine Below.setCell ?_ ?_ _ | with_reducible refine Below.drew ?_ | with_reducible refine Go.below_drewN ?_ _ | with_reducible refine below_step ?_ (by assumption) ?_ | with_reducible refine below_mark ?_ (by assumption) ?_)); all_goals (first | omega | (simp; done) | (simp; omega)))⟩
              have s3 := ba_yes e3
              have HX := Lib.hid (HX1.out (by rw [HKQ.out]; exact decide_eq_true ⟨e1, e2, e3⟩))
              clear e1 e2 e3 HX1 HX2
              go_wp2_with fail
              go_quiet (fail)
              all_goals go_wp2_with fail
              all_goals go_ret
              all_goals exact ⟨by rw [HX.out]; rfl, (by (repeat' (first | with_reducible exact Below.refl _ _ | with_reducible refine below_alloc ?_ _ ?_ | with_reducible refine Below.setCell ?_ ?_ _ | with_reducible refine Below.drew ?_ | with_reducible refine Go.below_drewN ?_ _ | with_reducible refine below_step ?_ (by assumption) ?_ | with_reducible refine below_mark ?_ (by assumption) ?_)); all_goals (first | omega | (simp; done) | (simp; omega)))⟩
            · have HX := Lib.hid (show keysB keqB (evV (ts.take (j + 2))) = true by
                rw [HS.out, HN.out, Bool.true_and, Bool.true_and, List.all_eq_true]
                intro y hy
                obtain ⟨x, hx, hxj, hx2, rfl⟩ := (mem_evV_take ts j hj2 y).1 hy
                simp [HNE.out x (by omega) hx hx2])
              clear HST HS HNE
              go_wp2_with fail
              go_roundw
              case rel => exact ⟨j + 2, by omega, by omega, by go_num, HX, hbl⟩
              case measure => simp [intOf]; omega
    · have HX := Lib.hid (show b = (decide (ts.length % 2 = 0) && decide (ts.length ≤ 300)) by
        rw [HB.out]
        have h1 := HN.out
        rw [List.take_of_length_le (by omega)] at h1
        rw [h1]; simp)
      by_cases h2 : ts.length % 2 = 0
      · have t1 : ((ts.length : Int) % 2 == 0) = true := by simp; omega
        have H := Lib.hid (show b = decide ((ts.length : Int) ≤ 300) by rw [HX.out, decide_eq_true h2, Bool.true_and, decide_eq_decide]; omega)
        go_wp2_with fail
        go_ret
        exact ⟨by rw [H.out]; rfl, hbl⟩
      · have t1 : ((ts.length : Int) % 2 == 0) = false := by simp; omega
        have H := Lib.hid (show b = false by rw [HX.out, decide_eq_false h2]; rfl)
        go_wp2_with fail
        go_ret
        exact ⟨by rw [H.out]; rfl, hbl⟩
set_option maxHeartbeats 1000000 in
theorem nodes_any (w0 : World) : ∀ (N : Nat) (v : Value) (ts : List V), szs ts ≤ N → RepS w0 v ts → szs ts ≤ 1048576 → ∀ (u : V), u.kids = ts → ∀ (w : World), Below w0.heap.size w0 w →
    Calls Tryd.prog 40 #[u.agg v] w fun e w' => e = .returned (.int .i64 (u.nodes : Nat)) ∧ Below w.heap.size w w' := by
  intro N
  induction N using Nat.strongRecOn with
  | ind N ih =>
  intro v ts hN hrep hsz u huk w hw
  obtain ⟨a, b, off, cap, rfl, ha, hc, hm, sls, hel⟩ := hrep.opened
  have hlen : ts.length ≤ 1048576 := Nat.le_trans (szs_length ts) hsz
  have HP := Lib.hid (show u.nodes = 1 + nodess ts by rw [V.nodes_eq, huk])
  have IH := Lib.hid (show ∀ i (hi : i < ts.length) (w : World), Below w0.heap.size w0 w → Calls Tryd.prog 40 #[ts[i].agg (sls i)] w fun e w' => e = .returned (.int .i64 (ts[i].nodes : Nat)) ∧ Below w.heap.size w w' from
    fun i hi w h7 => by
      have q1 := szs_mem (List.getElem_mem hi); have q2 := V.sz_eq ts[i]
      exact ih (szs ts[i].kids) (by omega) (sls i) ts[i].kids (Nat.le_refl _) (hel i hi).2.2 (by omega) ts[i] rfl w h7)
  have HA := Lib.hid ha; have HE := Lib.hid hel
  have HSZ := Lib.hid hsz
  clear ih ha hel hc hm hrep hsz huk hN
  unfold V.agg
  generalize u.nodes = un at *
  generalize u.k = vk at *
  generalize u.n = vn at *
  generalize u.e = ve at *
  generalize u.s = vs at *
  have B0 := Lib.hid (Box.new w vk vn ve vs (.slice a ts.length cap) 30)
  go_enter Tryd.func40, Tryd.ntmps40
  go_wp2_with fail
  generalize hW1 : w.alloc (.cells #[.int .i64 vk, .int .i64 vn, .int .i64 ve, .string vs, .slice a ts.length cap] 30) = W1 at *
  have HB1 := Lib.hid (show Below w.heap.size w W1 by rw [← hW1]; exact (Below.refl _ _).alloc (Nat.le_refl _) _)
  have HZ1 := Lib.hid (show w.heap.size + 1 = W1.heap.size by rw [← hW1]; simp)
  clear hW1
  go_loopw [3, 4] (fun c i wr => ∃ (k : Nat) (q : Int), k ≤ ts.length ∧ i = .int .i64 k ∧ c = .int .i64 q ∧ 0 ≤ q ∧ q ≤ 4194304 ∧ Hid (q = (1 + nodess (ts.take k) : Nat)) ∧ Below W1.heap.size W1 wr) (fun _ i _ => ts.length - (intOf i).toNat)
  case atStart => exact ⟨0, 1, by omega, rfl, rfl, by omega, by omega, Lib.hid rfl, Below.refl _ _⟩
  case round =>
    obtain ⟨k, q, hk, rfl, rfl, hq0, hq1, HQ, hbl⟩ := hrel
    obtain ⟨p0, p1, p2, p3, p4⟩ := (B0.out.stay hbl).cells
    by_cases hlt : k < ts.length
    · have hne : ts ≠ [] := by intro e; rw [e] at hlt; simp at hlt
      obtain ⟨rfl, hbw⟩ := HA.out hne
      have HWR := Lib.hid (show Below w0.heap.size w0 wr from hw.trans ((HB1.out.mono hw.size).trans (hbl.mono (by have := hw.size; have := HZ1.out; omega))))
      obtain ⟨c0, c1, c2, c3, c4⟩ := (HE.out k hlt).1.keep (HWR.out.block b hbw)
      obtain ⟨ak, kcap, hks⟩ := (HE.out k hlt).2.2.slice
      have N1 := Lib.hid (fun (W : World) (hW : Below wr.heap.size wr W) => IH.out k hlt W (HWR.out.trans (hW.mono HWR.out.size)))
      rw [hks] at c4 N1
      have HT := Lib.hid (show q + (ts[k].nodes : Nat) = (1 + nodess (ts.take (k + 1)) : Nat) by
        rw [HQ.out, List.take_succ_eq_append_getElem hlt, nodess_append]; simp [nodess]; omega)
      have hqb : q + (ts[k].nodes : Nat) ≤ 4194304 := by
        rw [HT.out]
        have h1 := nodess_sz (ts.take (k + 1)); have h2 := szs_append (ts.take (k + 1)) (ts.drop (k + 1)); rw [List.take_append_drop] at h2; have := HSZ.out; omega
      unfold V.agg at N1
      clear hks
      generalize ts[k].nodes = nn at *
      generalize ts[k].k = xk at *
      generalize ts[k].n = xn at *
      generalize ts[k].e = xe at *
      generalize ts[k].s = xs at *
      go_wp2_with fail
      refine (N1.out _ (by (repeat' (first | with_reducible exact Below.refl _ _ | with_reducible refine below_alloc ?_ _ ?_ | with_reducible refine Below.setCell ?_ ?_ _ | with_reducible refine Below.drew ?_ | with_reducible refine Go.below_drewN ?_ _ | with_reducible refine below_step ?_ (by assumption) ?_ | with_reducible refine below_mark ?_ (by assumption) ?_)); all_goals (first | omega | (simp; done) | (simp; omega)))).mono ?_
      rintro e1 w1 ⟨rfl, hb1⟩
      go_wp2_with fail
      go_roundw
      case rel => exact ⟨k + 1, q + nn, by omega, by go_num, rfl, by omega, hqb, HT, (by (repeat' (first | with_reducible exact Below.refl _ _ | with_reducible refine below_alloc ?_ _ ?_ | with_reducible refine Below.setCell ?_ ?_ _ | with_reducible refine Below.drew ?_ | with_reducible refine Go.below_drewN ?_ _ | with_reducible refine below_step ?_ (by assumption) ?_ | with_reducible refine below_mark ?_ (by assumption) ?_)); all_goals (first | omega | (simp; done) | (simp; omega)))⟩
      case measure => simp [intOf]; omega
    · have H := Lib.hid (show (un : Int) = q by rw [HQ.out, HP.out, List.take_of_length_le (by omega)])
      go_wp2_with fail
      go_ret
      exact ⟨by rw [H.out]; rfl, HB1.out.trans (hbl.mono (by have := HZ1.out; omega))⟩
end Go.Proofs.YtaphlemmlmdkiaaDoor
namespace Go.Proofs.YtaphlemmlmdkiaaDoor
set_option linter.unusedSimpArgs false
set_option linter.unusedVariables false
set_option maxRecDepth 100000
open Go.RowKit
theorem str_ne {s : ByteArray} (h : ¬ s.size = 0) : (s.toList = [] ↔ False) ∧ s.toList.isEmpty = false ∧ (s.toList == []) = false := by
  have h1 : s.toList ≠ [] := fun e => h (by have := congrArg List.length e; rw [ByteArray.toList_eq] at this; simpa using this)
  refine ⟨⟨h1, False.elim⟩, ?_, ?_⟩
  · rcases h2 : s.toList with _ | ⟨x, l⟩
    · exact absurd h2 h1
    · rfl
  · rcases h2 : s.toList with _ | ⟨x, l⟩
    · exact absurd h2 h1
    · rfl
def NodeRet (b : Bool) (w : World) (e : Ending) (w' : World) : Prop := e = .returned (.bool b) ∧ Below w.heap.size w w'

set_option maxHeartbeats 1000000 in
theorem node_a (k n e : Int) (s : ByteArray) (sl : Value) (w : World) (hk : k = 0 ∨ k = 1 ∨ k = 2 ∨ k = 7 ∨ k = 8) : Calls Tryd.prog 68 #[.agg #[.int .i64 k, .int .i64 n, .int .i64 e, .string s, sl]] w (NodeRet (decide (n = 0 ∧ e = 0 ∧ s.size = 0)) w) := by
  by_cases hn : n = 0
  case neg =>
    have t1 : (n == 0) = false := by simpa using hn
    rw [decide_eq_false (fun h => hn h.1)]
    clear hn
    rcases hk with rfl | rfl | rfl | rfl | rfl
    all_goals
      go_enter Tryd.func68, Tryd.ntmps68
      go_wp2_with fail
      go_ret
      exact ⟨rfl, (by (repeat' (first | with_reducible exact Below.refl _ _ | with_reducible refine below_alloc ?_ _ ?_ | with_reducible refine Below.setCell ?_ ?_ _ | with_reducible refine Below.drew ?_ | with_reducible refine Go.below_drewN ?_ _ | with_reducible refine below_step ?_ (by assumption) ?_ | with_reducible refine below_mark ?_ (by assumption) ?_)); all_goals (first | omega | (simp; done) | (simp; omega)))⟩
  by_cases he : e = 0
  case neg =>
    have t2 : (e == 0) = false := by simpa using he
    rw [decide_eq_false (fun h => he h.2.1)]
    clear he
    subst hn
    rcases hk with rfl | rfl | rfl | rfl | rfl
    all_goals
      go_enter Tryd.func68, Tryd.ntmps68
      go_wp2_with fail
      go_ret
      exact ⟨rfl, (by (repeat' (first | with_reducible exact Below.refl _ _ | with_reducible refine below_alloc ?_ _ ?_ | with_reducible refine Below.setCell ?_ ?_ _ | with_reducible refine Below.drew ?_ | with_reducible refine Go.below_drewN ?_ _ | with_reducible refine below_step ?_ (by assumption) ?_ | with_reducible refine below_mark ?_ (by assumption) ?_)); all_goals (first | omega | (simp; done) | (simp; omega)))⟩
  by_cases hs : s.size = 0
  case neg =>
    obtain ⟨s1, s2, s3⟩ := str_ne hs
    rw [decide_eq_false (fun h => hs h.2.2)]
    clear hs
    subst hn
    subst he
    rcases hk with rfl | rfl | rfl | rfl | rfl
    all_goals
      go_enter Tryd.func68, Tryd.ntmps68
      go_wp2_with fail
      go_ret
      exact ⟨rfl, (by (repeat' (first | with_reducible exact Below.refl _ _ | with_reducible refine below_alloc ?_ _ ?_ | with_reducible refine Below.setCell ?_ ?_ _ | with_reducible refine Below.drew ?_ | with_reducible refine Go.below_drewN ?_ _ | with_reducible refine below_step ?_ (by assumption) ?_ | with_reducible refine below_mark ?_ (by assumption) ?_)); all_goals (first | omega | (simp; done) | (simp; omega)))⟩
  obtain rfl := ba_empty hs
  subst hn
  subst he
  rw [decide_eq_true ⟨rfl, rfl, rfl⟩]
  rcases hk with rfl | rfl | rfl | rfl | rfl
  all_goals
    go_enter Tryd.func68, Tryd.ntmps68
    go_wp2_with fail
    go_ret
    exact ⟨rfl, (by (repeat' (first | with_reducible exact Below.refl _ _ | with_reducible refine below_alloc ?_ _ ?_ | with_reducible refine Below.setCell ?_ ?_ _ | with_reducible refine Below.drew ?_ | with_reducible refine Go.below_drewN ?_ _ | with_reducible refine below_step ?_ (by assumption) ?_ | with_reducible refine below_mark ?_ (by assumption) ?_)); all_goals (first | omega | (simp; done) | (simp; omega)))⟩

set_option maxHeartbeats 1000000 in
theorem node_b (k n e : Int) (s : ByteArray) (sl : Value) (w : World) (hk : k = 3) : Calls Tryd.prog 68 #[.agg #[.int .i64 k, .int .i64 n, .int .i64 e, .string s, sl]] w (NodeRet (decide (e = 0 ∧ s.size = 0)) w) := by
  by_cases he : e = 0
  case neg =>
    have t2 : (e == 0) = false := by simpa using he
    rw [decide_eq_false (fun h => he h.1)]
    clear he
    rcases hk with rfl
    all_goals
      go_enter Tryd.func68, Tryd.ntmps68
      go_wp2_with fail
      go_ret
      exact ⟨rfl, (by (repeat' (first | with_reducible exact Below.refl _ _ | with_reducible refine below_alloc ?_ _ ?_ | with_reducible refine Below.setCell ?_ ?_ _ | with_reducible refine Below.drew ?_ | with_reducible refine Go.below_drewN ?_ _ | with_reducible refine below_step ?_ (by assumption) ?_ | with_reducible refine below_mark ?_ (by assumption) ?_)); all_goals (first | omega | (simp; done) | (simp; omega)))⟩
  by_cases hs : s.size = 0
  case neg =>
    obtain ⟨s1, s2, s3⟩ := str_ne hs
    rw [decide_eq_false (fun h => hs h.2)]
    clear hs
    subst he
    rcases hk with rfl
    all_goals
      go_enter Tryd.func68, Tryd.ntmps68
      go_wp2_with fail
      go_ret
      exact ⟨rfl, (by (repeat' (first | with_reducible exact Below.refl _ _ | with_reducible refine below_alloc ?_ _ ?_ | with_reducible refine Below.setCell ?_ ?_ _ | with_reducible refine Below.drew ?_ | with_reducible refine Go.below_drewN ?_ _ | with_reducible refine below_step ?_ (by assumption) ?_ | with_reducible refine below_mark ?_ (by assumption) ?_)); all_goals (first | omega | (simp; done) | (simp; omega)))⟩
  obtain rfl := ba_empty hs
  subst he
  rw [decide_eq_true ⟨rfl, rfl⟩]
  rcases hk with rfl
  all_goals
    go_enter Tryd.func68, Tryd.ntmps68
    go_wp2_with fail
    go_ret
    exact ⟨rfl, (by (repeat' (first | with_reducible exact Below.refl _ _ | with_reducible refine below_alloc ?_ _ ?_ | with_reducible refine Below.setCell ?_ ?_ _ | with_reducible refine Below.drew ?_ | with_reducible refine Go.below_drewN ?_ _ | with_reducible refine below_step ?_ (by assumption) ?_ | with_reducible refine below_mark ?_ (by assumption) ?_)); all_goals (first | omega | (simp; done) | (simp; omega)))⟩

set_option maxHeartbeats 1000000 in
theorem node_c (n e : Int) (s : ByteArray) (sl : Value) (w : World) (hn : In64 n) (he : In64 e) : Calls Tryd.prog 68 #[.agg #[.int .i64 4, .int .i64 n, .int .i64 e, .string s, sl]] w (NodeRet (decOk n e && decide (s.size = 0)) w) := by
  have DC := Lib.hid (fun W => isDec_any 4 n e s sl hn he W)
  have B0 := Lib.hid (Box.new w 4 n e s sl 30)
  cases hd : decOk n e
  case false =>
    rw [hd] at DC
    rw [Bool.false_and]
    clear hd
    go_enter Tryd.func68, Tryd.ntmps68
    go_wp2_with fail
    refine (DC.out _).mono ?_
    rintro x w1 ⟨rfl, hb1⟩
    go_wp2_with fail
    go_ret
    exact ⟨rfl, (by (repeat' (first | with_reducible exact Below.refl _ _ | with_reducible refine below_alloc ?_ _ ?_ | with_reducible refine Below.setCell ?_ ?_ _ | with_reducible refine Below.drew ?_ | with_reducible refine Go.below_drewN ?_ _ | with_reducible refine below_step ?_ (by assumption) ?_ | with_reducible refine below_mark ?_ (by assumption) ?_)); all_goals (first | omega | (simp; done) | (simp; omega)))⟩
  case true =>
    rw [hd] at DC
    rw [Bool.true_and]
    clear hd
    have P0 := Lib.hid (Box.new (w.alloc (.cells #[.int .i64 4, .int .i64 n, .int .i64 e, .string s, sl] 30)) 4 0 0 ⟨#[]⟩ (.slice none 0 0) 30)
    rw [show (w.alloc (.cells #[.int .i64 4, .int .i64 n, .int .i64 e, .string s, sl] 30)).heap.size = w.heap.size + 1 by simp] at P0
    have hss : ∃ b : Bool, b = decide (s.size = 0) := ⟨_, rfl⟩
    obtain ⟨b, hb⟩ := hss
    rw [← hb]
    have HB := Lib.hid hb; clear hb
    have t1 : (n == n) = true := by simp
    have t2 : (e == e) = true := by simp
    by_cases hs : s.size = 0
    case neg =>
      have H := Lib.hid (show b = false by rw [HB.out, decide_eq_false hs])
      obtain ⟨s1, s2, s3⟩ := str_ne hs
      clear hs
      go_enter Tryd.func68, Tryd.ntmps68
      go_wp2_with fail
      refine (DC.out _).mono ?_
      rintro x w1 ⟨rfl, hb1⟩
      have hz1 := hb1.size
      simp at hz1
      obtain ⟨p0, p1, p2, p3, p4⟩ := ((B0.out.alloc _).stay hb1).cells
      have PX := Lib.hid (P0.out.stay hb1)
      obtain ⟨q0, q1, q2, q3, q4⟩ := PX.out.cells
      have f0 : ∀ o, w1.frozen? ⟨w.heap.size + 1, o, none⟩ = false := fun o => frozen_of_row w1 _ o _ _ PX.out
      go_wp2_with fail
      go_region
      all_goals go_wp2_with fail
      all_goals go_ret
      all_goals exact ⟨by rw [H.out]; rfl, (by (repeat' (first | with_reducible exact Below.refl _ _ | with_reducible refine below_alloc ?_ _ ?_ | with_reducible refine Below.setCell ?_ ?_ _ | with_reducible refine Below.drew ?_ | with_reducible refine Go.below_drewN ?_ _ | with_reducible refine below_step ?_ (by assumption) ?_ | with_reducible refine below_mark ?_ (by assumption) ?_)); all_goals (first | omega | (simp; done) | (simp; omega)))⟩
    case pos =>
      have H := Lib.hid (show b = true by rw [HB.out, decide_eq_true hs])
      obtain rfl := ba_empty hs
      clear hs
      go_enter Tryd.func68, Tryd.ntmps68
      go_wp2_with fail
      refine (DC.out _).mono ?_
      rintro x w1 ⟨rfl, hb1⟩
      have hz1 := hb1.size
      simp at hz1
      obtain ⟨p0, p1, p2, p3, p4⟩ := ((B0.out.alloc _).stay hb1).cells
      have PX := Lib.hid (P0.out.stay hb1)
      obtain ⟨q0, q1, q2, q3, q4⟩ := PX.out.cells
      have f0 : ∀ o, w1.frozen? ⟨w.heap.size + 1, o, none⟩ = false := fun o => frozen_of_row w1 _ o _ _ PX.out
      go_wp2_with fail
      go_region
      all_goals go_wp2_with fail
      all_goals go_ret
      all_goals exact ⟨by rw [H.out]; rfl, (by (repeat' (first | with_reducible exact Below.refl _ _ | with_reducible refine below_alloc ?_ _ ?_ | with_reducible refine Below.setCell ?_ ?_ _ | with_reducible refine Below.drew ?_ | with_reducible refine Go.below_drewN ?_ _ | with_reducible refine below_step ?_ (by assumption) ?_ | with_reducible refine below_mark ?_ (by assumption) ?_)); all_goals (first | omega | (simp; done) | (simp; omega)))⟩

set_option maxHeartbeats 2000000 in
theorem node_d (n e : Int) (s : ByteArray) (sl : Value) (w : World) (hsz : s.size ≤ 9223372036854775807) (hE : Env w) : Calls Tryd.prog 68 #[.agg #[.int .i64 5, .int .i64 n, .int .i64 e, .string s, sl]] w (NodeRet (decide (n = 0 ∧ e = 0 ∧ s.size ≤ 2000) && txt s) w) := by
  have TX := Lib.hid (fun W (hW : Below w.heap.size w W) => textOk_impl s W hsz (hE.keep hW))
  clear hE
  have B0 := Lib.hid (Box.new w 5 n e s sl 30)
  have P0 := Lib.hid (Box.new (w.alloc (.cells #[.int .i64 5, .int .i64 n, .int .i64 e, .string s, sl] 30)) 5 0 0 ⟨#[]⟩ (.slice none 0 0) 30)
  rw [show (w.alloc (.cells #[.int .i64 5, .int .i64 n, .int .i64 e, .string s, sl] 30)).heap.size = w.heap.size + 1 by simp] at P0
  have ts := ba_yes (rfl : s = s)
  obtain ⟨b, hb⟩ : ∃ b : Bool, b = (decide (n = 0 ∧ e = 0 ∧ s.size ≤ 2000) && txt s) := ⟨_, rfl⟩
  rw [← hb]
  have HB := Lib.hid hb; clear hb
  by_cases h1 : s.size ≤ 2000
  case neg =>
    have H := Lib.hid (show b = false by rw [HB.out, decide_eq_false (fun h => h1 h.2.2)]; rfl)
    have h2 : (2000 : Int) < s.size := by omega
    clear h1 HB TX
    go_enter Tryd.func68, Tryd.ntmps68
    go_wp2_with fail
    go_ret
    exact ⟨by rw [H.out]; rfl, (by (repeat' (first | with_reducible exact Below.refl _ _ | with_reducible refine below_alloc ?_ _ ?_ | with_reducible refine Below.setCell ?_ ?_ _ | with_reducible refine Below.drew ?_ | with_reducible refine Go.below_drewN ?_ _ | with_reducible refine below_step ?_ (by assumption) ?_ | with_reducible refine below_mark ?_ (by assumption) ?_)); all_goals (first | omega | (simp; done) | (simp; omega)))⟩
  have h2 : ¬ (2000 : Int) < s.size := by omega
  cases ht : txt s
  case false =>
    rw [ht] at TX HB
    have H := Lib.hid (show b = false by rw [HB.out]; simp)
    clear h1 HB ht
    go_enter Tryd.func68, Tryd.ntmps68
    go_wp2_with fail
    refine (TX.out _ (by (repeat' (first | with_reducible exact Below.refl _ _ | with_reducible refine below_alloc ?_ _ ?_ | with_reducible refine Below.setCell ?_ ?_ _ | with_reducible refine Below.drew ?_ | with_reducible refine Go.below_drewN ?_ _ | with_reducible refine below_step ?_ (by assumption) ?_ | with_reducible refine below_mark ?_ (by assumption) ?_)); all_goals (first | omega | (simp; done) | (simp; omega)))).mono ?_
    rintro x0 w1 ⟨rfl, hb1⟩
    have hz1 := hb1.size
    simp at hz1
    obtain ⟨p0, p1, p2, p3, p4⟩ := ((B0.out.alloc _).stay hb1).cells
    have PX := Lib.hid (P0.out.stay hb1)
    obtain ⟨q0, q1, q2, q3, q4⟩ := PX.out.cells
    have f0 : ∀ o, w1.frozen? ⟨w.heap.size + 1, o, none⟩ = false := fun o => frozen_of_row w1 _ o _ _ PX.out
    go_wp2_with fail
    go_ret
    exact ⟨by rw [H.out]; rfl, (by (repeat' (first | with_reducible exact Below.refl _ _ | with_reducible refine below_alloc ?_ _ ?_ | with_reducible refine Below.setCell ?_ ?_ _ | with_reducible refine Below.drew ?_ | with_reducible refine Go.below_drewN ?_ _ | with_reducible refine below_step ?_ (by assumption) ?_ | with_reducible refine below_mark ?_ (by assumption) ?_)); all_goals (first | omega | (simp; done) | (simp; omega)))⟩
  case true =>
    rw [ht] at TX HB
    clear ht
    by_cases hn : n = 0
    case neg =>
      have H := Lib.hid (show b = false by rw [HB.out]; simp [hn])
      have t1 : (n == 0) = false := by simpa using hn
      clear h1 HB hn
      go_enter Tryd.func68, Tryd.ntmps68
      go_wp2_with fail
      refine (TX.out _ (by (repeat' (first | with_reducible exact Below.refl _ _ | with_reducible refine below_alloc ?_ _ ?_ | with_reducible refine Below.setCell ?_ ?_ _ | with_reducible refine Below.drew ?_ | with_reducible refine Go.below_drewN ?_ _ | with_reducible refine below_step ?_ (by assumption) ?_ | with_reducible refine below_mark ?_ (by assumption) ?_)); all_goals (first | omega | (simp; done) | (simp; omega)))).mono ?_
      rintro x0 w1 ⟨rfl, hb1⟩
      have hz1 := hb1.size
      simp at hz1
      obtain ⟨p0, p1, p2, p3, p4⟩ := ((B0.out.alloc _).stay hb1).cells
      have PX := Lib.hid (P0.out.stay hb1)
      obtain ⟨q0, q1, q2, q3, q4⟩ := PX.out.cells
      have f0 : ∀ o, w1.frozen? ⟨w.heap.size + 1, o, none⟩ = false := fun o => frozen_of_row w1 _ o _ _ PX.out
      go_wp2_with fail
      go_ret
      exact ⟨by rw [H.out]; rfl, (by (repeat' (first | with_reducible exact Below.refl _ _ | with_reducible refine below_alloc ?_ _ ?_ | with_reducible refine Below.setCell ?_ ?_ _ | with_reducible refine Below.drew ?_ | with_reducible refine Go.below_drewN ?_ _ | with_reducible refine below_step ?_ (by assumption) ?_ | with_reducible refine below_mark ?_ (by assumption) ?_)); all_goals (first | omega | (simp; done) | (simp; omega)))⟩
    by_cases he : e = 0
    case neg =>
      have H := Lib.hid (show b = false by rw [HB.out]; simp [he])
      have t2 : (e == 0) = false := by simpa using he
      subst hn
      clear h1 HB he
      go_enter Tryd.func68, Tryd.ntmps68
      go_wp2_with fail
      refine (TX.out _ (by (repeat' (first | with_reducible exact Below.refl _ _ | with_reducible refine below_alloc ?_ _ ?_ | with_reducible refine Below.setCell ?_ ?_ _ | with_reducible refine Below.drew ?_ | with_reducible refine Go.below_drewN ?_ _ | with_reducible refine below_step ?_ (by assumption) ?_ | with_reducible refine below_mark ?_ (by assumption) ?_)); all_goals (first | omega | (simp; done) | (simp; omega)))).mono ?_
      rintro x0 w1 ⟨rfl, hb1⟩
      have hz1 := hb1.size
      simp at hz1
      obtain ⟨p0, p1, p2, p3, p4⟩ := ((B0.out.alloc _).stay hb1).cells
      have PX := Lib.hid (P0.out.stay hb1)
      obtain ⟨q0, q1, q2, q3, q4⟩ := PX.out.cells
      have f0 : ∀ o, w1.frozen? ⟨w.heap.size + 1, o, none⟩ = false := fun o => frozen_of_row w1 _ o _ _ PX.out
      go_wp2_with fail
      go_ret
      exact ⟨by rw [H.out]; rfl, (by (repeat' (first | with_reducible exact Below.refl _ _ | with_reducible refine below_alloc ?_ _ ?_ | with_reducible refine Below.setCell ?_ ?_ _ | with_reducible refine Below.drew ?_ | with_reducible refine Go.below_drewN ?_ _ | with_reducible refine below_step ?_ (by assumption) ?_ | with_reducible refine below_mark ?_ (by assumption) ?_)); all_goals (first | omega | (simp; done) | (simp; omega)))⟩
    have H := Lib.hid (show b = true by rw [HB.out]; simp [hn, he, h1])
    subst hn
    subst he
    clear h1 HB
    go_enter Tryd.func68, Tryd.ntmps68
    go_wp2_with fail
    refine (TX.out _ (by (repeat' (first | with_reducible exact Below.refl _ _ | with_reducible refine below_alloc ?_ _ ?_ | with_reducible refine Below.setCell ?_ ?_ _ | with_reducible refine Below.drew ?_ | with_reducible refine Go.below_drewN ?_ _ | with_reducible refine below_step ?_ (by assumption) ?_ | with_reducible refine below_mark ?_ (by assumption) ?_)); all_goals (first | omega | (simp; done) | (simp; omega)))).mono ?_
    rintro x0 w1 ⟨rfl, hb1⟩
    have hz1 := hb1.size
    simp at hz1
    obtain ⟨p0, p1, p2, p3, p4⟩ := ((B0.out.alloc _).stay hb1).cells
    have PX := Lib.hid (P0.out.stay hb1)
    obtain ⟨q0, q1, q2, q3, q4⟩ := PX.out.cells
    have f0 : ∀ o, w1.frozen? ⟨w.heap.size + 1, o, none⟩ = false := fun o => frozen_of_row w1 _ o _ _ PX.out
    go_wp2_with fail
    go_ret
    exact ⟨by rw [H.out]; rfl, (by (repeat' (first | with_reducible exact Below.refl _ _ | with_reducible refine below_alloc ?_ _ ?_ | with_reducible refine Below.setCell ?_ ?_ _ | with_reducible refine Below.drew ?_ | with_reducible refine Go.below_drewN ?_ _ | with_reducible refine below_step ?_ (by assumption) ?_ | with_reducible refine below_mark ?_ (by assumption) ?_)); all_goals (first | omega | (simp; done) | (simp; omega)))⟩

set_option maxHeartbeats 2000000 in
theorem node_e (n e : Int) (s : ByteArray) (sl : Value) (w : World) (hsz : s.size ≤ 9223372036854775807) : Calls Tryd.prog 68 #[.agg #[.int .i64 6, .int .i64 n, .int .i64 e, .string s, sl]] w (NodeRet (decide (n = 0 ∧ e = 0 ∧ s.size ≤ 2000)) w) := by
  have B0 := Lib.hid (Box.new w 6 n e s sl 30)
  have P0 := Lib.hid (Box.new (w.alloc (.cells #[.int .i64 6, .int .i64 n, .int .i64 e, .string s, sl] 30)) 6 0 0 ⟨#[]⟩ (.slice none 0 0) 30)
  rw [show (w.alloc (.cells #[.int .i64 6, .int .i64 n, .int .i64 e, .string s, sl] 30)).heap.size = w.heap.size + 1 by simp] at P0
  have ts := ba_yes (rfl : s = s)
  obtain ⟨b, hb⟩ : ∃ b : Bool, b = decide (n = 0 ∧ e = 0 ∧ s.size ≤ 2000) := ⟨_, rfl⟩
  rw [← hb]
  have HB := Lib.hid hb; clear hb
  by_cases h1 : s.size ≤ 2000
  case neg =>
    have H := Lib.hid (show b = false by rw [HB.out, decide_eq_false (fun h => h1 h.2.2)])
    have h2 : (2000 : Int) < s.size := by omega
    clear h1 HB
    go_enter Tryd.func68, Tryd.ntmps68
    go_wp2_with fail
    go_ret
    exact ⟨by rw [H.out]; rfl, (by (repeat' (first | with_reducible exact Below.refl _ _ | with_reducible refine below_alloc ?_ _ ?_ | with_reducible refine Below.setCell ?_ ?_ _ | with_reducible refine Below.drew ?_ | with_reducible refine Go.below_drewN ?_ _ | with_reducible refine below_step ?_ (by assumption) ?_ | with_reducible refine below_mark ?_ (by assumption) ?_)); all_goals (first | omega | (simp; done) | (simp; omega)))⟩
  have h2 : ¬ (2000 : Int) < s.size := by omega
  by_cases hn : n = 0
  case neg =>
    have H := Lib.hid (show b = false by rw [HB.out]; simp [hn])
    have t1 : (n == 0) = false := by simpa using hn
    clear h1 HB hn
    go_enter Tryd.func68, Tryd.ntmps68
    go_wp2_with fail
    go_ret
    exact ⟨by rw [H.out]; rfl, (by (repeat' (first | with_reducible exact Below.refl _ _ | with_reducible refine below_alloc ?_ _ ?_ | with_reducible refine Below.setCell ?_ ?_ _ | with_reducible refine Below.drew ?_ | with_reducible refine Go.below_drewN ?_ _ | with_reducible refine below_step ?_ (by assumption) ?_ | with_reducible refine below_mark ?_ (by assumption) ?_)); all_goals (first | omega | (simp; done) | (simp; omega)))⟩
  by_cases he : e = 0
  case neg =>
    have H := Lib.hid (show b = false by rw [HB.out]; simp [he])
    have t2 : (e == 0) = false := by simpa using he
    subst hn
    clear h1 HB he
    go_enter Tryd.func68, Tryd.ntmps68
    go_wp2_with fail
    go_ret
    exact ⟨by rw [H.out]; rfl, (by (repeat' (first | with_reducible exact Below.refl _ _ | with_reducible refine below_alloc ?_ _ ?_ | with_reducible refine Below.setCell ?_ ?_ _ | with_reducible refine Below.drew ?_ | with_reducible refine Go.below_drewN ?_ _ | with_reducible refine below_step ?_ (by assumption) ?_ | with_reducible refine below_mark ?_ (by assumption) ?_)); all_goals (first | omega | (simp; done) | (simp; omega)))⟩
  have H := Lib.hid (show b = true by rw [HB.out]; simp [hn, he, h1])
  subst hn
  subst he
  clear h1 HB
  go_enter Tryd.func68, Tryd.ntmps68
  go_wp2_with fail
  go_ret
  exact ⟨by rw [H.out]; rfl, (by (repeat' (first | with_reducible exact Below.refl _ _ | with_reducible refine below_alloc ?_ _ ?_ | with_reducible refine Below.setCell ?_ ?_ _ | with_reducible refine Below.drew ?_ | with_reducible refine Go.below_drewN ?_ _ | with_reducible refine below_step ?_ (by assumption) ?_ | with_reducible refine below_mark ?_ (by assumption) ?_)); all_goals (first | omega | (simp; done) | (simp; omega)))⟩

set_option maxHeartbeats 2000000 in
theorem node_f (n e : Int) (s : ByteArray) (sl : Value) (w : World) : Calls Tryd.prog 68 #[.agg #[.int .i64 9, .int .i64 n, .int .i64 e, .string s, sl]] w (NodeRet (decide (0 ≤ n ∧ n ≤ 1000000 ∧ e = 0 ∧ s.size = 0)) w) := by
  obtain ⟨b, hb⟩ : ∃ b : Bool, b = decide (0 ≤ n ∧ n ≤ 1000000 ∧ e = 0 ∧ s.size = 0) := ⟨_, rfl⟩
  rw [← hb]
  have HB := Lib.hid hb; clear hb
  have tn : (n == n) = true := by simp
  by_cases h1 : 0 ≤ n ∧ n ≤ 1000000
  case neg =>
    have H := Lib.hid (show b = false by rw [HB.out, decide_eq_false (fun h => h1 ⟨h.1, h.2.1⟩)])
    have W1 := Lib.hid (fun W => within_no n 0 1000000 W (by omega))
    clear h1 HB
    go_enter Tryd.func68, Tryd.ntmps68
    go_wp2_with fail
    refine (W1.out _).mono ?_
    rintro x0 w1 ⟨rfl, rfl⟩
    go_wp2_with fail
    go_ret
    exact ⟨by rw [H.out]; rfl, (by (repeat' (first | with_reducible exact Below.refl _ _ | with_reducible refine below_alloc ?_ _ ?_ | with_reducible refine Below.setCell ?_ ?_ _ | with_reducible refine Below.drew ?_ | with_reducible refine Go.below_drewN ?_ _ | with_reducible refine below_step ?_ (by assumption) ?_ | with_reducible refine below_mark ?_ (by assumption) ?_)); all_goals (first | omega | (simp; done) | (simp; omega)))⟩
  have W1 := Lib.hid (fun W => within_yes n 0 1000000 W h1.1 h1.2)
  by_cases he : e = 0
  case neg =>
    have H := Lib.hid (show b = false by rw [HB.out, decide_eq_false (fun h => he h.2.2.1)])
    have t2 : (e == 0) = false := by simpa using he
    clear h1 HB he
    go_enter Tryd.func68, Tryd.ntmps68
    go_wp2_with fail
    refine (W1.out _).mono ?_
    rintro x0 w1 ⟨rfl, rfl⟩
    go_wp2_with fail
    go_ret
    exact ⟨by rw [H.out]; rfl, (by (repeat' (first | with_reducible exact Below.refl _ _ | with_reducible refine below_alloc ?_ _ ?_ | with_reducible refine Below.setCell ?_ ?_ _ | with_reducible refine Below.drew ?_ | with_reducible refine Go.below_drewN ?_ _ | with_reducible refine below_step ?_ (by assumption) ?_ | with_reducible refine below_mark ?_ (by assumption) ?_)); all_goals (first | omega | (simp; done) | (simp; omega)))⟩
  by_cases hs : s.size = 0
  case neg =>
    have H := Lib.hid (show b = false by rw [HB.out, decide_eq_false (fun h => hs h.2.2.2)])
    obtain ⟨s1, s2, s3⟩ := str_ne hs
    subst he
    clear h1 HB hs
    go_enter Tryd.func68, Tryd.ntmps68
    go_wp2_with fail
    refine (W1.out _).mono ?_
    rintro x0 w1 ⟨rfl, rfl⟩
    go_wp2_with fail
    go_ret
    exact ⟨by rw [H.out]; rfl, (by (repeat' (first | with_reducible exact Below.refl _ _ | with_reducible refine below_alloc ?_ _ ?_ | with_reducible refine Below.setCell ?_ ?_ _ | with_reducible refine Below.drew ?_ | with_reducible refine Go.below_drewN ?_ _ | with_reducible refine below_step ?_ (by assumption) ?_ | with_reducible refine below_mark ?_ (by assumption) ?_)); all_goals (first | omega | (simp; done) | (simp; omega)))⟩
  have H := Lib.hid (show b = true by rw [HB.out]; simp [h1, he, hs])
  obtain rfl := ba_empty hs
  subst he
  clear h1 HB hs
  go_enter Tryd.func68, Tryd.ntmps68
  go_wp2_with fail
  refine (W1.out _).mono ?_
  rintro x0 w1 ⟨rfl, rfl⟩
  go_wp2_with fail
  go_ret
  exact ⟨by rw [H.out]; rfl, (by (repeat' (first | with_reducible exact Below.refl _ _ | with_reducible refine below_alloc ?_ _ ?_ | with_reducible refine Below.setCell ?_ ?_ _ | with_reducible refine Below.drew ?_ | with_reducible refine Go.below_drewN ?_ _ | with_reducible refine below_step ?_ (by assumption) ?_ | with_reducible refine below_mark ?_ (by assumption) ?_)); all_goals (first | omega | (simp; done) | (simp; omega)))⟩

set_option maxHeartbeats 2000000 in
theorem node_g (k n e : Int) (s : ByteArray) (sl : Value) (w : World) (hk : k < 0 ∨ 9 < k) : Calls Tryd.prog 68 #[.agg #[.int .i64 k, .int .i64 n, .int .i64 e, .string s, sl]] w (NodeRet false w) := by
  have t0 : (k == 0) = false := by simp; omega
  have t1 : (k == 1) = false := by simp; omega
  have t2 : (k == 2) = false := by simp; omega
  have t3 : (k == 3) = false := by simp; omega
  have t4 : (k == 4) = false := by simp; omega
  have t5 : (k == 5) = false := by simp; omega
  have t6 : (k == 6) = false := by simp; omega
  have t7 : (k == 7) = false := by simp; omega
  have t8 : (k == 8) = false := by simp; omega
  have t9 : (k == 9) = false := by simp; omega
  clear hk
  go_enter Tryd.func68, Tryd.ntmps68
  go_wp2_with fail
  go_ret
  exact ⟨rfl, (by (repeat' (first | with_reducible exact Below.refl _ _ | with_reducible refine below_alloc ?_ _ ?_ | with_reducible refine Below.setCell ?_ ?_ _ | with_reducible refine Below.drew ?_ | with_reducible refine Go.below_drewN ?_ _ | with_reducible refine below_step ?_ (by assumption) ?_ | with_reducible refine below_mark ?_ (by assumption) ?_)); all_goals (first | omega | (simp; done) | (simp; omega)))⟩
theorem isNode_any (t : V) (sl : Value) (w : World) (hw : t.wf) (hE : Env w) : Calls Tryd.prog 68 #[t.agg sl] w (NodeRet (nodeB t) w) := by
  obtain ⟨wk, wn, we, ws⟩ := hw
  unfold nodeB V.agg
  by_cases h1 : t.k = 0 ∨ t.k = 1 ∨ t.k = 2 ∨ t.k = 7 ∨ t.k = 8
  · rw [if_pos h1]; exact node_a t.k t.n t.e t.s sl w h1
  rw [if_neg h1]
  by_cases h2 : t.k = 3
  · rw [if_pos h2]; exact node_b t.k t.n t.e t.s sl w h2
  rw [if_neg h2]
  by_cases h3 : t.k = 4
  · rw [if_pos h3, h3]; exact node_c t.n t.e t.s sl w wn we
  rw [if_neg h3]
  by_cases h4 : t.k = 5
  · rw [if_pos h4, h4]; exact node_d t.n t.e t.s sl w ws hE
  rw [if_neg h4]
  by_cases h5 : t.k = 6
  · rw [if_pos h5, h5]; exact node_e t.n t.e t.s sl w ws
  rw [if_neg h5]
  by_cases h6 : t.k = 9
  · rw [if_pos h6, h6]; exact node_f t.n t.e t.s sl w
  rw [if_neg h6]
  exact node_g t.k t.n t.e t.s sl w (by omega)

end Go.Proofs.YtaphlemmlmdkiaaDoor
