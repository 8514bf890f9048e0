/- Lemmas for the statement of the last text of this claim: texts joined. -/
import Derived.Test.YtaphlemmlmdkiaaDoorRm01
import Derived.WalkSpells
import Derived.Lib.Hide
import Derived.Deep.RegionHeld3
import Derived.Deep.QuietTactic
import Derived.BigQuiet
import Derived.OwnWalk
import Derived.IntWalk
import Derived.Test.YtaphlemmlmdkiaaDoorRows
import Derived.WalkKit
import Derived.ProofKit
import Derived.OpenShut
import Derived.ShutString
import Derived.Test.YtaphlemmlmdkiaaDoorShelfP
import Derived.Lib.ReplaceLaws
import Derived.WalkSmall
import Derived.Shelf.SlSorted.Search
import Derived.Deep.RegionWith
import Derived.StillTailTactics
namespace Go.Proofs.YtaphlemmlmdkiaaDoor
set_option linter.unusedSimpArgs false
set_option linter.unusedVariables false
set_option maxRecDepth 100000
open Go.RowKit
theorem and_i64 (x : Int) (k : Nat) (m : Int) (hm : m = ((2 ^ k - 1 : Nat) : Int)) (hk : k ≤ 8) (h0 : 0 ≤ x) (h1 : x < 9223372036854775808) : bits BinOp.and IntKind.i64 x m = x % (2 ^ k : Nat) := by
  obtain ⟨n, rfl⟩ := Int.eq_ofNat_of_zero_le h0
  subst hm
  have h2 : n < 2 ^ 64 := by omega
  have hk2 : 2 ^ k ≤ 2 ^ 8 := Nat.pow_le_pow_right (by decide) hk
  have h3 : 2 ^ k - 1 < 2 ^ 64 := by omega
  have hpos : 0 < 2 ^ k := Nat.pos_of_ne_zero (by simp)
  have key : (BitVec.ofInt 64 ((n : Nat) : Int) &&& BitVec.ofInt 64 (((2 ^ k - 1 : Nat)) : Int)).toNat = n % 2 ^ k := by
    rw [BitVec.toNat_and, BitVec.ofInt_natCast, BitVec.ofInt_natCast, BitVec.toNat_ofNat, BitVec.toNat_ofNat, Nat.mod_eq_of_lt h2, Nat.mod_eq_of_lt h3, Nat.and_two_pow_sub_one_eq_mod]
  have hlt : n % 2 ^ k < 2 ^ 8 := Nat.lt_of_lt_of_le (Nat.mod_lt _ hpos) hk2
  show IntKind.i64.wrap (((BitVec.ofInt 64 ((n : Nat) : Int) &&& BitVec.ofInt 64 (((2 ^ k - 1 : Nat)) : Int)).toNat : Nat) : Int) = ((n % 2 ^ k : Nat) : Int)
  rw [key]
  generalize n % 2 ^ k = q at *
  simp only [IntKind.wrap, IntKind.signed, IntKind.bits]
  simp
  omega
theorem u8w (x : Int) (h0 : 0 ≤ x) (h1 : x < 256) : IntKind.u8.wrap x = x := by
  simp only [IntKind.wrap, IntKind.signed, IntKind.bits]; simp; omega
theorem run_strL (W : World) (b n : Nat) (xs : List Int) (hn : xs.length = n) (h : ∀ j x, xs[j]? = some x → W.cell? ⟨b, j, none⟩ = some (.int .u8 x)) :
    (convert 70 9 (.slice (some ⟨b, 0, none⟩) n n)).run Tryd.prog W = .ok (bstr (xs.map fun x => UInt8.ofNat x.toNat)) W := by
  rw [run_convert_bytes_string W 70 9 5 _ _ _ Tryd.underlying70 Tryd.underlying5 Tryd.underlying9]
  subst hn
  rw [run_bytesToString W _ _ _ xs (by
    have h1 := run_loadCells_list (P := Tryd.prog) (w := W) ⟨b, 0, none⟩ (xs.map (Value.int .u8)) (by
      intro j v hv
      rw [List.getElem?_map] at hv
      obtain ⟨x, hx, rfl⟩ := Option.map_eq_some_iff.1 hv
      rw [addr_add _ _ rfl, Nat.zero_add]
      exact h j x hx)
    rw [List.length_map] at h1
    exact h1)]
  have : ∀ (xs : List Int) (s : ByteArray), xs.foldl (fun r n => r.push (UInt8.ofNat n.toNat)) s = ⟨s.data ++ (xs.map fun x => UInt8.ofNat x.toNat).toArray⟩ := by
    intro xs
    induction xs with
    | nil => intro s; simp
    | cons c l ih => intro s; simp only [List.foldl_cons, List.map_cons]; rw [ih]; simp [ByteArray.push]
  rw [this]
  simp [bstr]
theorem run_new1 (W : World) (x0 : Int) : (convert 70 9 (.slice (some ⟨W.heap.size, 0, none⟩) 1 1)).run Tryd.prog (W.alloc (.cells #[.int .u8 x0] 5)) = .ok (bstr [UInt8.ofNat x0.toNat]) (W.alloc (.cells #[.int .u8 x0] 5)) := by
  have hh := heap_alloc_new W (.cells #[.int .u8 x0] 5)
  refine run_strL _ W.heap.size 1 [x0] rfl (fun j x hx => ?_)
  match j, hx with
    | 0, hx => simp at hx; subst hx; rw [cell_of_row _ _ _ _ _ (0, 0) hh]; rfl
    | j + 1, hx => simp at hx
theorem run_new2 (W : World) (x0 x1 : Int) : (convert 70 9 (.slice (some ⟨W.heap.size, 0, none⟩) 2 2)).run Tryd.prog (W.alloc (.cells #[.int .u8 x0, .int .u8 x1] 5)) = .ok (bstr [UInt8.ofNat x0.toNat, UInt8.ofNat x1.toNat]) (W.alloc (.cells #[.int .u8 x0, .int .u8 x1] 5)) := by
  have hh := heap_alloc_new W (.cells #[.int .u8 x0, .int .u8 x1] 5)
  refine run_strL _ W.heap.size 2 [x0, x1] rfl (fun j x hx => ?_)
  match j, hx with
    | 0, hx => simp at hx; subst hx; rw [cell_of_row _ _ _ _ _ (0, 0) hh]; rfl
    | 1, hx => simp at hx; subst hx; rw [cell_of_row _ _ _ _ _ (0, 0) hh]; rfl
    | j + 2, hx => simp at hx
theorem run_new3 (W : World) (x0 x1 x2 : Int) : (convert 70 9 (.slice (some ⟨W.heap.size, 0, none⟩) 3 3)).run Tryd.prog (W.alloc (.cells #[.int .u8 x0, .int .u8 x1, .int .u8 x2] 5)) = .ok (bstr [UInt8.ofNat x0.toNat, UInt8.ofNat x1.toNat, UInt8.ofNat x2.toNat]) (W.alloc (.cells #[.int .u8 x0, .int .u8 x1, .int .u8 x2] 5)) := by
  have hh := heap_alloc_new W (.cells #[.int .u8 x0, .int .u8 x1, .int .u8 x2] 5)
  refine run_strL _ W.heap.size 3 [x0, x1, x2] rfl (fun j x hx => ?_)
  match j, hx with
    | 0, hx => simp at hx; subst hx; rw [cell_of_row _ _ _ _ _ (0, 0) hh]; rfl
    | 1, hx => simp at hx; subst hx; rw [cell_of_row _ _ _ _ _ (0, 0) hh]; rfl
    | 2, hx => simp at hx; subst hx; rw [cell_of_row _ _ _ _ _ (0, 0) hh]; rfl
    | j + 3, hx => simp at hx
theorem run_new4 (W : World) (x0 x1 x2 x3 : Int) : (convert 70 9 (.slice (some ⟨W.heap.size, 0, none⟩) 4 4)).run Tryd.prog (W.alloc (.cells #[.int .u8 x0, .int .u8 x1, .int .u8 x2, .int .u8 x3] 5)) = .ok (bstr [UInt8.ofNat x0.toNat, UInt8.ofNat x1.toNat, UInt8.ofNat x2.toNat, UInt8.ofNat x3.toNat]) (W.alloc (.cells #[.int .u8 x0, .int .u8 x1, .int .u8 x2, .int .u8 x3] 5)) := by
  have hh := heap_alloc_new W (.cells #[.int .u8 x0, .int .u8 x1, .int .u8 x2, .int .u8 x3] 5)
  refine run_strL _ W.heap.size 4 [x0, x1, x2, x3] rfl (fun j x hx => ?_)
  match j, hx with
    | 0, hx => simp at hx; subst hx; rw [cell_of_row _ _ _ _ _ (0, 0) hh]; rfl
    | 1, hx => simp at hx; subst hx; rw [cell_of_row _ _ _ _ _ (0, 0) hh]; rfl
    | 2, hx => simp at hx; subst hx; rw [cell_of_row _ _ _ _ _ (0, 0) hh]; rfl
    | 3, hx => simp at hx; subst hx; rw [cell_of_row _ _ _ _ _ (0, 0) hh]; rfl
    | j + 4, hx => simp at hx
def StrRet (l : List UInt8) (w : World) (e : Ending) (w' : World) : Prop := e = .returned (bstr l) ∧ Below w.heap.size w w'
set_option maxHeartbeats 400000 in
theorem putSign_no (n : Int) (w : World) (h : ¬ isSg n) : Calls Tryd.prog 111 #[.int .i64 n] w (StrRet [] w) := by
  by_cases h1 : n < 0 ∨ 1114111 < n
  · have HI1 := Lib.hid (fun W => l01In_no n 0 1114111 W h1)
    clear h h1
    go_enter Tryd.func111, Tryd.ntmps111
    go_wp2_with fail
    refine (HI1.out _).mono ?_
    rintro e w1 ⟨rfl, rfl⟩
    go_wp2_with fail
    go_ret
    exact ⟨rfl, (by (repeat' (first | with_reducible exact Below.refl _ _ | with_reducible refine below_alloc ?_ _ ?_ | with_reducible refine Below.setCell ?_ ?_ _ | with_reducible refine Below.drew ?_ | with_reducible refine Go.below_drewN ?_ _ | with_reducible refine below_step ?_ (by assumption) ?_ | with_reducible refine below_mark ?_ (by assumption) ?_)); all_goals (first | omega | (simp; done) | (simp; omega)))⟩
  · have HI1 := Lib.hid (fun W => l01In_yes n 0 1114111 W (by omega) (by omega))
    have HI2 := Lib.hid (fun W => l01In_yes n 55296 57343 W (by unfold isSg at h; omega) (by unfold isSg at h; omega))
    clear h h1
    go_enter Tryd.func111, Tryd.ntmps111
    go_wp2_with fail
    refine (HI1.out _).mono ?_
    rintro e w1 ⟨rfl, rfl⟩
    go_wp2_with fail
    refine (HI2.out _).mono ?_
    rintro e w2 ⟨rfl, rfl⟩
    go_wp2_with fail
    go_ret
    exact ⟨rfl, (by (repeat' (first | with_reducible exact Below.refl _ _ | with_reducible refine below_alloc ?_ _ ?_ | with_reducible refine Below.setCell ?_ ?_ _ | with_reducible refine Below.drew ?_ | with_reducible refine Go.below_drewN ?_ _ | with_reducible refine below_step ?_ (by assumption) ?_ | with_reducible refine below_mark ?_ (by assumption) ?_)); all_goals (first | omega | (simp; done) | (simp; omega)))⟩
theorem putZ_1 (n : Int) (h0 : 0 ≤ n) (h : n < 128) : putS n = [UInt8.ofNat n.toNat] := by
  obtain ⟨m, rfl⟩ := Int.eq_ofNat_of_zero_le h0
  rw [putS_1 (by omega)]; simp
theorem putZ_2 (n : Int) (h0 : 128 ≤ n) (h : n < 2048) : putS n = [UInt8.ofNat (192 + n / 64).toNat, UInt8.ofNat (128 + n % 64).toNat] := by
  obtain ⟨m, rfl⟩ := Int.eq_ofNat_of_zero_le (show 0 ≤ n by omega)
  rw [putS_2 (by omega) (by omega), show (192 + (m : Int) / 64).toNat = 192 + m / 64 by omega, show (128 + (m : Int) % 64).toNat = 128 + m % 64 by omega]
theorem putZ_3 (n : Int) (h0 : 2048 ≤ n) (h : n < 65536) (hs : ¬ (55296 ≤ n ∧ n ≤ 57343)) : putS n = [UInt8.ofNat (224 + n / 4096).toNat, UInt8.ofNat (128 + n / 64 % 64).toNat, UInt8.ofNat (128 + n % 64).toNat] := by
  obtain ⟨m, rfl⟩ := Int.eq_ofNat_of_zero_le (show 0 ≤ n by omega)
  rw [putS_3 (by omega) (by omega) (by omega), show (224 + (m : Int) / 4096).toNat = 224 + m / 4096 by omega, show (128 + (m : Int) / 64 % 64).toNat = 128 + m / 64 % 64 by omega, show (128 + (m : Int) % 64).toNat = 128 + m % 64 by omega]
theorem putZ_4 (n : Int) (h0 : 65536 ≤ n) (h : n ≤ 1114111) : putS n = [UInt8.ofNat (240 + n / 262144).toNat, UInt8.ofNat (128 + n / 4096 % 64).toNat, UInt8.ofNat (128 + n / 64 % 64).toNat, UInt8.ofNat (128 + n % 64).toNat] := by
  obtain ⟨m, rfl⟩ := Int.eq_ofNat_of_zero_le (show 0 ≤ n by omega)
  rw [putS_4 (by omega) (by omega), show (240 + (m : Int) / 262144).toNat = 240 + m / 262144 by omega, show (128 + (m : Int) / 4096 % 64).toNat = 128 + m / 4096 % 64 by omega, show (128 + (m : Int) / 64 % 64).toNat = 128 + m / 64 % 64 by omega, show (128 + (m : Int) % 64).toNat = 128 + m % 64 by omega]
set_option maxHeartbeats 1000000 in
theorem putSign_yes (n : Int) (w : World) (h : isSg n) : Calls Tryd.prog 111 #[.int .i64 n] w (StrRet (putS n) w) := by
  obtain ⟨h0, h1, h2⟩ := h
  have HI1 := Lib.hid (fun W => l01In_yes n 0 1114111 W h0 h1)
  have HI2 := Lib.hid (fun W => l01In_no n 55296 57343 W (by omega))
  have a1 : bits BinOp.and IntKind.i64 n 63 = n % 64 := and_i64 _ 6 63 (by decide) (by decide) (by omega) (by omega)
  have a2 : bits BinOp.and IntKind.i64 (n / 64) 63 = n / 64 % 64 := and_i64 _ 6 63 (by decide) (by decide) (by omega) (by omega)
  have a3 : bits BinOp.and IntKind.i64 (n / 4096) 63 = n / 4096 % 64 := and_i64 _ 6 63 (by decide) (by decide) (by omega) (by omega)
  by_cases c1 : n < 128
  · have H := Lib.hid (putZ_1 n h0 c1)
    have hc := run_new1
    have w1 := u8w n (by omega) (by omega)
    clear a1 a2 a3 h2
    rw [H.out]
    go_enter Tryd.func111, Tryd.ntmps111
    go_wp2_with fail
    refine (HI1.out _).mono ?_
    rintro e w1 ⟨rfl, rfl⟩
    go_wp2_with fail
    refine (HI2.out _).mono ?_
    rintro e w2 ⟨rfl, rfl⟩
    go_wp2_with fail
    go_ret
    exact ⟨rfl, (by (repeat' (first | with_reducible exact Below.refl _ _ | with_reducible refine below_alloc ?_ _ ?_ | with_reducible refine Below.setCell ?_ ?_ _ | with_reducible refine Below.drew ?_ | with_reducible refine Go.below_drewN ?_ _ | with_reducible refine below_step ?_ (by assumption) ?_ | with_reducible refine below_mark ?_ (by assumption) ?_)); all_goals (first | omega | (simp; done) | (simp; omega)))⟩
  · by_cases c2 : n < 2048
    · have H := Lib.hid (putZ_2 n (by omega) c2)
      have hc := run_new2
      have w1 := u8w (192 + n / 64) (by omega) (by omega)
      have w2 := u8w (128 + n % 64) (by omega) (by omega)
      clear a2 a3 h2
      rw [H.out]
      go_enter Tryd.func111, Tryd.ntmps111
      go_wp2_with fail
      refine (HI1.out _).mono ?_
      rintro e w1 ⟨rfl, rfl⟩
      go_wp2_with fail
      refine (HI2.out _).mono ?_
      rintro e w2 ⟨rfl, rfl⟩
      go_wp2_with fail
      go_ret
      exact ⟨rfl, (by (repeat' (first | with_reducible exact Below.refl _ _ | with_reducible refine below_alloc ?_ _ ?_ | with_reducible refine Below.setCell ?_ ?_ _ | with_reducible refine Below.drew ?_ | with_reducible refine Go.below_drewN ?_ _ | with_reducible refine below_step ?_ (by assumption) ?_ | with_reducible refine below_mark ?_ (by assumption) ?_)); all_goals (first | omega | (simp; done) | (simp; omega)))⟩
    · by_cases c3 : n < 65536
      · have H := Lib.hid (putZ_3 n (by omega) c3 h2)
        have hc := run_new3
        have w1 := u8w (224 + n / 4096) (by omega) (by omega)
        have w2 := u8w (128 + n / 64 % 64) (by omega) (by omega)
        have w3 := u8w (128 + n % 64) (by omega) (by omega)
        clear a3 h2
        rw [H.out]
        go_enter Tryd.func111, Tryd.ntmps111
        go_wp2_with fail
        refine (HI1.out _).mono ?_
        rintro e w1 ⟨rfl, rfl⟩
        go_wp2_with fail
        refine (HI2.out _).mono ?_
        rintro e w2 ⟨rfl, rfl⟩
        go_wp2_with fail
        go_ret
        exact ⟨rfl, (by (repeat' (first | with_reducible exact Below.refl _ _ | with_reducible refine below_alloc ?_ _ ?_ | with_reducible refine Below.setCell ?_ ?_ _ | with_reducible refine Below.drew ?_ | with_reducible refine Go.below_drewN ?_ _ | with_reducible refine below_step ?_ (by assumption) ?_ | with_reducible refine below_mark ?_ (by assumption) ?_)); all_goals (first | omega | (simp; done) | (simp; omega)))⟩
      · have H := Lib.hid (putZ_4 n (by omega) h1)
        have hc := run_new4
        have w1 := u8w (240 + n / 262144) (by omega) (by omega)
        have w2 := u8w (128 + n / 4096 % 64) (by omega) (by omega)
        have w3 := u8w (128 + n / 64 % 64) (by omega) (by omega)
        have w4 := u8w (128 + n % 64) (by omega) (by omega)
        clear h2
        rw [H.out]
        go_enter Tryd.func111, Tryd.ntmps111
        go_wp2_with fail
        refine (HI1.out _).mono ?_
        rintro e w1 ⟨rfl, rfl⟩
        go_wp2_with fail
        refine (HI2.out _).mono ?_
        rintro e w2 ⟨rfl, rfl⟩
        go_wp2_with fail
        go_ret
        exact ⟨rfl, (by (repeat' (first | with_reducible exact Below.refl _ _ | with_reducible refine below_alloc ?_ _ ?_ | with_reducible refine Below.setCell ?_ ?_ _ | with_reducible refine Below.drew ?_ | with_reducible refine Go.below_drewN ?_ _ | with_reducible refine below_step ?_ (by assumption) ?_ | with_reducible refine below_mark ?_ (by assumption) ?_)); all_goals (first | omega | (simp; done) | (simp; omega)))⟩
theorem putSign_any (n : Int) (w : World) : Calls Tryd.prog 111 #[.int .i64 n] w (StrRet (putS n) w) := by
  by_cases h : isSg n
  · exact putSign_yes n w h
  · rw [putS_no h]; exact putSign_no n w h
def Int2Ret (a b : Int) (w : World) (e : Ending) (w' : World) : Prop := e = .returned (.tuple #[.int .i64 a, .int .i64 b]) ∧ w' = w
set_option maxHeartbeats 1000000 in
theorem l01Many_any (b : Nat) (x : Int) (hx : x = b) (hb : b < 256) (w : World) : Calls Tryd.prog 110 #[.int .i64 x] w (Int2Ret (manyOf b) (headOf b) w) := by
  have h0 : 0 ≤ x := by omega
  have h1 : x < 256 := by omega
  have a1 : bits BinOp.and IntKind.i64 x 31 = x % 32 := and_i64 _ 5 31 (by decide) (by decide) (by omega) (by omega)
  have a2 : bits BinOp.and IntKind.i64 x 15 = x % 16 := and_i64 _ 4 15 (by decide) (by decide) (by omega) (by omega)
  have a3 : bits BinOp.and IntKind.i64 x 7 = x % 8 := and_i64 _ 3 7 (by decide) (by decide) (by omega) (by omega)
  have HX := Lib.hid hx
  by_cases c1 : b < 128
  · have H := Lib.hid (show (manyOf b : Int) = 1 ∧ (headOf b : Int) = x by rw [HX.out]; unfold manyOf headOf; rw [if_pos c1, if_pos c1]; simp)
    have h2 : x < 128 := by omega
    rw [H.out.1, H.out.2]
    clear hx c1
    go_enter Tryd.func110, Tryd.ntmps110
    go_wp2_with fail
    go_ret2
    exact ⟨rfl, rfl⟩
  have h2 : ¬ x < 128 := by omega
  by_cases c2 : b < 192
  · have H := Lib.hid (show (manyOf b : Int) = 0 ∧ (headOf b : Int) = 0 by unfold manyOf headOf; rw [if_neg c1, if_neg c1, if_pos c2, if_pos c2]; simp)
    have HI1 := Lib.hid (fun W => l01In_no x 192 223 W (by omega))
    have HI2 := Lib.hid (fun W => l01In_no x 224 239 W (by omega))
    have HI3 := Lib.hid (fun W => l01In_no x 240 247 W (by omega))
    rw [H.out.1, H.out.2]
    clear hx c1 c2
    go_enter Tryd.func110, Tryd.ntmps110
    go_wp2_with fail
    refine (HI1.out _).mono ?_
    rintro e w1 ⟨rfl, rfl⟩
    go_wp2_with fail
    refine (HI2.out _).mono ?_
    rintro e w2 ⟨rfl, rfl⟩
    go_wp2_with fail
    refine (HI3.out _).mono ?_
    rintro e w3 ⟨rfl, rfl⟩
    go_wp2_with fail
    go_ret2
    exact ⟨rfl, rfl⟩
  by_cases c3 : b < 224
  · have H := Lib.hid (show (manyOf b : Int) = 2 ∧ (headOf b : Int) = x % 32 by rw [HX.out]; unfold manyOf headOf; rw [if_neg c1, if_neg c1, if_neg c2, if_neg c2, if_pos c3, if_pos c3]; omega)
    have HI1 := Lib.hid (fun W => l01In_yes x 192 223 W (by omega) (by omega))
    rw [H.out.1, H.out.2]
    clear hx c1 c2 c3
    go_enter Tryd.func110, Tryd.ntmps110
    go_wp2_with fail
    refine (HI1.out _).mono ?_
    rintro e w1 ⟨rfl, rfl⟩
    go_wp2_with fail
    go_ret2
    exact ⟨rfl, rfl⟩
  by_cases c4 : b < 240
  · have H := Lib.hid (show (manyOf b : Int) = 3 ∧ (headOf b : Int) = x % 16 by rw [HX.out]; unfold manyOf headOf; rw [if_neg c1, if_neg c1, if_neg c2, if_neg c2, if_neg c3, if_neg c3, if_pos c4, if_pos c4]; omega)
    have HI1 := Lib.hid (fun W => l01In_no x 192 223 W (by omega))
    have HI2 := Lib.hid (fun W => l01In_yes x 224 239 W (by omega) (by omega))
    rw [H.out.1, H.out.2]
    clear hx c1 c2 c3 c4
    go_enter Tryd.func110, Tryd.ntmps110
    go_wp2_with fail
    refine (HI1.out _).mono ?_
    rintro e w1 ⟨rfl, rfl⟩
    go_wp2_with fail
    refine (HI2.out _).mono ?_
    rintro e w2 ⟨rfl, rfl⟩
    go_wp2_with fail
    go_ret2
    exact ⟨rfl, rfl⟩
  have HI1 := Lib.hid (fun W => l01In_no x 192 223 W (by omega))
  have HI2 := Lib.hid (fun W => l01In_no x 224 239 W (by omega))
  by_cases c5 : b < 248
  · have H := Lib.hid (show (manyOf b : Int) = 4 ∧ (headOf b : Int) = x % 8 by rw [HX.out]; unfold manyOf headOf; rw [if_neg c1, if_neg c1, if_neg c2, if_neg c2, if_neg c3, if_neg c3, if_neg c4, if_neg c4, if_pos c5, if_pos c5]; omega)
    have HI3 := Lib.hid (fun W => l01In_yes x 240 247 W (by omega) (by omega))
    rw [H.out.1, H.out.2]
    clear hx c1 c2 c3 c4 c5
    go_enter Tryd.func110, Tryd.ntmps110
    go_wp2_with fail
    refine (HI1.out _).mono ?_
    rintro e w1 ⟨rfl, rfl⟩
    go_wp2_with fail
    refine (HI2.out _).mono ?_
    rintro e w2 ⟨rfl, rfl⟩
    go_wp2_with fail
    refine (HI3.out _).mono ?_
    rintro e w3 ⟨rfl, rfl⟩
    go_wp2_with fail
    go_ret2
    exact ⟨rfl, rfl⟩
  · have H := Lib.hid (show (manyOf b : Int) = 0 ∧ (headOf b : Int) = 0 by unfold manyOf headOf; rw [if_neg c1, if_neg c1, if_neg c2, if_neg c2, if_neg c3, if_neg c3, if_neg c4, if_neg c4, if_neg c5, if_neg c5]; simp)
    have HI3 := Lib.hid (fun W => l01In_no x 240 247 W (by omega))
    rw [H.out.1, H.out.2]
    clear hx c1 c2 c3 c4 c5
    go_enter Tryd.func110, Tryd.ntmps110
    go_wp2_with fail
    refine (HI1.out _).mono ?_
    rintro e w1 ⟨rfl, rfl⟩
    go_wp2_with fail
    refine (HI2.out _).mono ?_
    rintro e w2 ⟨rfl, rfl⟩
    go_wp2_with fail
    refine (HI3.out _).mono ?_
    rintro e w3 ⟨rfl, rfl⟩
    go_wp2_with fail
    go_ret2
    exact ⟨rfl, rfl⟩
def getSg (s : ByteArray) (i : Int) : Int × Int :=
  if i < 0 ∨ (s.size : Int) ≤ i then (-1, -1) else if badD (s.data.toList.drop i.toNat) then (-1, -1) else (((Lib.decodeL (s.data.toList.drop i.toNat)).1 : Int), i + (Lib.decodeL (s.data.toList.drop i.toNat)).2)
def SgRet (p : Int × Int) (w : World) (e : Ending) (w' : World) : Prop := e = .returned (.tuple #[.int .i64 p.1, .int .i64 p.2]) ∧ Below w.heap.size w w'
set_option maxHeartbeats 400000 in
theorem getSign_out (s : ByteArray) (i : Int) (w : World) (hs : s.size ≤ 9223372036854775807) (hi0 : -9223372036854775808 ≤ i) (hi1 : i ≤ 9223372036854775807) (h : i < 0 ∨ (s.size : Int) ≤ i) :
    Calls Tryd.prog 106 #[.string s, .int .i64 i] w (SgRet (getSg s i) w) := by
  have H := Lib.hid (show getSg s i = (-1, -1) by unfold getSg; rw [if_pos h])
  rw [H.out]
  by_cases h0 : i < 0
  · clear h
    go_enter Tryd.func106, Tryd.ntmps106
    go_wp2_with fail
    go_ret2
    exact ⟨rfl, (by (repeat' (first | with_reducible exact Below.refl _ _ | with_reducible refine below_alloc ?_ _ ?_ | with_reducible refine Below.setCell ?_ ?_ _ | with_reducible refine Below.drew ?_ | with_reducible refine Go.below_drewN ?_ _ | with_reducible refine below_step ?_ (by assumption) ?_ | with_reducible refine below_mark ?_ (by assumption) ?_)); all_goals (first | omega | (simp; done) | (simp; omega)))⟩
  · have h2 : (s.size : Int) ≤ i := by omega
    clear h
    go_enter Tryd.func106, Tryd.ntmps106
    go_wp2_with fail
    go_ret2
    exact ⟨rfl, (by (repeat' (first | with_reducible exact Below.refl _ _ | with_reducible refine below_alloc ?_ _ ?_ | with_reducible refine Below.setCell ?_ ?_ _ | with_reducible refine Below.drew ?_ | with_reducible refine Go.below_drewN ?_ _ | with_reducible refine below_step ?_ (by assumption) ?_ | with_reducible refine below_mark ?_ (by assumption) ?_)); all_goals (first | omega | (simp; done) | (simp; omega)))⟩
theorem getD_drop (s : ByteArray) (p j : Nat) (h : p + j < s.size) : (s.data.toList.drop p).getD j 0 = s[p + j] := by
  have hl : p + j < s.data.toList.length := by rw [Array.length_toList]; exact h
  rw [List.getD_eq_getElem?_getD, List.getElem?_drop, List.getElem?_eq_getElem hl]
  rfl
set_option maxHeartbeats 1000000 in
theorem getSign_in (s : ByteArray) (p : Nat) (w : World) (hs : s.size ≤ 9223372036854775807) (h : p < s.size) :
    Calls Tryd.prog 106 #[.string s, .int .i64 p] w (SgRet (getSg s p) w) := by
  have hl : (s.data.toList.drop p).length = s.size - p := by rw [List.length_drop, Array.length_toList]; rfl
  have hb0 : ((s.data.toList.drop p).getD 0 0).toNat = (s[p]).toNat := by rw [getD_drop s p 0 h]; rfl
  have HN := Lib.hid (get_none (s.data.toList.drop p) (by omega))
  have HS := Lib.hid (get_some (s.data.toList.drop p))
  rw [hb0] at HN HS
  have hlt := (s[p]).toNat_lt
  have MA := Lib.hid (fun W => l01Many_any (s[p]).toNat ((s[p]).toNat : Int) rfl (by omega) W)
  have hm4 := manyOf_le (s[p]).toNat
  have HG := Lib.hid (show getSg s p = if badD (s.data.toList.drop p) then (-1, -1) else (((Lib.decodeL (s.data.toList.drop p)).1 : Int), (p : Int) + (Lib.decodeL (s.data.toList.drop p)).2) by
    unfold getSg; rw [if_neg (by omega)]; rfl)
  have HH := Lib.hid (headOf_lt (s[p]).toNat)
  have HL := Lib.hid hl
  clear hl
  generalize getSg s p = g at *
  generalize hm : manyOf (s[p]).toNat = m at *
  generalize headOf (s[p]).toNat = h0 at *
  have HM := Lib.hid hm; clear hm
  have hsp : (p : Int) < s.size := by omega
  by_cases hc : m = 0 ∨ s.size - p < m
  · have HB := Lib.hid (HN.out (by rw [HL.out]; exact hc))
    have HV := Lib.hid (show g = (-1, -1) by rw [HG.out, if_pos HB.out])
    by_cases hm0 : m = 0
    · subst hm0
      clear hc HS HN
      go_enter Tryd.func106, Tryd.ntmps106
      go_wp2_with fail
      refine (MA.out _).mono ?_
      rintro e w1 ⟨rfl, rfl⟩
      go_wp2_with fail
      go_ret2
      exact ⟨by rw [HV.out]; rfl, (by (repeat' (first | with_reducible exact Below.refl _ _ | with_reducible refine below_alloc ?_ _ ?_ | with_reducible refine Below.setCell ?_ ?_ _ | with_reducible refine Below.drew ?_ | with_reducible refine Go.below_drewN ?_ _ | with_reducible refine below_step ?_ (by assumption) ?_ | with_reducible refine below_mark ?_ (by assumption) ?_)); all_goals (first | omega | (simp; done) | (simp; omega)))⟩
    · have h2 : ((s.size : Int) - p) < m := by omega
      have h3 : ¬ (m : Int) = 0 := by omega
      have h4 : ((m : Int) == 0) = false := by simpa using hm0
      clear hc HS HN
      go_enter Tryd.func106, Tryd.ntmps106
      go_wp2_with fail
      refine (MA.out _).mono ?_
      rintro e w1 ⟨rfl, rfl⟩
      go_wp2_with fail
      go_ret2
      exact ⟨by rw [HV.out]; rfl, (by (repeat' (first | with_reducible exact Below.refl _ _ | with_reducible refine below_alloc ?_ _ ?_ | with_reducible refine Below.setCell ?_ ?_ _ | with_reducible refine Below.drew ?_ | with_reducible refine Go.below_drewN ?_ _ | with_reducible refine below_step ?_ (by assumption) ?_ | with_reducible refine below_mark ?_ (by assumption) ?_)); all_goals (first | omega | (simp; done) | (simp; omega)))⟩
  · have h1 : m ≠ 0 := by omega
    have h2 : m ≤ s.size - p := by omega
    have h3 : ¬ ((s.size : Int) - p) < m := by omega
    have h4 : ((m : Int) == 0) = false := by simpa using h1
    have HQ := Lib.hid (HS.out h1 (by rw [HL.out]; exact h2))
    clear hc HS HN
    go_enter Tryd.func106, Tryd.ntmps106
    go_wp2_with fail
    refine (MA.out _).mono ?_
    rintro e w1 ⟨rfl, rfl⟩
    go_wp2_with fail
    go_loop [7, 8] (fun n k => ∃ (j : Nat) (q : Int), 1 ≤ j ∧ j ≤ m ∧ k = .int .i64 j ∧ n = .int .i64 q ∧ 0 ≤ q ∧ q < 134217728 ∧ Hid (q = (accV h0 (s.data.toList.drop p) (j - 1) : Nat) ∧ h0 < 128)) (fun _ k => m - (intOf k).toNat)
    case atStart => exact ⟨1, h0, by omega, by omega, rfl, rfl, by omega, by have := HH.out; omega, Lib.hid ⟨rfl, HH.out⟩⟩
    case round =>
      obtain ⟨j, q, hj1, hjm, rfl, rfl, hq1, hq2, HQJ⟩ := hrel
      by_cases hlt2 : j < m
      · have hpj : p + j < s.size := by omega
        have HX := Lib.hid (show q * 64 + ((s[p + j]).toNat : Int) % 64 = (accV h0 (s.data.toList.drop p) (j + 1 - 1) : Nat) by
          rw [show j + 1 - 1 = (j - 1) + 1 by omega]
          simp only [accV]
          rw [show j - 1 + 1 = j by omega, getD_drop s p j hpj, HQJ.out.1]
          simp)
        have HY := Lib.hid (show q * 64 + ((s[p + j]).toNat : Int) % 64 < 134217728 by
          have h1 := accV_lt h0 (s.data.toList.drop p) HQJ.out.2 (j + 1 - 1) (by omega)
          rw [HX.out]
          have h2 : 64 ^ (j + 1 - 1) ≤ 64 ^ 3 := Nat.pow_le_pow_right (by decide) (by omega)
          omega)
        have hx2 := (s[p + j]).toNat_lt
        have hx3 : ((s[p + j]).toNat : Int) < 256 := by omega
        have a1 : bits BinOp.and IntKind.i64 ((s[p + j]).toNat : Int) 63 = ((s[p + j]).toNat : Int) % 64 := and_i64 _ 6 63 (by decide) (by decide) (by omega) (by omega)
        go_wp2_with fail
        go_round
        case rel => exact ⟨j + 1, _, by omega, by omega, by go_num, rfl, by omega, HY.out, Lib.hid ⟨HX.out, HQJ.out.2⟩⟩
        case measure => simp [intOf]; omega
      · have hjm' : j = m := by omega
        subst hjm'
        have HP := Lib.hid (fun W => putSign_any q W)
        have hE : (s.extract p (p + j)).data.toList = (s.data.toList.drop p).take j := by
          simp [ByteArray.data_extract, List.take_drop]
        have HD := Lib.hid (show (¬ badD (s.data.toList.drop p) ↔ putS q = (s.data.toList.drop p).take j) ∧ (¬ badD (s.data.toList.drop p) → ((Lib.decodeL (s.data.toList.drop p)).1 : Int) = q ∧ (Lib.decodeL (s.data.toList.drop p)).2 = j) by
          have h1 := HQ.out
          rw [← HQJ.out.1] at h1
          refine ⟨h1.1, fun hh => ?_⟩
          rw [h1.2 hh]
          exact ⟨HQJ.out.1.symm, rfl⟩)
        clear HQ
        unfold StrRet at HP
        unfold bstr at HP
        by_cases hbd : badD (s.data.toList.drop p)
        · have HV := Lib.hid (show g = (-1, -1) by rw [HG.out, if_pos hbd])
          have t1 : ((⟨(putS q).toArray⟩ : ByteArray).toList == (s.extract p (p + j)).toList) = false := ba_no (fun e => by
            have : putS q = (s.data.toList.drop p).take j := by rw [← hE, ← e]
            exact absurd hbd (HD.out.1.2 this))
          clear hE hbd HD
          generalize (⟨(putS q).toArray⟩ : ByteArray) = X at *
          go_wp2_with fail
          have u1 : (0 : Int) ≤ (p : Int) := by omega
          have u2 : (p : Int) ≤ (p : Int) + (j : Int) := by omega
          have u3 : (p : Int) + (j : Int) ≤ (s.size : Int) := by omega
          have u4 : ((p : Int) + (j : Int)).toNat = p + j := by omega
          have u5 : IntKind.i64.wrap ((p : Int) + (j : Int)) = (p : Int) + (j : Int) := IntWalk.i64_in _ (by omega)
          have u6 : p ≤ p + j := by omega
          have u7 : p + j ≤ s.size := by omega
          go_region_held3 (fun w' => True) (first | exact trivial | go_keep) ((go_at_call 111; refine (HP.out _).mono ?_; rintro e2 w2 ⟨rfl, hb2⟩))
          go_wp2_with fail
          go_ret2
          exact ⟨by rw [HV.out]; first | rfl | (go_num), (by (repeat' (first | with_reducible exact Below.refl _ _ | with_reducible refine below_alloc ?_ _ ?_ | with_reducible refine Below.setCell ?_ ?_ _ | with_reducible refine Below.drew ?_ | with_reducible refine Go.below_drewN ?_ _ | with_reducible refine below_step ?_ (by assumption) ?_ | with_reducible refine below_mark ?_ (by assumption) ?_)); all_goals (first | omega | (simp; done) | (simp; omega)))⟩
        · have HV := Lib.hid (show g = (q, (p : Int) + j) by rw [HG.out, if_neg hbd, (HD.out.2 hbd).1, (HD.out.2 hbd).2])
          have t1 : ((⟨(putS q).toArray⟩ : ByteArray).toList == (s.extract p (p + j)).toList) = true := ba_yes (ba_ext (by
            show putS q = _
            rw [hE]; exact HD.out.1.1 hbd))
          clear hE hbd HD
          generalize (⟨(putS q).toArray⟩ : ByteArray) = X at *
          go_wp2_with fail
          have u1 : (0 : Int) ≤ (p : Int) := by omega
          have u2 : (p : Int) ≤ (p : Int) + (j : Int) := by omega
          have u3 : (p : Int) + (j : Int) ≤ (s.size : Int) := by omega
          have u4 : ((p : Int) + (j : Int)).toNat = p + j := by omega
          have u5 : IntKind.i64.wrap ((p : Int) + (j : Int)) = (p : Int) + (j : Int) := IntWalk.i64_in _ (by omega)
          have u6 : p ≤ p + j := by omega
          have u7 : p + j ≤ s.size := by omega
          go_region_held3 (fun w' => True) (first | exact trivial | go_keep) ((go_at_call 111; refine (HP.out _).mono ?_; rintro e2 w2 ⟨rfl, hb2⟩))
          go_wp2_with fail
          go_ret2
          exact ⟨by rw [HV.out]; first | rfl | (go_num), (by (repeat' (first | with_reducible exact Below.refl _ _ | with_reducible refine below_alloc ?_ _ ?_ | with_reducible refine Below.setCell ?_ ?_ _ | with_reducible refine Below.drew ?_ | with_reducible refine Go.below_drewN ?_ _ | with_reducible refine below_step ?_ (by assumption) ?_ | with_reducible refine below_mark ?_ (by assumption) ?_)); all_goals (first | omega | (simp; done) | (simp; omega)))⟩
theorem getSign_any (s : ByteArray) (i : Int) (w : World) (hs : s.size ≤ 9223372036854775807) (hi0 : -9223372036854775808 ≤ i) (hi1 : i ≤ 9223372036854775807) :
    Calls Tryd.prog 106 #[.string s, .int .i64 i] w (SgRet (getSg s i) w) := by
  by_cases h : i < 0 ∨ (s.size : Int) ≤ i
  · exact getSign_out s i w hs hi0 hi1 h
  · obtain ⟨p, rfl⟩ := Int.eq_ofNat_of_zero_le (show 0 ≤ i by omega)
    exact getSign_in s p w hs (by omega)
theorem validStep (s : ByteArray) (p : Nat) (h : p < s.size) : Lib.validD (s.data.toList.drop p) = if badD (s.data.toList.drop p) then false else Lib.validD (s.data.toList.drop (p + (Lib.decodeL (s.data.toList.drop p)).2)) := by
  have hl : s.data.toList.drop p ≠ [] := by
    intro e
    have := congrArg List.length e
    rw [List.length_drop, Array.length_toList] at this
    simp only [List.length_nil] at this
    have h2 : s.data.size = s.size := rfl
    omega
  rw [Lib.validD_step _ hl, List.drop_drop]
  rfl
theorem decLe (s : ByteArray) (p : Nat) (h : p < s.size) : 1 ≤ (Lib.decodeL (s.data.toList.drop p)).2 ∧ p + (Lib.decodeL (s.data.toList.drop p)).2 ≤ s.size := by
  have hl : (s.data.toList.drop p).length = s.size - p := by rw [List.length_drop, Array.length_toList]; rfl
  have h2 := Lib.decodeL_le (s.data.toList.drop p) (by intro e; rw [e] at hl; simp at hl; omega)
  exact ⟨Lib.decodeL_width _, by omega⟩
def SignsRet (s : ByteArray) (w : World) (e : Ending) (w' : World) : Prop := ∃ a n cap, e = .returned (.slice a n cap) ∧ decide (0 < n) = (txt s && decide (s.size ≠ 0)) ∧ Below w.heap.size w w'
set_option maxHeartbeats 1000000 in
theorem Signs_any (s : ByteArray) (w : World) (hs : s.size ≤ 1099511627776) : Calls Tryd.prog 102 #[.string s] w (SignsRet s w) := by
  have GS := Lib.hid (fun W (p : Nat) (hp : p < s.size) => getSign_any s p W (by omega) (by omega) (by omega))
  go_enter Tryd.func102, Tryd.ntmps102
  go_wp2_with fail
  go_loopw [3, 4] (fun o i wr => ∃ (p : Nat) (l : List Int), p ≤ s.size ∧ i = .int .i64 p ∧ l.length ≤ p ∧ Hid (txt s = Lib.validD (s.data.toList.drop p) ∧ (l = [] ↔ p = 0)) ∧ IRow wr w.heap.size o l ∧ Below w.heap.size w wr) (fun _ i _ => s.size - (intOf i).toNat)
  case atStart => exact ⟨0, [], by omega, rfl, by simp, Lib.hid ⟨rfl, by simp⟩, IRow.made0 (Nat.le_refl _), (by (repeat' (first | with_reducible exact Below.refl _ _ | with_reducible refine below_alloc ?_ _ ?_ | with_reducible refine Below.setCell ?_ ?_ _ | with_reducible refine Below.drew ?_ | with_reducible refine Go.below_drewN ?_ _ | with_reducible refine below_step ?_ (by assumption) ?_ | with_reducible refine below_mark ?_ (by assumption) ?_)); all_goals (first | omega | (simp; done) | (simp; omega)))⟩
  case round =>
    obtain ⟨p, l, hp, rfl, hl, HI, hrow, hbl⟩ := hrel
    have hzr := hbl.size
    have HROW := Lib.hid hrow; clear hrow
    by_cases hlt : p < s.size
    · have HV := Lib.hid (validStep s p hlt)
      have HL := Lib.hid (decLe s p hlt)
      have HG := Lib.hid (show getSg s p = if badD (s.data.toList.drop p) then (-1, -1) else (((Lib.decodeL (s.data.toList.drop p)).1 : Int), (p : Int) + (Lib.decodeL (s.data.toList.drop p)).2) by
        unfold getSg; rw [if_neg (by omega)]; rfl)
      have G1 := Lib.hid (fun W => GS.out W p hlt)
      obtain ⟨so, no, co, rfl⟩ : ∃ a n c, u3 = .slice a n c := by obtain ⟨a, c, e, _⟩ := HROW.out.form; exact ⟨a, _, c, e⟩
      by_cases hbd : badD (s.data.toList.drop p)
      · have HGV := Lib.hid (show getSg s p = (-1, -1) by rw [HG.out, if_pos hbd])
        have HF := Lib.hid (show txt s = false by rw [HI.out.1, HV.out, if_pos hbd])
        rw [HGV.out] at G1
        clear HG HV hbd
        go_wp2_with fail
        refine (G1.out _).mono ?_
        rintro e1 w1 ⟨rfl, hb1⟩
        go_wp2_with fail
        go_ret
        exact ⟨_, _, _, rfl, by rw [HF.out]; rfl, (by (repeat' (first | with_reducible exact Below.refl _ _ | with_reducible refine below_alloc ?_ _ ?_ | with_reducible refine Below.setCell ?_ ?_ _ | with_reducible refine Below.drew ?_ | with_reducible refine Go.below_drewN ?_ _ | with_reducible refine below_step ?_ (by assumption) ?_ | with_reducible refine below_mark ?_ (by assumption) ?_)); all_goals (first | omega | (simp; done) | (simp; omega)))⟩
      · have HN := Lib.hid (show txt s = Lib.validD (s.data.toList.drop (p + (Lib.decodeL (s.data.toList.drop p)).2)) by rw [HI.out.1, HV.out, if_neg hbd])
        rw [HG.out, if_neg hbd] at G1
        clear HG HV hbd
        obtain ⟨hL1, hL2⟩ := HL.out
        generalize (Lib.decodeL (s.data.toList.drop p)).2 = wd at *
        generalize (((Lib.decodeL (s.data.toList.drop p)).1 : Nat) : Int) = rv at *
        go_wp2_with fail
        refine (G1.out _).mono ?_
        rintro e1 w1 ⟨rfl, hb1⟩
        have hz1 := hb1.size
        have S1 := Lib.hid (src_int1 w1 rv)
        have R1 := Lib.hid (show IRow (w1.alloc (.cells #[.int .i64 rv] 3)) w.heap.size (.slice so no co) l from HROW.out.keep (fun x hx => (Below.heap_alloc w1 _ _ (by have := (HROW.out.lt x hx).2; omega)).trans (hb1.block x (HROW.out.lt x hx).2)))
        have hpos : ¬ ((p : Int) + wd) < 0 := by omega
        go_wp2_with (at_builtin; go_loud (refine app_ints rfl _ _ _ rfl w.heap.size _ _ rfl R1.out _ rfl [rv] S1.out (by simp only [List.length_cons, List.length_nil]; omega) (by simp; omega) ?_); intro v2 w2 hrow2 hg2 hfr2; have hb2 : Below w.heap.size w1 w2 := ((Below.refl _ _).alloc (by omega) _).grown hg2 (by simp; omega) (fun k' hk' => (HROW.out.lt k' hk').1); have R2 := Lib.hid hrow2; clear hrow2)
        go_roundw
        case rel => exact ⟨p + wd, l ++ [rv], by omega, by go_num, by simp; omega, Lib.hid ⟨HN.out, by simp; omega⟩, R2.out, (hbl.trans (hb1.mono (by omega))).trans hb2⟩
        case measure => simp [intOf]; omega
    · have hpe : p = s.size := by omega
      have HF := Lib.hid (show txt s = true by
        rw [HI.out.1, List.drop_of_length_le (by rw [Array.length_toList]; show s.size ≤ p; omega)]; rfl)
      obtain ⟨a, cap, e, _⟩ := HROW.out.form
      subst e
      go_wp2_with fail
      go_ret
      refine ⟨_, _, _, rfl, ?_, hbl⟩
      rw [HF.out, Bool.true_and, decide_eq_decide, ← hpe]
      have h1 := HI.out.2
      have h2 : l = [] ↔ l.length = 0 := ⟨fun e => by rw [e]; rfl, List.eq_nil_of_length_eq_zero⟩
      have h3 := h2.symm.trans h1
      omega
set_option maxHeartbeats 400000 in
theorem textOk_spec (s : ByteArray) (w : World) (hs : s.size ≤ 1099511627776) : Calls Tryd.prog 86 #[.string s] w fun e w' => e = .returned (.bool (txt s)) ∧ Below w.heap.size w w' := by
  have SG := Lib.hid (fun W => Signs_any s W hs)
  by_cases h0 : s.size = 0
  · obtain rfl := ba_empty h0
    have H := Lib.hid (show txt ⟨#[]⟩ = true from rfl)
    rw [H.out]
    go_enter Tryd.func86, Tryd.ntmps86
    go_wp2_with fail
    go_ret
    exact ⟨rfl, (by (repeat' (first | with_reducible exact Below.refl _ _ | with_reducible refine below_alloc ?_ _ ?_ | with_reducible refine Below.setCell ?_ ?_ _ | with_reducible refine Below.drew ?_ | with_reducible refine Go.below_drewN ?_ _ | with_reducible refine below_step ?_ (by assumption) ?_ | with_reducible refine below_mark ?_ (by assumption) ?_)); all_goals (first | omega | (simp; done) | (simp; omega)))⟩
  · have hne : s.toList = [] ↔ False := ⟨fun e => h0 (by have := congrArg List.length e; rw [ByteArray.toList_eq] at this; simpa using this), False.elim⟩
    have hne2 : s.toList.isEmpty = false := by
      rcases h : s.toList with _ | ⟨x, l⟩
      · exact absurd (hne.1 h) id
      · rfl
    have h0' : decide (s.size ≠ 0) = true := decide_eq_true h0
    have HH := Lib.hid h0'
    clear h0' h0
    go_enter Tryd.func86, Tryd.ntmps86
    go_wp2_with fail
    refine (SG.out _).mono ?_
    rintro e1 w1 ⟨a, n, cap, rfl, hn, hb1⟩
    have HN := Lib.hid (show txt s = decide (0 < n) by rw [hn, HH.out, Bool.and_true])
    clear hn
    go_wp2_with fail
    go_ret
    exact ⟨by rw [HN.out]; simp, hb1⟩
end Go.Proofs.YtaphlemmlmdkiaaDoor
namespace Go.Proofs.YtaphlemmlmdkiaaDoor
set_option linter.unusedSimpArgs false
set_option linter.unusedVariables false
set_option maxRecDepth 100000
open Go.ChangeShapes Go.WideShapes Go.ChangeAt Go.RowKit
theorem lawOwn : ownKnob Tryd.prog.godebug = none := by kernel_rfl
theorem lawLaidOut : laidOutB Tryd.prog = true := by kernel_rfl
def LawRet (w : World) (e : Ending) (w' : World) : Prop := e = .returned (.bool true) ∧ Below w.heap.size w w'
theorem trodAll_stays {H : Type} {enc : TypeId × Value → H} {W W' : World} (hb : Below W.heap.size W W') :
    ∀ (ts : List TypeId) (vs : List Value) (ds : List (DataW H)) (ps : List MemPlace), (∀ t ∈ ts, Tryd.prog.readableRec t = true ∧ t < Tryd.prog.types.size) →
      DataW.TrodAll enc Tryd.prog W 0 (fun _ => true) true ts vs ds ps → (∀ x ∈ ps, x.block < W.heap.size) →
      DataW.TrodAll enc Tryd.prog W' 0 (fun b => decide (b < W.heap.size)) true ts vs ds ps
  | [], vs, ds, ps, _, h, _ => by obtain ⟨rfl, rfl, rfl⟩ := trodAll_nil h; exact trodAll_mk0
  | t :: ts, vs, ds, ps, hr, h, hlt => by
    obtain ⟨v, vs', d, ds', p, q, rfl, rfl, rfl, h0, h1⟩ := trodAll_cons h
    have ht := hr t (List.mem_cons_self ..)
    exact trodAll_cons_mk (Below.trod lawLaidOut ht.1 ht.2 h0 hb (fun x hx => hlt x (List.mem_append_left _ hx)))
      (trodAll_stays hb ts vs' ds' q (fun t ht => hr t (List.mem_cons_of_mem _ ht)) h1 (fun x hx => hlt x (List.mem_append_right _ hx)))
theorem law_post {H : Type} {enc : TypeId × Value → H} {f : Func} {s : ChangeSpec} {W W' : World} {args : Array Value} {ds gs : List (DataW H)} {before : List MemPlace}
    (hvars : s.vars = []) (hres : f.resultTypes = #[4]) (hfn : s.fn H ds = { results := [.lit (.bool true)], args := ds })
    (hread : ∀ t ∈ f.params.toList, Tryd.prog.readableRec t = true ∧ t < Tryd.prog.types.size)
    (hW : DataW.Whole enc Tryd.prog f.params.toList s.vars false W args.toList ds gs before)
    (hb : Below W.heap.size W W') : s.post enc Tryd.prog f false true false false W args (.bool true) W' := by
  have hlt := hW.lt
  have hW0 := hW
  obtain ⟨p, q, hA, hV, rfl, hfz, hnd⟩ := hW
  rw [hvars] at hV
  obtain ⟨rfl, rfl⟩ := trodVars_none hV
  have e0 : s.fn H (ds ++ []) = { results := [.lit (.bool true)], args := ds } := by rw [List.append_nil, hfn]
  refine ⟨ds, [], p ++ [], [], p, [], hW0, ?_, ?_, ?_, hb.frame _, fun h => by cases h⟩
  · rw [e0, hres]
    exact trodAll_cons_mk (shut_bool Tryd.underlying4 _) trodAll_mk0
  · rw [e0]
    exact trodAll_stays hb _ _ _ _ hread hA (fun x hx => hlt x (List.mem_append_left _ hx))
  · rw [e0, hvars]
    exact hV
end Go.Proofs.YtaphlemmlmdkiaaDoor
namespace Go.Proofs.YtaphlemmlmdkiaaDoor
set_option linter.unusedSimpArgs false
set_option linter.unusedVariables false
set_option maxRecDepth 100000
open Go.RowKit
theorem OwnS.repV {w : World} {B : Nat} {t : V} {sl : Value} (hw : t.wf) (h : OwnS w (fun x => B ≤ x) sl t.kids) : Rep w (t.agg sl) t := ⟨sl, rfl, hw, h.rep⟩
def Box (w : World) (b : Nat) (k n e : Int) (s : ByteArray) (sl : Value) (T : TypeId) : Prop := w.heap[b]? = some (.cells #[.int .i64 k, .int .i64 n, .int .i64 e, .string s, sl] T (0, 0))
theorem Box.cells {w : World} {b : Nat} {k n e : Int} {s : ByteArray} {sl : Value} {T : TypeId} (h : Box w b k n e s sl T) :
    w.cell? ⟨b, 0, none⟩ = some (.int .i64 k) ∧ w.cell? ⟨b, 1, none⟩ = some (.int .i64 n) ∧ w.cell? ⟨b, 2, none⟩ = some (.int .i64 e) ∧ w.cell? ⟨b, 3, none⟩ = some (.string s) ∧ w.cell? ⟨b, 4, none⟩ = some sl := by
  unfold Box at h
  refine ⟨?_, ?_, ?_, ?_, ?_⟩ <;> (rw [cell_of_row w b _ _ _ (0, 0) h]; rfl)
theorem Box.lt {w : World} {b : Nat} {k n e : Int} {s : ByteArray} {sl : Value} {T : TypeId} (h : Box w b k n e s sl T) : b < w.heap.size := lt_of_heap h
theorem Box.keep {w w' : World} {B b : Nat} {k n e : Int} {s : ByteArray} {sl : Value} {T : TypeId} (h : Box w b k n e s sl T) (hb : Below B w w') (hB : w.heap.size ≤ B) : Box w' b k n e s sl T :=
  (hb.block b (Nat.lt_of_lt_of_le h.lt hB)).trans h
theorem Box.stay {w w' : World} {b : Nat} {k n e : Int} {s : ByteArray} {sl : Value} {T : TypeId} (h : Box w b k n e s sl T) (hb : Below w.heap.size w w') : Box w' b k n e s sl T := h.keep hb (Nat.le_refl _)
theorem Box.alloc {w : World} {b : Nat} {k n e : Int} {s : ByteArray} {sl : Value} {T : TypeId} (h : Box w b k n e s sl T) (o : Obj) : Box (w.alloc o) b k n e s sl T := (heap_alloc_old w o h.lt).trans h
theorem Box.new (w : World) (k n e : Int) (s : ByteArray) (sl : Value) (T : TypeId) : Box (w.alloc (.cells #[.int .i64 k, .int .i64 n, .int .i64 e, .string s, sl] T)) w.heap.size k n e s sl T := heap_alloc_new w _
end Go.Proofs.YtaphlemmlmdkiaaDoor
namespace Go.Proofs.YtaphlemmlmdkiaaDoor
set_option linter.unusedSimpArgs false
set_option linter.unusedVariables false
set_option maxRecDepth 100000
open Go.RowKit
structure Touch (A A' : Nat → Prop) (w w' : World) : Prop where
  os : w'.os = w.os
  tape : w'.tape = w.tape
  output : w'.output = w.output
  size : w.heap.size ≤ w'.heap.size
  block : ∀ k, k < w.heap.size → ¬ A k → w'.heap[k]? = w.heap[k]?
  new : ∀ k, A' k → A k ∨ w.heap.size ≤ k
theorem Touch.trans {A A' A'' : Nat → Prop} {a b c : World} (h : Touch A A' a b) (k : Touch A' A'' b c) : Touch A A'' a c :=
  ⟨k.os.trans h.os, k.tape.trans h.tape, k.output.trans h.output, Nat.le_trans h.size k.size,
    fun i hi hn => (k.block i (Nat.lt_of_lt_of_le hi h.size) (fun e => (h.new i e).elim hn (fun e => by omega))).trans (h.block i hi hn),
    fun i hi => (k.new i hi).elim (fun e => h.new i e) (fun e => .inr (Nat.le_trans h.size e))⟩
theorem Touch.of_below {A : Nat → Prop} {w w' : World} (h : Below w.heap.size w w') : Touch A A w w' :=
  ⟨h.os, h.tape, h.output, h.size, fun k hk _ => h.block k hk, fun _ h => .inl h⟩
theorem Touch.refl (A : Nat → Prop) (w : World) : Touch A A w w := .of_below (Below.refl _ _)
theorem Touch.below {A A' : Nat → Prop} {w w' : World} {B : Nat} (h : Touch A A' w w') (hA : ∀ x, A x → B ≤ x) (hB : B ≤ w.heap.size) : Below B w w' :=
  ⟨h.os, h.tape, h.output, h.size, fun k hk => h.block k (by omega) (fun e => by have := hA k e; omega)⟩
end Go.Proofs.YtaphlemmlmdkiaaDoor
namespace Go.Proofs.YtaphlemmlmdkiaaDoor
set_option linter.unusedSimpArgs false
set_option linter.unusedVariables false
set_option maxRecDepth 100000
open Go.RowKit
theorem OwnS.form {w : World} {F : Nat → Prop} {v : Value} {ts : List V} (h : OwnS w F v ts) : ∃ a b off cap, v = .slice a ts.length cap ∧ (ts ≠ [] → a = some ⟨b, off, none⟩) ∧ ts.length ≤ cap ∧ cap ≤ 9223372036854775807 := by
  cases h with
  | mk F0 a b off cap ts0 sls Fs ha hc hm hb hF hd cells wfs kids => exact ⟨a, b, off, cap, rfl, ha, hc, hm⟩
theorem OwnS.elem {w : World} {F : Nat → Prop} {b off n cap j : Nat} {ts : List V} (h : OwnS w F (.slice (some ⟨b, off, none⟩) n cap) ts) (hj : j < ts.length) :
    F b ∧ b < w.heap.size ∧ (∀ o, w.frozen? ⟨b, o, none⟩ = false) ∧ ts[j].wf ∧ ∃ sl, Cells5 w b (off + j * 5) ts[j] sl ∧
      ∃ F' : Nat → Prop, (∀ x, F' x → F x ∧ x ≠ b) ∧ OwnS w F' sl ts[j].kids ∧ ∀ w' ks, OwnS w' F' sl ks → Touch F' F' w w' → OwnS w' F (.slice (some ⟨b, off, none⟩) n cap) (ts.set j (.mk ts[j].k ts[j].n ts[j].e ts[j].s ks)) := by
  generalize hv : Value.slice (some ⟨b, off, none⟩) n cap = v at h
  cases h with
  | mk F0 a b0 off0 cap0 ts0 sls Fs ha hc hm hb hF hd cells wfs kids =>
    have hne : ts ≠ [] := by intro e; rw [e] at hj; simp at hj
    obtain ⟨hFb, cur, E, hcur⟩ := hb hne
    have ha' := ha hne
    subst ha'
    simp only [Value.slice.injEq, Option.some.injEq, Addr.mk.injEq, and_true] at hv
    obtain ⟨⟨rfl, rfl⟩, rfl, rfl⟩ := hv
    refine ⟨hFb, lt_of_heap hcur, fun o => frozen_of_row w b o cur E hcur, wfs j hj, sls j, cells j hj, Fs j, hF j hj, kids j hj, fun w' ks ho ht => ?_⟩
    have hbb : w'.heap[b]? = w.heap[b]? := ht.block b (lt_of_heap hcur) (fun e => (hF j hj b e).2 rfl)
    have hlen : (ts.set j (.mk ts[j].k ts[j].n ts[j].e ts[j].s ks)).length = ts.length := by simp
    have := OwnS.mk (w := w') F (some ⟨b, off, none⟩) b off cap (ts.set j (.mk ts[j].k ts[j].n ts[j].e ts[j].s ks)) sls Fs (fun _ => rfl) (by rw [hlen]; exact hc) hm (fun _ => ⟨hFb, cur, E, by rw [hbb]; exact hcur⟩)
      (by rw [hlen]; exact hF) (by rw [hlen]; exact hd) ?_ ?_ ?_
    · rw [hlen] at this; exact this
    · intro i hi
      rw [hlen] at hi
      rw [List.getElem_set]
      have h1 := (cells i hi).keep hbb
      split
      · rename_i e; subst e; exact h1
      · exact h1
    · intro i hi
      rw [hlen] at hi
      rw [List.getElem_set]
      split
      · exact wfs j hj
      · exact wfs i hi
    · intro i hi
      rw [hlen] at hi
      rw [List.getElem_set]
      split
      · rename_i e; subst e; exact ho
      · rename_i e
        refine (kids i hi).keep (fun x hx hxs => ht.block x hxs (fun hx' => ?_))
        rcases Nat.lt_or_gt_of_ne e with h | h
        · exact hd j i h hi x hx' hx
        · exact hd i j h hj x hx hx'
theorem OwnS.field {w : World} {F : Nat → Prop} {b off n cap j c : Nat} {ts : List V} {u : Value} {t' : V} (h : OwnS w F (.slice (some ⟨b, off, none⟩) n cap) ts) (hj : j < ts.length) (hk : t'.kids = ts[j].kids) (hw : t'.wf)
    (hc5 : c < 4) (hc : ∀ sl, Cells5 w b (off + j * 5) ts[j] sl → Cells5 (w.setCell ⟨b, off + j * 5 + c, none⟩ u) b (off + j * 5) t' sl) :
    OwnS (w.setCell ⟨b, off + j * 5 + c, none⟩ u) F (.slice (some ⟨b, off, none⟩) n cap) (ts.set j t') := by
  generalize hv : Value.slice (some ⟨b, off, none⟩) n cap = v at h ⊢
  cases h with
  | mk F0 a b0 off0 cap0 ts0 sls Fs ha hc' hm hb hF hd cells wfs kids =>
    have hne : ts ≠ [] := by intro e; rw [e] at hj; simp at hj
    obtain ⟨hFb, cur, E, hcur⟩ := hb hne
    have ha' := ha hne
    subst ha'
    simp only [Value.slice.injEq, Option.some.injEq, Addr.mk.injEq, and_true] at hv
    obtain ⟨⟨rfl, rfl⟩, rfl, rfl⟩ := hv
    have hlen : (ts.set j t').length = ts.length := by simp
    have hcur' := heap_setCell_same w b (off + j * 5 + c) cur E u hcur
    have hoth : ∀ x, x ≠ b → (w.setCell ⟨b, off + j * 5 + c, none⟩ u).heap[x]? = w.heap[x]? := fun x hx => heap_setCell_other _ _ _ _ hx
    have := OwnS.mk (w := w.setCell ⟨b, off + j * 5 + c, none⟩ u) F (some ⟨b, off, none⟩) b off cap (ts.set j t') sls Fs (fun _ => rfl) (by rw [hlen]; exact hc') hm (fun _ => ⟨hFb, _, E, hcur'⟩)
      (by rw [hlen]; exact hF) (by rw [hlen]; exact hd) ?_ ?_ ?_
    · rw [hlen] at this; exact this
    · intro i hi
      rw [hlen] at hi
      rw [List.getElem_set]
      split
      · rename_i e; subst e; exact hc _ (cells j hj)
      · rename_i e
        obtain ⟨h0, h1, h2, h3, h4⟩ := cells i hi
        refine ⟨?_, ?_, ?_, ?_, ?_⟩
        · refine (World.cell?_setCell_other _ _ _ _ ?_).trans h0; intro e; simp only [Addr.mk.injEq, true_and, and_true] at e; omega
        · refine (World.cell?_setCell_other _ _ _ _ ?_).trans h1; intro e; simp only [Addr.mk.injEq, true_and, and_true] at e; omega
        · refine (World.cell?_setCell_other _ _ _ _ ?_).trans h2; intro e; simp only [Addr.mk.injEq, true_and, and_true] at e; omega
        · refine (World.cell?_setCell_other _ _ _ _ ?_).trans h3; intro e; simp only [Addr.mk.injEq, true_and, and_true] at e; omega
        · refine (World.cell?_setCell_other _ _ _ _ ?_).trans h4; intro e; simp only [Addr.mk.injEq, true_and, and_true] at e; omega
    · intro i hi
      rw [hlen] at hi
      rw [List.getElem_set]
      split
      · exact hw
      · exact wfs i hi
    · intro i hi
      rw [hlen] at hi
      rw [List.getElem_set]
      split
      · rename_i e; subst e; rw [hk]; exact (kids j hj).keep (fun x hx _ => hoth x (hF j hj x hx).2)
      · exact (kids i hi).keep (fun x hx _ => hoth x (hF i hi x hx).2)
theorem touch_cell {F : Nat → Prop} (w : World) (b o : Nat) (u : Value) (h : F b) : Touch F F w (w.setCell ⟨b, o, none⟩ u) :=
  ⟨rfl, rfl, rfl, by simp, fun k _ hn => heap_setCell_other w ⟨b, o, none⟩ k u (fun e => hn (e ▸ h)), fun _ h => .inl h⟩
theorem Touch.mono {A A' B : Nat → Prop} {w w' : World} (h : Touch A A' w w') (hA : ∀ x, A x → B x) (hA' : ∀ x, A' x → B x ∨ A x) : Touch B B w w' :=
  ⟨h.os, h.tape, h.output, h.size, fun k hk hn => h.block k hk (fun e => hn (hA k e)), fun k hk => .inl hk⟩
end Go.Proofs.YtaphlemmlmdkiaaDoor
namespace Go.Proofs.YtaphlemmlmdkiaaDoor
set_option linter.unusedSimpArgs false
set_option linter.unusedVariables false
set_option maxRecDepth 100000
open Go.RowKit
mutual
def V.cnt : V → Nat
  | .mk _ _ _ _ ks => 4 + cnts ks
def cnts : List V → Nat
  | [] => 0
  | t :: ts => t.cnt + cnts ts
 end
mutual
def mkV : Int → V → V
  | k, .mk _ _ _ _ ks => .mk k (k + 1) (k + 1 + 1) (mt (k + 1 + 1 + 1)) (mkVs (k + 1 + 1 + 1 + 1) ks)
def mkVs : Int → List V → List V
  | _, [] => []
  | k, t :: ts => mkV k t :: mkVs (k + t.cnt) ts
 end
theorem V.cnt_eq (t : V) : t.cnt = 4 + cnts t.kids := by cases t; rw [V.cnt]; rfl
theorem mkV_eq (k : Int) (t : V) : mkV k t = .mk k (k + 1) (k + 1 + 1) (mt (k + 1 + 1 + 1)) (mkVs (k + 1 + 1 + 1 + 1) t.kids) := by cases t; rw [mkV]; rfl
theorem mkVs_length : ∀ (k : Int) (ts : List V), (mkVs k ts).length = ts.length
  | _, [] => by simp [mkVs]
  | k, t :: ts => by simp only [mkVs, List.length_cons, mkVs_length (k + t.cnt) ts]
theorem cnts_append : ∀ a b : List V, cnts (a ++ b) = cnts a + cnts b
  | [], b => by simp [cnts]
  | t :: a, b => by simp only [List.cons_append, cnts, cnts_append a b]; omega
theorem cnts_take (ts : List V) (j : Nat) (h : j < ts.length) : cnts (ts.take (j + 1)) = cnts (ts.take j) + ts[j].cnt := by
  rw [List.take_succ_eq_append_getElem h, cnts_append, cnts, cnts]; rfl
theorem cnts_take_le (ts : List V) (j : Nat) : cnts (ts.take j) ≤ cnts ts := by
  have := cnts_append (ts.take j) (ts.drop j); rw [List.take_append_drop] at this; omega
theorem mkVs_get : ∀ (k : Int) (ts : List V) (j : Nat) (h : j < (mkVs k ts).length) (h' : j < ts.length), (mkVs k ts)[j] = mkV (k + cnts (ts.take j)) ts[j]
  | k, [], j, _, h => by simp at h
  | k, t :: ts, 0, _, _ => by simp [mkVs, cnts]
  | k, t :: ts, j + 1, h, h' => by
    simp only [mkVs, List.getElem_cons_succ, List.take_succ_cons, cnts]
    rw [mkVs_get (k + t.cnt) ts j (by rw [mkVs_length]; simpa using h') (by simpa using h')]
    congr 1; omega
mutual
theorem cnt_sz : ∀ t : V, t.cnt ≤ 4 + 4 * t.sz
  | .mk k n e s ks => by have := cnts_sz ks; simp only [V.cnt, V.sz]; omega
theorem cnts_sz : ∀ ts : List V, cnts ts ≤ 4 * szs ts
  | [] => by simp [cnts]
  | t :: ts => by have h1 := cnt_sz t; have h2 := cnts_sz ts; simp only [cnts, szs]; omega
 end
def mixV (k : Int) (ts : List V) (j : Nat) : List V := mkVs k (ts.take j) ++ ts.drop j
theorem mixV_length (k : Int) (ts : List V) (j : Nat) (h : j ≤ ts.length) : (mixV k ts j).length = ts.length := by
  unfold mixV; rw [List.length_append, mkVs_length, List.length_take, List.length_drop]; omega
theorem mkVs_append : ∀ (k : Int) (a b : List V), mkVs k (a ++ b) = mkVs k a ++ mkVs (k + cnts a) b
  | k, [], b => by simp [mkVs, cnts]
  | k, t :: a, b => by
    simp only [List.cons_append, mkVs, mkVs_append (k + t.cnt) a b, cnts]
    rw [show k + ↑t.cnt + ↑(cnts a) = k + ↑(t.cnt + cnts a) by omega]
theorem mixV_get (k : Int) (ts : List V) (j : Nat) (h : j < ts.length) (h' : j < (mixV k ts j).length) : (mixV k ts j)[j] = ts[j] := by
  revert h'
  unfold mixV
  intro h'
  rw [List.getElem_append_right (by rw [mkVs_length, List.length_take]; omega)]
  simp only [mkVs_length, List.length_take, List.getElem_drop]
  congr 1; omega
theorem mixV_set (k : Int) (ts : List V) (j : Nat) (h : j < ts.length) : (mixV k ts j).set j (mkV (k + cnts (ts.take j)) ts[j]) = mixV k ts (j + 1) := by
  unfold mixV
  rw [List.set_append, if_neg (by rw [mkVs_length, List.length_take]; omega), mkVs_length, List.length_take]
  rw [show j - min j ts.length = 0 by omega, List.drop_eq_getElem_cons h, List.set_cons_zero, List.take_succ_eq_append_getElem h, mkVs_append]
  simp [mkVs]
theorem In64.of {n : Int} (h0 : 0 ≤ n) (h : n ≤ 2305843009213693952) : In64 n := ⟨by omega, by omega⟩
theorem mark_elem {w w1 w2 : World} {F : Nat → Prop} {b off n cap j : Nat} {ts : List V} (K0 : Int) (h : OwnS w F (.slice (some ⟨b, off, none⟩) n cap) ts) (hj : j < ts.length) (h0 : 0 ≤ K0) (h1 : K0 ≤ 1152921504606846976)
    (hb : Below w.heap.size (((w.setCell ⟨b, off + j * 5, none⟩ (.int .i64 K0)).setCell ⟨b, off + j * 5 + 1, none⟩ (.int .i64 (K0 + 1))).setCell ⟨b, off + j * 5 + 2, none⟩ (.int .i64 (K0 + 1 + 1))) w1) :
    ∃ sl, w1.cell? ⟨b, off + j * 5 + 3, none⟩ = some (.string ts[j].s) ∧ w1.frozen? ⟨b, off + j * 5 + 3, none⟩ = false ∧ w1.cell? ⟨b, off + j * 5 + 4, none⟩ = some sl ∧ b < w.heap.size ∧
      ∃ F', OwnS (w1.setCell ⟨b, off + j * 5 + 3, none⟩ (.string (mt (K0 + 1 + 1 + 1)))) F' sl ts[j].kids ∧
        ∀ w', OwnS w' F' sl (mkVs (K0 + 1 + 1 + 1 + 1) ts[j].kids) → Touch F' F' (w1.setCell ⟨b, off + j * 5 + 3, none⟩ (.string (mt (K0 + 1 + 1 + 1)))) w' →
          OwnS w' F (.slice (some ⟨b, off, none⟩) n cap) (ts.set j (mkV K0 ts[j])) ∧ Touch F F w w' := by
  obtain ⟨hFb, hbw, hfz, hwf, sl, hc, _⟩ := h.elem hj
  obtain ⟨wk, wn, we, ws⟩ := hwf
  generalize hA : w.setCell ⟨b, off + j * 5, none⟩ (.int .i64 K0) = A at *
  generalize hB : A.setCell ⟨b, off + j * 5 + 1, none⟩ (.int .i64 (K0 + 1)) = B at *
  generalize hC : B.setCell ⟨b, off + j * 5 + 2, none⟩ (.int .i64 (K0 + 1 + 1)) = C at *
  have s1 : OwnS A F (.slice (some ⟨b, off, none⟩) n cap) (ts.set j (.mk K0 ts[j].n ts[j].e ts[j].s ts[j].kids)) := by
    rw [← hA]
    refine OwnS.field (c := 0) (t' := .mk K0 ts[j].n ts[j].e ts[j].s ts[j].kids) h hj rfl ⟨In64.of (n := K0) h0 (by omega), wn, we, ws⟩ (by omega) ?_
    rintro sl ⟨a0, a1, a2, a3, a4⟩
    refine ⟨World.cell?_setCell_same _ _ _ a0, ?_, ?_, ?_, ?_⟩
    · refine (World.cell?_setCell_other _ _ _ _ ?_).trans a1; intro e; simp only [Addr.mk.injEq, true_and, and_true] at e; omega
    · refine (World.cell?_setCell_other _ _ _ _ ?_).trans a2; intro e; simp only [Addr.mk.injEq, true_and, and_true] at e; omega
    · refine (World.cell?_setCell_other _ _ _ _ ?_).trans a3; intro e; simp only [Addr.mk.injEq, true_and, and_true] at e; omega
    · refine (World.cell?_setCell_other _ _ _ _ ?_).trans a4; intro e; simp only [Addr.mk.injEq, true_and, and_true] at e; omega
  have s2 : OwnS B F (.slice (some ⟨b, off, none⟩) n cap) (ts.set j (.mk K0 (K0 + 1) ts[j].e ts[j].s ts[j].kids)) := by
    rw [← hB]
    have := OwnS.field (c := 1) (u := .int .i64 (K0 + 1)) (t' := .mk K0 (K0 + 1) ts[j].e ts[j].s ts[j].kids) s1 (by simpa using hj) (by simp [V.kids]) ⟨In64.of (n := K0) h0 (by omega), In64.of (n := K0 + 1) (by omega) (by omega), we, ws⟩ (by omega) ?_
    · simpa using this
    · rintro sl ⟨a0, a1, a2, a3, a4⟩
      simp only [List.getElem_set_self] at a0 a1 a2 a3
      refine ⟨?_, World.cell?_setCell_same _ _ _ a1, ?_, ?_, ?_⟩
      · refine (World.cell?_setCell_other _ _ _ _ ?_).trans a0; intro e; simp only [Addr.mk.injEq, true_and, and_true] at e; omega
      · refine (World.cell?_setCell_other _ _ _ _ ?_).trans a2; intro e; simp only [Addr.mk.injEq, true_and, and_true] at e; omega
      · refine (World.cell?_setCell_other _ _ _ _ ?_).trans a3; intro e; simp only [Addr.mk.injEq, true_and, and_true] at e; omega
      · refine (World.cell?_setCell_other _ _ _ _ ?_).trans a4; intro e; simp only [Addr.mk.injEq, true_and, and_true] at e; omega
  have s3 : OwnS C F (.slice (some ⟨b, off, none⟩) n cap) (ts.set j (.mk K0 (K0 + 1) (K0 + 1 + 1) ts[j].s ts[j].kids)) := by
    rw [← hC]
    have := OwnS.field (c := 2) (u := .int .i64 (K0 + 1 + 1)) (t' := .mk K0 (K0 + 1) (K0 + 1 + 1) ts[j].s ts[j].kids) s2 (by simpa using hj) (by simp [V.kids]) ⟨In64.of (n := K0) h0 (by omega), In64.of (n := K0 + 1) (by omega) (by omega), In64.of (n := K0 + 1 + 1) (by omega) (by omega), ws⟩ (by omega) ?_
    · simpa using this
    · rintro sl ⟨a0, a1, a2, a3, a4⟩
      simp only [List.getElem_set_self] at a0 a1 a2 a3
      refine ⟨?_, ?_, World.cell?_setCell_same _ _ _ a2, ?_, ?_⟩
      · refine (World.cell?_setCell_other _ _ _ _ ?_).trans a0; intro e; simp only [Addr.mk.injEq, true_and, and_true] at e; omega
      · refine (World.cell?_setCell_other _ _ _ _ ?_).trans a1; intro e; simp only [Addr.mk.injEq, true_and, and_true] at e; omega
      · refine (World.cell?_setCell_other _ _ _ _ ?_).trans a3; intro e; simp only [Addr.mk.injEq, true_and, and_true] at e; omega
      · refine (World.cell?_setCell_other _ _ _ _ ?_).trans a4; intro e; simp only [Addr.mk.injEq, true_and, and_true] at e; omega
  have zC : C.heap.size = w.heap.size := by rw [← hC, ← hB, ← hA]; simp
  rw [← zC] at hb
  have s4 : OwnS w1 F (.slice (some ⟨b, off, none⟩) n cap) (ts.set j (.mk K0 (K0 + 1) (K0 + 1 + 1) ts[j].s ts[j].kids)) := s3.keep (fun x _ hx => hb.block x hx)
  have s5 : OwnS (w1.setCell ⟨b, off + j * 5 + 3, none⟩ (.string (mt (K0 + 1 + 1 + 1)))) F (.slice (some ⟨b, off, none⟩) n cap) (ts.set j (.mk K0 (K0 + 1) (K0 + 1 + 1) (mt (K0 + 1 + 1 + 1)) ts[j].kids)) := by
    have := OwnS.field (c := 3) (u := .string (mt (K0 + 1 + 1 + 1))) (t' := .mk K0 (K0 + 1) (K0 + 1 + 1) (mt (K0 + 1 + 1 + 1)) ts[j].kids) s4 (by simpa using hj) (by simp [V.kids]) ⟨In64.of (n := K0) h0 (by omega), In64.of (n := K0 + 1) (by omega) (by omega), In64.of (n := K0 + 1 + 1) (by omega) (by omega), mt_size _ (by omega)⟩ (by omega) ?_
    · simpa using this
    · rintro sl ⟨a0, a1, a2, a3, a4⟩
      simp only [List.getElem_set_self] at a0 a1 a2 a3
      refine ⟨?_, ?_, ?_, World.cell?_setCell_same _ _ _ a3, ?_⟩
      · refine (World.cell?_setCell_other _ _ _ _ ?_).trans a0; intro e; simp only [Addr.mk.injEq, true_and, and_true] at e; omega
      · refine (World.cell?_setCell_other _ _ _ _ ?_).trans a1; intro e; simp only [Addr.mk.injEq, true_and, and_true] at e; omega
      · refine (World.cell?_setCell_other _ _ _ _ ?_).trans a2; intro e; simp only [Addr.mk.injEq, true_and, and_true] at e; omega
      · refine (World.cell?_setCell_other _ _ _ _ ?_).trans a4; intro e; simp only [Addr.mk.injEq, true_and, and_true] at e; omega
  have hj4 : j < (ts.set j (.mk K0 (K0 + 1) (K0 + 1 + 1) ts[j].s ts[j].kids)).length := by simpa using hj
  have hj5 : j < (ts.set j (.mk K0 (K0 + 1) (K0 + 1 + 1) (mt (K0 + 1 + 1 + 1)) ts[j].kids)).length := by simpa using hj
  obtain ⟨_, hb1, hfz1, _, sl1, ⟨_, _, _, c3, c4⟩, _⟩ := s4.elem hj4
  obtain ⟨_, _, _, _, sl5, ⟨_, _, _, _, d4⟩, F', hF', hk5, back⟩ := s5.elem hj5
  have e4 : sl5 = sl1 := by
    have : (w1.setCell ⟨b, off + j * 5 + 3, none⟩ (.string (mt (K0 + 1 + 1 + 1)))).cell? ⟨b, off + j * 5 + 4, none⟩ = some sl1 := by
      refine (World.cell?_setCell_other _ _ _ _ ?_).trans c4; intro e; simp only [Addr.mk.injEq, true_and, and_true] at e; omega
    rw [this] at d4; exact (Option.some.inj d4).symm
  subst e4
  simp only [List.getElem_set_self] at c3 hk5
  refine ⟨sl5, c3, hfz1 _, c4, hbw, F', hk5, fun w' ho ht => ?_⟩
  have h9 := back w' _ ho ht
  simp only [List.getElem_set_self, List.set_set] at h9
  refine ⟨by rw [mkV_eq]; exact h9, ?_⟩
  have t1 : Touch F F w A := by rw [← hA]; exact touch_cell _ _ _ _ hFb
  have t2 : Touch F F A B := by rw [← hB]; exact touch_cell _ _ _ _ hFb
  have t3 : Touch F F B C := by rw [← hC]; exact touch_cell _ _ _ _ hFb
  exact t1.trans (t2.trans (t3.trans ((Touch.of_below hb).trans ((touch_cell _ _ _ _ hFb).trans (ht.mono (fun x hx => (hF' x hx).1) (fun x hx => .inr hx))))))
def MarkRet (F : Nat → Prop) (v : Value) (k : Int) (ts : List V) (w : World) (e : Ending) (w' : World) : Prop := e = .returned (.int .i64 (k + cnts ts)) ∧ OwnS w' F v (mkVs k ts) ∧ Touch F F w w'
set_option maxHeartbeats 1000000 in
theorem mark_list : ∀ (n : Nat) (ts : List V), szs ts ≤ n → ∀ (F : Nat → Prop) (v : Value) (k : Int) (w : World), OwnS w F v ts → 0 ≤ k → k + cnts ts ≤ 1152921504606846976 →
    Calls Tryd.prog 29 #[v, .int .i64 k] w (MarkRet F v k ts w) := by
  intro n
  induction n using Nat.strongRecOn with
  | ind n ih =>
  intro ts hn F v k w ho hk0 hk
  obtain ⟨a, b, off, cap, rfl, ha, hc, hm⟩ := ho.form
  have IH := Lib.hid ih; have HA := Lib.hid ha; have HO := Lib.hid ho; have HK := Lib.hid hk; have HN := Lib.hid hn
  have hlen : ts.length ≤ 9223372036854775807 := by omega
  clear ih ha ho hc hm hn
  have HKI := Lib.hid (show k ≤ 1152921504606846976 by omega)
  clear hk
  go_enter Tryd.func29, Tryd.ntmps29
  go_wp2_with fail
  go_loopw [1, 5] (fun x i wr => ∃ (j : Nat) (q : Int), j ≤ ts.length ∧ i = .int .i64 j ∧ x = .int .i64 q ∧ Hid (q = k + cnts (ts.take j)) ∧ OwnS wr F (.slice a ts.length cap) (mixV k ts j) ∧ Touch F F w wr) (fun _ i _ => ts.length - (intOf i).toNat)
  case atStart => exact ⟨0, k, by omega, rfl, rfl, Lib.hid (by simp [cnts]), by simpa [mixV, mkVs] using HO.out, Touch.refl _ _⟩
  case round =>
    obtain ⟨j, q, hj, rfl, rfl, HQ, ho, ht⟩ := hrel
    have HOR := Lib.hid ho; have HT := Lib.hid ht
    clear ho ht
    by_cases hlt : j < ts.length
    · have hne : ts ≠ [] := by intro e; rw [e] at hlt; simp at hlt
      obtain rfl := HA.out hne
      have hq0 : 0 ≤ q := by rw [HQ.out]; omega
      have hq1 : q + ts[j].cnt ≤ 1152921504606846976 := by
        have h1 := cnts_take ts j hlt; have h2 := cnts_take_le ts (j + 1); have h3 := HK.out; rw [HQ.out]; omega
      have hcn := V.cnt_eq ts[j]
      have hq2 : q ≤ 1152921504606846976 := by omega
      have hjm : j < (mixV k ts j).length := by rw [mixV_length k ts j hj]; exact hlt
      have HG := Lib.hid (mixV_get k ts j hlt hjm)
      obtain ⟨hFb, hbw, hfz, hwf, sl, ⟨c0, c1, c2, c3, c4⟩, _⟩ := HOR.out.elem hjm
      have ME := Lib.hid (fun w1 hb => mark_elem (w1 := w1) (w2 := w1) q HOR.out hjm hq0 hq2 hb)
      have MT := Lib.hid (fun W => markText_any (q + 1 + 1 + 1) W (by omega))
      have HS := Lib.hid (mixV_set k ts j hlt)
      have HQ2 := Lib.hid (show q + ts[j].cnt = k + cnts (ts.take (j + 1)) by rw [HQ.out, cnts_take ts j hlt]; omega)
      have HC := Lib.hid (show q + 1 + 1 + 1 + 1 + cnts ts[j].kids = q + ts[j].cnt by omega)
      have HLe := Lib.hid (show q + 1 + 1 + 1 + 1 + cnts ts[j].kids ≤ 1152921504606846976 by omega)
      have hzk : szs ts[j].kids < n := by have h1 := szs_mem (List.getElem_mem hlt); have h2 := V.sz_eq ts[j]; have := HN.out; omega
      have IHJ := Lib.hid (fun F' sl' (W : World) (hoo : OwnS W F' sl' ts[j].kids) => IH.out (szs ts[j].kids) hzk ts[j].kids (Nat.le_refl _) F' sl' (q + 1 + 1 + 1 + 1) W hoo (by omega) HLe.out)
      clear hq1 hcn hwf hFb hzk
      generalize hT0 : (mixV k ts j)[j] = T0 at *
      have HT0 := Lib.hid hT0; clear hT0
      go_wp2_with fail
      refine (MT.out _).mono ?_
      rintro e1 w1 ⟨rfl, hb1⟩
      obtain ⟨sl1, d3, df, d4, _, F', hk5, back⟩ := ME.out w1 (by simpa using hb1)
      rw [HG.out] at hk5 back
      have HK5 := Lib.hid hk5; have BK := Lib.hid back
      obtain ⟨ksa, _, _, kcap, rfl, _⟩ := hk5.form
      clear hk5 back c0 c1 c2 c3 c4
      go_wp2_with fail
      refine (IHJ.out F' _ _ HK5.out).mono ?_
      rintro e2 w2 ⟨rfl, ho2, ht2⟩
      obtain ⟨ho3, ht3⟩ := BK.out w2 ho2 ht2
      have HO3 := Lib.hid ho3; have HT3 := Lib.hid ht3
      rw [HC.out]
      clear ho2 ht2 ho3 ht3
      go_wp2_with fail
      go_roundw
      case rel => exact ⟨j + 1, q + ts[j].cnt, by omega, by go_num, rfl, HQ2, by have := HO3.out; rw [HQ.out, HS.out] at this; exact this, HT.out.trans HT3.out⟩
      case measure => simp [intOf]; omega
    · have hj' : j = ts.length := by omega
      subst hj'
      have H1 := Lib.hid (show q = k + cnts ts by rw [HQ.out, List.take_length])
      have H2 := Lib.hid (show mixV k ts ts.length = mkVs k ts by simp [mixV])
      go_wp2_with fail
      go_ret
      exact ⟨by rw [← H1.out]; rfl, by have := HOR.out; rw [H2.out] at this; exact this, HT.out⟩
def MarkVRet (F : Nat → Prop) (sl : Value) (k : Int) (ts : List V) (w : World) (e : Ending) (w' : World) : Prop := e = .returned (.int .i64 (k + cnts ts)) ∧ OwnS w' F sl (mkVs k ts) ∧ Touch F F w w'
set_option maxHeartbeats 400000 in
theorem mark_value (t : V) (sl : Value) (F : Nat → Prop) (k : Int) (w : World) (ho : OwnS w F sl t.kids) (hk0 : 0 ≤ k) (hk : k + cnts t.kids ≤ 1152921504606846976) :
    Calls Tryd.prog 11 #[t.agg sl, .int .i64 k] w (MarkVRet F sl k t.kids w) := by
  have HM := Lib.hid (fun (W : World) (hW : Below w.heap.size w W) => mark_list _ t.kids (Nat.le_refl _) F sl k W (ho.keep (fun x _ hx => hW.block x hx)) hk0 hk)
  obtain ⟨a, _, _, cap, rfl, _⟩ := ho.form
  have HP := Lib.hid (show ∀ e w', MarkRet F (.slice a t.kids.length cap) k t.kids (w.alloc (.cells #[.int .i64 t.k, .int .i64 t.n, .int .i64 t.e, .string t.s, .slice a t.kids.length cap] 30)) e w' → MarkVRet F (.slice a t.kids.length cap) k t.kids w e w' from
    fun e w' ⟨h1, h2, h3⟩ => ⟨h1, h2, (Touch.of_below ((Below.refl _ _).alloc (Nat.le_refl _) _)).trans h3⟩)
  clear hk ho
  unfold V.agg
  generalize t.k = vk at *
  generalize t.n = vn at *
  generalize t.e = ve at *
  generalize t.s = vs at *
  go_enter Tryd.func11, Tryd.ntmps11
  go_wp2_with fail
  refine (HM.out _ (by (repeat' (first | with_reducible exact Below.refl _ _ | with_reducible refine below_alloc ?_ _ ?_ | with_reducible refine Below.setCell ?_ ?_ _ | with_reducible refine Below.drew ?_ | with_reducible refine Go.below_drewN ?_ _ | with_reducible refine below_step ?_ (by assumption) ?_ | with_reducible refine below_mark ?_ (by assumption) ?_)); all_goals (first | omega | (simp; done) | (simp; omega)))).mono ?_
  rintro e w1 ⟨rfl, h2, h3⟩
  have HP2 := Lib.hid (HP.out _ _ ⟨rfl, h2, h3⟩)
  clear h2 h3
  go_wp2_with fail
  go_ret
  exact HP2.out
theorem RepS.opened {w : World} {v : Value} {ts : List V} (h : RepS w v ts) : ∃ a b off cap, v = .slice a ts.length cap ∧ (ts ≠ [] → a = some ⟨b, off, none⟩ ∧ b < w.heap.size) ∧ ts.length ≤ cap ∧ cap ≤ 9223372036854775807 ∧
    ∃ sls : Nat → Value, ∀ i (h : i < ts.length), Cells5 w b (off + i * 5) ts[i] (sls i) ∧ ts[i].wf ∧ RepS w (sls i) ts[i].kids := by
  cases h with
  | mk a b off cap ts0 sls ha hc hm hbb cells wfs kids => exact ⟨a, b, off, cap, rfl, fun hne => ⟨ha hne, hbb hne⟩, hc, hm, sls, fun i hi => ⟨cells i hi, wfs i hi, kids i hi⟩⟩
def HeldRet (k : Int) (ts : List V) (w : World) (e : Ending) (w' : World) : Prop := e = .returned (.int .i64 (k + cnts ts)) ∧ Below w.heap.size w w'
set_option maxHeartbeats 1000000 in
theorem held_list (w0 : World) : ∀ (n : Nat) (ts : List V), szs ts ≤ n → ∀ (v : Value) (k : Int) (w : World), RepS w0 v (mkVs k ts) → Below w0.heap.size w0 w → 0 ≤ k → k + cnts ts ≤ 1152921504606846976 →
    Calls Tryd.prog 32 #[v, .int .i64 k] w (HeldRet k ts w) := by
  intro n
  induction n using Nat.strongRecOn with
  | ind n ih =>
  intro ts hn v k w ho hw hk0 hk
  obtain ⟨a, b, off, cap, hv, ha, hc, hm, sls, hel⟩ := ho.opened
  rw [mkVs_length] at hv hc
  subst hv
  have IH := Lib.hid ih; have HA := Lib.hid ha; have HE := Lib.hid hel; have HK := Lib.hid hk; have HN := Lib.hid hn
  have hlen : ts.length ≤ 9223372036854775807 := by omega
  clear ih ha ho hc hm hn hel
  have HKI := Lib.hid (show k ≤ 1152921504606846976 by omega)
  clear hk
  go_enter Tryd.func32, Tryd.ntmps32
  go_wp2_with fail
  go_loopw [1, 5] (fun x i wr => ∃ (j : Nat) (q : Int), j ≤ ts.length ∧ i = .int .i64 j ∧ x = .int .i64 q ∧ Hid (q = k + cnts (ts.take j)) ∧ Below w.heap.size w wr) (fun _ i _ => ts.length - (intOf i).toNat)
  case atStart => exact ⟨0, k, by omega, rfl, rfl, Lib.hid (by simp [cnts]), Below.refl _ _⟩
  case round =>
    obtain ⟨j, q, hj, rfl, rfl, HQ, hbl⟩ := hrel
    by_cases hlt : j < ts.length
    · have hjm : j < (mkVs k ts).length := by rw [mkVs_length]; exact hlt
      have hne : mkVs k ts ≠ [] := by intro e; rw [e] at hjm; simp at hjm
      obtain ⟨rfl, hbw⟩ := HA.out hne
      have hq0 : 0 ≤ q := by rw [HQ.out]; omega
      have hq1 : q + ts[j].cnt ≤ 1152921504606846976 := by
        have h1 := cnts_take ts j hlt; have h2 := cnts_take_le ts (j + 1); have h3 := HK.out; rw [HQ.out]; omega
      have hcn := V.cnt_eq ts[j]
      have hq2 : q ≤ 1152921504606846976 := by omega
      have HWR := Lib.hid (hw.trans (hbl.mono hw.size))
      obtain ⟨hcells, _, hkk⟩ := HE.out j hjm
      rw [mkVs_get k ts j hjm hlt, ← HQ.out, mkV_eq] at hcells hkk
      have hkk' : RepS w0 (sls j) (mkVs (q + 1 + 1 + 1 + 1) ts[j].kids) := hkk
      obtain ⟨c0, c1, c2, c3, c4⟩ := hcells.keep (HWR.out.block b hbw)
      have c0' : wr.cell? ⟨b, off + j * 5, none⟩ = some (.int .i64 q) := c0
      have c1' : wr.cell? ⟨b, off + j * 5 + 1, none⟩ = some (.int .i64 (q + 1)) := c1
      have c2' : wr.cell? ⟨b, off + j * 5 + 2, none⟩ = some (.int .i64 (q + 1 + 1)) := c2
      have c3' : wr.cell? ⟨b, off + j * 5 + 3, none⟩ = some (.string (mt (q + 1 + 1 + 1))) := c3
      clear c0 c1 c2 c3 hcells
      have MT := Lib.hid (fun W => markText_any (q + 1 + 1 + 1) W (by omega))
      have HQ2 := Lib.hid (show q + ts[j].cnt = k + cnts (ts.take (j + 1)) by rw [HQ.out, cnts_take ts j hlt]; omega)
      have HC := Lib.hid (show q + 1 + 1 + 1 + 1 + cnts ts[j].kids = q + ts[j].cnt by omega)
      have hpos : 0 ≤ q + ts[j].cnt := by omega
      have HLe := Lib.hid (show q + 1 + 1 + 1 + 1 + cnts ts[j].kids ≤ 1152921504606846976 by omega)
      have hzk : szs ts[j].kids < n := by have h1 := szs_mem (List.getElem_mem hlt); have h2 := V.sz_eq ts[j]; have := HN.out; omega
      obtain ⟨ka, _, _, kcap, hks, _⟩ := hkk'.opened
      rw [hks] at c4
      have IHJ := Lib.hid (fun (W : World) (hW : Below wr.heap.size wr W) => IH.out (szs ts[j].kids) hzk ts[j].kids (Nat.le_refl _) (sls j) (q + 1 + 1 + 1 + 1) W hkk' (below_step HWR.out hW (by have := HWR.out.size; omega)) (by omega) HLe.out)
      rw [hks] at IHJ
      clear hq1 hcn hzk hks hkk hkk'
      have t1 := ba_yes (rfl : mt (q + 1 + 1 + 1) = mt (q + 1 + 1 + 1))
      generalize mt (q + 1 + 1 + 1) = s at *
      have hbr : b < wr.heap.size := Nat.lt_of_lt_of_le hbw HWR.out.size
      go_wp2_with fail
      go_region_held3 (fun w' => w'.cell? ⟨b, off + j * 5 + 3, none⟩ = some (.string s)) (first | assumption | go_keep) ((go_at_call 30; refine (MT.out _).mono ?_; rintro e2 w2 ⟨rfl, hb2⟩; have hbc := (hb2.cell (p := ⟨b, off + j * 5 + 3, none⟩) (by simp; omega)); have hbc2 := hbc.trans ‹_›; have hbd := (hb2.cell (p := ⟨b, off + j * 5 + 4, none⟩) (by simp; omega))))
      go_wp2_with fail
      refine (IHJ.out _ (by (repeat' (first | with_reducible exact Below.refl _ _ | with_reducible refine below_alloc ?_ _ ?_ | with_reducible refine Below.setCell ?_ ?_ _ | with_reducible refine Below.drew ?_ | with_reducible refine Go.below_drewN ?_ _ | with_reducible refine below_step ?_ (by assumption) ?_ | with_reducible refine below_mark ?_ (by assumption) ?_)); all_goals (first | omega | (simp; done) | (simp; omega)))).mono ?_
      rintro e3 w3 ⟨rfl, hb3⟩
      rw [HC.out]
      go_wp2_with fail
      go_roundw
      case rel => exact ⟨j + 1, q + ts[j].cnt, by omega, by go_num, rfl, HQ2, (by (repeat' (first | with_reducible exact Below.refl _ _ | with_reducible refine below_alloc ?_ _ ?_ | with_reducible refine Below.setCell ?_ ?_ _ | with_reducible refine Below.drew ?_ | with_reducible refine Go.below_drewN ?_ _ | with_reducible refine below_step ?_ (by assumption) ?_ | with_reducible refine below_mark ?_ (by assumption) ?_)); all_goals (first | omega | (simp; done) | (simp; omega)))⟩
      case measure => simp [intOf]; omega
    · have hj' : j = ts.length := by omega
      subst hj'
      have H1 := Lib.hid (show q = k + cnts ts by rw [HQ.out, List.take_length])
      go_wp2_with fail
      go_ret
      exact ⟨by rw [← H1.out]; rfl, hbl⟩
set_option maxHeartbeats 400000 in
theorem held_value (w0 : World) (t : V) (sl : Value) (k : Int) (w : World) (ho : RepS w0 sl (mkVs k t.kids)) (hw : Below w0.heap.size w0 w) (vk vn ve : Int) (vs : ByteArray) (hk0 : 0 ≤ k) (hk : k + cnts t.kids ≤ 1152921504606846976) :
    Calls Tryd.prog 20 #[.agg #[.int .i64 vk, .int .i64 vn, .int .i64 ve, .string vs, sl], .int .i64 k] w (HeldRet k t.kids w) := by
  have HM := Lib.hid (fun (W : World) (hW : Below w.heap.size w W) => held_list w0 _ t.kids (Nat.le_refl _) sl k W ho (below_step hw hW (Nat.le_refl _)) hk0 hk)
  obtain ⟨a, _, _, cap, rfl, _⟩ := ho.opened
  rw [mkVs_length] at HM ⊢
  have hpos : 0 ≤ k + cnts t.kids := by omega
  clear hk ho hw
  go_enter Tryd.func20, Tryd.ntmps20
  go_wp2_with fail
  refine (HM.out _ (by (repeat' (first | with_reducible exact Below.refl _ _ | with_reducible refine below_alloc ?_ _ ?_ | with_reducible refine Below.setCell ?_ ?_ _ | with_reducible refine Below.drew ?_ | with_reducible refine Go.below_drewN ?_ _ | with_reducible refine below_step ?_ (by assumption) ?_ | with_reducible refine below_mark ?_ (by assumption) ?_)); all_goals (first | omega | (simp; done) | (simp; omega)))).mono ?_
  rintro e w1 ⟨rfl, hb1⟩
  go_wp2_with fail
  go_ret
  exact ⟨rfl, (by (repeat' (first | with_reducible exact Below.refl _ _ | with_reducible refine below_alloc ?_ _ ?_ | with_reducible refine Below.setCell ?_ ?_ _ | with_reducible refine Below.drew ?_ | with_reducible refine Go.below_drewN ?_ _ | with_reducible refine below_step ?_ (by assumption) ?_ | with_reducible refine below_mark ?_ (by assumption) ?_)); all_goals (first | omega | (simp; done) | (simp; omega)))⟩
end Go.Proofs.YtaphlemmlmdkiaaDoor
namespace Go.Proofs.YtaphlemmlmdkiaaDoor
set_option linter.unusedSimpArgs false
set_option linter.unusedVariables false
set_option maxRecDepth 100000
open Go.RowKit
def BoolRet (b : Bool) (w : World) (e : Ending) (w' : World) : Prop := e = .returned (.bool b) ∧ Below w.heap.size w w'
theorem V.ext_iff (t u : V) : t = u ↔ t.k = u.k ∧ t.n = u.n ∧ t.e = u.e ∧ t.s = u.s ∧ t.kids = u.kids := by
  cases t; cases u
  simp [V.k, V.n, V.e, V.s, V.kids]
set_option maxHeartbeats 1000000 in
theorem same_value (t u : V) (sl sm : Value) (w : World)
    (ih : ∀ (w' : World), Below w.heap.size w w' → Calls Tryd.prog 75 #[sl, sm, .func (.func 49) #[] #[]] w' (BoolRet (decide (t.kids = u.kids)) w')) :
    Calls Tryd.prog 49 #[t.agg sl, u.agg sm] w (BoolRet (decide (t = u)) w) := by
  have hpost : ∃ b : Bool, b = decide (t = u) := ⟨_, rfl⟩
  obtain ⟨b, hb⟩ := hpost
  rw [← hb]
  have HB := Lib.hid (show b = decide (t.k = u.k ∧ t.n = u.n ∧ t.e = u.e ∧ t.s = u.s ∧ t.kids = u.kids) by rw [hb]; simp only [V.ext_iff])
  clear hb
  have IH := Lib.hid ih; clear ih
  unfold V.agg
  generalize t.kids = tk at *
  generalize u.kids = uk at *
  generalize t.k = k at *
  generalize t.n = n at *
  generalize t.e = e at *
  generalize t.s = s at *
  generalize u.k = k2 at *
  generalize u.n = n2 at *
  generalize u.e = e2 at *
  generalize u.s = s2 at *
  by_cases h1 : k = k2
  case neg =>
    have H := Lib.hid (show b = false by rw [HB.out, decide_eq_false (fun h => h1 h.1)])
    have t1 : (k == k2) = false := by simpa using h1
    clear h1 IH HB
    go_enter Tryd.func49, Tryd.ntmps49
    go_wp2_with fail
    go_ret
    exact ⟨by rw [H.out]; rfl, (by (repeat' (first | with_reducible exact Below.refl _ _ | with_reducible refine below_alloc ?_ _ ?_ | with_reducible refine Below.setCell ?_ ?_ _ | with_reducible refine Below.drew ?_ | with_reducible refine Go.below_drewN ?_ _ | with_reducible refine below_step ?_ (by assumption) ?_ | with_reducible refine below_mark ?_ (by assumption) ?_)); all_goals (first | omega | (simp; done) | (simp; omega)))⟩
  have t1 : (k == k2) = true := by simpa using h1
  by_cases h2 : n = n2
  case neg =>
    have H := Lib.hid (show b = false by rw [HB.out, decide_eq_false (fun h => h2 h.2.1)])
    have t2 : (n == n2) = false := by simpa using h2
    clear h1 h2 IH HB
    go_enter Tryd.func49, Tryd.ntmps49
    go_wp2_with fail
    go_ret
    exact ⟨by rw [H.out]; rfl, (by (repeat' (first | with_reducible exact Below.refl _ _ | with_reducible refine below_alloc ?_ _ ?_ | with_reducible refine Below.setCell ?_ ?_ _ | with_reducible refine Below.drew ?_ | with_reducible refine Go.below_drewN ?_ _ | with_reducible refine below_step ?_ (by assumption) ?_ | with_reducible refine below_mark ?_ (by assumption) ?_)); all_goals (first | omega | (simp; done) | (simp; omega)))⟩
  have t2 : (n == n2) = true := by simpa using h2
  by_cases h3 : e = e2
  case neg =>
    have H := Lib.hid (show b = false by rw [HB.out, decide_eq_false (fun h => h3 h.2.2.1)])
    have t3 : (e == e2) = false := by simpa using h3
    clear h1 h2 h3 IH HB
    go_enter Tryd.func49, Tryd.ntmps49
    go_wp2_with fail
    go_ret
    exact ⟨by rw [H.out]; rfl, (by (repeat' (first | with_reducible exact Below.refl _ _ | with_reducible refine below_alloc ?_ _ ?_ | with_reducible refine Below.setCell ?_ ?_ _ | with_reducible refine Below.drew ?_ | with_reducible refine Go.below_drewN ?_ _ | with_reducible refine below_step ?_ (by assumption) ?_ | with_reducible refine below_mark ?_ (by assumption) ?_)); all_goals (first | omega | (simp; done) | (simp; omega)))⟩
  have t3 : (e == e2) = true := by simpa using h3
  by_cases h4 : s = s2
  case neg =>
    have H := Lib.hid (show b = false by rw [HB.out, decide_eq_false (fun h => h4 h.2.2.2.1)])
    have t4 := ba_no h4
    clear h1 h2 h3 h4 IH HB
    go_enter Tryd.func49, Tryd.ntmps49
    go_wp2_with fail
    go_ret
    exact ⟨by rw [H.out]; rfl, (by (repeat' (first | with_reducible exact Below.refl _ _ | with_reducible refine below_alloc ?_ _ ?_ | with_reducible refine Below.setCell ?_ ?_ _ | with_reducible refine Below.drew ?_ | with_reducible refine Go.below_drewN ?_ _ | with_reducible refine below_step ?_ (by assumption) ?_ | with_reducible refine below_mark ?_ (by assumption) ?_)); all_goals (first | omega | (simp; done) | (simp; omega)))⟩
  have t4 := ba_yes h4
  have H := Lib.hid (show b = decide (tk = uk) by rw [HB.out]; simp [h1, h2, h3, h4])
  clear h1 h2 h3 h4 HB
  go_enter Tryd.func49, Tryd.ntmps49
  go_wp2_with fail
  refine (IH.out _ (by (repeat' (first | with_reducible exact Below.refl _ _ | with_reducible refine below_alloc ?_ _ ?_ | with_reducible refine Below.setCell ?_ ?_ _ | with_reducible refine Below.drew ?_ | with_reducible refine Go.below_drewN ?_ _ | with_reducible refine below_step ?_ (by assumption) ?_ | with_reducible refine below_mark ?_ (by assumption) ?_)); all_goals (first | omega | (simp; done) | (simp; omega)))).mono ?_
  rintro x w1 ⟨rfl, hb1⟩
  rw [← H.out]
  go_wp2_with fail
  go_ret
  exact ⟨rfl, (by (repeat' (first | with_reducible exact Below.refl _ _ | with_reducible refine below_alloc ?_ _ ?_ | with_reducible refine Below.setCell ?_ ?_ _ | with_reducible refine Below.drew ?_ | with_reducible refine Go.below_drewN ?_ _ | with_reducible refine below_step ?_ (by assumption) ?_ | with_reducible refine below_mark ?_ (by assumption) ?_)); all_goals (first | omega | (simp; done) | (simp; omega)))⟩
set_option maxHeartbeats 1000000 in
theorem same_list (w0 : World) (v : Value) (ts : List V) (h : RepS w0 v ts) : ∀ (u : Value) (us : List V), RepS w0 u us → ∀ (w : World), Below w0.heap.size w0 w →
    Calls Tryd.prog 75 #[v, u, .func (.func 49) #[] #[]] w (BoolRet (decide (ts = us)) w) := by
  induction h with
  | mk a b off cap ts sls ha hc hm hbb cells wfs kids ih =>
  intro u us hu w hw
  obtain ⟨a2, b2, off2, cap2, rfl, ha2, hc2, hm2, sls2, hel⟩ := hu.opened
  have HP := Lib.hid (show ∃ b : Bool, b = decide (ts = us) from ⟨_, rfl⟩)
  by_cases hlen : ts.length = us.length
  case neg =>
    have H := Lib.hid (show decide (ts = us) = false from decide_eq_false (fun e => hlen (by rw [e])))
    have t1 : ((ts.length : Int) != us.length) = true := by simp; omega
    rw [H.out]
    clear ih cells wfs kids hel hlen HP
    go_enter Tryd.func75, Tryd.ntmps75
    go_wp2_with fail
    go_ret
    exact ⟨rfl, (by (repeat' (first | with_reducible exact Below.refl _ _ | with_reducible refine below_alloc ?_ _ ?_ | with_reducible refine Below.setCell ?_ ?_ _ | with_reducible refine Below.drew ?_ | with_reducible refine Go.below_drewN ?_ _ | with_reducible refine below_step ?_ (by assumption) ?_ | with_reducible refine below_mark ?_ (by assumption) ?_)); all_goals (first | omega | (simp; done) | (simp; omega)))⟩
  have HLEN := Lib.hid hlen
  have IH := Lib.hid ih; have CC := Lib.hid cells; have WF := Lib.hid wfs; have HA := Lib.hid ha; have HA2 := Lib.hid ha2; have HE := Lib.hid hel; have KK := Lib.hid kids
  have hl63 : ts.length ≤ 9223372036854775807 := by omega
  obtain ⟨bb, hbbe⟩ := HP.out
  rw [← hbbe]
  have HB := Lib.hid hbbe
  clear ih cells wfs kids ha ha2 hel hc hm hc2 hm2 HP hbbe
  rw [← hlen]
  clear hlen
  go_enter Tryd.func75, Tryd.ntmps75
  go_wp2_with fail
  go_loopw [17] (fun i wr => ∃ k : Nat, k ≤ ts.length ∧ i = .int .i64 k ∧ Hid (ts.take k = us.take k) ∧ Below w.heap.size w wr) (fun i _ => ts.length - (intOf i).toNat)
  case atStart => exact ⟨0, by omega, rfl, Lib.hid (by simp), Below.refl _ _⟩
  case round =>
    obtain ⟨k, hk, rfl, HT, hbl⟩ := hrel
    by_cases hlt : k < ts.length
    · have hlt2 : k < us.length := by rw [← HLEN.out]; exact hlt
      have hne : ts ≠ [] := by intro e; rw [e] at hlt; simp at hlt
      have hne2 : us ≠ [] := by intro e; rw [e] at hlt2; simp at hlt2
      obtain rfl := HA.out hne
      obtain ⟨rfl, hbw2⟩ := HA2.out hne2
      have hbw := hbb hne
      have HWR := Lib.hid (hw.trans (hbl.mono hw.size))
      have hzr := HWR.out.size
      obtain ⟨c0, c1, c2, c3, c4⟩ := (CC.out k hlt).keep (HWR.out.block b hbw)
      obtain ⟨d0, d1, d2, d3, d4⟩ := (HE.out k hlt2).1.keep (HWR.out.block b2 hbw2)
      have S1 := Lib.hid (fun (W : World) (hW : Below wr.heap.size wr W) => same_value ts[k] us[k] (sls k) (sls2 k) W (fun w' hb' => IH.out k hlt (sls2 k) us[k].kids (HE.out k hlt2).2.2 w' (HWR.out.trans ((hW.trans (hb'.mono hW.size)).mono hzr))))
      have HS := Lib.hid (show ts.take (k + 1) = ts.take k ++ [ts[k]] ∧ us.take (k + 1) = us.take k ++ [us[k]] from ⟨List.take_succ_eq_append_getElem hlt, List.take_succ_eq_append_getElem hlt2⟩)
      obtain ⟨a3, cap3, hs3⟩ := (KK.out k hlt).slice
      obtain ⟨a4, cap4, hs4⟩ := (HE.out k hlt2).2.2.slice
      rw [hs3] at c4 S1
      rw [hs4] at d4 S1
      unfold V.agg at S1
      clear hs3 hs4
      have hbr : b < wr.heap.size := Nat.lt_of_lt_of_le hbw hzr
      have hbr2 : b2 < wr.heap.size := Nat.lt_of_lt_of_le hbw2 hzr
      have hbn : b2 ≠ wr.heap.size := by omega
      have hbn' : wr.heap.size ≠ b2 := by omega
      by_cases heq : ts[k] = us[k]
      · rw [decide_eq_true heq] at S1
        have HX := Lib.hid (show ts.take (k + 1) = us.take (k + 1) by rw [HS.out.1, HS.out.2, HT.out, heq])
        clear heq HS HT
        go_wp2_with fail
        refine (S1.out _ (by (repeat' (first | with_reducible exact Below.refl _ _ | with_reducible refine below_alloc ?_ _ ?_ | with_reducible refine Below.setCell ?_ ?_ _ | with_reducible refine Below.drew ?_ | with_reducible refine Go.below_drewN ?_ _ | with_reducible refine below_step ?_ (by assumption) ?_ | with_reducible refine below_mark ?_ (by assumption) ?_)); all_goals (first | omega | (simp; done) | (simp; omega)))).mono ?_
        rintro e1 w1 ⟨rfl, hb1⟩
        go_wp2_with fail
        go_roundw
        case rel => exact ⟨k + 1, by omega, by go_num, HX, (by (repeat' (first | with_reducible exact Below.refl _ _ | with_reducible refine below_alloc ?_ _ ?_ | with_reducible refine Below.setCell ?_ ?_ _ | with_reducible refine Below.drew ?_ | with_reducible refine Go.below_drewN ?_ _ | with_reducible refine below_step ?_ (by assumption) ?_ | with_reducible refine below_mark ?_ (by assumption) ?_)); all_goals (first | omega | (simp; done) | (simp; omega)))⟩
        case measure => simp [intOf]; omega
      · rw [decide_eq_false heq] at S1
        have HX := Lib.hid (show bb = false by
          rw [HB.out]
          exact decide_eq_false (fun e => heq (by subst e; rfl)))
        clear heq HS HT
        go_wp2_with fail
        refine (S1.out _ (by (repeat' (first | with_reducible exact Below.refl _ _ | with_reducible refine below_alloc ?_ _ ?_ | with_reducible refine Below.setCell ?_ ?_ _ | with_reducible refine Below.drew ?_ | with_reducible refine Go.below_drewN ?_ _ | with_reducible refine below_step ?_ (by assumption) ?_ | with_reducible refine below_mark ?_ (by assumption) ?_)); all_goals (first | omega | (simp; done) | (simp; omega)))).mono ?_
        rintro e1 w1 ⟨rfl, hb1⟩
        go_wp2_with fail
        go_ret
        exact ⟨by rw [HX.out]; rfl, (by (repeat' (first | with_reducible exact Below.refl _ _ | with_reducible refine below_alloc ?_ _ ?_ | with_reducible refine Below.setCell ?_ ?_ _ | with_reducible refine Below.drew ?_ | with_reducible refine Go.below_drewN ?_ _ | with_reducible refine below_step ?_ (by assumption) ?_ | with_reducible refine below_mark ?_ (by assumption) ?_)); all_goals (first | omega | (simp; done) | (simp; omega)))⟩
    · have HX := Lib.hid (show bb = true by
        rw [HB.out]
        have h1 := HT.out
        rw [List.take_of_length_le (by omega), List.take_of_length_le (by rw [← HLEN.out]; omega)] at h1
        exact decide_eq_true h1)
      go_wp2_with fail
      go_ret
      exact ⟨by rw [HX.out]; rfl, hbl⟩
theorem same_any (w0 : World) (v u : Value) (t x : V) (h : Rep w0 v t) (h2 : Rep w0 u x) (w : World) (hw : Below w0.heap.size w0 w) : Calls Tryd.prog 49 #[v, u] w (BoolRet (decide (t = x)) w) := by
  obtain ⟨sl, rfl, _, hr⟩ := h
  obtain ⟨sm, rfl, _, hr2⟩ := h2
  exact same_value t x sl sm w (fun w' hb => same_list w0 sl t.kids hr sm x.kids hr2 w' (below_step hw hb (by have := hw.size; omega)))
end Go.Proofs.YtaphlemmlmdkiaaDoor
namespace Go.Proofs.YtaphlemmlmdkiaaDoor
set_option linter.unusedSimpArgs false
set_option linter.unusedVariables false
set_option maxRecDepth 100000
open Go.RowKit Go.Shelf
structure EnvP (w : World) : Prop where
  env : Env w
  tab : Lib.TabIs Tryd.prog w "internal/strconv.uint64pow10" .u64 Lib.pow10Tab
theorem tab_below {n : String} {g : Nat} {k : IntKind} {zs : List Int} {w w' : World} (hg : Tryd.prog.globalNamed n = some g) (h : Lib.TabIs Tryd.prog w n k zs) (hb : Below w.heap.size w w') : Lib.TabIs Tryd.prog w' n k zs := by
  have hlt : g < w.heap.size := by
    rcases Nat.lt_or_ge g w.heap.size with h' | h'
    · exact h'
    · exfalso
      unfold Lib.TabIs World.var? at h
      rw [hg] at h
      simp [Array.getElem?_eq_none h'] at h
  exact var?_below hb hg hlt h
theorem EnvP.keep {w w' : World} (h : EnvP w) (hb : Below w.heap.size w w') : EnvP w' := ⟨h.env.keep hb, tab_below (g := Tryd.laysItoa_ren.g 17) (by kernel_rfl) h.tab hb⟩
set_option maxHeartbeats 400000 in
theorem steps1_any (s : ByteArray) (hs : s.size ≤ 9223372036854775807) (w : World) (hE : Env w) : Calls Tryd.prog 56 #[.string s] w (BoolRet (!stepOk s) w) := by
  have TX := Lib.hid (textOk_impl s w hs hE)
  have HS := Lib.hid (show (!stepOk s) = !(decide (s.size ≤ 2000) && txt s) from rfl)
  clear hE
  generalize (!stepOk s) = R at *
  generalize txt s = b at *
  by_cases h : s.size ≤ 2000
  · go_enter Tryd.func56, Tryd.ntmps56
    go_wp2_with fail
    refine TX.out.mono ?_
    rintro e w1 ⟨rfl, hb1⟩
    cases b
    all_goals
      go_wp2_with fail
      go_ret
      exact ⟨by rw [HS.out]; simp [h] <;> (first | rfl | omega), hb1⟩
  · go_enter Tryd.func56, Tryd.ntmps56
    go_wp2_with fail
    go_ret
    exact ⟨by rw [HS.out]; simp [h] <;> (first | rfl | omega), Below.refl _ _⟩
theorem steps1_enters : ∀ args w, (callFunc 56 args).run Tryd.prog w = .ok (.enter 56 args) w := enters_of Tryd.func56 (by kernel_rfl) rfl
set_option maxHeartbeats 1000000 in
theorem stepsIdx_any (w0 : World) (hE : Env w0) (v : Value) (l : List ByteArray) (h : RepSs w0 v l) (w : World) (hw : Below w0.heap.size w0 w) :
    Calls Tryd.prog 81 #[v, .func (.func 56) #[] #[]] w fun e w' => (∃ i : Int, e = .returned (.int .i64 i) ∧ (0 ≤ i ↔ l.all stepOk = false) ∧ -1 ≤ i ∧ i ≤ l.length) ∧ Below w.heap.size w w' := by
  obtain ⟨a, b, off, cap, rfl, ha, hc, hm, hcell⟩ := h
  have HA := Lib.hid ha; have HC := Lib.hid hcell
  have hl63 : l.length ≤ 9223372036854775807 := by omega
  have hF := Lib.hid steps1_enters
  have ST := Lib.hid (fun (s : ByteArray) (hs : s.size ≤ 9223372036854775807) (W : World) (hW : Below w0.heap.size w0 W) => steps1_any s hs W (hE.keep hW))
  have HALL := Lib.hid (show ∀ k (hk : k < l.length), (∀ j (hj : j < l.length), j < k → stepOk l[j] = true) → stepOk l[k] = false → l.all stepOk = false from fun k hk _ hb => by
    rw [Bool.eq_false_iff]
    intro hall
    have := List.all_eq_true.1 hall l[k] (List.getElem_mem hk)
    rw [hb] at this; cases this)
  have HNO := Lib.hid (show (∀ j (hj : j < l.length), stepOk l[j] = true) → ¬ l.all stepOk = false from fun hj he => by
    have : l.all stepOk = true := by
      rw [List.all_eq_true]
      intro x hx
      obtain ⟨j, h1, rfl⟩ := List.getElem_of_mem hx
      exact hj j h1
    rw [he] at this; cases this)
  clear ha hcell hc hm hE
  go_enter Tryd.func81, Tryd.ntmps81
  go_wp2_with fail
  go_loopw [8] (fun i wr => ∃ k : Nat, k ≤ l.length ∧ i = .int .i64 k ∧ Hid (∀ j (hj : j < l.length), j < k → stepOk l[j] = true) ∧ Hid (Below w.heap.size w wr)) (fun i _ => l.length - (intOf i).toNat)
  case atStart => exact ⟨0, by omega, rfl, Lib.hid (fun j hj h => absurd h (by omega)), Lib.hid (Below.refl _ _)⟩
  case round =>
    obtain ⟨k, hk, rfl, HK, HB⟩ := hrel
    by_cases hlt : k < l.length
    · have hne : l ≠ [] := by intro e; rw [e] at hlt; simp at hlt
      obtain ⟨rfl, hbw⟩ := HA.out hne
      have HWB := Lib.hid (hw.trans (HB.out.mono hw.size))
      have d0 : wr.cell? ⟨b, off + k, none⟩ = some (.string l[k]) := by rw [HWB.out.cell (p := ⟨b, off + k, none⟩) hbw]; exact (HC.out k hlt).1
      have S1 := Lib.hid (ST.out l[k] (HC.out k hlt).2 wr HWB.out)
      have HA1 := Lib.hid (HALL.out k hlt HK.out)
      have HK1 := Lib.hid (show stepOk l[k] = true → ∀ j (hj : j < l.length), j < k + 1 → stepOk l[j] = true from fun h j hj hjk => by
        by_cases e : j = k
        · subst e; exact h
        · exact HK.out j hj (by omega))
      generalize hx : l[k] = x at *
      clear hx
      go_wp2_with fail
      refine S1.out.mono ?_
      rintro e1 w1 ⟨rfl, hb1⟩
      have HB1 := Lib.hid (HB.out.trans (hb1.mono HB.out.size))
      clear hb1
      generalize stepOk x = q at *
      cases q
      · go_wp2_with fail
        go_ret
        exact ⟨⟨_, rfl, ⟨fun _ => HA1.out trivial, fun _ => by omega⟩, by omega, by omega⟩, HB1.out⟩
      · go_wp2_with fail
        go_roundw
        case rel => exact ⟨k + 1, by omega, by go_num, Lib.hid (HK1.out trivial), HB1⟩
        case measure => simp [intOf]; omega
    · have hkl : k = l.length := by omega
      subst hkl
      go_wp2_with fail
      go_ret
      exact ⟨⟨_, rfl, ⟨fun h => absurd h (by omega), fun h => absurd h (HNO.out (fun j hj => HK.out j hj hj))⟩, by omega, by omega⟩, HB.out⟩
set_option maxHeartbeats 400000 in
theorem stepsHas_any (w0 : World) (hE : Env w0) (v : Value) (l : List ByteArray) (h : RepSs w0 v l) (w : World) (hw : Below w0.heap.size w0 w) :
    Calls Tryd.prog 55 #[v, .func (.func 56) #[] #[]] w (BoolRet (!(l.all stepOk)) w) := by
  have IX := Lib.hid (stepsIdx_any w0 hE v l h w hw)
  obtain ⟨a, b, off, cap, rfl, _⟩ := h
  clear hE hw
  generalize l.all stepOk = q at *
  go_enter Tryd.func55, Tryd.ntmps55
  go_wp2_with fail
  refine IX.out.mono ?_
  rintro e w1 ⟨⟨i, rfl, hi1, hi2, hi3⟩, hb1⟩
  by_cases h0 : 0 ≤ i
  · obtain rfl := hi1.1 h0
    clear hi1
    go_wp2_with fail
    go_ret
    exact ⟨rfl, hb1⟩
  · have hq : q = true := by cases q with | true => rfl | false => exact absurd (hi1.2 rfl) h0
    subst hq
    clear hi1
    have hd : decide ((0 : Int) ≤ i) = false := decide_eq_false h0
    go_wp2_with fail
    go_ret
    exact ⟨rfl, hb1⟩
set_option maxHeartbeats 400000 in
theorem areSteps_any (w0 : World) (hE : Env w0) (v : Value) (l : List ByteArray) (h : RepSs w0 v l) (w : World) (hw : Below w0.heap.size w0 w) :
    Calls Tryd.prog 35 #[v] w (BoolRet (stepsOk l) w) := by
  have HX := Lib.hid (stepsHas_any w0 hE v l h w hw)
  obtain ⟨a, b, off, cap, rfl, ha, hc, hm, hcell⟩ := h
  have HS := Lib.hid (show stepsOk l = (decide (l.length ≤ 12) && l.all stepOk) from rfl)
  clear hE hw ha hcell
  generalize stepsOk l = R at *
  generalize l.all stepOk = q at *
  generalize l.length = n at *
  by_cases hn : n ≤ 12
  · go_enter Tryd.func35, Tryd.ntmps35
    go_wp2_with fail
    refine HX.out.mono ?_
    rintro e w1 ⟨rfl, hb1⟩
    cases q
    all_goals
      go_wp2_with fail
      go_ret
      exact ⟨by rw [HS.out]; simp [hn] <;> (first | rfl | omega), hb1⟩
  · go_enter Tryd.func35, Tryd.ntmps35
    go_wp2_with fail
    go_ret
    exact ⟨by rw [HS.out]; simp [hn] <;> (first | rfl | omega), Below.refl _ _⟩
end Go.Proofs.YtaphlemmlmdkiaaDoor
namespace Go.Proofs.YtaphlemmlmdkiaaDoor
set_option linter.unusedSimpArgs false
set_option linter.unusedVariables false
set_option maxRecDepth 100000
open Go.RowKit
def szr (l : Int) (n : Nat) : Int := if l < n then -1 else l - n
def SzRet (w : World) (l : Int) (n : Nat) (e : Ending) (w' : World) : Prop := e = .returned (.int .i64 (szr l n)) ∧ Below w.heap.size w w'
theorem szr_lo (l : Int) (n : Nat) : -1 ≤ szr l n := by unfold szr; split <;> omega
set_option maxHeartbeats 400000 in
theorem sz_value (t : V) (sl : Value) (w : World) (l : Int) (hw : t.wf) (h0 : 0 ≤ l) (h1 : l ≤ 1048576)
    (ih : ∀ (w' : World) (l : Int), 0 ≤ l → l ≤ 1048576 → Below w.heap.size w w' → Calls Tryd.prog 21 #[sl, .int .i64 l] w' (SzRet w' l (szs t.kids))) :
    Calls Tryd.prog 5 #[t.agg sl, .int .i64 l] w (SzRet w l t.sz) := by
  obtain ⟨⟨hk0, hk1⟩, ⟨hn0, hn1⟩, ⟨he0, he1⟩, hs⟩ := hw
  have hz := V.sz_eq t
  unfold V.agg
  generalize t.k = k at *
  generalize t.n = n at *
  generalize t.e = e at *
  generalize t.s = s at *
  generalize t.sz = z at *
  generalize szs t.kids = zk at *
  have IH := Lib.hid ih; clear ih
  by_cases h : l < s.size
  · have H := Lib.hid (show szr l z = -1 by unfold szr; rw [if_pos (by omega)])
    clear hz
    go_enter Tryd.func5, Tryd.ntmps5
    go_wp2_with fail
    go_ret
    exact ⟨by rw [H.out]; rfl, (by (repeat' (first | with_reducible exact Below.refl _ _ | with_reducible refine below_alloc ?_ _ ?_ | with_reducible refine Below.setCell ?_ ?_ _ | with_reducible refine Below.drew ?_ | with_reducible refine Go.below_drewN ?_ _ | with_reducible refine below_step ?_ (by assumption) ?_ | with_reducible refine below_mark ?_ (by assumption) ?_)); all_goals (first | omega | (simp; done) | (simp; omega)))⟩
  · have H := Lib.hid (show szr l z = szr (l - s.size) zk by unfold szr; split <;> split <;> omega)
    have hlo := szr_lo (l - s.size) zk
    clear hz
    go_enter Tryd.func5, Tryd.ntmps5
    go_wp2_with fail
    refine (IH.out _ _ (by omega) (by omega) (by (repeat' (first | with_reducible exact Below.refl _ _ | with_reducible refine below_alloc ?_ _ ?_ | with_reducible refine Below.setCell ?_ ?_ _ | with_reducible refine Below.drew ?_ | with_reducible refine Go.below_drewN ?_ _ | with_reducible refine below_step ?_ (by assumption) ?_ | with_reducible refine below_mark ?_ (by assumption) ?_)); all_goals (first | omega | (simp; done) | (simp; omega)))).mono ?_
    rintro e1 w1 ⟨rfl, hb⟩
    generalize szr (l - s.size) zk = r at *
    by_cases hr : r < 0
    · obtain rfl : r = -1 := by omega
      go_wp2_with fail
      go_ret
      exact ⟨by rw [H.out]; rfl, (by (repeat' (first | with_reducible exact Below.refl _ _ | with_reducible refine below_alloc ?_ _ ?_ | with_reducible refine Below.setCell ?_ ?_ _ | with_reducible refine Below.drew ?_ | with_reducible refine Go.below_drewN ?_ _ | with_reducible refine below_step ?_ (by assumption) ?_ | with_reducible refine below_mark ?_ (by assumption) ?_)); all_goals (first | omega | (simp; done) | (simp; omega)))⟩
    · go_wp2_with fail
      go_ret
      exact ⟨by rw [H.out]; rfl, (by (repeat' (first | with_reducible exact Below.refl _ _ | with_reducible refine below_alloc ?_ _ ?_ | with_reducible refine Below.setCell ?_ ?_ _ | with_reducible refine Below.drew ?_ | with_reducible refine Go.below_drewN ?_ _ | with_reducible refine below_step ?_ (by assumption) ?_ | with_reducible refine below_mark ?_ (by assumption) ?_)); all_goals (first | omega | (simp; done) | (simp; omega)))⟩
theorem szs_take (ts : List V) (k : Nat) (h : k < ts.length) : szs (ts.take (k + 1)) = szs (ts.take k) + 1 + (ts[k]).sz := by
  rw [List.take_succ_eq_append_getElem h, szs_append, szs, szs]; omega
theorem szs_take_le (ts : List V) (k : Nat) : szs (ts.take k) ≤ szs ts := by
  have := szs_append (ts.take k) (ts.drop k)
  rw [List.take_append_drop] at this; omega
set_option maxHeartbeats 400000 in
theorem sz_list (w0 : World) (v : Value) (ts : List V) (h : RepS w0 v ts) : ∀ (w : World) (l : Int), 0 ≤ l → l ≤ 1048576 → Below w0.heap.size w0 w →
    Calls Tryd.prog 21 #[v, .int .i64 l] w (SzRet w l (szs ts)) := by
  induction h with
  | mk a b off cap ts sls ha hc hm hbb cells wfs kids ih =>
  intro w l h0 h1 hw
  have hlen := szs_length ts
  by_cases hl : l < ts.length
  · have H := Lib.hid (show szr l (szs ts) = -1 by unfold szr; rw [if_pos (by omega)])
    clear ih cells wfs kids hlen
    go_enter Tryd.func21, Tryd.ntmps21
    go_wp2_with fail
    go_ret
    exact ⟨by rw [H.out]; rfl, Below.refl _ _⟩
  · have IH := Lib.hid ih; have CC := Lib.hid cells; have WF := Lib.hid wfs; have HA := Lib.hid ha
    clear ih cells wfs kids ha
    go_enter Tryd.func21, Tryd.ntmps21
    go_wp2_with fail
    go_loopw [1, 5] (fun l' i wr => ∃ k : Nat, k ≤ ts.length ∧ i = .int .i64 k ∧ l' = .int .i64 (l - ts.length - (szs (ts.take k) - k)) ∧ 0 ≤ l - ts.length - (szs (ts.take k) - k) ∧ Below w.heap.size w wr) (fun _ i _ => ts.length - (intOf i).toNat)
    case atStart => exact ⟨0, by omega, rfl, by simp [szs], by simp [szs]; omega, Below.refl _ _⟩
    case round =>
      obtain ⟨k, hk, rfl, rfl, hpos, hbl⟩ := hrel
      by_cases hlt : k < ts.length
      · have hne : ts ≠ [] := by intro e; rw [e] at hlt; simp at hlt
        obtain rfl := HA.out hne
        have hbw := hbb hne
        obtain ⟨c0, c1, c2, c3, c4⟩ := (CC.out k hlt).keep ((hw.block b hbw).symm ▸ (hbl.block b (Nat.lt_of_lt_of_le hbw hw.size)))
        have hst := szs_take ts k hlt
        have hsl := szs_take_le ts (k + 1)
        have hsl0 := szs_length (ts.take k)
        rw [List.length_take] at hsl0
        have V0 := Lib.hid (sz_value ts[k] (sls k) wr (l - ts.length - (szs (ts.take k) - k)) (WF.out k hlt) (by omega) (by omega) (fun w' l' g0 g1 g2 => IH.out k hlt w' l' g0 g1 (below_step (below_step hw hbl (by omega)) g2 (by omega))))
        have hge := szr_lo (l - ts.length - (szs (ts.take k) - k)) ts[k].sz
        have HR := Lib.hid (show szr (l - ts.length - (szs (ts.take k) - k)) ts[k].sz = if l - ts.length - (szs (ts.take (k + 1)) - (k + 1 : Nat)) < 0 then -1 else l - ts.length - (szs (ts.take (k + 1)) - (k + 1 : Nat)) by unfold szr; rw [hst]; split <;> split <;> omega)
        have HT := Lib.hid (show l - ts.length - (szs (ts.take (k + 1)) - (k + 1 : Nat)) < 0 → szr l (szs ts) = -1 by
          intro hh; unfold szr; have := szs_length (ts.drop (k + 1)); have h2 := szs_append (ts.take (k + 1)) (ts.drop (k + 1)); rw [List.take_append_drop] at h2; rw [List.length_drop] at this; rw [if_pos (by omega)])
        clear hst hsl hsl0
        unfold V.agg at V0
        generalize l - ts.length - (szs (ts.take k) - k) = q at *
        generalize hq2 : l - ts.length - (szs (ts.take (k + 1)) - (k + 1 : Nat)) = q2 at *
        have HQ2 := Lib.hid hq2; clear hq2
        go_wp2_with fail
        refine V0.out.mono ?_
        rintro e1 w1 ⟨rfl, hb⟩
        have HR2 := HR.out
        generalize szr q ts[k].sz = r at *
        clear HR
        by_cases hr : r < 0
        · have hq2 : q2 < 0 := by by_cases hh : q2 < 0; exact hh; rw [if_neg hh] at HR2; omega
          clear HR2
          go_wp2_with fail
          go_ret
          exact ⟨by rw [HT.out hq2]; rfl, (by (repeat' (first | with_reducible exact Below.refl _ _ | with_reducible refine below_alloc ?_ _ ?_ | with_reducible refine Below.setCell ?_ ?_ _ | with_reducible refine Below.drew ?_ | with_reducible refine Go.below_drewN ?_ _ | with_reducible refine below_step ?_ (by assumption) ?_ | with_reducible refine below_mark ?_ (by assumption) ?_)); all_goals (first | omega | (simp; done) | (simp; omega)))⟩
        · have HQ := Lib.hid (show r = q2 ∧ 0 ≤ q2 by by_cases hh : q2 < 0; (rw [if_pos hh] at HR2; omega); (rw [if_neg hh] at HR2; omega))
          clear HR2
          go_wp2_with fail
          go_roundw
          case rel => exact ⟨k + 1, by omega, by go_num, by rw [HQ2.out, HQ.out.1], by rw [HQ2.out]; exact HQ.out.2, (by (repeat' (first | with_reducible exact Below.refl _ _ | with_reducible refine below_alloc ?_ _ ?_ | with_reducible refine Below.setCell ?_ ?_ _ | with_reducible refine Below.drew ?_ | with_reducible refine Go.below_drewN ?_ _ | with_reducible refine below_step ?_ (by assumption) ?_ | with_reducible refine below_mark ?_ (by assumption) ?_)); all_goals (first | omega | (simp; done) | (simp; omega)))⟩
          case measure => simp [intOf]; omega
      · have H := Lib.hid (show l - ts.length - (szs (ts.take k) - k) = szr l (szs ts) by
          rw [List.take_of_length_le (by omega)] at hpos ⊢; unfold szr; rw [if_neg (by omega)]; omega)
        clear hlen
        generalize l - ts.length - (szs (ts.take k) - k) = q at *
        go_wp2_with fail
        go_ret
        exact ⟨by rw [← H.out]; rfl, hbl⟩
theorem sz_any (w0 : World) (v : Value) (t : V) (h : Rep w0 v t) (w : World) (hw : Below w0.heap.size w0 w) (l : Int) (h0 : 0 ≤ l) (h1 : l ≤ 1048576) :
    Calls Tryd.prog 5 #[v, .int .i64 l] w (SzRet w l t.sz) := by
  obtain ⟨sl, rfl, hwf, hr⟩ := h
  exact sz_value t sl w l hwf h0 h1 (fun w' l' g0 g1 g2 => sz_list w0 sl t.kids hr w' l' g0 g1 (below_step hw g2 (Nat.le_refl _)))
end Go.Proofs.YtaphlemmlmdkiaaDoor
namespace Go.Proofs.YtaphlemmlmdkiaaDoor
set_option linter.unusedSimpArgs false
set_option linter.unusedVariables false
set_option maxRecDepth 100000
open Go.RowKit
set_option maxHeartbeats 400000 in
theorem to_value (t : V) (sl : Value) (w : World) (hw : t.wf)
    (ih : ∀ (w' : World), Below w.heap.size w w' → Calls Tryd.prog 24 #[sl] w' (ListRet w' t.kids)) :
    Calls Tryd.prog 7 #[t.agg sl] w (ValRet w t) := by
  have IH := Lib.hid ih; clear ih
  have WF := Lib.hid hw; clear hw
  have HP := Lib.hid (show ∀ e w', (∃ sl, e = .returned (t.agg sl) ∧ OwnS w' (fun x => w.heap.size ≤ x) sl t.kids ∧ Below w.heap.size w w') → ValRet w t e w' from fun e w' ⟨sl, h1, h2, h3⟩ => ⟨sl, h1, WF.out, h2, h3⟩)
  unfold V.agg at HP ⊢
  generalize t.k = k at *
  generalize t.n = n at *
  generalize t.e = e at *
  generalize t.s = s at *
  go_enter Tryd.func7, Tryd.ntmps7
  go_wp2_with fail
  refine (IH.out _ (by (repeat' (first | with_reducible exact Below.refl _ _ | with_reducible refine below_alloc ?_ _ ?_ | with_reducible refine Below.setCell ?_ ?_ _ | with_reducible refine Below.drew ?_ | with_reducible refine Go.below_drewN ?_ _ | with_reducible refine below_step ?_ (by assumption) ?_ | with_reducible refine below_mark ?_ (by assumption) ?_)); all_goals (first | omega | (simp; done) | (simp; omega)))).mono ?_
  rintro e1 w1 ⟨v, rfl, ho, hb⟩
  obtain ⟨a, cap, rfl⟩ := ho.slice
  have hz := hb.size
  simp at hz
  obtain ⟨hc, hf⟩ := bcell hb
  have HO := Lib.hid ho; clear ho
  go_wp2_with fail
  refine bodyPost_ret (v := .agg #[.int .i64 k, .int .i64 n, .int .i64 e, .string s, .slice a t.kids.length cap]) (by simp [results, Tryd.results7, go_sem, hc]) rfl (HP.out _ _ ⟨_, rfl, ?_, (by (repeat' (first | with_reducible exact Below.refl _ _ | with_reducible refine below_alloc ?_ _ ?_ | with_reducible refine Below.setCell ?_ ?_ _ | with_reducible refine Below.drew ?_ | with_reducible refine Go.below_drewN ?_ _ | with_reducible refine below_step ?_ (by assumption) ?_ | with_reducible refine below_mark ?_ (by assumption) ?_)); all_goals (first | omega | (simp; done) | (simp; omega)))⟩)
  refine OwnS.mono (F := fun x => w.heap.size + 1 + 1 + 1 ≤ x) ?_ (fun x hx => by omega)
  repeat refine OwnS.set ?_ _ _ (by first | omega | (simp; done) | (simp; omega))
  simpa using HO.out
theorem info_impl : (Tryd.prog.info? 30).map (fun i => (i.zero, i.size, i.bytes)) = some (some (.agg #[.int .i64 0, .int .i64 0, .int .i64 0, .string ⟨#[]⟩, .slice none 0 0]), 5, 64) := by kernel_rfl
set_option maxHeartbeats 400000 in
theorem to_list (w0 : World) (v : Value) (ts : List V) (h : RepS w0 v ts) : szs ts ≤ 1048576 → ∀ (w : World), Below w0.heap.size w0 w →
    Calls Tryd.prog 24 #[v] w (ListRet w ts) := by
  induction h with
  | mk a b off cap ts sls ha hc hm hbb cells wfs kids ih =>
  intro hsz w hw
  have hlen := szs_length ts
  have IH := Lib.hid ih; have CC := Lib.hid cells; have WF := Lib.hid wfs; have HA := Lib.hid ha
  clear ih cells wfs kids ha
  obtain ⟨i0, hi, hz0, hz1, hz2⟩ := info_parts info_impl
  obtain ⟨wm, hrun, hrow, hg⟩ := run_make_full (P := Tryd.prog) w w.heap.size 28 30 i0 _ 5 Tryd.underlying28 hi hz0 hz1 .i64 .i64 ts.length (by rw [hz2]; omega) (by simp only [maxLen]; omega) (Nat.le_refl _)
  have HR := Lib.hid (VRows.made hrow)
  have hbm : Below w.heap.size w wm := (Below.refl _ _).grown hg (Nat.le_refl _) (by simp)
  clear hi hz0 hz1 hz2 hrow
  generalize hgg : w.heap.size = g at *
  have HG := Lib.hid hgg; clear hgg
  go_enter Tryd.func24, Tryd.ntmps24
  go_wp2_with fail
  clear hrun
  go_loopw [4] (fun i wr => ∃ k : Nat, ∃ G : Nat → Prop, k ≤ ts.length ∧ i = .int .i64 k ∧ VRows wr g 30 G (.slice (some ⟨g, 0, none⟩) ts.length ts.length) (ts.take k ++ List.replicate (ts.length - k) V0) ∧ Below g w wr) (fun i _ => ts.length - (intOf i).toNat)
  case atStart => exact ⟨0, _, by omega, rfl, by simpa using HR.out, hbm⟩
  case round =>
    obtain ⟨k, G, hk, rfl, hrow, hbl⟩ := hrel
    by_cases hlt : k < ts.length
    · have hne : ts ≠ [] := by intro e; rw [e] at hlt; simp at hlt
      obtain rfl := HA.out hne
      have hbw := hbb hne
      have hbg : b < g := by rw [← HG.out]; exact Nat.lt_of_lt_of_le hbw hw.size
      obtain ⟨c0, c1, c2, c3, c4⟩ := (CC.out k hlt).keep ((hw.block b hbw).symm ▸ (hbl.block b hbg))
      have hrl := hrow.lt g rfl
      have hzk : szs ts[k].kids ≤ 1048576 := by
        have h1 := szs_mem (List.getElem_mem hlt); have h2 := V.sz_eq ts[k]; omega
      have hwr : Below w0.heap.size w0 wr := hw.trans (hbl.mono (by rw [← HG.out]; exact hw.size))
      have V1 := Lib.hid (to_value ts[k] (sls k) wr (WF.out k hlt) (fun w' hb' => IH.out k hlt hzk w' (below_step hwr hb' (Nat.le_refl _))))
      have HROW := Lib.hid hrow; clear hrow hwr
      unfold V.agg at V1
      go_wp2_with fail
      refine V1.out.mono ?_
      rintro e1 w1 ⟨sl, rfl, twf, hown, hb⟩
      obtain ⟨a2, cap2, rfl⟩ := hown.slice
      have HO := Lib.hid hown; clear hown
      unfold V.agg
      have hz := hb.size
      have HR1 := Lib.hid (HROW.out.keep hb)
      obtain ⟨slx, ⟨d0, d1, d2, d3, d4⟩, hfz⟩ := HR1.out.cells (i := k) (by simp; omega)
      clear c0 c1 c2 c3 c4
      go_wp2_with fail
      go_roundw
      case rel =>
        have hset := VRows.set HR1.out (i := k) (t := ts[k]) (by simp; omega) twf HO.out.bound (fun x hx => by
          have hh := hx.1
          refine ⟨by omega, hx.2, fun hG => ?_, by omega⟩
          have := (HROW.out.inG x hG).2
          omega)
        refine ⟨k + 1, fun x => G x ∨ (wr.heap.size ≤ x ∧ x < w1.heap.size), by omega, by go_num, ?_, ?_⟩
        · have e := fill_set V0 ts k hlt
          rw [e] at hset
          exact hset
        · repeat refine Below.setCell ?_ (by simp) _
          exact hbl.trans (hb.mono (by omega))
      case measure => simp [intOf]; omega
    · have hkl : k = ts.length := by omega
      subst hkl
      have HROW := Lib.hid hrow; clear hrow
      go_wp2_with fail
      go_ret
      refine ⟨_, rfl, ?_, ?_⟩
      · rw [HG.out]; simpa using HROW.out.own
      · rw [HG.out]; exact hbl
theorem to_any (w0 : World) (v : Value) (t : V) (h : Rep w0 v t) (hsz : t.sz ≤ 1048576) (w : World) (hw : Below w0.heap.size w0 w) :
    Calls Tryd.prog 7 #[v] w (ValRet w t) := by
  obtain ⟨sl, rfl, hwf, hr⟩ := h
  exact to_value t sl w hwf (fun w' hb => to_list w0 sl t.kids hr (by have := V.sz_eq t; omega) w' (below_step hw hb (Nat.le_refl _)))
end Go.Proofs.YtaphlemmlmdkiaaDoor
namespace Go.Proofs.YtaphlemmlmdkiaaDoor
set_option linter.unusedSimpArgs false
set_option linter.unusedVariables false
set_option maxRecDepth 100000
open Go.RowKit
set_option maxHeartbeats 400000 in
theorem eq_value (t : V) (sl sm : Value) (w : World)
    (ih : ∀ (w' : World), Below w.heap.size w w' → Calls Tryd.prog 28 #[sl, sm] w' (LawRet w')) :
    Calls Tryd.prog 10 #[t.agg sl, t.agg sm] w (LawRet w) := by
  have IH := Lib.hid ih; clear ih
  unfold V.agg
  generalize t.k = k at *
  generalize t.n = n at *
  generalize t.e = e at *
  generalize t.s = s at *
  go_enter Tryd.func10, Tryd.ntmps10
  go_wp2_with fail
  refine (IH.out _ (by (repeat' (first | with_reducible exact Below.refl _ _ | with_reducible refine below_alloc ?_ _ ?_ | with_reducible refine Below.setCell ?_ ?_ _ | with_reducible refine Below.drew ?_ | with_reducible refine Go.below_drewN ?_ _ | with_reducible refine below_step ?_ (by assumption) ?_ | with_reducible refine below_mark ?_ (by assumption) ?_)); all_goals (first | omega | (simp; done) | (simp; omega)))).mono ?_
  rintro e1 w1 ⟨rfl, hb⟩
  go_wp2_with fail
  go_ret
  exact ⟨rfl, (by (repeat' (first | with_reducible exact Below.refl _ _ | with_reducible refine below_alloc ?_ _ ?_ | with_reducible refine Below.setCell ?_ ?_ _ | with_reducible refine Below.drew ?_ | with_reducible refine Go.below_drewN ?_ _ | with_reducible refine below_step ?_ (by assumption) ?_ | with_reducible refine below_mark ?_ (by assumption) ?_)); all_goals (first | omega | (simp; done) | (simp; omega)))⟩
set_option maxHeartbeats 400000 in
theorem eq_list (w0 : World) (v : Value) (ts : List V) (h : RepS w0 v ts) : ∀ (u : Value), RepS w0 u ts → ∀ (w : World), Below w0.heap.size w0 w →
    Calls Tryd.prog 28 #[v, u] w (LawRet w) := by
  induction h with
  | mk a b off cap ts sls ha hc hm hbb cells wfs kids ih =>
  intro u hu w hw
  cases hu with
  | mk a2 b2 off2 cap2 ts2 sls2 ha2 hc2 hm2 hbb2 cells2 wfs2 kids2 =>
  have IH := Lib.hid ih; have CC := Lib.hid cells; have HA := Lib.hid ha; have CC2 := Lib.hid cells2; have HA2 := Lib.hid ha2; have KK := Lib.hid kids2
  clear ih cells wfs kids ha cells2 wfs2 kids2 ha2
  go_enter Tryd.func28, Tryd.ntmps28
  go_wp2_with fail
  go_loopw [5] (fun i wr => ∃ k : Nat, k ≤ ts.length ∧ i = .int .i64 k ∧ Below w.heap.size w wr) (fun i _ => ts.length - (intOf i).toNat)
  case atStart => exact ⟨0, by omega, rfl, Below.refl _ _⟩
  case round =>
    obtain ⟨k, hk, rfl, hbl⟩ := hrel
    by_cases hlt : k < ts.length
    · have hne : ts ≠ [] := by intro e; rw [e] at hlt; simp at hlt
      obtain rfl := HA.out hne
      obtain rfl := HA2.out hne
      have hbw := hbb hne
      have hbw2 := hbb2 hne
      have hx : ∀ b, b < w0.heap.size → wr.heap[b]? = w0.heap[b]? := fun b hb => (hbl.block b (Nat.lt_of_lt_of_le hb hw.size)).trans (hw.block b hb)
      obtain ⟨c0, c1, c2, c3, c4⟩ := (CC.out k hlt).keep (hx b hbw)
      obtain ⟨d0, d1, d2, d3, d4⟩ := (CC2.out k hlt).keep (hx b2 hbw2)
      have hwr : Below w0.heap.size w0 wr := hw.trans (hbl.mono hw.size)
      have V1 := Lib.hid (fun w'' (hh : Below wr.heap.size wr w'') => eq_value ts[k] (sls k) (sls2 k) w'' (fun w' hb' => IH.out k hlt (sls2 k) (KK.out k hlt) w' (below_step (below_step hwr hh (Nat.le_refl _)) hb' (Nat.le_refl _))))
      clear hx hwr
      unfold V.agg at V1
      generalize ts[k].k = vk at *
      generalize ts[k].n = vn at *
      generalize ts[k].e = ve at *
      generalize ts[k].s = vs at *
      go_wp2_with fail
      go_region_with (go_at_call 10; refine (V1.out _ (by (repeat' (first | with_reducible exact Below.refl _ _ | with_reducible refine below_alloc ?_ _ ?_ | with_reducible refine Below.setCell ?_ ?_ _ | with_reducible refine Below.drew ?_ | with_reducible refine Go.below_drewN ?_ _ | with_reducible refine below_step ?_ (by assumption) ?_ | with_reducible refine below_mark ?_ (by assumption) ?_)); all_goals (first | omega | (simp; done) | (simp; omega)))).mono ?_; rintro e1 w1 ⟨rfl, hb⟩)
      all_goals go_wp2_with fail
      all_goals go_roundw
      case rel => exact ⟨k + 1, by omega, by go_num, (by (repeat' (first | with_reducible exact Below.refl _ _ | with_reducible refine below_alloc ?_ _ ?_ | with_reducible refine Below.setCell ?_ ?_ _ | with_reducible refine Below.drew ?_ | with_reducible refine Go.below_drewN ?_ _ | with_reducible refine below_step ?_ (by assumption) ?_ | with_reducible refine below_mark ?_ (by assumption) ?_)); all_goals (first | omega | (simp; done) | (simp; omega)))⟩
      case measure => simp [intOf]; omega
      case rel => exact ⟨k + 1, by omega, by go_num, (by (repeat' (first | with_reducible exact Below.refl _ _ | with_reducible refine below_alloc ?_ _ ?_ | with_reducible refine Below.setCell ?_ ?_ _ | with_reducible refine Below.drew ?_ | with_reducible refine Go.below_drewN ?_ _ | with_reducible refine below_step ?_ (by assumption) ?_ | with_reducible refine below_mark ?_ (by assumption) ?_)); all_goals (first | omega | (simp; done) | (simp; omega)))⟩
      case measure => simp [intOf]; omega
    · go_wp2_with fail
      go_ret
      exact ⟨rfl, hbl⟩
theorem eq_any (w0 : World) (a b : Value) (t : V) (ha : Rep w0 a t) (hb : Rep w0 b t) (w : World) (hw : Below w0.heap.size w0 w) : Calls Tryd.prog 10 #[a, b] w (LawRet w) := by
  obtain ⟨sl, rfl, _, hr⟩ := ha
  obtain ⟨sm, rfl, _, hr2⟩ := hb
  exact eq_value t sl sm w (fun w' h => eq_list w0 sl t.kids hr sm hr2 w' (below_step hw h (Nat.le_refl _)))
end Go.Proofs.YtaphlemmlmdkiaaDoor
namespace Go.Proofs.YtaphlemmlmdkiaaDoor
set_option linter.unusedSimpArgs false
set_option linter.unusedVariables false
set_option maxRecDepth 100000
open Go.RowKit
def szl : List ByteArray → Nat
  | [] => 0
  | s :: l => 1 + s.size + szl l
theorem szl_append (a b : List ByteArray) : szl (a ++ b) = szl a + szl b := by
  induction a with
  | nil => simp [szl]
  | cons s a ih => simp only [List.cons_append, szl, ih]; omega
theorem szl_length (l : List ByteArray) : l.length ≤ szl l := by
  induction l with
  | nil => simp
  | cons s a ih => simp only [List.length_cons, szl]; omega
theorem szl_take (l : List ByteArray) (k : Nat) (h : k < l.length) : szl (l.take (k + 1)) = szl (l.take k) + 1 + (l[k]).size := by
  rw [List.take_succ_eq_append_getElem h, szl_append, szl, szl]; omega
theorem szl_split (l : List ByteArray) (k : Nat) : szl (l.take k) + szl (l.drop k) = szl l := by
  rw [← szl_append, List.take_append_drop]
end Go.Proofs.YtaphlemmlmdkiaaDoor
namespace Go.Proofs.YtaphlemmlmdkiaaDoor
set_option linter.unusedSimpArgs false
set_option linter.unusedVariables false
set_option maxRecDepth 100000
open Go.RowKit
theorem Box.over {w w' : World} {F : Nat → Prop} {b : Nat} {k n e : Int} {s : ByteArray} {sl : Value} {T : TypeId} (h : Box w b k n e s sl T) (ht : Touch F F w w') (hn : ¬ F b) : Box w' b k n e s sl T :=
  (ht.block b h.lt hn).trans h
theorem touch_of_grown {w w' : World} {v : Value} (h : w.grownBy w' v.ownBlock) : Touch (fun x => v.ownBlock = some x) (fun x => v.ownBlock = some x) w w' :=
  ⟨h.os, h.tape, h.output, h.size, fun k hk hn => h.block k hk (fun e => hn e.symm), fun k hk => .inl hk⟩
theorem SRow.stay2 {w w' : World} {base : Nat} {v : Value} {l : List ByteArray} (h : SRow w base v l) (hb : Below w.heap.size w w') : SRow w' base v l :=
  h.keep (fun x hx => hb.block x (h.lt x hx).2)
theorem cnts_kids_le {t : V} (h : t.sz ≤ 1048576) : cnts t.kids ≤ 4194304 := by have h1 := cnts_sz t.kids; have h2 := V.sz_eq t; omega
theorem szr_ok {L : Int} {n : Nat} (h : ¬ szr L n < 0) : (n : Int) ≤ L ∧ szr L n ≤ L := by unfold szr at *; split at h <;> omega
end Go.Proofs.YtaphlemmlmdkiaaDoor
namespace Go.Proofs.YtaphlemmlmdkiaaDoor
set_option linter.unusedSimpArgs false
set_option linter.unusedVariables false
set_option maxRecDepth 100000
open Go.RowKit Go.Shelf
theorem BRow.slice3 {w : World} {base : Nat} {v : Value} {l : List UInt8} (h : BRow w base v l) : ∃ a n cap, v = .slice a n cap := by
  rcases h.2 with ⟨rfl, _⟩ | ⟨g, cap, cur, hv, _⟩
  · exact ⟨_, _, _, rfl⟩
  · exact ⟨_, _, _, hv⟩
theorem BRow.stay2 {w w' : World} {base : Nat} {v : Value} {l : List UInt8} (h : BRow w base v l) (hb : Below w.heap.size w w') : BRow w' base v l :=
  World.ownsRow.kept (row := none) h ⟨hb.os, hb.tape, hb.output, hb.size, fun k hk _ => hb.block k hk⟩ (by cases v.ownBlock <;> simp)
theorem u8_ne {c d : UInt8} (h : ¬ c = d) : ¬ (c.toNat : Int) = d.toNat := fun e => h (UInt8.toNat_inj.1 (by omega))
end Go.Proofs.YtaphlemmlmdkiaaDoor
