/- Signs of UTF-8 as the reference has them: spec.PutSign, l01Many, GetSign, Signs, TextOk. -/
import Derived.Test.YtiemlefmhleaeaaDoorUtf
import Derived.Test.YtiemlefmhleaeaaDoorValM
import Derived.Test.YtiemlefmhleaeaaDoorBytes
import Derived.Test.YtiemlefmhleaeaaDoorWithin
import Derived.Test.YtiemlefmhleaeaaDoorInts
import Derived.WalkSpells
import Derived.Lib.Hide
import Derived.Deep.RegionHeld3
import Derived.Deep.QuietTactic
import Derived.BigQuiet
import Derived.OwnWalk
import Derived.IntWalk
namespace Go.Proofs.YtiemlefmhleaeaaDoor
set_option linter.unusedVariables false
set_option maxRecDepth 100000
open Go.RowKit
theorem and_i64 (x : Int) (k : Nat) (m : Int) (hm : m = ((2 ^ k - 1 : Nat) : Int)) (hk : k ≤ 8) (h0 : 0 ≤ x) (h1 : x < 9223372036854775808) : bits BinOp.and IntKind.i64 x m = x % (2 ^ k : Nat) := by
  obtain ⟨n, rfl⟩ := Int.eq_ofNat_of_zero_le h0
  subst hm
  have h2 : n < 2 ^ 64 := by omega
  have hk2 : 2 ^ k ≤ 2 ^ 8 := Nat.pow_le_pow_right (by decide) hk
  have h3 : 2 ^ k - 1 < 2 ^ 64 := by omega
  have hpos : 0 < 2 ^ k := Nat.pos_of_ne_zero (by simp)
  have key : (BitVec.ofInt 64 ((n : Nat) : Int) &&& BitVec.ofInt 64 (((2 ^ k - 1 : Nat)) : Int)).toNat = n % 2 ^ k := by
    rw [BitVec.toNat_and, BitVec.ofInt_natCast, BitVec.ofInt_natCast, BitVec.toNat_ofNat, BitVec.toNat_ofNat, Nat.mod_eq_of_lt h2, Nat.mod_eq_of_lt h3, Nat.and_two_pow_sub_one_eq_mod]
  have hlt : n % 2 ^ k < 2 ^ 8 := Nat.lt_of_lt_of_le (Nat.mod_lt _ hpos) hk2
  show IntKind.i64.wrap (((BitVec.ofInt 64 ((n : Nat) : Int) &&& BitVec.ofInt 64 (((2 ^ k - 1 : Nat)) : Int)).toNat : Nat) : Int) = ((n % 2 ^ k : Nat) : Int)
  rw [key]
  generalize n % 2 ^ k = q at *
  simp only [IntKind.wrap, IntKind.signed, IntKind.bits]
  simp
  omega
theorem u8w (x : Int) (h0 : 0 ≤ x) (h1 : x < 256) : IntKind.u8.wrap x = x := by
  simp only [IntKind.wrap, IntKind.signed, IntKind.bits]; simp; omega
/-- string(b) of new bytes -/
theorem run_strL (W : World) (b n : Nat) (xs : List Int) (hn : xs.length = n) (h : ∀ j x, xs[j]? = some x → W.cell? ⟨b, j, none⟩ = some (.int .u8 x)) :
    (convert 47 9 (.slice (some ⟨b, 0, none⟩) n n)).run Tryd.prog W = .ok (bstr (xs.map fun x => UInt8.ofNat x.toNat)) W := by
  rw [run_convert_bytes_string W 47 9 5 _ _ _ Tryd.underlying47 Tryd.underlying5 Tryd.underlying9]
  subst hn
  rw [run_bytesToString W _ _ _ xs (by
    have h1 := run_loadCells_list (P := Tryd.prog) (w := W) ⟨b, 0, none⟩ (xs.map (Value.int .u8)) (by
      intro j v hv
      rw [List.getElem?_map] at hv
      obtain ⟨x, hx, rfl⟩ := Option.map_eq_some_iff.1 hv
      rw [addr_add _ _ rfl, Nat.zero_add]
      exact h j x hx)
    rw [List.length_map] at h1
    exact h1)]
  have : ∀ (xs : List Int) (s : ByteArray), xs.foldl (fun r n => r.push (UInt8.ofNat n.toNat)) s = ⟨s.data ++ (xs.map fun x => UInt8.ofNat x.toNat).toArray⟩ := by
    intro xs
    induction xs with
    | nil => intro s; simp
    | cons c l ih => intro s; simp only [List.foldl_cons, List.map_cons]; rw [ih]; simp [ByteArray.push]
  rw [this]
  simp [bstr]
theorem run_new1 (W : World) (x0 : Int) : (convert 47 9 (.slice (some ⟨W.heap.size, 0, none⟩) 1 1)).run Tryd.prog (W.alloc (.cells #[.int .u8 x0] 5)) = .ok (bstr [UInt8.ofNat x0.toNat]) (W.alloc (.cells #[.int .u8 x0] 5)) := by
  have hh := heap_alloc_new W (.cells #[.int .u8 x0] 5)
  refine run_strL _ W.heap.size 1 [x0] rfl (fun j x hx => ?_)
  match j, hx with
    | 0, hx => simp at hx; subst hx; rw [cell_of_row _ _ _ _ _ (0, 0) hh]; rfl
    | j + 1, hx => simp at hx
theorem run_new2 (W : World) (x0 x1 : Int) : (convert 47 9 (.slice (some ⟨W.heap.size, 0, none⟩) 2 2)).run Tryd.prog (W.alloc (.cells #[.int .u8 x0, .int .u8 x1] 5)) = .ok (bstr [UInt8.ofNat x0.toNat, UInt8.ofNat x1.toNat]) (W.alloc (.cells #[.int .u8 x0, .int .u8 x1] 5)) := by
  have hh := heap_alloc_new W (.cells #[.int .u8 x0, .int .u8 x1] 5)
  refine run_strL _ W.heap.size 2 [x0, x1] rfl (fun j x hx => ?_)
  match j, hx with
    | 0, hx => simp at hx; subst hx; rw [cell_of_row _ _ _ _ _ (0, 0) hh]; rfl
    | 1, hx => simp at hx; subst hx; rw [cell_of_row _ _ _ _ _ (0, 0) hh]; rfl
    | j + 2, hx => simp at hx
theorem run_new3 (W : World) (x0 x1 x2 : Int) : (convert 47 9 (.slice (some ⟨W.heap.size, 0, none⟩) 3 3)).run Tryd.prog (W.alloc (.cells #[.int .u8 x0, .int .u8 x1, .int .u8 x2] 5)) = .ok (bstr [UInt8.ofNat x0.toNat, UInt8.ofNat x1.toNat, UInt8.ofNat x2.toNat]) (W.alloc (.cells #[.int .u8 x0, .int .u8 x1, .int .u8 x2] 5)) := by
  have hh := heap_alloc_new W (.cells #[.int .u8 x0, .int .u8 x1, .int .u8 x2] 5)
  refine run_strL _ W.heap.size 3 [x0, x1, x2] rfl (fun j x hx => ?_)
  match j, hx with
    | 0, hx => simp at hx; subst hx; rw [cell_of_row _ _ _ _ _ (0, 0) hh]; rfl
    | 1, hx => simp at hx; subst hx; rw [cell_of_row _ _ _ _ _ (0, 0) hh]; rfl
    | 2, hx => simp at hx; subst hx; rw [cell_of_row _ _ _ _ _ (0, 0) hh]; rfl
    | j + 3, hx => simp at hx
theorem run_new4 (W : World) (x0 x1 x2 x3 : Int) : (convert 47 9 (.slice (some ⟨W.heap.size, 0, none⟩) 4 4)).run Tryd.prog (W.alloc (.cells #[.int .u8 x0, .int .u8 x1, .int .u8 x2, .int .u8 x3] 5)) = .ok (bstr [UInt8.ofNat x0.toNat, UInt8.ofNat x1.toNat, UInt8.ofNat x2.toNat, UInt8.ofNat x3.toNat]) (W.alloc (.cells #[.int .u8 x0, .int .u8 x1, .int .u8 x2, .int .u8 x3] 5)) := by
  have hh := heap_alloc_new W (.cells #[.int .u8 x0, .int .u8 x1, .int .u8 x2, .int .u8 x3] 5)
  refine run_strL _ W.heap.size 4 [x0, x1, x2, x3] rfl (fun j x hx => ?_)
  match j, hx with
    | 0, hx => simp at hx; subst hx; rw [cell_of_row _ _ _ _ _ (0, 0) hh]; rfl
    | 1, hx => simp at hx; subst hx; rw [cell_of_row _ _ _ _ _ (0, 0) hh]; rfl
    | 2, hx => simp at hx; subst hx; rw [cell_of_row _ _ _ _ _ (0, 0) hh]; rfl
    | 3, hx => simp at hx; subst hx; rw [cell_of_row _ _ _ _ _ (0, 0) hh]; rfl
    | j + 4, hx => simp at hx
def StrRet (l : List UInt8) (w : World) (e : Ending) (w' : World) : Prop := e = .returned (bstr l) ∧ Below w.heap.size w w'
set_option maxHeartbeats 400000 in
theorem putSign_no (n : Int) (w : World) (h : ¬ isSg n) : Calls Tryd.prog 270 #[.int .i64 n] w (StrRet [] w) := by
  by_cases h1 : n < 0 ∨ 1114111 < n
  · have HI1 := Lib.hid (fun W => l01In_no n 0 1114111 W h1)
    clear h h1
    go_enter Tryd.func270, Tryd.ntmps270
    go_wp2_with fail
    refine (HI1.out _).mono ?_
    rintro e w1 ⟨rfl, rfl⟩
    go_wp2_with fail
    go_ret
    exact ⟨rfl, (by (repeat' (first | with_reducible exact Below.refl _ _ | with_reducible refine below_alloc ?_ _ ?_ | with_reducible refine Below.setCell ?_ ?_ _ | with_reducible refine Below.drew ?_ | with_reducible refine below_drewN ?_ _ | with_reducible refine below_step ?_ (by assumption) ?_ | with_reducible refine below_mark ?_ (by assumption) ?_)); all_goals (first | omega | (simp; done) | (simp; omega)))⟩
  · have HI1 := Lib.hid (fun W => l01In_yes n 0 1114111 W (by omega) (by omega))
    have HI2 := Lib.hid (fun W => l01In_yes n 55296 57343 W (by unfold isSg at h; omega) (by unfold isSg at h; omega))
    clear h h1
    go_enter Tryd.func270, Tryd.ntmps270
    go_wp2_with fail
    refine (HI1.out _).mono ?_
    rintro e w1 ⟨rfl, rfl⟩
    go_wp2_with fail
    refine (HI2.out _).mono ?_
    rintro e w2 ⟨rfl, rfl⟩
    go_wp2_with fail
    go_ret
    exact ⟨rfl, (by (repeat' (first | with_reducible exact Below.refl _ _ | with_reducible refine below_alloc ?_ _ ?_ | with_reducible refine Below.setCell ?_ ?_ _ | with_reducible refine Below.drew ?_ | with_reducible refine below_drewN ?_ _ | with_reducible refine below_step ?_ (by assumption) ?_ | with_reducible refine below_mark ?_ (by assumption) ?_)); all_goals (first | omega | (simp; done) | (simp; omega)))⟩
theorem putZ_1 (n : Int) (h0 : 0 ≤ n) (h : n < 128) : putS n = [UInt8.ofNat n.toNat] := by
  obtain ⟨m, rfl⟩ := Int.eq_ofNat_of_zero_le h0
  rw [putS_1 (by omega)]; simp
theorem putZ_2 (n : Int) (h0 : 128 ≤ n) (h : n < 2048) : putS n = [UInt8.ofNat (192 + n / 64).toNat, UInt8.ofNat (128 + n % 64).toNat] := by
  obtain ⟨m, rfl⟩ := Int.eq_ofNat_of_zero_le (show 0 ≤ n by omega)
  rw [putS_2 (by omega) (by omega), show (192 + (m : Int) / 64).toNat = 192 + m / 64 by omega, show (128 + (m : Int) % 64).toNat = 128 + m % 64 by omega]
theorem putZ_3 (n : Int) (h0 : 2048 ≤ n) (h : n < 65536) (hs : ¬ (55296 ≤ n ∧ n ≤ 57343)) : putS n = [UInt8.ofNat (224 + n / 4096).toNat, UInt8.ofNat (128 + n / 64 % 64).toNat, UInt8.ofNat (128 + n % 64).toNat] := by
  obtain ⟨m, rfl⟩ := Int.eq_ofNat_of_zero_le (show 0 ≤ n by omega)
  rw [putS_3 (by omega) (by omega) (by omega), show (224 + (m : Int) / 4096).toNat = 224 + m / 4096 by omega, show (128 + (m : Int) / 64 % 64).toNat = 128 + m / 64 % 64 by omega, show (128 + (m : Int) % 64).toNat = 128 + m % 64 by omega]
theorem putZ_4 (n : Int) (h0 : 65536 ≤ n) (h : n ≤ 1114111) : putS n = [UInt8.ofNat (240 + n / 262144).toNat, UInt8.ofNat (128 + n / 4096 % 64).toNat, UInt8.ofNat (128 + n / 64 % 64).toNat, UInt8.ofNat (128 + n % 64).toNat] := by
  obtain ⟨m, rfl⟩ := Int.eq_ofNat_of_zero_le (show 0 ≤ n by omega)
  rw [putS_4 (by omega) (by omega), show (240 + (m : Int) / 262144).toNat = 240 + m / 262144 by omega, show (128 + (m : Int) / 4096 % 64).toNat = 128 + m / 4096 % 64 by omega, show (128 + (m : Int) / 64 % 64).toNat = 128 + m / 64 % 64 by omega, show (128 + (m : Int) % 64).toNat = 128 + m % 64 by omega]
set_option maxHeartbeats 1000000 in
theorem putSign_yes (n : Int) (w : World) (h : isSg n) : Calls Tryd.prog 270 #[.int .i64 n] w (StrRet (putS n) w) := by
  obtain ⟨h0, h1, h2⟩ := h
  have HI1 := Lib.hid (fun W => l01In_yes n 0 1114111 W h0 h1)
  have HI2 := Lib.hid (fun W => l01In_no n 55296 57343 W (by omega))
  have a1 : bits BinOp.and IntKind.i64 n 63 = n % 64 := and_i64 _ 6 63 (by decide) (by decide) (by omega) (by omega)
  have a2 : bits BinOp.and IntKind.i64 (n / 64) 63 = n / 64 % 64 := and_i64 _ 6 63 (by decide) (by decide) (by omega) (by omega)
  have a3 : bits BinOp.and IntKind.i64 (n / 4096) 63 = n / 4096 % 64 := and_i64 _ 6 63 (by decide) (by decide) (by omega) (by omega)
  by_cases c1 : n < 128
  · have H := Lib.hid (putZ_1 n h0 c1)
    have hc := run_new1
    have w1 := u8w n (by omega) (by omega)
    clear a1 a2 a3 h2
    rw [H.out]
    go_enter Tryd.func270, Tryd.ntmps270
    go_wp2_with fail
    refine (HI1.out _).mono ?_
    rintro e w1 ⟨rfl, rfl⟩
    go_wp2_with fail
    refine (HI2.out _).mono ?_
    rintro e w2 ⟨rfl, rfl⟩
    go_wp2_with fail
    go_ret
    exact ⟨rfl, (by (repeat' (first | with_reducible exact Below.refl _ _ | with_reducible refine below_alloc ?_ _ ?_ | with_reducible refine Below.setCell ?_ ?_ _ | with_reducible refine Below.drew ?_ | with_reducible refine below_drewN ?_ _ | with_reducible refine below_step ?_ (by assumption) ?_ | with_reducible refine below_mark ?_ (by assumption) ?_)); all_goals (first | omega | (simp; done) | (simp; omega)))⟩
  · by_cases c2 : n < 2048
    · have H := Lib.hid (putZ_2 n (by omega) c2)
      have hc := run_new2
      have w1 := u8w (192 + n / 64) (by omega) (by omega)
      have w2 := u8w (128 + n % 64) (by omega) (by omega)
      clear a2 a3 h2
      rw [H.out]
      go_enter Tryd.func270, Tryd.ntmps270
      go_wp2_with fail
      refine (HI1.out _).mono ?_
      rintro e w1 ⟨rfl, rfl⟩
      go_wp2_with fail
      refine (HI2.out _).mono ?_
      rintro e w2 ⟨rfl, rfl⟩
      go_wp2_with fail
      go_ret
      exact ⟨rfl, (by (repeat' (first | with_reducible exact Below.refl _ _ | with_reducible refine below_alloc ?_ _ ?_ | with_reducible refine Below.setCell ?_ ?_ _ | with_reducible refine Below.drew ?_ | with_reducible refine below_drewN ?_ _ | with_reducible refine below_step ?_ (by assumption) ?_ | with_reducible refine below_mark ?_ (by assumption) ?_)); all_goals (first | omega | (simp; done) | (simp; omega)))⟩
    · by_cases c3 : n < 65536
      · have H := Lib.hid (putZ_3 n (by omega) c3 h2)
        have hc := run_new3
        have w1 := u8w (224 + n / 4096) (by omega) (by omega)
        have w2 := u8w (128 + n / 64 % 64) (by omega) (by omega)
        have w3 := u8w (128 + n % 64) (by omega) (by omega)
        clear a3 h2
        rw [H.out]
        go_enter Tryd.func270, Tryd.ntmps270
        go_wp2_with fail
        refine (HI1.out _).mono ?_
        rintro e w1 ⟨rfl, rfl⟩
        go_wp2_with fail
        refine (HI2.out _).mono ?_
        rintro e w2 ⟨rfl, rfl⟩
        go_wp2_with fail
        go_ret
        exact ⟨rfl, (by (repeat' (first | with_reducible exact Below.refl _ _ | with_reducible refine below_alloc ?_ _ ?_ | with_reducible refine Below.setCell ?_ ?_ _ | with_reducible refine Below.drew ?_ | with_reducible refine below_drewN ?_ _ | with_reducible refine below_step ?_ (by assumption) ?_ | with_reducible refine below_mark ?_ (by assumption) ?_)); all_goals (first | omega | (simp; done) | (simp; omega)))⟩
      · have H := Lib.hid (putZ_4 n (by omega) h1)
        have hc := run_new4
        have w1 := u8w (240 + n / 262144) (by omega) (by omega)
        have w2 := u8w (128 + n / 4096 % 64) (by omega) (by omega)
        have w3 := u8w (128 + n / 64 % 64) (by omega) (by omega)
        have w4 := u8w (128 + n % 64) (by omega) (by omega)
        clear h2
        rw [H.out]
        go_enter Tryd.func270, Tryd.ntmps270
        go_wp2_with fail
        refine (HI1.out _).mono ?_
        rintro e w1 ⟨rfl, rfl⟩
        go_wp2_with fail
        refine (HI2.out _).mono ?_
        rintro e w2 ⟨rfl, rfl⟩
        go_wp2_with fail
        go_ret
        exact ⟨rfl, (by (repeat' (first | with_reducible exact Below.refl _ _ | with_reducible refine below_alloc ?_ _ ?_ | with_reducible refine Below.setCell ?_ ?_ _ | with_reducible refine Below.drew ?_ | with_reducible refine below_drewN ?_ _ | with_reducible refine below_step ?_ (by assumption) ?_ | with_reducible refine below_mark ?_ (by assumption) ?_)); all_goals (first | omega | (simp; done) | (simp; omega)))⟩
theorem putSign_any (n : Int) (w : World) : Calls Tryd.prog 270 #[.int .i64 n] w (StrRet (putS n) w) := by
  by_cases h : isSg n
  · exact putSign_yes n w h
  · rw [putS_no h]; exact putSign_no n w h
def Int2Ret (a b : Int) (w : World) (e : Ending) (w' : World) : Prop := e = .returned (.tuple #[.int .i64 a, .int .i64 b]) ∧ w' = w
set_option maxHeartbeats 1000000 in
theorem l01Many_any (b : Nat) (x : Int) (hx : x = b) (hb : b < 256) (w : World) : Calls Tryd.prog 269 #[.int .i64 x] w (Int2Ret (manyOf b) (headOf b) w) := by
  have h0 : 0 ≤ x := by omega
  have h1 : x < 256 := by omega
  have a1 : bits BinOp.and IntKind.i64 x 31 = x % 32 := and_i64 _ 5 31 (by decide) (by decide) (by omega) (by omega)
  have a2 : bits BinOp.and IntKind.i64 x 15 = x % 16 := and_i64 _ 4 15 (by decide) (by decide) (by omega) (by omega)
  have a3 : bits BinOp.and IntKind.i64 x 7 = x % 8 := and_i64 _ 3 7 (by decide) (by decide) (by omega) (by omega)
  have HX := Lib.hid hx
  by_cases c1 : b < 128
  · have H := Lib.hid (show (manyOf b : Int) = 1 ∧ (headOf b : Int) = x by rw [HX.out]; unfold manyOf headOf; rw [if_pos c1, if_pos c1]; simp)
    have h2 : x < 128 := by omega
    rw [H.out.1, H.out.2]
    clear hx c1
    go_enter Tryd.func269, Tryd.ntmps269
    go_wp2_with fail
    go_ret2
    exact ⟨rfl, rfl⟩
  have h2 : ¬ x < 128 := by omega
  by_cases c2 : b < 192
  · have H := Lib.hid (show (manyOf b : Int) = 0 ∧ (headOf b : Int) = 0 by unfold manyOf headOf; rw [if_neg c1, if_neg c1, if_pos c2, if_pos c2]; simp)
    have HI1 := Lib.hid (fun W => l01In_no x 192 223 W (by omega))
    have HI2 := Lib.hid (fun W => l01In_no x 224 239 W (by omega))
    have HI3 := Lib.hid (fun W => l01In_no x 240 247 W (by omega))
    rw [H.out.1, H.out.2]
    clear hx c1 c2
    go_enter Tryd.func269, Tryd.ntmps269
    go_wp2_with fail
    refine (HI1.out _).mono ?_
    rintro e w1 ⟨rfl, rfl⟩
    go_wp2_with fail
    refine (HI2.out _).mono ?_
    rintro e w2 ⟨rfl, rfl⟩
    go_wp2_with fail
    refine (HI3.out _).mono ?_
    rintro e w3 ⟨rfl, rfl⟩
    go_wp2_with fail
    go_ret2
    exact ⟨rfl, rfl⟩
  by_cases c3 : b < 224
  · have H := Lib.hid (show (manyOf b : Int) = 2 ∧ (headOf b : Int) = x % 32 by rw [HX.out]; unfold manyOf headOf; rw [if_neg c1, if_neg c1, if_neg c2, if_neg c2, if_pos c3, if_pos c3]; omega)
    have HI1 := Lib.hid (fun W => l01In_yes x 192 223 W (by omega) (by omega))
    rw [H.out.1, H.out.2]
    clear hx c1 c2 c3
    go_enter Tryd.func269, Tryd.ntmps269
    go_wp2_with fail
    refine (HI1.out _).mono ?_
    rintro e w1 ⟨rfl, rfl⟩
    go_wp2_with fail
    go_ret2
    exact ⟨rfl, rfl⟩
  by_cases c4 : b < 240
  · have H := Lib.hid (show (manyOf b : Int) = 3 ∧ (headOf b : Int) = x % 16 by rw [HX.out]; unfold manyOf headOf; rw [if_neg c1, if_neg c1, if_neg c2, if_neg c2, if_neg c3, if_neg c3, if_pos c4, if_pos c4]; omega)
    have HI1 := Lib.hid (fun W => l01In_no x 192 223 W (by omega))
    have HI2 := Lib.hid (fun W => l01In_yes x 224 239 W (by omega) (by omega))
    rw [H.out.1, H.out.2]
    clear hx c1 c2 c3 c4
    go_enter Tryd.func269, Tryd.ntmps269
    go_wp2_with fail
    refine (HI1.out _).mono ?_
    rintro e w1 ⟨rfl, rfl⟩
    go_wp2_with fail
    refine (HI2.out _).mono ?_
    rintro e w2 ⟨rfl, rfl⟩
    go_wp2_with fail
    go_ret2
    exact ⟨rfl, rfl⟩
  have HI1 := Lib.hid (fun W => l01In_no x 192 223 W (by omega))
  have HI2 := Lib.hid (fun W => l01In_no x 224 239 W (by omega))
  by_cases c5 : b < 248
  · have H := Lib.hid (show (manyOf b : Int) = 4 ∧ (headOf b : Int) = x % 8 by rw [HX.out]; unfold manyOf headOf; rw [if_neg c1, if_neg c1, if_neg c2, if_neg c2, if_neg c3, if_neg c3, if_neg c4, if_neg c4, if_pos c5, if_pos c5]; omega)
    have HI3 := Lib.hid (fun W => l01In_yes x 240 247 W (by omega) (by omega))
    rw [H.out.1, H.out.2]
    clear hx c1 c2 c3 c4 c5
    go_enter Tryd.func269, Tryd.ntmps269
    go_wp2_with fail
    refine (HI1.out _).mono ?_
    rintro e w1 ⟨rfl, rfl⟩
    go_wp2_with fail
    refine (HI2.out _).mono ?_
    rintro e w2 ⟨rfl, rfl⟩
    go_wp2_with fail
    refine (HI3.out _).mono ?_
    rintro e w3 ⟨rfl, rfl⟩
    go_wp2_with fail
    go_ret2
    exact ⟨rfl, rfl⟩
  · have H := Lib.hid (show (manyOf b : Int) = 0 ∧ (headOf b : Int) = 0 by unfold manyOf headOf; rw [if_neg c1, if_neg c1, if_neg c2, if_neg c2, if_neg c3, if_neg c3, if_neg c4, if_neg c4, if_neg c5, if_neg c5]; simp)
    have HI3 := Lib.hid (fun W => l01In_no x 240 247 W (by omega))
    rw [H.out.1, H.out.2]
    clear hx c1 c2 c3 c4 c5
    go_enter Tryd.func269, Tryd.ntmps269
    go_wp2_with fail
    refine (HI1.out _).mono ?_
    rintro e w1 ⟨rfl, rfl⟩
    go_wp2_with fail
    refine (HI2.out _).mono ?_
    rintro e w2 ⟨rfl, rfl⟩
    go_wp2_with fail
    refine (HI3.out _).mono ?_
    rintro e w3 ⟨rfl, rfl⟩
    go_wp2_with fail
    go_ret2
    exact ⟨rfl, rfl⟩
/-- the sign at a place and the place behind it, -1 and -1 where there is none -/
def getSg (s : ByteArray) (i : Int) : Int × Int :=
  if i < 0 ∨ (s.size : Int) ≤ i then (-1, -1) else if badD (s.data.toList.drop i.toNat) then (-1, -1) else (((Lib.decodeL (s.data.toList.drop i.toNat)).1 : Int), i + (Lib.decodeL (s.data.toList.drop i.toNat)).2)
def SgRet (p : Int × Int) (w : World) (e : Ending) (w' : World) : Prop := e = .returned (.tuple #[.int .i64 p.1, .int .i64 p.2]) ∧ Below w.heap.size w w'
set_option maxHeartbeats 400000 in
theorem getSign_out (s : ByteArray) (i : Int) (w : World) (hs : s.size ≤ 9223372036854775807) (hi0 : -9223372036854775808 ≤ i) (hi1 : i ≤ 9223372036854775807) (h : i < 0 ∨ (s.size : Int) ≤ i) :
    Calls Tryd.prog 255 #[.string s, .int .i64 i] w (SgRet (getSg s i) w) := by
  have H := Lib.hid (show getSg s i = (-1, -1) by unfold getSg; rw [if_pos h])
  rw [H.out]
  by_cases h0 : i < 0
  · clear h
    go_enter Tryd.func255, Tryd.ntmps255
    go_wp2_with fail
    go_ret2
    exact ⟨rfl, (by (repeat' (first | with_reducible exact Below.refl _ _ | with_reducible refine below_alloc ?_ _ ?_ | with_reducible refine Below.setCell ?_ ?_ _ | with_reducible refine Below.drew ?_ | with_reducible refine below_drewN ?_ _ | with_reducible refine below_step ?_ (by assumption) ?_ | with_reducible refine below_mark ?_ (by assumption) ?_)); all_goals (first | omega | (simp; done) | (simp; omega)))⟩
  · have h2 : (s.size : Int) ≤ i := by omega
    clear h
    go_enter Tryd.func255, Tryd.ntmps255
    go_wp2_with fail
    go_ret2
    exact ⟨rfl, (by (repeat' (first | with_reducible exact Below.refl _ _ | with_reducible refine below_alloc ?_ _ ?_ | with_reducible refine Below.setCell ?_ ?_ _ | with_reducible refine Below.drew ?_ | with_reducible refine below_drewN ?_ _ | with_reducible refine below_step ?_ (by assumption) ?_ | with_reducible refine below_mark ?_ (by assumption) ?_)); all_goals (first | omega | (simp; done) | (simp; omega)))⟩
theorem getD_drop (s : ByteArray) (p j : Nat) (h : p + j < s.size) : (s.data.toList.drop p).getD j 0 = s[p + j] := by
  have hl : p + j < s.data.toList.length := by rw [Array.length_toList]; exact h
  rw [List.getD_eq_getElem?_getD, List.getElem?_drop, List.getElem?_eq_getElem hl]
  rfl
set_option maxHeartbeats 1000000 in
theorem getSign_in (s : ByteArray) (p : Nat) (w : World) (hs : s.size ≤ 9223372036854775807) (h : p < s.size) :
    Calls Tryd.prog 255 #[.string s, .int .i64 p] w (SgRet (getSg s p) w) := by
  have hl : (s.data.toList.drop p).length = s.size - p := by rw [List.length_drop, Array.length_toList]; rfl
  have hb0 : ((s.data.toList.drop p).getD 0 0).toNat = (s[p]).toNat := by rw [getD_drop s p 0 h]; rfl
  have HN := Lib.hid (get_none (s.data.toList.drop p) (by omega))
  have HS := Lib.hid (get_some (s.data.toList.drop p))
  rw [hb0] at HN HS
  have hlt := (s[p]).toNat_lt
  have MA := Lib.hid (fun W => l01Many_any (s[p]).toNat ((s[p]).toNat : Int) rfl (by omega) W)
  have hm4 := manyOf_le (s[p]).toNat
  have HG := Lib.hid (show getSg s p = if badD (s.data.toList.drop p) then (-1, -1) else (((Lib.decodeL (s.data.toList.drop p)).1 : Int), (p : Int) + (Lib.decodeL (s.data.toList.drop p)).2) by
    unfold getSg; rw [if_neg (by omega)]; rfl)
  have HH := Lib.hid (headOf_lt (s[p]).toNat)
  have HL := Lib.hid hl
  clear hl
  generalize getSg s p = g at *
  generalize hm : manyOf (s[p]).toNat = m at *
  generalize headOf (s[p]).toNat = h0 at *
  have HM := Lib.hid hm; clear hm
  have hsp : (p : Int) < s.size := by omega
  by_cases hc : m = 0 ∨ s.size - p < m
  · have HB := Lib.hid (HN.out (by rw [HL.out]; exact hc))
    have HV := Lib.hid (show g = (-1, -1) by rw [HG.out, if_pos HB.out])
    by_cases hm0 : m = 0
    · subst hm0
      clear hc HS HN
      go_enter Tryd.func255, Tryd.ntmps255
      go_wp2_with fail
      refine (MA.out _).mono ?_
      rintro e w1 ⟨rfl, rfl⟩
      go_wp2_with fail
      go_ret2
      exact ⟨by rw [HV.out]; rfl, (by (repeat' (first | with_reducible exact Below.refl _ _ | with_reducible refine below_alloc ?_ _ ?_ | with_reducible refine Below.setCell ?_ ?_ _ | with_reducible refine Below.drew ?_ | with_reducible refine below_drewN ?_ _ | with_reducible refine below_step ?_ (by assumption) ?_ | with_reducible refine below_mark ?_ (by assumption) ?_)); all_goals (first | omega | (simp; done) | (simp; omega)))⟩
    · have h2 : ((s.size : Int) - p) < m := by omega
      have h3 : ¬ (m : Int) = 0 := by omega
      have h4 : ((m : Int) == 0) = false := by simpa using hm0
      clear hc HS HN
      go_enter Tryd.func255, Tryd.ntmps255
      go_wp2_with fail
      refine (MA.out _).mono ?_
      rintro e w1 ⟨rfl, rfl⟩
      go_wp2_with fail
      go_ret2
      exact ⟨by rw [HV.out]; rfl, (by (repeat' (first | with_reducible exact Below.refl _ _ | with_reducible refine below_alloc ?_ _ ?_ | with_reducible refine Below.setCell ?_ ?_ _ | with_reducible refine Below.drew ?_ | with_reducible refine below_drewN ?_ _ | with_reducible refine below_step ?_ (by assumption) ?_ | with_reducible refine below_mark ?_ (by assumption) ?_)); all_goals (first | omega | (simp; done) | (simp; omega)))⟩
  · have h1 : m ≠ 0 := by omega
    have h2 : m ≤ s.size - p := by omega
    have h3 : ¬ ((s.size : Int) - p) < m := by omega
    have h4 : ((m : Int) == 0) = false := by simpa using h1
    have HQ := Lib.hid (HS.out h1 (by rw [HL.out]; exact h2))
    clear hc HS HN
    go_enter Tryd.func255, Tryd.ntmps255
    go_wp2_with fail
    refine (MA.out _).mono ?_
    rintro e w1 ⟨rfl, rfl⟩
    go_wp2_with fail
    go_loop [7, 8] (fun n k => ∃ (j : Nat) (q : Int), 1 ≤ j ∧ j ≤ m ∧ k = .int .i64 j ∧ n = .int .i64 q ∧ 0 ≤ q ∧ q < 134217728 ∧ Hid (q = (accV h0 (s.data.toList.drop p) (j - 1) : Nat) ∧ h0 < 128)) (fun _ k => m - (intOf k).toNat)
    case atStart => exact ⟨1, h0, by omega, by omega, rfl, rfl, by omega, by have := HH.out; omega, Lib.hid ⟨rfl, HH.out⟩⟩
    case round =>
      obtain ⟨j, q, hj1, hjm, rfl, rfl, hq1, hq2, HQJ⟩ := hrel
      by_cases hlt2 : j < m
      · have hpj : p + j < s.size := by omega
        have HX := Lib.hid (show q * 64 + ((s[p + j]).toNat : Int) % 64 = (accV h0 (s.data.toList.drop p) (j + 1 - 1) : Nat) by
          rw [show j + 1 - 1 = (j - 1) + 1 by omega]
          simp only [accV]
          rw [show j - 1 + 1 = j by omega, getD_drop s p j hpj, HQJ.out.1]
          simp)
        have HY := Lib.hid (show q * 64 + ((s[p + j]).toNat : Int) % 64 < 134217728 by
          have h1 := accV_lt h0 (s.data.toList.drop p) HQJ.out.2 (j + 1 - 1) (by omega)
          rw [HX.out]
          have h2 : 64 ^ (j + 1 - 1) ≤ 64 ^ 3 := Nat.pow_le_pow_right (by decide) (by omega)
          omega)
        have hx2 := (s[p + j]).toNat_lt
        have hx3 : ((s[p + j]).toNat : Int) < 256 := by omega
        have a1 : bits BinOp.and IntKind.i64 ((s[p + j]).toNat : Int) 63 = ((s[p + j]).toNat : Int) % 64 := and_i64 _ 6 63 (by decide) (by decide) (by omega) (by omega)
        go_wp2_with fail
        go_round
        case rel => exact ⟨j + 1, _, by omega, by omega, by go_num, rfl, by omega, HY.out, Lib.hid ⟨HX.out, HQJ.out.2⟩⟩
        case measure => simp [intOf]; omega
      · have hjm' : j = m := by omega
        subst hjm'
        have HP := Lib.hid (fun W => putSign_any q W)
        have hE : (s.extract p (p + j)).data.toList = (s.data.toList.drop p).take j := by
          simp [ByteArray.data_extract, List.take_drop]
        have HD := Lib.hid (show (¬ badD (s.data.toList.drop p) ↔ putS q = (s.data.toList.drop p).take j) ∧ (¬ badD (s.data.toList.drop p) → ((Lib.decodeL (s.data.toList.drop p)).1 : Int) = q ∧ (Lib.decodeL (s.data.toList.drop p)).2 = j) by
          have h1 := HQ.out
          rw [← HQJ.out.1] at h1
          refine ⟨h1.1, fun hh => ?_⟩
          rw [h1.2 hh]
          exact ⟨HQJ.out.1.symm, rfl⟩)
        clear HQ
        unfold StrRet at HP
        unfold bstr at HP
        by_cases hbd : badD (s.data.toList.drop p)
        · have HV := Lib.hid (show g = (-1, -1) by rw [HG.out, if_pos hbd])
          have t1 : ((⟨(putS q).toArray⟩ : ByteArray).toList == (s.extract p (p + j)).toList) = false := ba_no (fun e => by
            have : putS q = (s.data.toList.drop p).take j := by rw [← hE, ← e]
            exact absurd hbd (HD.out.1.2 this))
          clear hE hbd HD
          generalize (⟨(putS q).toArray⟩ : ByteArray) = X at *
          go_wp2_with fail
          have u1 : (0 : Int) ≤ (p : Int) := by omega
          have u2 : (p : Int) ≤ (p : Int) + (j : Int) := by omega
          have u3 : (p : Int) + (j : Int) ≤ (s.size : Int) := by omega
          have u4 : ((p : Int) + (j : Int)).toNat = p + j := by omega
          have u5 : IntKind.i64.wrap ((p : Int) + (j : Int)) = (p : Int) + (j : Int) := IntWalk.i64_in _ (by omega)
          have u6 : p ≤ p + j := by omega
          have u7 : p + j ≤ s.size := by omega
          go_region_held3 (fun w' => True) (first | exact trivial | go_keep) ((go_at_call 270; refine (HP.out _).mono ?_; rintro e2 w2 ⟨rfl, hb2⟩))
          go_wp2_with fail
          go_ret2
          exact ⟨by rw [HV.out]; first | rfl | (go_num), (by (repeat' (first | with_reducible exact Below.refl _ _ | with_reducible refine below_alloc ?_ _ ?_ | with_reducible refine Below.setCell ?_ ?_ _ | with_reducible refine Below.drew ?_ | with_reducible refine below_drewN ?_ _ | with_reducible refine below_step ?_ (by assumption) ?_ | with_reducible refine below_mark ?_ (by assumption) ?_)); all_goals (first | omega | (simp; done) | (simp; omega)))⟩
        · have HV := Lib.hid (show g = (q, (p : Int) + j) by rw [HG.out, if_neg hbd, (HD.out.2 hbd).1, (HD.out.2 hbd).2])
          have t1 : ((⟨(putS q).toArray⟩ : ByteArray).toList == (s.extract p (p + j)).toList) = true := ba_yes (ba_ext (by
            show putS q = _
            rw [hE]; exact HD.out.1.1 hbd))
          clear hE hbd HD
          generalize (⟨(putS q).toArray⟩ : ByteArray) = X at *
          go_wp2_with fail
          have u1 : (0 : Int) ≤ (p : Int) := by omega
          have u2 : (p : Int) ≤ (p : Int) + (j : Int) := by omega
          have u3 : (p : Int) + (j : Int) ≤ (s.size : Int) := by omega
          have u4 : ((p : Int) + (j : Int)).toNat = p + j := by omega
          have u5 : IntKind.i64.wrap ((p : Int) + (j : Int)) = (p : Int) + (j : Int) := IntWalk.i64_in _ (by omega)
          have u6 : p ≤ p + j := by omega
          have u7 : p + j ≤ s.size := by omega
          go_region_held3 (fun w' => True) (first | exact trivial | go_keep) ((go_at_call 270; refine (HP.out _).mono ?_; rintro e2 w2 ⟨rfl, hb2⟩))
          go_wp2_with fail
          go_ret2
          exact ⟨by rw [HV.out]; first | rfl | (go_num), (by (repeat' (first | with_reducible exact Below.refl _ _ | with_reducible refine below_alloc ?_ _ ?_ | with_reducible refine Below.setCell ?_ ?_ _ | with_reducible refine Below.drew ?_ | with_reducible refine below_drewN ?_ _ | with_reducible refine below_step ?_ (by assumption) ?_ | with_reducible refine below_mark ?_ (by assumption) ?_)); all_goals (first | omega | (simp; done) | (simp; omega)))⟩
theorem getSign_any (s : ByteArray) (i : Int) (w : World) (hs : s.size ≤ 9223372036854775807) (hi0 : -9223372036854775808 ≤ i) (hi1 : i ≤ 9223372036854775807) :
    Calls Tryd.prog 255 #[.string s, .int .i64 i] w (SgRet (getSg s i) w) := by
  by_cases h : i < 0 ∨ (s.size : Int) ≤ i
  · exact getSign_out s i w hs hi0 hi1 h
  · obtain ⟨p, rfl⟩ := Int.eq_ofNat_of_zero_le (show 0 ≤ i by omega)
    exact getSign_in s p w hs (by omega)
theorem validStep (s : ByteArray) (p : Nat) (h : p < s.size) : Lib.validD (s.data.toList.drop p) = if badD (s.data.toList.drop p) then false else Lib.validD (s.data.toList.drop (p + (Lib.decodeL (s.data.toList.drop p)).2)) := by
  have hl : s.data.toList.drop p ≠ [] := by
    intro e
    have := congrArg List.length e
    rw [List.length_drop, Array.length_toList] at this
    simp only [List.length_nil] at this
    have h2 : s.data.size = s.size := rfl
    omega
  rw [Lib.validD_step _ hl, List.drop_drop]
  rfl
theorem decLe (s : ByteArray) (p : Nat) (h : p < s.size) : 1 ≤ (Lib.decodeL (s.data.toList.drop p)).2 ∧ p + (Lib.decodeL (s.data.toList.drop p)).2 ≤ s.size := by
  have hl : (s.data.toList.drop p).length = s.size - p := by rw [List.length_drop, Array.length_toList]; rfl
  have h2 := Lib.decodeL_le (s.data.toList.drop p) (by intro e; rw [e] at hl; simp at hl; omega)
  exact ⟨Lib.decodeL_width _, by omega⟩
theorem src_intN (w : World) (x : Int) : Src Tryd.prog 1 110 (.slice (some ⟨w.heap.size, 0, none⟩) 1 1) [x].length ([x].map (.int .i64)) (w.alloc (.cells #[.int .i64 x] 3)) := src_int1 w x
def SignsRet (s : ByteArray) (w : World) (e : Ending) (w' : World) : Prop := ∃ a n cap, e = .returned (.slice a n cap) ∧ decide (0 < n) = (txt s && decide (s.size ≠ 0)) ∧ Below w.heap.size w w'
set_option maxHeartbeats 1000000 in
theorem Signs_any (s : ByteArray) (w : World) (hs : s.size ≤ 1099511627776) : Calls Tryd.prog 238 #[.string s] w (SignsRet s w) := by
  have GS := Lib.hid (fun W (p : Nat) (hp : p < s.size) => getSign_any s p W (by omega) (by omega) (by omega))
  go_enter Tryd.func238, Tryd.ntmps238
  go_wp2_with fail
  go_loopw [3, 4] (fun o i wr => ∃ (p : Nat) (l : List Int), p ≤ s.size ∧ i = .int .i64 p ∧ l.length ≤ p ∧ Hid (txt s = Lib.validD (s.data.toList.drop p) ∧ (l = [] ↔ p = 0)) ∧ IRow wr w.heap.size o l ∧ Below w.heap.size w wr) (fun _ i _ => s.size - (intOf i).toNat)
  case atStart => exact ⟨0, [], by omega, rfl, by simp, Lib.hid ⟨rfl, by simp⟩, IRow.made0 (Nat.le_refl _), (by (repeat' (first | with_reducible exact Below.refl _ _ | with_reducible refine below_alloc ?_ _ ?_ | with_reducible refine Below.setCell ?_ ?_ _ | with_reducible refine Below.drew ?_ | with_reducible refine below_drewN ?_ _ | with_reducible refine below_step ?_ (by assumption) ?_ | with_reducible refine below_mark ?_ (by assumption) ?_)); all_goals (first | omega | (simp; done) | (simp; omega)))⟩
  case round =>
    obtain ⟨p, l, hp, rfl, hl, HI, hrow, hbl⟩ := hrel
    have hzr := hbl.size
    have HROW := Lib.hid hrow; clear hrow
    by_cases hlt : p < s.size
    · have HV := Lib.hid (validStep s p hlt)
      have HL := Lib.hid (decLe s p hlt)
      have HG := Lib.hid (show getSg s p = if badD (s.data.toList.drop p) then (-1, -1) else (((Lib.decodeL (s.data.toList.drop p)).1 : Int), (p : Int) + (Lib.decodeL (s.data.toList.drop p)).2) by
        unfold getSg; rw [if_neg (by omega)]; rfl)
      have G1 := Lib.hid (fun W => GS.out W p hlt)
      obtain ⟨so, no, co, rfl⟩ : ∃ a n c, u3 = .slice a n c := by obtain ⟨a, c, e, _⟩ := HROW.out.form; exact ⟨a, _, c, e⟩
      by_cases hbd : badD (s.data.toList.drop p)
      · have HGV := Lib.hid (show getSg s p = (-1, -1) by rw [HG.out, if_pos hbd])
        have HF := Lib.hid (show txt s = false by rw [HI.out.1, HV.out, if_pos hbd])
        rw [HGV.out] at G1
        clear HG HV hbd
        go_wp2_with fail
        refine (G1.out _).mono ?_
        rintro e1 w1 ⟨rfl, hb1⟩
        go_wp2_with fail
        go_ret
        exact ⟨_, _, _, rfl, by rw [HF.out]; rfl, (by (repeat' (first | with_reducible exact Below.refl _ _ | with_reducible refine below_alloc ?_ _ ?_ | with_reducible refine Below.setCell ?_ ?_ _ | with_reducible refine Below.drew ?_ | with_reducible refine below_drewN ?_ _ | with_reducible refine below_step ?_ (by assumption) ?_ | with_reducible refine below_mark ?_ (by assumption) ?_)); all_goals (first | omega | (simp; done) | (simp; omega)))⟩
      · have HN := Lib.hid (show txt s = Lib.validD (s.data.toList.drop (p + (Lib.decodeL (s.data.toList.drop p)).2)) by rw [HI.out.1, HV.out, if_neg hbd])
        rw [HG.out, if_neg hbd] at G1
        clear HG HV hbd
        obtain ⟨hL1, hL2⟩ := HL.out
        generalize (Lib.decodeL (s.data.toList.drop p)).2 = wd at *
        generalize (((Lib.decodeL (s.data.toList.drop p)).1 : Nat) : Int) = rv at *
        go_wp2_with fail
        refine (G1.out _).mono ?_
        rintro e1 w1 ⟨rfl, hb1⟩
        have hz1 := hb1.size
        have S1 := Lib.hid (src_int1 w1 rv)
        have R1 := Lib.hid (show IRow (w1.alloc (.cells #[.int .i64 rv] 3)) w.heap.size (.slice so no co) l from HROW.out.keep (fun x hx => (Below.heap_alloc w1 _ _ (by have := (HROW.out.lt x hx).2; omega)).trans (hb1.block x (HROW.out.lt x hx).2)))
        have hpos : ¬ ((p : Int) + wd) < 0 := by omega
        go_wp2_with (at_builtin; go_loud (refine app_ints rfl _ _ _ rfl w.heap.size _ _ rfl R1.out _ rfl [rv] S1.out (by simp only [List.length_cons, List.length_nil]; omega) (by simp; omega) ?_); intro v2 w2 hrow2 hg2 hfr2; have hb2 : Below w.heap.size w1 w2 := ((Below.refl _ _).alloc (by omega) _).grown hg2 (by simp; omega) (fun k' hk' => (HROW.out.lt k' hk').1); have R2 := Lib.hid hrow2; clear hrow2)
        go_roundw
        case rel => exact ⟨p + wd, l ++ [rv], by omega, by go_num, by simp; omega, Lib.hid ⟨HN.out, by simp; omega⟩, R2.out, (hbl.trans (hb1.mono (by omega))).trans hb2⟩
        case measure => simp [intOf]; omega
    · have hpe : p = s.size := by omega
      have HF := Lib.hid (show txt s = true by
        rw [HI.out.1, List.drop_of_length_le (by rw [Array.length_toList]; show s.size ≤ p; omega)]; rfl)
      obtain ⟨a, cap, e, _⟩ := HROW.out.form
      subst e
      go_wp2_with fail
      go_ret
      refine ⟨_, _, _, rfl, ?_, hbl⟩
      rw [HF.out, Bool.true_and, decide_eq_decide, ← hpe]
      have h1 := HI.out.2
      have h2 : l = [] ↔ l.length = 0 := ⟨fun e => by rw [e]; rfl, List.eq_nil_of_length_eq_zero⟩
      have h3 := h2.symm.trans h1
      omega
set_option maxHeartbeats 400000 in
theorem textOk_spec (s : ByteArray) (w : World) (hs : s.size ≤ 1099511627776) : Calls Tryd.prog 216 #[.string s] w fun e w' => e = .returned (.bool (txt s)) ∧ Below w.heap.size w w' := by
  have SG := Lib.hid (fun W => Signs_any s W hs)
  by_cases h0 : s.size = 0
  · obtain rfl := ba_empty h0
    have H := Lib.hid (show txt ⟨#[]⟩ = true from rfl)
    rw [H.out]
    go_enter Tryd.func216, Tryd.ntmps216
    go_wp2_with fail
    go_ret
    exact ⟨rfl, (by (repeat' (first | with_reducible exact Below.refl _ _ | with_reducible refine below_alloc ?_ _ ?_ | with_reducible refine Below.setCell ?_ ?_ _ | with_reducible refine Below.drew ?_ | with_reducible refine below_drewN ?_ _ | with_reducible refine below_step ?_ (by assumption) ?_ | with_reducible refine below_mark ?_ (by assumption) ?_)); all_goals (first | omega | (simp; done) | (simp; omega)))⟩
  · have hne : s.toList = [] ↔ False := ⟨fun e => h0 (by have := congrArg List.length e; rw [ByteArray.toList_eq] at this; simpa using this), False.elim⟩
    have hne2 : s.toList.isEmpty = false := by
      rcases h : s.toList with _ | ⟨x, l⟩
      · exact absurd (hne.1 h) id
      · rfl
    have h0' : decide (s.size ≠ 0) = true := decide_eq_true h0
    have HH := Lib.hid h0'
    clear h0' h0
    go_enter Tryd.func216, Tryd.ntmps216
    go_wp2_with fail
    refine (SG.out _).mono ?_
    rintro e1 w1 ⟨a, n, cap, rfl, hn, hb1⟩
    have HN := Lib.hid (show txt s = decide (0 < n) by rw [hn, HH.out, Bool.and_true])
    clear hn
    go_wp2_with fail
    go_ret
    exact ⟨by rw [HN.out]; simp, hb1⟩
end Go.Proofs.YtiemlefmhleaeaaDoor
