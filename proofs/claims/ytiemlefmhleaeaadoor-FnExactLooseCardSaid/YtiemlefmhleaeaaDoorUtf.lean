/- Signs in UTF-8, plainly: what the reference's PutSign and GetSign reckon is the library's own encoding and decoding. No program in sight. -/
import Derived.Lib.MapLaws
import Derived.Lib.ValidLaws
namespace Go.Proofs.YtiemlefmhleaeaaDoor
set_option linter.unusedVariables false
set_option maxRecDepth 100000
open Go.Lib
def isSg (n : Int) : Prop := 0 ≤ n ∧ n ≤ 1114111 ∧ ¬ (55296 ≤ n ∧ n ≤ 57343)
instance (n : Int) : Decidable (isSg n) := by unfold isSg; exact inferInstance
def putS (n : Int) : List UInt8 := if isSg n then encodeRune n else []
def manyOf (b : Nat) : Nat := if b < 128 then 1 else if b < 192 then 0 else if b < 224 then 2 else if b < 240 then 3 else if b < 248 then 4 else 0
def headOf (b : Nat) : Nat := if b < 128 then b else if b < 192 then 0 else if b < 224 then b % 32 else if b < 240 then b % 16 else if b < 248 then b % 8 else 0
def accV (n0 : Nat) (l : List UInt8) : Nat → Nat
  | 0 => n0
  | k + 1 => accV n0 l k * 64 + (l.getD (k + 1) 0).toNat % 64
theorem accV_lt (n0 : Nat) (l : List UInt8) (h : n0 < 128) : ∀ k, k ≤ 4 → accV n0 l k < 128 * 64 ^ k
  | 0, _ => by simpa [accV] using h
  | k + 1, hk => by
    have := accV_lt n0 l h k (by omega)
    have h2 := Nat.mod_lt (l.getD (k + 1) 0).toNat (show 64 > 0 by decide)
    simp only [accV, Nat.pow_succ]; omega
theorem headOf_lt (b : Nat) : headOf b < 128 := by unfold headOf; repeat' split
                                                   all_goals omega
theorem manyOf_le (b : Nat) : manyOf b ≤ 4 := by unfold manyOf; repeat' split
                                                 all_goals omega
theorem putS_1 {n : Nat} (h : n < 128) : putS n = [n.toUInt8] := by
  unfold putS
  rw [if_pos (by unfold isSg; omega)]
  unfold encodeRune
  rw [encodeRuneZ_one (by omega) (by omega)]
  simp
theorem u8_inj {a : Nat} (h : a < 256) {x : UInt8} : a.toUInt8 = x ↔ a = x.toNat := by
  constructor
  · intro e; subst e; simp; omega
  · intro e; subst e; simp
/-- the bytes of a number, as the reference lays them -/
theorem putS_2 {n : Nat} (h : n < 2048) (h0 : 128 ≤ n) : putS n = [(192 + n / 64).toUInt8, (128 + n % 64).toUInt8] := by
  unfold putS
  rw [if_pos (by unfold isSg; omega)]
  unfold encodeRune
  rw [encodeRuneZ_two (by omega) (by omega)]
  simp only [List.map_cons, List.map_nil]
  rw [show ((192 + (n : Int) / 64).toNat) = 192 + n / 64 by omega, show ((128 + (n : Int) % 64).toNat) = 128 + n % 64 by omega]
theorem putS_3 {n : Nat} (h : n < 65536) (h0 : 2048 ≤ n) (hs : ¬ (55296 ≤ n ∧ n ≤ 57343)) : putS n = [(224 + n / 4096).toUInt8, (128 + n / 64 % 64).toUInt8, (128 + n % 64).toUInt8] := by
  unfold putS
  rw [if_pos (by unfold isSg; omega)]
  unfold encodeRune
  rw [encodeRuneZ_three (by omega)]
  simp only [List.map_cons, List.map_nil]
  rw [show ((224 + (n : Int) / 4096).toNat) = 224 + n / 4096 by omega, show ((128 + (n : Int) / 64 % 64).toNat) = 128 + n / 64 % 64 by omega, show ((128 + (n : Int) % 64).toNat) = 128 + n % 64 by omega]
theorem putS_4 {n : Nat} (h : n ≤ 1114111) (h0 : 65536 ≤ n) : putS n = [(240 + n / 262144).toUInt8, (128 + n / 4096 % 64).toUInt8, (128 + n / 64 % 64).toUInt8, (128 + n % 64).toUInt8] := by
  unfold putS
  rw [if_pos (by unfold isSg; omega)]
  unfold encodeRune
  rw [encodeRuneZ_four (by omega) (by omega)]
  simp only [List.map_cons, List.map_nil]
  rw [show ((240 + (n : Int) / 262144).toNat) = 240 + n / 262144 by omega, show ((128 + (n : Int) / 4096 % 64).toNat) = 128 + n / 4096 % 64 by omega, show ((128 + (n : Int) / 64 % 64).toNat) = 128 + n / 64 % 64 by omega, show ((128 + (n : Int) % 64).toNat) = 128 + n % 64 by omega]
theorem putS_no {n : Int} (h : ¬ isSg n) : putS n = [] := by unfold putS; rw [if_neg h]
theorem putS_len (n : Int) : (putS n).length ≤ 4 := by
  by_cases h : isSg n
  · obtain ⟨h0, h1, h2⟩ := h
    obtain ⟨m, rfl⟩ := Int.eq_ofNat_of_zero_le h0
    by_cases c1 : m < 128
    · rw [putS_1 c1]; simp
    by_cases c2 : m < 2048
    · rw [putS_2 c2 (by omega)]; simp
    by_cases c3 : m < 65536
    · rw [putS_3 c3 (by omega) (by omega)]; simp
    · rw [putS_4 (by omega) (by omega)]; simp
  · rw [putS_no h]; simp
theorem take1 (l : List UInt8) (h : 1 ≤ l.length) : l.take 1 = [l.getD 0 0] := by
  match l, h with
  | a :: l, _ => simp
theorem take2 (l : List UInt8) (h : 2 ≤ l.length) : l.take 2 = [l.getD 0 0, l.getD 1 0] := by
  match l, h with
  | a :: b :: l, _ => simp
theorem take3 (l : List UInt8) (h : 3 ≤ l.length) : l.take 3 = [l.getD 0 0, l.getD 1 0, l.getD 2 0] := by
  match l, h with
  | a :: b :: c :: l, _ => simp
theorem take4 (l : List UInt8) (h : 4 ≤ l.length) : l.take 4 = [l.getD 0 0, l.getD 1 0, l.getD 2 0, l.getD 3 0] := by
  match l, h with
  | a :: b :: c :: d :: l, _ => simp
def badD (l : List UInt8) : Prop := (decodeL l).1 = 65533 ∧ (decodeL l).2 = 1
instance (l : List UInt8) : Decidable (badD l) := by unfold badD; exact inferInstance
set_option maxRecDepth 100000 in
set_option maxHeartbeats 4000000 in
theorem get_none (l : List UInt8) (hne : 1 ≤ l.length) (h : manyOf (l.getD 0 0).toNat = 0 ∨ l.length < manyOf (l.getD 0 0).toNat) : badD l := by
  unfold badD
  rw [decodeL_N]
  have k0 := (l.getD 0 0).toNat_lt
  generalize (l.getD 0 0).toNat = b0 at *
  unfold manyOf at h
  unfold decodeN
  repeat' split
  all_goals first | exact ⟨rfl, rfl⟩ | (exfalso; split at h <;> (try split at h) <;> (try split at h) <;> (try split at h) <;> (try split at h) <;> omega)
set_option maxRecDepth 100000 in
set_option maxHeartbeats 4000000 in
/-- where the first byte tells how many bytes there are, and they are there: the number is right just if its own bytes are these -/
theorem get_some (l : List UInt8) (h0 : manyOf (l.getD 0 0).toNat ≠ 0) (h1 : manyOf (l.getD 0 0).toNat ≤ l.length) :
    (¬ badD l ↔ putS (accV (headOf (l.getD 0 0).toNat) l (manyOf (l.getD 0 0).toNat - 1) : Nat) = l.take (manyOf (l.getD 0 0).toNat)) ∧
    (¬ badD l → decodeL l = (accV (headOf (l.getD 0 0).toNat) l (manyOf (l.getD 0 0).toNat - 1), manyOf (l.getD 0 0).toNat)) := by
  unfold badD
  rw [decodeL_N]
  have k0 := (l.getD 0 0).toNat_lt
  have k1 := (l.getD 1 0).toNat_lt
  have k2 := (l.getD 2 0).toNat_lt
  have k3 := (l.getD 3 0).toNat_lt
  by_cases c0 : (l.getD 0 0).toNat < 128
  · have hm : manyOf (l.getD 0 0).toNat = 1 := by unfold manyOf; rw [if_pos c0]
    have hh : headOf (l.getD 0 0).toNat = (l.getD 0 0).toNat := by unfold headOf; rw [if_pos c0]
    rw [hm] at h1 ⊢
    rw [hh]
    simp only [accV, Nat.sub_self]
    rw [putS_1 c0, take1 l h1]
    have hd : decodeN l.length (l.getD 0 0).toNat (l.getD 1 0).toNat (l.getD 2 0).toNat (l.getD 3 0).toNat = ((l.getD 0 0).toNat, 1) := by unfold decodeN; rw [if_pos c0]
    rw [hd]
    refine ⟨⟨fun _ => by simp, fun _ h => ?_⟩, fun _ => rfl⟩
    have h1 : (l.getD 0 0).toNat = 65533 := h.1
    omega
  by_cases c1 : (l.getD 0 0).toNat < 192
  · exfalso; apply h0; unfold manyOf; rw [if_neg c0, if_pos c1]
  by_cases c2 : (l.getD 0 0).toNat < 224
  · have hm : manyOf (l.getD 0 0).toNat = 2 := by unfold manyOf; rw [if_neg c0, if_neg c1, if_pos c2]
    have hh : headOf (l.getD 0 0).toNat = (l.getD 0 0).toNat % 32 := by unfold headOf; rw [if_neg c0, if_neg c1, if_pos c2]
    rw [hm] at h1 ⊢
    rw [hh]
    simp only [accV]
    rw [take2 l h1]
    have hd : decodeN l.length (l.getD 0 0).toNat (l.getD 1 0).toNat (l.getD 2 0).toNat (l.getD 3 0).toNat = if (l.getD 1 0).toNat / 64 = 2 ∧ 128 ≤ (l.getD 0 0).toNat % 32 * 64 + (l.getD 1 0).toNat % 64 then ((l.getD 0 0).toNat % 32 * 64 + (l.getD 1 0).toNat % 64, 2) else (65533, 1) := by
      unfold decodeN; rw [if_neg c0]
      by_cases q : (l.getD 1 0).toNat / 64 = 2
      · rw [if_pos ⟨by omega, by omega, q⟩]; simp only [q, true_and, ge_iff_le]
      · rw [if_neg (by omega), if_neg (by omega), if_neg (by omega), if_neg (by omega)]
    rw [hd]
    generalize hb0 : l.getD 0 0 = x0 at *
    generalize hb1 : l.getD 1 0 = x1 at *
    by_cases q : x1.toNat / 64 = 2 ∧ 128 ≤ x0.toNat % 32 * 64 + x1.toNat % 64
    · rw [if_pos q, putS_2 (by omega) q.2]
      refine ⟨⟨fun _ => ?_, fun _ => by simp⟩, fun _ => rfl⟩
      simp only [List.cons.injEq, and_true]
      rw [u8_inj (by omega), u8_inj (by omega)]; omega
    · rw [if_neg q]
      refine ⟨⟨fun h => absurd ⟨rfl, rfl⟩ h, fun h => ?_⟩, fun h => absurd ⟨rfl, rfl⟩ h⟩
      exfalso
      by_cases q2 : 128 ≤ x0.toNat % 32 * 64 + x1.toNat % 64
      · rw [putS_2 (by omega) q2] at h
        simp only [List.cons.injEq, and_true] at h
        rw [u8_inj (by omega), u8_inj (by omega)] at h
        omega
      · rw [putS_1 (by omega)] at h; simp at h
  by_cases c3 : (l.getD 0 0).toNat < 240
  · have hm : manyOf (l.getD 0 0).toNat = 3 := by unfold manyOf; rw [if_neg c0, if_neg c1, if_neg c2, if_pos c3]
    have hh : headOf (l.getD 0 0).toNat = (l.getD 0 0).toNat % 16 := by unfold headOf; rw [if_neg c0, if_neg c1, if_neg c2, if_pos c3]
    rw [hm] at h1 ⊢
    rw [hh]
    simp only [accV]
    rw [take3 l h1]
    generalize hb0 : l.getD 0 0 = x0 at *
    generalize hb1 : l.getD 1 0 = x1 at *
    generalize hb2 : l.getD 2 0 = x2 at *
    have hn : (x0.toNat % 16 * 64 + x1.toNat % 64) * 64 + x2.toNat % 64 = x0.toNat % 16 * 4096 + x1.toNat % 64 * 64 + x2.toNat % 64 := by omega
    rw [show ∀ a b : Nat, (a * 64 + b) = (a * 64 + b) from fun _ _ => rfl, hn]
    generalize hN : x0.toNat % 16 * 4096 + x1.toNat % 64 * 64 + x2.toNat % 64 = N at *
    have hd : decodeN l.length x0.toNat x1.toNat x2.toNat (l.getD 3 0).toNat = if x1.toNat / 64 = 2 ∧ x2.toNat / 64 = 2 ∧ 2048 ≤ N ∧ (N < 55296 ∨ (57344 ≤ N ∧ N ≤ 1114111)) then (N, 3) else (65533, 1) := by
      unfold decodeN; rw [if_neg c0, if_neg (by omega)]
      by_cases q : x1.toNat / 64 = 2 ∧ x2.toNat / 64 = 2
      · rw [if_pos ⟨by omega, ⟨by omega, q.1⟩, by omega, q.2⟩, hN]; simp only [q.1, q.2, true_and, ge_iff_le]
      · rw [if_neg (by omega), if_neg (by omega), if_neg (by omega)]
    rw [hd]
    by_cases q : x1.toNat / 64 = 2 ∧ x2.toNat / 64 = 2 ∧ 2048 ≤ N ∧ (N < 55296 ∨ (57344 ≤ N ∧ N ≤ 1114111))
    · rw [if_pos q, putS_3 (by omega) q.2.2.1 (by omega)]
      refine ⟨⟨fun _ => ?_, fun _ => by simp⟩, fun _ => rfl⟩
      simp only [List.cons.injEq, and_true]
      rw [u8_inj (by omega), u8_inj (by omega), u8_inj (by omega)]; omega
    · rw [if_neg q]
      refine ⟨⟨fun h => absurd ⟨rfl, rfl⟩ h, fun h => ?_⟩, fun h => absurd ⟨rfl, rfl⟩ h⟩
      exfalso
      by_cases q1 : N < 128
      · rw [putS_1 q1] at h; simp at h
      by_cases q2 : N < 2048
      · rw [putS_2 q2 (by omega)] at h; simp at h
      by_cases q3 : 55296 ≤ N ∧ N ≤ 57343
      · rw [putS_no (by unfold isSg; omega)] at h; simp at h
      · rw [putS_3 (by omega) (by omega) (by omega)] at h
        simp only [List.cons.injEq, and_true] at h
        rw [u8_inj (by omega), u8_inj (by omega), u8_inj (by omega)] at h
        omega
  by_cases c4 : (l.getD 0 0).toNat < 248
  · have hm : manyOf (l.getD 0 0).toNat = 4 := by unfold manyOf; rw [if_neg c0, if_neg c1, if_neg c2, if_neg c3, if_pos c4]
    have hh : headOf (l.getD 0 0).toNat = (l.getD 0 0).toNat % 8 := by unfold headOf; rw [if_neg c0, if_neg c1, if_neg c2, if_neg c3, if_pos c4]
    rw [hm] at h1 ⊢
    rw [hh]
    simp only [accV]
    rw [take4 l h1]
    generalize hb0 : l.getD 0 0 = x0 at *
    generalize hb1 : l.getD 1 0 = x1 at *
    generalize hb2 : l.getD 2 0 = x2 at *
    generalize hb3 : l.getD 3 0 = x3 at *
    have hn : ((x0.toNat % 8 * 64 + x1.toNat % 64) * 64 + x2.toNat % 64) * 64 + x3.toNat % 64 = x0.toNat % 8 * 262144 + x1.toNat % 64 * 4096 + x2.toNat % 64 * 64 + x3.toNat % 64 := by omega
    rw [show ∀ a b : Nat, (a * 64 + b) = (a * 64 + b) from fun _ _ => rfl, hn]
    generalize hN : x0.toNat % 8 * 262144 + x1.toNat % 64 * 4096 + x2.toNat % 64 * 64 + x3.toNat % 64 = N at *
    have hd : decodeN l.length x0.toNat x1.toNat x2.toNat x3.toNat = if x1.toNat / 64 = 2 ∧ x2.toNat / 64 = 2 ∧ x3.toNat / 64 = 2 ∧ 65536 ≤ N ∧ N ≤ 1114111 then (N, 4) else (65533, 1) := by
      unfold decodeN; rw [if_neg c0, if_neg (by omega), if_neg (by omega)]
      by_cases q : x1.toNat / 64 = 2 ∧ x2.toNat / 64 = 2 ∧ x3.toNat / 64 = 2
      · rw [if_pos ⟨by omega, ⟨by omega, q.1⟩, ⟨by omega, q.2.1⟩, by omega, q.2.2⟩, hN]
        by_cases q5 : 65536 ≤ N ∧ N ≤ 1114111
        · rw [if_pos (by omega), if_pos ⟨q.1, q.2.1, q.2.2, q5⟩]
        · rw [if_neg (by omega), if_neg (fun h => q5 h.2.2.2)]
      · rw [if_neg (by omega), if_neg (by omega)]
    rw [hd]
    by_cases q : x1.toNat / 64 = 2 ∧ x2.toNat / 64 = 2 ∧ x3.toNat / 64 = 2 ∧ 65536 ≤ N ∧ N ≤ 1114111
    · rw [if_pos q, putS_4 (by omega) q.2.2.2.1]
      refine ⟨⟨fun _ => ?_, fun _ => by simp⟩, fun _ => rfl⟩
      simp only [List.cons.injEq, and_true]
      rw [u8_inj (by omega), u8_inj (by omega), u8_inj (by omega), u8_inj (by omega)]; omega
    · rw [if_neg q]
      refine ⟨⟨fun h => absurd ⟨rfl, rfl⟩ h, fun h => ?_⟩, fun h => absurd ⟨rfl, rfl⟩ h⟩
      exfalso
      by_cases q1 : N < 128
      · rw [putS_1 q1] at h; simp at h
      by_cases q2 : N < 2048
      · rw [putS_2 q2 (by omega)] at h; simp at h
      by_cases q3 : 55296 ≤ N ∧ N ≤ 57343
      · rw [putS_no (by unfold isSg; omega)] at h; simp at h
      by_cases q4 : N < 65536
      · rw [putS_3 (by omega) (by omega) (by omega)] at h; simp at h
      by_cases q5 : N ≤ 1114111
      · rw [putS_4 q5 (by omega)] at h
        simp only [List.cons.injEq, and_true] at h
        rw [u8_inj (by omega), u8_inj (by omega), u8_inj (by omega), u8_inj (by omega)] at h
        omega
      · rw [putS_no (by unfold isSg; omega)] at h; simp at h
  · exfalso; apply h0; unfold manyOf; rw [if_neg c0, if_neg c1, if_neg c2, if_neg c3, if_neg c4]
end Go.Proofs.YtiemlefmhleaeaaDoor
