/- Lemmas for the statement of the last text of this claim: texts joined. -/
import Derived.Test.YtppmoajoffeleaaDoorMg01
import Derived.Lib.MapLaws
import Derived.Lib.ValidLaws
import Derived.WalkSpells
import Derived.Lib.Hide
import Derived.Deep.RegionHeld3
import Derived.Deep.QuietTactic
import Derived.BigQuiet
import Derived.OwnWalk
import Derived.IntWalk
import Derived.Test.YtppmoajoffeleaaDoorShelf
import Derived.Shelf.Unicode.ValidAny
import Derived.Deep.RegionLaw
import Derived.Lib.SliceRun
import Derived.Deep.RegionWith
namespace Go.Proofs.YtppmoajoffeleaaDoor
set_option linter.unusedSimpArgs false
set_option linter.unusedVariables false
set_option maxRecDepth 100000
open Go.Lib
def isSg (n : Int) : Prop := 0 ≤ n ∧ n ≤ 1114111 ∧ ¬ (55296 ≤ n ∧ n ≤ 57343)
instance (n : Int) : Decidable (isSg n) := by unfold isSg; exact inferInstance
def putS (n : Int) : List UInt8 := if isSg n then encodeRune n else []
def manyOf (b : Nat) : Nat := if b < 128 then 1 else if b < 192 then 0 else if b < 224 then 2 else if b < 240 then 3 else if b < 248 then 4 else 0
def headOf (b : Nat) : Nat := if b < 128 then b else if b < 192 then 0 else if b < 224 then b % 32 else if b < 240 then b % 16 else if b < 248 then b % 8 else 0
def accV (n0 : Nat) (l : List UInt8) : Nat → Nat
  | 0 => n0
  | k + 1 => accV n0 l k * 64 + (l.getD (k + 1) 0).toNat % 64
theorem accV_lt (n0 : Nat) (l : List UInt8) (h : n0 < 128) : ∀ k, k ≤ 4 → accV n0 l k < 128 * 64 ^ k
  | 0, _ => by simpa [accV] using h
  | k + 1, hk => by
    have := accV_lt n0 l h k (by omega)
    have h2 := Nat.mod_lt (l.getD (k + 1) 0).toNat (show 64 > 0 by decide)
    simp only [accV, Nat.pow_succ]; omega
theorem headOf_lt (b : Nat) : headOf b < 128 := by unfold headOf; repeat' split
                                                   all_goals omega
theorem manyOf_le (b : Nat) : manyOf b ≤ 4 := by unfold manyOf; repeat' split
                                                 all_goals omega
theorem putS_1 {n : Nat} (h : n < 128) : putS n = [n.toUInt8] := by
  unfold putS
  rw [if_pos (by unfold isSg; omega)]
  unfold encodeRune
  rw [encodeRuneZ_one (by omega) (by omega)]
  simp
theorem u8_inj {a : Nat} (h : a < 256) {x : UInt8} : a.toUInt8 = x ↔ a = x.toNat := by
  constructor
  · intro e; subst e; simp; omega
  · intro e; subst e; simp
theorem putS_2 {n : Nat} (h : n < 2048) (h0 : 128 ≤ n) : putS n = [(192 + n / 64).toUInt8, (128 + n % 64).toUInt8] := by
  unfold putS
  rw [if_pos (by unfold isSg; omega)]
  unfold encodeRune
  rw [encodeRuneZ_two (by omega) (by omega)]
  simp only [List.map_cons, List.map_nil]
  rw [show ((192 + (n : Int) / 64).toNat) = 192 + n / 64 by omega, show ((128 + (n : Int) % 64).toNat) = 128 + n % 64 by omega]
theorem putS_3 {n : Nat} (h : n < 65536) (h0 : 2048 ≤ n) (hs : ¬ (55296 ≤ n ∧ n ≤ 57343)) : putS n = [(224 + n / 4096).toUInt8, (128 + n / 64 % 64).toUInt8, (128 + n % 64).toUInt8] := by
  unfold putS
  rw [if_pos (by unfold isSg; omega)]
  unfold encodeRune
  rw [encodeRuneZ_three (by omega)]
  simp only [List.map_cons, List.map_nil]
  rw [show ((224 + (n : Int) / 4096).toNat) = 224 + n / 4096 by omega, show ((128 + (n : Int) / 64 % 64).toNat) = 128 + n / 64 % 64 by omega, show ((128 + (n : Int) % 64).toNat) = 128 + n % 64 by omega]
theorem putS_4 {n : Nat} (h : n ≤ 1114111) (h0 : 65536 ≤ n) : putS n = [(240 + n / 262144).toUInt8, (128 + n / 4096 % 64).toUInt8, (128 + n / 64 % 64).toUInt8, (128 + n % 64).toUInt8] := by
  unfold putS
  rw [if_pos (by unfold isSg; omega)]
  unfold encodeRune
  rw [encodeRuneZ_four (by omega) (by omega)]
  simp only [List.map_cons, List.map_nil]
  rw [show ((240 + (n : Int) / 262144).toNat) = 240 + n / 262144 by omega, show ((128 + (n : Int) / 4096 % 64).toNat) = 128 + n / 4096 % 64 by omega, show ((128 + (n : Int) / 64 % 64).toNat) = 128 + n / 64 % 64 by omega, show ((128 + (n : Int) % 64).toNat) = 128 + n % 64 by omega]
theorem putS_no {n : Int} (h : ¬ isSg n) : putS n = [] := by unfold putS; rw [if_neg h]
theorem take1 (l : List UInt8) (h : 1 ≤ l.length) : l.take 1 = [l.getD 0 0] := by
  match l, h with
  | a :: l, _ => simp
theorem take2 (l : List UInt8) (h : 2 ≤ l.length) : l.take 2 = [l.getD 0 0, l.getD 1 0] := by
  match l, h with
  | a :: b :: l, _ => simp
theorem take3 (l : List UInt8) (h : 3 ≤ l.length) : l.take 3 = [l.getD 0 0, l.getD 1 0, l.getD 2 0] := by
  match l, h with
  | a :: b :: c :: l, _ => simp
theorem take4 (l : List UInt8) (h : 4 ≤ l.length) : l.take 4 = [l.getD 0 0, l.getD 1 0, l.getD 2 0, l.getD 3 0] := by
  match l, h with
  | a :: b :: c :: d :: l, _ => simp
def badD (l : List UInt8) : Prop := (decodeL l).1 = 65533 ∧ (decodeL l).2 = 1
instance (l : List UInt8) : Decidable (badD l) := by unfold badD; exact inferInstance
set_option maxRecDepth 100000 in
set_option maxHeartbeats 4000000 in
theorem get_none (l : List UInt8) (hne : 1 ≤ l.length) (h : manyOf (l.getD 0 0).toNat = 0 ∨ l.length < manyOf (l.getD 0 0).toNat) : badD l := by
  unfold badD
  rw [decodeL_N]
  have k0 := (l.getD 0 0).toNat_lt
  generalize (l.getD 0 0).toNat = b0 at *
  unfold manyOf at h
  unfold decodeN
  repeat' split
  all_goals first | exact ⟨rfl, rfl⟩ | (exfalso; split at h <;> (try split at h) <;> (try split at h) <;> (try split at h) <;> (try split at h) <;> omega)
set_option maxRecDepth 100000 in
set_option maxHeartbeats 4000000 in
theorem get_some (l : List UInt8) (h0 : manyOf (l.getD 0 0).toNat ≠ 0) (h1 : manyOf (l.getD 0 0).toNat ≤ l.length) :
    (¬ badD l ↔ putS (accV (headOf (l.getD 0 0).toNat) l (manyOf (l.getD 0 0).toNat - 1) : Nat) = l.take (manyOf (l.getD 0 0).toNat)) ∧
    (¬ badD l → decodeL l = (accV (headOf (l.getD 0 0).toNat) l (manyOf (l.getD 0 0).toNat - 1), manyOf (l.getD 0 0).toNat)) := by
  unfold badD
  rw [decodeL_N]
  have k0 := (l.getD 0 0).toNat_lt
  have k1 := (l.getD 1 0).toNat_lt
  have k2 := (l.getD 2 0).toNat_lt
  have k3 := (l.getD 3 0).toNat_lt
  by_cases c0 : (l.getD 0 0).toNat < 128
  · have hm : manyOf (l.getD 0 0).toNat = 1 := by unfold manyOf; rw [if_pos c0]
    have hh : headOf (l.getD 0 0).toNat = (l.getD 0 0).toNat := by unfold headOf; rw [if_pos c0]
    rw [hm] at h1 ⊢
    rw [hh]
    simp only [accV, Nat.sub_self]
    rw [putS_1 c0, take1 l h1]
    have hd : decodeN l.length (l.getD 0 0).toNat (l.getD 1 0).toNat (l.getD 2 0).toNat (l.getD 3 0).toNat = ((l.getD 0 0).toNat, 1) := by unfold decodeN; rw [if_pos c0]
    rw [hd]
    refine ⟨⟨fun _ => by simp, fun _ h => ?_⟩, fun _ => rfl⟩
    have h1 : (l.getD 0 0).toNat = 65533 := h.1
    omega
  by_cases c1 : (l.getD 0 0).toNat < 192
  · exfalso; apply h0; unfold manyOf; rw [if_neg c0, if_pos c1]
  by_cases c2 : (l.getD 0 0).toNat < 224
  · have hm : manyOf (l.getD 0 0).toNat = 2 := by unfold manyOf; rw [if_neg c0, if_neg c1, if_pos c2]
    have hh : headOf (l.getD 0 0).toNat = (l.getD 0 0).toNat % 32 := by unfold headOf; rw [if_neg c0, if_neg c1, if_pos c2]
    rw [hm] at h1 ⊢
    rw [hh]
    simp only [accV]
    rw [take2 l h1]
    have hd : decodeN l.length (l.getD 0 0).toNat (l.getD 1 0).toNat (l.getD 2 0).toNat (l.getD 3 0).toNat = if (l.getD 1 0).toNat / 64 = 2 ∧ 128 ≤ (l.getD 0 0).toNat % 32 * 64 + (l.getD 1 0).toNat % 64 then ((l.getD 0 0).toNat % 32 * 64 + (l.getD 1 0).toNat % 64, 2) else (65533, 1) := by
      unfold decodeN; rw [if_neg c0]
      by_cases q : (l.getD 1 0).toNat / 64 = 2
      · rw [if_pos ⟨by omega, by omega, q⟩]; simp only [q, true_and, ge_iff_le]
      · rw [if_neg (by omega), if_neg (by omega), if_neg (by omega), if_neg (by omega)]
    rw [hd]
    generalize hb0 : l.getD 0 0 = x0 at *
    generalize hb1 : l.getD 1 0 = x1 at *
    by_cases q : x1.toNat / 64 = 2 ∧ 128 ≤ x0.toNat % 32 * 64 + x1.toNat % 64
    · rw [if_pos q, putS_2 (by omega) q.2]
      refine ⟨⟨fun _ => ?_, fun _ => by simp⟩, fun _ => rfl⟩
      simp only [List.cons.injEq, and_true]
      rw [u8_inj (by omega), u8_inj (by omega)]; omega
    · rw [if_neg q]
      refine ⟨⟨fun h => absurd ⟨rfl, rfl⟩ h, fun h => ?_⟩, fun h => absurd ⟨rfl, rfl⟩ h⟩
      exfalso
      by_cases q2 : 128 ≤ x0.toNat % 32 * 64 + x1.toNat % 64
      · rw [putS_2 (by omega) q2] at h
        simp only [List.cons.injEq, and_true] at h
        rw [u8_inj (by omega), u8_inj (by omega)] at h
        omega
      · rw [putS_1 (by omega)] at h; simp at h
  by_cases c3 : (l.getD 0 0).toNat < 240
  · have hm : manyOf (l.getD 0 0).toNat = 3 := by unfold manyOf; rw [if_neg c0, if_neg c1, if_neg c2, if_pos c3]
    have hh : headOf (l.getD 0 0).toNat = (l.getD 0 0).toNat % 16 := by unfold headOf; rw [if_neg c0, if_neg c1, if_neg c2, if_pos c3]
    rw [hm] at h1 ⊢
    rw [hh]
    simp only [accV]
    rw [take3 l h1]
    generalize hb0 : l.getD 0 0 = x0 at *
    generalize hb1 : l.getD 1 0 = x1 at *
    generalize hb2 : l.getD 2 0 = x2 at *
    have hn : (x0.toNat % 16 * 64 + x1.toNat % 64) * 64 + x2.toNat % 64 = x0.toNat % 16 * 4096 + x1.toNat % 64 * 64 + x2.toNat % 64 := by omega
    rw [show ∀ a b : Nat, (a * 64 + b) = (a * 64 + b) from fun _ _ => rfl, hn]
    generalize hN : x0.toNat % 16 * 4096 + x1.toNat % 64 * 64 + x2.toNat % 64 = N at *
    have hd : decodeN l.length x0.toNat x1.toNat x2.toNat (l.getD 3 0).toNat = if x1.toNat / 64 = 2 ∧ x2.toNat / 64 = 2 ∧ 2048 ≤ N ∧ (N < 55296 ∨ (57344 ≤ N ∧ N ≤ 1114111)) then (N, 3) else (65533, 1) := by
      unfold decodeN; rw [if_neg c0, if_neg (by omega)]
      by_cases q : x1.toNat / 64 = 2 ∧ x2.toNat / 64 = 2
      · rw [if_pos ⟨by omega, ⟨by omega, q.1⟩, by omega, q.2⟩, hN]; simp only [q.1, q.2, true_and, ge_iff_le]
      · rw [if_neg (by omega), if_neg (by omega), if_neg (by omega)]
    rw [hd]
    by_cases q : x1.toNat / 64 = 2 ∧ x2.toNat / 64 = 2 ∧ 2048 ≤ N ∧ (N < 55296 ∨ (57344 ≤ N ∧ N ≤ 1114111))
    · rw [if_pos q, putS_3 (by omega) q.2.2.1 (by omega)]
      refine ⟨⟨fun _ => ?_, fun _ => by simp⟩, fun _ => rfl⟩
      simp only [List.cons.injEq, and_true]
      rw [u8_inj (by omega), u8_inj (by omega), u8_inj (by omega)]; omega
    · rw [if_neg q]
      refine ⟨⟨fun h => absurd ⟨rfl, rfl⟩ h, fun h => ?_⟩, fun h => absurd ⟨rfl, rfl⟩ h⟩
      exfalso
      by_cases q1 : N < 128
      · rw [putS_1 q1] at h; simp at h
      by_cases q2 : N < 2048
      · rw [putS_2 q2 (by omega)] at h; simp at h
      by_cases q3 : 55296 ≤ N ∧ N ≤ 57343
      · rw [putS_no (by unfold isSg; omega)] at h; simp at h
      · rw [putS_3 (by omega) (by omega) (by omega)] at h
        simp only [List.cons.injEq, and_true] at h
        rw [u8_inj (by omega), u8_inj (by omega), u8_inj (by omega)] at h
        omega
  by_cases c4 : (l.getD 0 0).toNat < 248
  · have hm : manyOf (l.getD 0 0).toNat = 4 := by unfold manyOf; rw [if_neg c0, if_neg c1, if_neg c2, if_neg c3, if_pos c4]
    have hh : headOf (l.getD 0 0).toNat = (l.getD 0 0).toNat % 8 := by unfold headOf; rw [if_neg c0, if_neg c1, if_neg c2, if_neg c3, if_pos c4]
    rw [hm] at h1 ⊢
    rw [hh]
    simp only [accV]
    rw [take4 l h1]
    generalize hb0 : l.getD 0 0 = x0 at *
    generalize hb1 : l.getD 1 0 = x1 at *
    generalize hb2 : l.getD 2 0 = x2 at *
    generalize hb3 : l.getD 3 0 = x3 at *
    have hn : ((x0.toNat % 8 * 64 + x1.toNat % 64) * 64 + x2.toNat % 64) * 64 + x3.toNat % 64 = x0.toNat % 8 * 262144 + x1.toNat % 64 * 4096 + x2.toNat % 64 * 64 + x3.toNat % 64 := by omega
    rw [show ∀ a b : Nat, (a * 64 + b) = (a * 64 + b) from fun _ _ => rfl, hn]
    generalize hN : x0.toNat % 8 * 262144 + x1.toNat % 64 * 4096 + x2.toNat % 64 * 64 + x3.toNat % 64 = N at *
    have hd : decodeN l.length x0.toNat x1.toNat x2.toNat x3.toNat = if x1.toNat / 64 = 2 ∧ x2.toNat / 64 = 2 ∧ x3.toNat / 64 = 2 ∧ 65536 ≤ N ∧ N ≤ 1114111 then (N, 4) else (65533, 1) := by
      unfold decodeN; rw [if_neg c0, if_neg (by omega), if_neg (by omega)]
      by_cases q : x1.toNat / 64 = 2 ∧ x2.toNat / 64 = 2 ∧ x3.toNat / 64 = 2
      · rw [if_pos ⟨by omega, ⟨by omega, q.1⟩, ⟨by omega, q.2.1⟩, by omega, q.2.2⟩, hN]
        by_cases q5 : 65536 ≤ N ∧ N ≤ 1114111
        · rw [if_pos (by omega), if_pos ⟨q.1, q.2.1, q.2.2, q5⟩]
        · rw [if_neg (by omega), if_neg (fun h => q5 h.2.2.2)]
      · rw [if_neg (by omega), if_neg (by omega)]
    rw [hd]
    by_cases q : x1.toNat / 64 = 2 ∧ x2.toNat / 64 = 2 ∧ x3.toNat / 64 = 2 ∧ 65536 ≤ N ∧ N ≤ 1114111
    · rw [if_pos q, putS_4 (by omega) q.2.2.2.1]
      refine ⟨⟨fun _ => ?_, fun _ => by simp⟩, fun _ => rfl⟩
      simp only [List.cons.injEq, and_true]
      rw [u8_inj (by omega), u8_inj (by omega), u8_inj (by omega), u8_inj (by omega)]; omega
    · rw [if_neg q]
      refine ⟨⟨fun h => absurd ⟨rfl, rfl⟩ h, fun h => ?_⟩, fun h => absurd ⟨rfl, rfl⟩ h⟩
      exfalso
      by_cases q1 : N < 128
      · rw [putS_1 q1] at h; simp at h
      by_cases q2 : N < 2048
      · rw [putS_2 q2 (by omega)] at h; simp at h
      by_cases q3 : 55296 ≤ N ∧ N ≤ 57343
      · rw [putS_no (by unfold isSg; omega)] at h; simp at h
      by_cases q4 : N < 65536
      · rw [putS_3 (by omega) (by omega) (by omega)] at h; simp at h
      by_cases q5 : N ≤ 1114111
      · rw [putS_4 q5 (by omega)] at h
        simp only [List.cons.injEq, and_true] at h
        rw [u8_inj (by omega), u8_inj (by omega), u8_inj (by omega), u8_inj (by omega)] at h
        omega
      · rw [putS_no (by unfold isSg; omega)] at h; simp at h
  · exfalso; apply h0; unfold manyOf; rw [if_neg c0, if_neg c1, if_neg c2, if_neg c3, if_neg c4]
end Go.Proofs.YtppmoajoffeleaaDoor
namespace Go.Proofs.YtppmoajoffeleaaDoor
set_option linter.unusedSimpArgs false
set_option linter.unusedVariables false
set_option maxRecDepth 100000
open Go.RowKit
theorem info_int : (Tryd.prog.info? 3).map (fun i => (i.zero, i.size, i.bytes)) = some (some (.int .i64 0), 1, 8) := by kernel_rfl
def IRow (w : World) (base : Nat) (v : Value) (l : List Int) : Prop := w.ownsRow base 3 1 v l.length (l.map (.int .i64))
theorem IRow.lt {w : World} {base : Nat} {v : Value} {l : List Int} (h : IRow w base v l) : ∀ k, v.ownBlock = some k → base ≤ k ∧ k < w.heap.size := World.ownsRow.lt h
theorem IRow.keep {w w' : World} {base : Nat} {v : Value} {l : List Int} (h : IRow w base v l) (hk : ∀ x, v.ownBlock = some x → w'.heap[x]? = w.heap[x]?) : IRow w' base v l := by
  obtain ⟨h1, h2⟩ := h
  refine ⟨h1, ?_⟩
  rcases h2 with h2 | ⟨g, cap, cur, rfl, hbg, hg, r⟩
  · exact .inl h2
  · exact .inr ⟨g, cap, cur, rfl, hbg, by rw [hk g rfl]; exact hg, r⟩
theorem IRow.made0 {w : World} {base : Nat} (hb : base ≤ w.heap.size) : IRow (w.alloc (.cells #[] 3)) base (.slice (some ⟨w.heap.size, 0, none⟩) 0 0) [] :=
  World.ownsRow_lit (w := w) #[] 0 hb (by simp [maxLen]) rfl
theorem IRow.form {w : World} {base : Nat} {v : Value} {l : List Int} (h : IRow w base v l) : ∃ a cap, v = .slice a l.length cap ∧ l.length ≤ cap ∧ cap ≤ 9223372036854775807 ∧ (l ≠ [] → ∃ g, a = some ⟨g, 0, none⟩ ∧ base ≤ g) := by
  rcases h.2 with ⟨rfl, hn⟩ | ⟨g, cap, cur, hv, hb, hg, hnc, hcm, _⟩
  · exact ⟨none, 0, by rw [hn], by omega, by omega, fun e => absurd (List.eq_nil_of_length_eq_zero hn) e⟩
  · exact ⟨_, _, hv, hnc, by simpa [maxLen] using hcm, fun _ => ⟨g, rfl, hb⟩⟩
theorem IRow.cells {w : World} {base g n cap i : Nat} {l : List Int} (h : IRow w base (.slice (some ⟨g, 0, none⟩) n cap) l) (hi : i < l.length) :
    w.cell? ⟨g, i, none⟩ = some (.int .i64 l[i]) ∧ w.frozen? ⟨g, i, none⟩ = false := by
  have hn : n = l.length := by
    rcases h.2 with ⟨h', _⟩ | ⟨g', cap', cur, h', _⟩ <;> simp at h'; exact h'.2.1
  subst hn
  refine ⟨?_, World.ownsRow.frozenAt h i⟩
  have := World.ownsRow.cells h (g := g) rfl i (.int .i64 l[i]) (by simp [List.getElem?_eq_getElem hi])
  rwa [addr_add _ _ rfl, Nat.zero_add] at this
section
variable {w : World} {ops : Array Oper} {rest : List Oper} {o : Oper} {a : Act} {Q : Exit → Act → World → Prop}
theorem app_ints (hgd : o.guard = none) (s x : Operand) (tx : TypeId)
    (ho : o.op = .call { callee := .builtin .append, args := #[s, x], argTypes := #[104, tx] })
    (base : Nat) (v : Value) (l : List Int) (hs : a.eval s = v) (hown : IRow w base v l) (xv : Value) (hx : a.eval x = xv) (news : List Int) (hsrc : Src Tryd.prog 1 tx xv news.length (news.map (.int .i64)) w)
    (h63 : l.length + news.length ≤ 1099511627776) (hbase : base ≤ w.heap.size)
    (h : ∀ v' w', IRow w' base v' (l ++ news) → w.grownBy w' v.ownBlock → FreshOr w v v' → wpList Tryd.prog ops Q rest (a.put o.dst v') w') : wpList Tryd.prog ops Q (o :: rest) a w := by
  obtain ⟨i0, hi, hz0, hz1, hz2⟩ := info_parts info_int
  exact wpList_app hgd s x 104 tx ho base 3 i0 (.int .i64 0) 1 8 Tryd.underlying104 hi hz0 hz1 hz2 rfl (by decide) v l.length (l.map (.int .i64)) hs hown xv hx news.length (news.map (.int .i64)) hsrc h63 hbase
    (fun v' w' h1 h2 h3 _ => h v' w' (by unfold IRow; rw [List.length_append, List.map_append]; exact h1) h2 h3)
end
theorem src_int1 (w : World) (x : Int) : Src Tryd.prog 1 104 (.slice (some ⟨w.heap.size, 0, none⟩) 1 1) [x].length ([x].map (.int .i64)) (w.alloc (.cells #[.int .i64 x] 3)) :=
  Src.ofSlice _ Tryd.underlying104 _ _ _ _ rfl (by intro j u hu; match j, hu with | 0, hu => (simp at hu; subst hu; exact cell_new_one _ _ _)) (by intro u hu; simp at hu; subst hu; rfl)
end Go.Proofs.YtppmoajoffeleaaDoor
namespace Go.Proofs.YtppmoajoffeleaaDoor
set_option linter.unusedSimpArgs false
set_option linter.unusedVariables false
set_option maxRecDepth 100000
open Go.RowKit
theorem and_i64 (x : Int) (k : Nat) (m : Int) (hm : m = ((2 ^ k - 1 : Nat) : Int)) (hk : k ≤ 8) (h0 : 0 ≤ x) (h1 : x < 9223372036854775808) : bits BinOp.and IntKind.i64 x m = x % (2 ^ k : Nat) := by
  obtain ⟨n, rfl⟩ := Int.eq_ofNat_of_zero_le h0
  subst hm
  have h2 : n < 2 ^ 64 := by omega
  have hk2 : 2 ^ k ≤ 2 ^ 8 := Nat.pow_le_pow_right (by decide) hk
  have h3 : 2 ^ k - 1 < 2 ^ 64 := by omega
  have hpos : 0 < 2 ^ k := Nat.pos_of_ne_zero (by simp)
  have key : (BitVec.ofInt 64 ((n : Nat) : Int) &&& BitVec.ofInt 64 (((2 ^ k - 1 : Nat)) : Int)).toNat = n % 2 ^ k := by
    rw [BitVec.toNat_and, BitVec.ofInt_natCast, BitVec.ofInt_natCast, BitVec.toNat_ofNat, BitVec.toNat_ofNat, Nat.mod_eq_of_lt h2, Nat.mod_eq_of_lt h3, Nat.and_two_pow_sub_one_eq_mod]
  have hlt : n % 2 ^ k < 2 ^ 8 := Nat.lt_of_lt_of_le (Nat.mod_lt _ hpos) hk2
  show IntKind.i64.wrap (((BitVec.ofInt 64 ((n : Nat) : Int) &&& BitVec.ofInt 64 (((2 ^ k - 1 : Nat)) : Int)).toNat : Nat) : Int) = ((n % 2 ^ k : Nat) : Int)
  rw [key]
  generalize n % 2 ^ k = q at *
  simp only [IntKind.wrap, IntKind.signed, IntKind.bits]
  simp
  omega
theorem u8w (x : Int) (h0 : 0 ≤ x) (h1 : x < 256) : IntKind.u8.wrap x = x := by
  simp only [IntKind.wrap, IntKind.signed, IntKind.bits]; simp; omega
theorem run_strL (W : World) (b n : Nat) (xs : List Int) (hn : xs.length = n) (h : ∀ j x, xs[j]? = some x → W.cell? ⟨b, j, none⟩ = some (.int .u8 x)) :
    (convert 22 9 (.slice (some ⟨b, 0, none⟩) n n)).run Tryd.prog W = .ok (bstr (xs.map fun x => UInt8.ofNat x.toNat)) W := by
  rw [run_convert_bytes_string W 22 9 5 _ _ _ Tryd.underlying22 Tryd.underlying5 Tryd.underlying9]
  subst hn
  rw [run_bytesToString W _ _ _ xs (by
    have h1 := run_loadCells_list (P := Tryd.prog) (w := W) ⟨b, 0, none⟩ (xs.map (Value.int .u8)) (by
      intro j v hv
      rw [List.getElem?_map] at hv
      obtain ⟨x, hx, rfl⟩ := Option.map_eq_some_iff.1 hv
      rw [addr_add _ _ rfl, Nat.zero_add]
      exact h j x hx)
    rw [List.length_map] at h1
    exact h1)]
  have : ∀ (xs : List Int) (s : ByteArray), xs.foldl (fun r n => r.push (UInt8.ofNat n.toNat)) s = ⟨s.data ++ (xs.map fun x => UInt8.ofNat x.toNat).toArray⟩ := by
    intro xs
    induction xs with
    | nil => intro s; simp
    | cons c l ih => intro s; simp only [List.foldl_cons, List.map_cons]; rw [ih]; simp [ByteArray.push]
  rw [this]
  simp [bstr]
theorem run_new1 (W : World) (x0 : Int) : (convert 22 9 (.slice (some ⟨W.heap.size, 0, none⟩) 1 1)).run Tryd.prog (W.alloc (.cells #[.int .u8 x0] 5)) = .ok (bstr [UInt8.ofNat x0.toNat]) (W.alloc (.cells #[.int .u8 x0] 5)) := by
  have hh := heap_alloc_new W (.cells #[.int .u8 x0] 5)
  refine run_strL _ W.heap.size 1 [x0] rfl (fun j x hx => ?_)
  match j, hx with
    | 0, hx => simp at hx; subst hx; rw [cell_of_row _ _ _ _ _ (0, 0) hh]; rfl
    | j + 1, hx => simp at hx
theorem run_new2 (W : World) (x0 x1 : Int) : (convert 22 9 (.slice (some ⟨W.heap.size, 0, none⟩) 2 2)).run Tryd.prog (W.alloc (.cells #[.int .u8 x0, .int .u8 x1] 5)) = .ok (bstr [UInt8.ofNat x0.toNat, UInt8.ofNat x1.toNat]) (W.alloc (.cells #[.int .u8 x0, .int .u8 x1] 5)) := by
  have hh := heap_alloc_new W (.cells #[.int .u8 x0, .int .u8 x1] 5)
  refine run_strL _ W.heap.size 2 [x0, x1] rfl (fun j x hx => ?_)
  match j, hx with
    | 0, hx => simp at hx; subst hx; rw [cell_of_row _ _ _ _ _ (0, 0) hh]; rfl
    | 1, hx => simp at hx; subst hx; rw [cell_of_row _ _ _ _ _ (0, 0) hh]; rfl
    | j + 2, hx => simp at hx
theorem run_new3 (W : World) (x0 x1 x2 : Int) : (convert 22 9 (.slice (some ⟨W.heap.size, 0, none⟩) 3 3)).run Tryd.prog (W.alloc (.cells #[.int .u8 x0, .int .u8 x1, .int .u8 x2] 5)) = .ok (bstr [UInt8.ofNat x0.toNat, UInt8.ofNat x1.toNat, UInt8.ofNat x2.toNat]) (W.alloc (.cells #[.int .u8 x0, .int .u8 x1, .int .u8 x2] 5)) := by
  have hh := heap_alloc_new W (.cells #[.int .u8 x0, .int .u8 x1, .int .u8 x2] 5)
  refine run_strL _ W.heap.size 3 [x0, x1, x2] rfl (fun j x hx => ?_)
  match j, hx with
    | 0, hx => simp at hx; subst hx; rw [cell_of_row _ _ _ _ _ (0, 0) hh]; rfl
    | 1, hx => simp at hx; subst hx; rw [cell_of_row _ _ _ _ _ (0, 0) hh]; rfl
    | 2, hx => simp at hx; subst hx; rw [cell_of_row _ _ _ _ _ (0, 0) hh]; rfl
    | j + 3, hx => simp at hx
theorem run_new4 (W : World) (x0 x1 x2 x3 : Int) : (convert 22 9 (.slice (some ⟨W.heap.size, 0, none⟩) 4 4)).run Tryd.prog (W.alloc (.cells #[.int .u8 x0, .int .u8 x1, .int .u8 x2, .int .u8 x3] 5)) = .ok (bstr [UInt8.ofNat x0.toNat, UInt8.ofNat x1.toNat, UInt8.ofNat x2.toNat, UInt8.ofNat x3.toNat]) (W.alloc (.cells #[.int .u8 x0, .int .u8 x1, .int .u8 x2, .int .u8 x3] 5)) := by
  have hh := heap_alloc_new W (.cells #[.int .u8 x0, .int .u8 x1, .int .u8 x2, .int .u8 x3] 5)
  refine run_strL _ W.heap.size 4 [x0, x1, x2, x3] rfl (fun j x hx => ?_)
  match j, hx with
    | 0, hx => simp at hx; subst hx; rw [cell_of_row _ _ _ _ _ (0, 0) hh]; rfl
    | 1, hx => simp at hx; subst hx; rw [cell_of_row _ _ _ _ _ (0, 0) hh]; rfl
    | 2, hx => simp at hx; subst hx; rw [cell_of_row _ _ _ _ _ (0, 0) hh]; rfl
    | 3, hx => simp at hx; subst hx; rw [cell_of_row _ _ _ _ _ (0, 0) hh]; rfl
    | j + 4, hx => simp at hx
def StrRet (l : List UInt8) (w : World) (e : Ending) (w' : World) : Prop := e = .returned (bstr l) ∧ Below w.heap.size w w'
set_option maxHeartbeats 400000 in
theorem putSign_no (n : Int) (w : World) (h : ¬ isSg n) : Calls Tryd.prog 134 #[.int .i64 n] w (StrRet [] w) := by
  by_cases h1 : n < 0 ∨ 1114111 < n
  · have HI1 := Lib.hid (fun W => l01In_no n 0 1114111 W h1)
    clear h h1
    go_enter Tryd.func134, Tryd.ntmps134
    go_wp2_with fail
    refine (HI1.out _).mono ?_
    rintro e w1 ⟨rfl, rfl⟩
    go_wp2_with fail
    go_ret
    exact ⟨rfl, (by (repeat' (first | with_reducible exact Below.refl _ _ | with_reducible refine below_alloc ?_ _ ?_ | with_reducible refine Below.setCell ?_ ?_ _ | with_reducible refine Below.drew ?_ | with_reducible refine below_drewN ?_ _ | with_reducible refine below_step ?_ (by assumption) ?_ | with_reducible refine below_mark ?_ (by assumption) ?_)); all_goals (first | omega | (simp; done) | (simp; omega)))⟩
  · have HI1 := Lib.hid (fun W => l01In_yes n 0 1114111 W (by omega) (by omega))
    have HI2 := Lib.hid (fun W => l01In_yes n 55296 57343 W (by unfold isSg at h; omega) (by unfold isSg at h; omega))
    clear h h1
    go_enter Tryd.func134, Tryd.ntmps134
    go_wp2_with fail
    refine (HI1.out _).mono ?_
    rintro e w1 ⟨rfl, rfl⟩
    go_wp2_with fail
    refine (HI2.out _).mono ?_
    rintro e w2 ⟨rfl, rfl⟩
    go_wp2_with fail
    go_ret
    exact ⟨rfl, (by (repeat' (first | with_reducible exact Below.refl _ _ | with_reducible refine below_alloc ?_ _ ?_ | with_reducible refine Below.setCell ?_ ?_ _ | with_reducible refine Below.drew ?_ | with_reducible refine below_drewN ?_ _ | with_reducible refine below_step ?_ (by assumption) ?_ | with_reducible refine below_mark ?_ (by assumption) ?_)); all_goals (first | omega | (simp; done) | (simp; omega)))⟩
theorem putZ_1 (n : Int) (h0 : 0 ≤ n) (h : n < 128) : putS n = [UInt8.ofNat n.toNat] := by
  obtain ⟨m, rfl⟩ := Int.eq_ofNat_of_zero_le h0
  rw [putS_1 (by omega)]; simp
theorem putZ_2 (n : Int) (h0 : 128 ≤ n) (h : n < 2048) : putS n = [UInt8.ofNat (192 + n / 64).toNat, UInt8.ofNat (128 + n % 64).toNat] := by
  obtain ⟨m, rfl⟩ := Int.eq_ofNat_of_zero_le (show 0 ≤ n by omega)
  rw [putS_2 (by omega) (by omega), show (192 + (m : Int) / 64).toNat = 192 + m / 64 by omega, show (128 + (m : Int) % 64).toNat = 128 + m % 64 by omega]
theorem putZ_3 (n : Int) (h0 : 2048 ≤ n) (h : n < 65536) (hs : ¬ (55296 ≤ n ∧ n ≤ 57343)) : putS n = [UInt8.ofNat (224 + n / 4096).toNat, UInt8.ofNat (128 + n / 64 % 64).toNat, UInt8.ofNat (128 + n % 64).toNat] := by
  obtain ⟨m, rfl⟩ := Int.eq_ofNat_of_zero_le (show 0 ≤ n by omega)
  rw [putS_3 (by omega) (by omega) (by omega), show (224 + (m : Int) / 4096).toNat = 224 + m / 4096 by omega, show (128 + (m : Int) / 64 % 64).toNat = 128 + m / 64 % 64 by omega, show (128 + (m : Int) % 64).toNat = 128 + m % 64 by omega]
theorem putZ_4 (n : Int) (h0 : 65536 ≤ n) (h : n ≤ 1114111) : putS n = [UInt8.ofNat (240 + n / 262144).toNat, UInt8.ofNat (128 + n / 4096 % 64).toNat, UInt8.ofNat (128 + n / 64 % 64).toNat, UInt8.ofNat (128 + n % 64).toNat] := by
  obtain ⟨m, rfl⟩ := Int.eq_ofNat_of_zero_le (show 0 ≤ n by omega)
  rw [putS_4 (by omega) (by omega), show (240 + (m : Int) / 262144).toNat = 240 + m / 262144 by omega, show (128 + (m : Int) / 4096 % 64).toNat = 128 + m / 4096 % 64 by omega, show (128 + (m : Int) / 64 % 64).toNat = 128 + m / 64 % 64 by omega, show (128 + (m : Int) % 64).toNat = 128 + m % 64 by omega]
set_option maxHeartbeats 1000000 in
theorem putSign_yes (n : Int) (w : World) (h : isSg n) : Calls Tryd.prog 134 #[.int .i64 n] w (StrRet (putS n) w) := by
  obtain ⟨h0, h1, h2⟩ := h
  have HI1 := Lib.hid (fun W => l01In_yes n 0 1114111 W h0 h1)
  have HI2 := Lib.hid (fun W => l01In_no n 55296 57343 W (by omega))
  have a1 : bits BinOp.and IntKind.i64 n 63 = n % 64 := and_i64 _ 6 63 (by decide) (by decide) (by omega) (by omega)
  have a2 : bits BinOp.and IntKind.i64 (n / 64) 63 = n / 64 % 64 := and_i64 _ 6 63 (by decide) (by decide) (by omega) (by omega)
  have a3 : bits BinOp.and IntKind.i64 (n / 4096) 63 = n / 4096 % 64 := and_i64 _ 6 63 (by decide) (by decide) (by omega) (by omega)
  by_cases c1 : n < 128
  · have H := Lib.hid (putZ_1 n h0 c1)
    have hc := run_new1
    have w1 := u8w n (by omega) (by omega)
    clear a1 a2 a3 h2
    rw [H.out]
    go_enter Tryd.func134, Tryd.ntmps134
    go_wp2_with fail
    refine (HI1.out _).mono ?_
    rintro e w1 ⟨rfl, rfl⟩
    go_wp2_with fail
    refine (HI2.out _).mono ?_
    rintro e w2 ⟨rfl, rfl⟩
    go_wp2_with fail
    go_ret
    exact ⟨rfl, (by (repeat' (first | with_reducible exact Below.refl _ _ | with_reducible refine below_alloc ?_ _ ?_ | with_reducible refine Below.setCell ?_ ?_ _ | with_reducible refine Below.drew ?_ | with_reducible refine below_drewN ?_ _ | with_reducible refine below_step ?_ (by assumption) ?_ | with_reducible refine below_mark ?_ (by assumption) ?_)); all_goals (first | omega | (simp; done) | (simp; omega)))⟩
  · by_cases c2 : n < 2048
    · have H := Lib.hid (putZ_2 n (by omega) c2)
      have hc := run_new2
      have w1 := u8w (192 + n / 64) (by omega) (by omega)
      have w2 := u8w (128 + n % 64) (by omega) (by omega)
      clear a2 a3 h2
      rw [H.out]
      go_enter Tryd.func134, Tryd.ntmps134
      go_wp2_with fail
      refine (HI1.out _).mono ?_
      rintro e w1 ⟨rfl, rfl⟩
      go_wp2_with fail
      refine (HI2.out _).mono ?_
      rintro e w2 ⟨rfl, rfl⟩
      go_wp2_with fail
      go_ret
      exact ⟨rfl, (by (repeat' (first | with_reducible exact Below.refl _ _ | with_reducible refine below_alloc ?_ _ ?_ | with_reducible refine Below.setCell ?_ ?_ _ | with_reducible refine Below.drew ?_ | with_reducible refine below_drewN ?_ _ | with_reducible refine below_step ?_ (by assumption) ?_ | with_reducible refine below_mark ?_ (by assumption) ?_)); all_goals (first | omega | (simp; done) | (simp; omega)))⟩
    · by_cases c3 : n < 65536
      · have H := Lib.hid (putZ_3 n (by omega) c3 h2)
        have hc := run_new3
        have w1 := u8w (224 + n / 4096) (by omega) (by omega)
        have w2 := u8w (128 + n / 64 % 64) (by omega) (by omega)
        have w3 := u8w (128 + n % 64) (by omega) (by omega)
        clear a3 h2
        rw [H.out]
        go_enter Tryd.func134, Tryd.ntmps134
        go_wp2_with fail
        refine (HI1.out _).mono ?_
        rintro e w1 ⟨rfl, rfl⟩
        go_wp2_with fail
        refine (HI2.out _).mono ?_
        rintro e w2 ⟨rfl, rfl⟩
        go_wp2_with fail
        go_ret
        exact ⟨rfl, (by (repeat' (first | with_reducible exact Below.refl _ _ | with_reducible refine below_alloc ?_ _ ?_ | with_reducible refine Below.setCell ?_ ?_ _ | with_reducible refine Below.drew ?_ | with_reducible refine below_drewN ?_ _ | with_reducible refine below_step ?_ (by assumption) ?_ | with_reducible refine below_mark ?_ (by assumption) ?_)); all_goals (first | omega | (simp; done) | (simp; omega)))⟩
      · have H := Lib.hid (putZ_4 n (by omega) h1)
        have hc := run_new4
        have w1 := u8w (240 + n / 262144) (by omega) (by omega)
        have w2 := u8w (128 + n / 4096 % 64) (by omega) (by omega)
        have w3 := u8w (128 + n / 64 % 64) (by omega) (by omega)
        have w4 := u8w (128 + n % 64) (by omega) (by omega)
        clear h2
        rw [H.out]
        go_enter Tryd.func134, Tryd.ntmps134
        go_wp2_with fail
        refine (HI1.out _).mono ?_
        rintro e w1 ⟨rfl, rfl⟩
        go_wp2_with fail
        refine (HI2.out _).mono ?_
        rintro e w2 ⟨rfl, rfl⟩
        go_wp2_with fail
        go_ret
        exact ⟨rfl, (by (repeat' (first | with_reducible exact Below.refl _ _ | with_reducible refine below_alloc ?_ _ ?_ | with_reducible refine Below.setCell ?_ ?_ _ | with_reducible refine Below.drew ?_ | with_reducible refine below_drewN ?_ _ | with_reducible refine below_step ?_ (by assumption) ?_ | with_reducible refine below_mark ?_ (by assumption) ?_)); all_goals (first | omega | (simp; done) | (simp; omega)))⟩
theorem putSign_any (n : Int) (w : World) : Calls Tryd.prog 134 #[.int .i64 n] w (StrRet (putS n) w) := by
  by_cases h : isSg n
  · exact putSign_yes n w h
  · rw [putS_no h]; exact putSign_no n w h
def Int2Ret (a b : Int) (w : World) (e : Ending) (w' : World) : Prop := e = .returned (.tuple #[.int .i64 a, .int .i64 b]) ∧ w' = w
set_option maxHeartbeats 1000000 in
theorem l01Many_any (b : Nat) (x : Int) (hx : x = b) (hb : b < 256) (w : World) : Calls Tryd.prog 133 #[.int .i64 x] w (Int2Ret (manyOf b) (headOf b) w) := by
  have h0 : 0 ≤ x := by omega
  have h1 : x < 256 := by omega
  have a1 : bits BinOp.and IntKind.i64 x 31 = x % 32 := and_i64 _ 5 31 (by decide) (by decide) (by omega) (by omega)
  have a2 : bits BinOp.and IntKind.i64 x 15 = x % 16 := and_i64 _ 4 15 (by decide) (by decide) (by omega) (by omega)
  have a3 : bits BinOp.and IntKind.i64 x 7 = x % 8 := and_i64 _ 3 7 (by decide) (by decide) (by omega) (by omega)
  have HX := Lib.hid hx
  by_cases c1 : b < 128
  · have H := Lib.hid (show (manyOf b : Int) = 1 ∧ (headOf b : Int) = x by rw [HX.out]; unfold manyOf headOf; rw [if_pos c1, if_pos c1]; simp)
    have h2 : x < 128 := by omega
    rw [H.out.1, H.out.2]
    clear hx c1
    go_enter Tryd.func133, Tryd.ntmps133
    go_wp2_with fail
    go_ret2
    exact ⟨rfl, rfl⟩
  have h2 : ¬ x < 128 := by omega
  by_cases c2 : b < 192
  · have H := Lib.hid (show (manyOf b : Int) = 0 ∧ (headOf b : Int) = 0 by unfold manyOf headOf; rw [if_neg c1, if_neg c1, if_pos c2, if_pos c2]; simp)
    have HI1 := Lib.hid (fun W => l01In_no x 192 223 W (by omega))
    have HI2 := Lib.hid (fun W => l01In_no x 224 239 W (by omega))
    have HI3 := Lib.hid (fun W => l01In_no x 240 247 W (by omega))
    rw [H.out.1, H.out.2]
    clear hx c1 c2
    go_enter Tryd.func133, Tryd.ntmps133
    go_wp2_with fail
    refine (HI1.out _).mono ?_
    rintro e w1 ⟨rfl, rfl⟩
    go_wp2_with fail
    refine (HI2.out _).mono ?_
    rintro e w2 ⟨rfl, rfl⟩
    go_wp2_with fail
    refine (HI3.out _).mono ?_
    rintro e w3 ⟨rfl, rfl⟩
    go_wp2_with fail
    go_ret2
    exact ⟨rfl, rfl⟩
  by_cases c3 : b < 224
  · have H := Lib.hid (show (manyOf b : Int) = 2 ∧ (headOf b : Int) = x % 32 by rw [HX.out]; unfold manyOf headOf; rw [if_neg c1, if_neg c1, if_neg c2, if_neg c2, if_pos c3, if_pos c3]; omega)
    have HI1 := Lib.hid (fun W => l01In_yes x 192 223 W (by omega) (by omega))
    rw [H.out.1, H.out.2]
    clear hx c1 c2 c3
    go_enter Tryd.func133, Tryd.ntmps133
    go_wp2_with fail
    refine (HI1.out _).mono ?_
    rintro e w1 ⟨rfl, rfl⟩
    go_wp2_with fail
    go_ret2
    exact ⟨rfl, rfl⟩
  by_cases c4 : b < 240
  · have H := Lib.hid (show (manyOf b : Int) = 3 ∧ (headOf b : Int) = x % 16 by rw [HX.out]; unfold manyOf headOf; rw [if_neg c1, if_neg c1, if_neg c2, if_neg c2, if_neg c3, if_neg c3, if_pos c4, if_pos c4]; omega)
    have HI1 := Lib.hid (fun W => l01In_no x 192 223 W (by omega))
    have HI2 := Lib.hid (fun W => l01In_yes x 224 239 W (by omega) (by omega))
    rw [H.out.1, H.out.2]
    clear hx c1 c2 c3 c4
    go_enter Tryd.func133, Tryd.ntmps133
    go_wp2_with fail
    refine (HI1.out _).mono ?_
    rintro e w1 ⟨rfl, rfl⟩
    go_wp2_with fail
    refine (HI2.out _).mono ?_
    rintro e w2 ⟨rfl, rfl⟩
    go_wp2_with fail
    go_ret2
    exact ⟨rfl, rfl⟩
  have HI1 := Lib.hid (fun W => l01In_no x 192 223 W (by omega))
  have HI2 := Lib.hid (fun W => l01In_no x 224 239 W (by omega))
  by_cases c5 : b < 248
  · have H := Lib.hid (show (manyOf b : Int) = 4 ∧ (headOf b : Int) = x % 8 by rw [HX.out]; unfold manyOf headOf; rw [if_neg c1, if_neg c1, if_neg c2, if_neg c2, if_neg c3, if_neg c3, if_neg c4, if_neg c4, if_pos c5, if_pos c5]; omega)
    have HI3 := Lib.hid (fun W => l01In_yes x 240 247 W (by omega) (by omega))
    rw [H.out.1, H.out.2]
    clear hx c1 c2 c3 c4 c5
    go_enter Tryd.func133, Tryd.ntmps133
    go_wp2_with fail
    refine (HI1.out _).mono ?_
    rintro e w1 ⟨rfl, rfl⟩
    go_wp2_with fail
    refine (HI2.out _).mono ?_
    rintro e w2 ⟨rfl, rfl⟩
    go_wp2_with fail
    refine (HI3.out _).mono ?_
    rintro e w3 ⟨rfl, rfl⟩
    go_wp2_with fail
    go_ret2
    exact ⟨rfl, rfl⟩
  · have H := Lib.hid (show (manyOf b : Int) = 0 ∧ (headOf b : Int) = 0 by unfold manyOf headOf; rw [if_neg c1, if_neg c1, if_neg c2, if_neg c2, if_neg c3, if_neg c3, if_neg c4, if_neg c4, if_neg c5, if_neg c5]; simp)
    have HI3 := Lib.hid (fun W => l01In_no x 240 247 W (by omega))
    rw [H.out.1, H.out.2]
    clear hx c1 c2 c3 c4 c5
    go_enter Tryd.func133, Tryd.ntmps133
    go_wp2_with fail
    refine (HI1.out _).mono ?_
    rintro e w1 ⟨rfl, rfl⟩
    go_wp2_with fail
    refine (HI2.out _).mono ?_
    rintro e w2 ⟨rfl, rfl⟩
    go_wp2_with fail
    refine (HI3.out _).mono ?_
    rintro e w3 ⟨rfl, rfl⟩
    go_wp2_with fail
    go_ret2
    exact ⟨rfl, rfl⟩
def getSg (s : ByteArray) (i : Int) : Int × Int :=
  if i < 0 ∨ (s.size : Int) ≤ i then (-1, -1) else if badD (s.data.toList.drop i.toNat) then (-1, -1) else (((Lib.decodeL (s.data.toList.drop i.toNat)).1 : Int), i + (Lib.decodeL (s.data.toList.drop i.toNat)).2)
def SgRet (p : Int × Int) (w : World) (e : Ending) (w' : World) : Prop := e = .returned (.tuple #[.int .i64 p.1, .int .i64 p.2]) ∧ Below w.heap.size w w'
set_option maxHeartbeats 400000 in
theorem getSign_out (s : ByteArray) (i : Int) (w : World) (hs : s.size ≤ 9223372036854775807) (hi0 : -9223372036854775808 ≤ i) (hi1 : i ≤ 9223372036854775807) (h : i < 0 ∨ (s.size : Int) ≤ i) :
    Calls Tryd.prog 129 #[.string s, .int .i64 i] w (SgRet (getSg s i) w) := by
  have H := Lib.hid (show getSg s i = (-1, -1) by unfold getSg; rw [if_pos h])
  rw [H.out]
  by_cases h0 : i < 0
  · clear h
    go_enter Tryd.func129, Tryd.ntmps129
    go_wp2_with fail
    go_ret2
    exact ⟨rfl, (by (repeat' (first | with_reducible exact Below.refl _ _ | with_reducible refine below_alloc ?_ _ ?_ | with_reducible refine Below.setCell ?_ ?_ _ | with_reducible refine Below.drew ?_ | with_reducible refine below_drewN ?_ _ | with_reducible refine below_step ?_ (by assumption) ?_ | with_reducible refine below_mark ?_ (by assumption) ?_)); all_goals (first | omega | (simp; done) | (simp; omega)))⟩
  · have h2 : (s.size : Int) ≤ i := by omega
    clear h
    go_enter Tryd.func129, Tryd.ntmps129
    go_wp2_with fail
    go_ret2
    exact ⟨rfl, (by (repeat' (first | with_reducible exact Below.refl _ _ | with_reducible refine below_alloc ?_ _ ?_ | with_reducible refine Below.setCell ?_ ?_ _ | with_reducible refine Below.drew ?_ | with_reducible refine below_drewN ?_ _ | with_reducible refine below_step ?_ (by assumption) ?_ | with_reducible refine below_mark ?_ (by assumption) ?_)); all_goals (first | omega | (simp; done) | (simp; omega)))⟩
theorem getD_drop (s : ByteArray) (p j : Nat) (h : p + j < s.size) : (s.data.toList.drop p).getD j 0 = s[p + j] := by
  have hl : p + j < s.data.toList.length := by rw [Array.length_toList]; exact h
  rw [List.getD_eq_getElem?_getD, List.getElem?_drop, List.getElem?_eq_getElem hl]
  rfl
set_option maxHeartbeats 1000000 in
theorem getSign_in (s : ByteArray) (p : Nat) (w : World) (hs : s.size ≤ 9223372036854775807) (h : p < s.size) :
    Calls Tryd.prog 129 #[.string s, .int .i64 p] w (SgRet (getSg s p) w) := by
  have hl : (s.data.toList.drop p).length = s.size - p := by rw [List.length_drop, Array.length_toList]; rfl
  have hb0 : ((s.data.toList.drop p).getD 0 0).toNat = (s[p]).toNat := by rw [getD_drop s p 0 h]; rfl
  have HN := Lib.hid (get_none (s.data.toList.drop p) (by omega))
  have HS := Lib.hid (get_some (s.data.toList.drop p))
  rw [hb0] at HN HS
  have hlt := (s[p]).toNat_lt
  have MA := Lib.hid (fun W => l01Many_any (s[p]).toNat ((s[p]).toNat : Int) rfl (by omega) W)
  have hm4 := manyOf_le (s[p]).toNat
  have HG := Lib.hid (show getSg s p = if badD (s.data.toList.drop p) then (-1, -1) else (((Lib.decodeL (s.data.toList.drop p)).1 : Int), (p : Int) + (Lib.decodeL (s.data.toList.drop p)).2) by
    unfold getSg; rw [if_neg (by omega)]; rfl)
  have HH := Lib.hid (headOf_lt (s[p]).toNat)
  have HL := Lib.hid hl
  clear hl
  generalize getSg s p = g at *
  generalize hm : manyOf (s[p]).toNat = m at *
  generalize headOf (s[p]).toNat = h0 at *
  have HM := Lib.hid hm; clear hm
  have hsp : (p : Int) < s.size := by omega
  by_cases hc : m = 0 ∨ s.size - p < m
  · have HB := Lib.hid (HN.out (by rw [HL.out]; exact hc))
    have HV := Lib.hid (show g = (-1, -1) by rw [HG.out, if_pos HB.out])
    by_cases hm0 : m = 0
    · subst hm0
      clear hc HS HN
      go_enter Tryd.func129, Tryd.ntmps129
      go_wp2_with fail
      refine (MA.out _).mono ?_
      rintro e w1 ⟨rfl, rfl⟩
      go_wp2_with fail
      go_ret2
      exact ⟨by rw [HV.out]; rfl, (by (repeat' (first | with_reducible exact Below.refl _ _ | with_reducible refine below_alloc ?_ _ ?_ | with_reducible refine Below.setCell ?_ ?_ _ | with_reducible refine Below.drew ?_ | with_reducible refine below_drewN ?_ _ | with_reducible refine below_step ?_ (by assumption) ?_ | with_reducible refine below_mark ?_ (by assumption) ?_)); all_goals (first | omega | (simp; done) | (simp; omega)))⟩
    · have h2 : ((s.size : Int) - p) < m := by omega
      have h3 : ¬ (m : Int) = 0 := by omega
      have h4 : ((m : Int) == 0) = false := by simpa using hm0
      clear hc HS HN
      go_enter Tryd.func129, Tryd.ntmps129
      go_wp2_with fail
      refine (MA.out _).mono ?_
      rintro e w1 ⟨rfl, rfl⟩
      go_wp2_with fail
      go_ret2
      exact ⟨by rw [HV.out]; rfl, (by (repeat' (first | with_reducible exact Below.refl _ _ | with_reducible refine below_alloc ?_ _ ?_ | with_reducible refine Below.setCell ?_ ?_ _ | with_reducible refine Below.drew ?_ | with_reducible refine below_drewN ?_ _ | with_reducible refine below_step ?_ (by assumption) ?_ | with_reducible refine below_mark ?_ (by assumption) ?_)); all_goals (first | omega | (simp; done) | (simp; omega)))⟩
  · have h1 : m ≠ 0 := by omega
    have h2 : m ≤ s.size - p := by omega
    have h3 : ¬ ((s.size : Int) - p) < m := by omega
    have h4 : ((m : Int) == 0) = false := by simpa using h1
    have HQ := Lib.hid (HS.out h1 (by rw [HL.out]; exact h2))
    clear hc HS HN
    go_enter Tryd.func129, Tryd.ntmps129
    go_wp2_with fail
    refine (MA.out _).mono ?_
    rintro e w1 ⟨rfl, rfl⟩
    go_wp2_with fail
    go_loop [7, 8] (fun n k => ∃ (j : Nat) (q : Int), 1 ≤ j ∧ j ≤ m ∧ k = .int .i64 j ∧ n = .int .i64 q ∧ 0 ≤ q ∧ q < 134217728 ∧ Hid (q = (accV h0 (s.data.toList.drop p) (j - 1) : Nat) ∧ h0 < 128)) (fun _ k => m - (intOf k).toNat)
    case atStart => exact ⟨1, h0, by omega, by omega, rfl, rfl, by omega, by have := HH.out; omega, Lib.hid ⟨rfl, HH.out⟩⟩
    case round =>
      obtain ⟨j, q, hj1, hjm, rfl, rfl, hq1, hq2, HQJ⟩ := hrel
      by_cases hlt2 : j < m
      · have hpj : p + j < s.size := by omega
        have HX := Lib.hid (show q * 64 + ((s[p + j]).toNat : Int) % 64 = (accV h0 (s.data.toList.drop p) (j + 1 - 1) : Nat) by
          rw [show j + 1 - 1 = (j - 1) + 1 by omega]
          simp only [accV]
          rw [show j - 1 + 1 = j by omega, getD_drop s p j hpj, HQJ.out.1]
          simp)
        have HY := Lib.hid (show q * 64 + ((s[p + j]).toNat : Int) % 64 < 134217728 by
          have h1 := accV_lt h0 (s.data.toList.drop p) HQJ.out.2 (j + 1 - 1) (by omega)
          rw [HX.out]
          have h2 : 64 ^ (j + 1 - 1) ≤ 64 ^ 3 := Nat.pow_le_pow_right (by decide) (by omega)
          omega)
        have hx2 := (s[p + j]).toNat_lt
        have hx3 : ((s[p + j]).toNat : Int) < 256 := by omega
        have a1 : bits BinOp.and IntKind.i64 ((s[p + j]).toNat : Int) 63 = ((s[p + j]).toNat : Int) % 64 := and_i64 _ 6 63 (by decide) (by decide) (by omega) (by omega)
        go_wp2_with fail
        go_round
        case rel => exact ⟨j + 1, _, by omega, by omega, by go_num, rfl, by omega, HY.out, Lib.hid ⟨HX.out, HQJ.out.2⟩⟩
        case measure => simp [intOf]; omega
      · have hjm' : j = m := by omega
        subst hjm'
        have HP := Lib.hid (fun W => putSign_any q W)
        have hE : (s.extract p (p + j)).data.toList = (s.data.toList.drop p).take j := by
          simp [ByteArray.data_extract, List.take_drop]
        have HD := Lib.hid (show (¬ badD (s.data.toList.drop p) ↔ putS q = (s.data.toList.drop p).take j) ∧ (¬ badD (s.data.toList.drop p) → ((Lib.decodeL (s.data.toList.drop p)).1 : Int) = q ∧ (Lib.decodeL (s.data.toList.drop p)).2 = j) by
          have h1 := HQ.out
          rw [← HQJ.out.1] at h1
          refine ⟨h1.1, fun hh => ?_⟩
          rw [h1.2 hh]
          exact ⟨HQJ.out.1.symm, rfl⟩)
        clear HQ
        unfold StrRet at HP
        unfold bstr at HP
        by_cases hbd : badD (s.data.toList.drop p)
        · have HV := Lib.hid (show g = (-1, -1) by rw [HG.out, if_pos hbd])
          have t1 : ((⟨(putS q).toArray⟩ : ByteArray).toList == (s.extract p (p + j)).toList) = false := ba_no (fun e => by
            have : putS q = (s.data.toList.drop p).take j := by rw [← hE, ← e]
            exact absurd hbd (HD.out.1.2 this))
          clear hE hbd HD
          generalize (⟨(putS q).toArray⟩ : ByteArray) = X at *
          go_wp2_with fail
          have u1 : (0 : Int) ≤ (p : Int) := by omega
          have u2 : (p : Int) ≤ (p : Int) + (j : Int) := by omega
          have u3 : (p : Int) + (j : Int) ≤ (s.size : Int) := by omega
          have u4 : ((p : Int) + (j : Int)).toNat = p + j := by omega
          have u5 : IntKind.i64.wrap ((p : Int) + (j : Int)) = (p : Int) + (j : Int) := IntWalk.i64_in _ (by omega)
          have u6 : p ≤ p + j := by omega
          have u7 : p + j ≤ s.size := by omega
          go_region_held3 (fun w' => True) (first | exact trivial | go_keep) ((go_at_call 134; refine (HP.out _).mono ?_; rintro e2 w2 ⟨rfl, hb2⟩))
          go_wp2_with fail
          go_ret2
          exact ⟨by rw [HV.out]; first | rfl | (go_num), (by (repeat' (first | with_reducible exact Below.refl _ _ | with_reducible refine below_alloc ?_ _ ?_ | with_reducible refine Below.setCell ?_ ?_ _ | with_reducible refine Below.drew ?_ | with_reducible refine below_drewN ?_ _ | with_reducible refine below_step ?_ (by assumption) ?_ | with_reducible refine below_mark ?_ (by assumption) ?_)); all_goals (first | omega | (simp; done) | (simp; omega)))⟩
        · have HV := Lib.hid (show g = (q, (p : Int) + j) by rw [HG.out, if_neg hbd, (HD.out.2 hbd).1, (HD.out.2 hbd).2])
          have t1 : ((⟨(putS q).toArray⟩ : ByteArray).toList == (s.extract p (p + j)).toList) = true := ba_yes (ba_ext (by
            show putS q = _
            rw [hE]; exact HD.out.1.1 hbd))
          clear hE hbd HD
          generalize (⟨(putS q).toArray⟩ : ByteArray) = X at *
          go_wp2_with fail
          have u1 : (0 : Int) ≤ (p : Int) := by omega
          have u2 : (p : Int) ≤ (p : Int) + (j : Int) := by omega
          have u3 : (p : Int) + (j : Int) ≤ (s.size : Int) := by omega
          have u4 : ((p : Int) + (j : Int)).toNat = p + j := by omega
          have u5 : IntKind.i64.wrap ((p : Int) + (j : Int)) = (p : Int) + (j : Int) := IntWalk.i64_in _ (by omega)
          have u6 : p ≤ p + j := by omega
          have u7 : p + j ≤ s.size := by omega
          go_region_held3 (fun w' => True) (first | exact trivial | go_keep) ((go_at_call 134; refine (HP.out _).mono ?_; rintro e2 w2 ⟨rfl, hb2⟩))
          go_wp2_with fail
          go_ret2
          exact ⟨by rw [HV.out]; first | rfl | (go_num), (by (repeat' (first | with_reducible exact Below.refl _ _ | with_reducible refine below_alloc ?_ _ ?_ | with_reducible refine Below.setCell ?_ ?_ _ | with_reducible refine Below.drew ?_ | with_reducible refine below_drewN ?_ _ | with_reducible refine below_step ?_ (by assumption) ?_ | with_reducible refine below_mark ?_ (by assumption) ?_)); all_goals (first | omega | (simp; done) | (simp; omega)))⟩
theorem getSign_any (s : ByteArray) (i : Int) (w : World) (hs : s.size ≤ 9223372036854775807) (hi0 : -9223372036854775808 ≤ i) (hi1 : i ≤ 9223372036854775807) :
    Calls Tryd.prog 129 #[.string s, .int .i64 i] w (SgRet (getSg s i) w) := by
  by_cases h : i < 0 ∨ (s.size : Int) ≤ i
  · exact getSign_out s i w hs hi0 hi1 h
  · obtain ⟨p, rfl⟩ := Int.eq_ofNat_of_zero_le (show 0 ≤ i by omega)
    exact getSign_in s p w hs (by omega)
theorem validStep (s : ByteArray) (p : Nat) (h : p < s.size) : Lib.validD (s.data.toList.drop p) = if badD (s.data.toList.drop p) then false else Lib.validD (s.data.toList.drop (p + (Lib.decodeL (s.data.toList.drop p)).2)) := by
  have hl : s.data.toList.drop p ≠ [] := by
    intro e
    have := congrArg List.length e
    rw [List.length_drop, Array.length_toList] at this
    simp only [List.length_nil] at this
    have h2 : s.data.size = s.size := rfl
    omega
  rw [Lib.validD_step _ hl, List.drop_drop]
  rfl
theorem decLe (s : ByteArray) (p : Nat) (h : p < s.size) : 1 ≤ (Lib.decodeL (s.data.toList.drop p)).2 ∧ p + (Lib.decodeL (s.data.toList.drop p)).2 ≤ s.size := by
  have hl : (s.data.toList.drop p).length = s.size - p := by rw [List.length_drop, Array.length_toList]; rfl
  have h2 := Lib.decodeL_le (s.data.toList.drop p) (by intro e; rw [e] at hl; simp at hl; omega)
  exact ⟨Lib.decodeL_width _, by omega⟩
def SignsRet (s : ByteArray) (w : World) (e : Ending) (w' : World) : Prop := ∃ a n cap, e = .returned (.slice a n cap) ∧ decide (0 < n) = (txt s && decide (s.size ≠ 0)) ∧ Below w.heap.size w w'
set_option maxHeartbeats 1000000 in
theorem Signs_any (s : ByteArray) (w : World) (hs : s.size ≤ 1099511627776) : Calls Tryd.prog 120 #[.string s] w (SignsRet s w) := by
  have GS := Lib.hid (fun W (p : Nat) (hp : p < s.size) => getSign_any s p W (by omega) (by omega) (by omega))
  go_enter Tryd.func120, Tryd.ntmps120
  go_wp2_with fail
  go_loopw [3, 4] (fun o i wr => ∃ (p : Nat) (l : List Int), p ≤ s.size ∧ i = .int .i64 p ∧ l.length ≤ p ∧ Hid (txt s = Lib.validD (s.data.toList.drop p) ∧ (l = [] ↔ p = 0)) ∧ IRow wr w.heap.size o l ∧ Below w.heap.size w wr) (fun _ i _ => s.size - (intOf i).toNat)
  case atStart => exact ⟨0, [], by omega, rfl, by simp, Lib.hid ⟨rfl, by simp⟩, IRow.made0 (Nat.le_refl _), (by (repeat' (first | with_reducible exact Below.refl _ _ | with_reducible refine below_alloc ?_ _ ?_ | with_reducible refine Below.setCell ?_ ?_ _ | with_reducible refine Below.drew ?_ | with_reducible refine below_drewN ?_ _ | with_reducible refine below_step ?_ (by assumption) ?_ | with_reducible refine below_mark ?_ (by assumption) ?_)); all_goals (first | omega | (simp; done) | (simp; omega)))⟩
  case round =>
    obtain ⟨p, l, hp, rfl, hl, HI, hrow, hbl⟩ := hrel
    have hzr := hbl.size
    have HROW := Lib.hid hrow; clear hrow
    by_cases hlt : p < s.size
    · have HV := Lib.hid (validStep s p hlt)
      have HL := Lib.hid (decLe s p hlt)
      have HG := Lib.hid (show getSg s p = if badD (s.data.toList.drop p) then (-1, -1) else (((Lib.decodeL (s.data.toList.drop p)).1 : Int), (p : Int) + (Lib.decodeL (s.data.toList.drop p)).2) by
        unfold getSg; rw [if_neg (by omega)]; rfl)
      have G1 := Lib.hid (fun W => GS.out W p hlt)
      obtain ⟨so, no, co, rfl⟩ : ∃ a n c, u3 = .slice a n c := by obtain ⟨a, c, e, _⟩ := HROW.out.form; exact ⟨a, _, c, e⟩
      by_cases hbd : badD (s.data.toList.drop p)
      · have HGV := Lib.hid (show getSg s p = (-1, -1) by rw [HG.out, if_pos hbd])
        have HF := Lib.hid (show txt s = false by rw [HI.out.1, HV.out, if_pos hbd])
        rw [HGV.out] at G1
        clear HG HV hbd
        go_wp2_with fail
        refine (G1.out _).mono ?_
        rintro e1 w1 ⟨rfl, hb1⟩
        go_wp2_with fail
        go_ret
        exact ⟨_, _, _, rfl, by rw [HF.out]; rfl, (by (repeat' (first | with_reducible exact Below.refl _ _ | with_reducible refine below_alloc ?_ _ ?_ | with_reducible refine Below.setCell ?_ ?_ _ | with_reducible refine Below.drew ?_ | with_reducible refine below_drewN ?_ _ | with_reducible refine below_step ?_ (by assumption) ?_ | with_reducible refine below_mark ?_ (by assumption) ?_)); all_goals (first | omega | (simp; done) | (simp; omega)))⟩
      · have HN := Lib.hid (show txt s = Lib.validD (s.data.toList.drop (p + (Lib.decodeL (s.data.toList.drop p)).2)) by rw [HI.out.1, HV.out, if_neg hbd])
        rw [HG.out, if_neg hbd] at G1
        clear HG HV hbd
        obtain ⟨hL1, hL2⟩ := HL.out
        generalize (Lib.decodeL (s.data.toList.drop p)).2 = wd at *
        generalize (((Lib.decodeL (s.data.toList.drop p)).1 : Nat) : Int) = rv at *
        go_wp2_with fail
        refine (G1.out _).mono ?_
        rintro e1 w1 ⟨rfl, hb1⟩
        have hz1 := hb1.size
        have S1 := Lib.hid (src_int1 w1 rv)
        have R1 := Lib.hid (show IRow (w1.alloc (.cells #[.int .i64 rv] 3)) w.heap.size (.slice so no co) l from HROW.out.keep (fun x hx => (Below.heap_alloc w1 _ _ (by have := (HROW.out.lt x hx).2; omega)).trans (hb1.block x (HROW.out.lt x hx).2)))
        have hpos : ¬ ((p : Int) + wd) < 0 := by omega
        go_wp2_with (at_builtin; go_loud (refine app_ints rfl _ _ _ rfl w.heap.size _ _ rfl R1.out _ rfl [rv] S1.out (by simp only [List.length_cons, List.length_nil]; omega) (by simp; omega) ?_); intro v2 w2 hrow2 hg2 hfr2; have hb2 : Below w.heap.size w1 w2 := ((Below.refl _ _).alloc (by omega) _).grown hg2 (by simp; omega) (fun k' hk' => (HROW.out.lt k' hk').1); have R2 := Lib.hid hrow2; clear hrow2)
        go_roundw
        case rel => exact ⟨p + wd, l ++ [rv], by omega, by go_num, by simp; omega, Lib.hid ⟨HN.out, by simp; omega⟩, R2.out, (hbl.trans (hb1.mono (by omega))).trans hb2⟩
        case measure => simp [intOf]; omega
    · have hpe : p = s.size := by omega
      have HF := Lib.hid (show txt s = true by
        rw [HI.out.1, List.drop_of_length_le (by rw [Array.length_toList]; show s.size ≤ p; omega)]; rfl)
      obtain ⟨a, cap, e, _⟩ := HROW.out.form
      subst e
      go_wp2_with fail
      go_ret
      refine ⟨_, _, _, rfl, ?_, hbl⟩
      rw [HF.out, Bool.true_and, decide_eq_decide, ← hpe]
      have h1 := HI.out.2
      have h2 : l = [] ↔ l.length = 0 := ⟨fun e => by rw [e]; rfl, List.eq_nil_of_length_eq_zero⟩
      have h3 := h2.symm.trans h1
      omega
set_option maxHeartbeats 400000 in
theorem textOk_spec (s : ByteArray) (w : World) (hs : s.size ≤ 1099511627776) : Calls Tryd.prog 95 #[.string s] w fun e w' => e = .returned (.bool (txt s)) ∧ Below w.heap.size w w' := by
  have SG := Lib.hid (fun W => Signs_any s W hs)
  by_cases h0 : s.size = 0
  · obtain rfl := ba_empty h0
    have H := Lib.hid (show txt ⟨#[]⟩ = true from rfl)
    rw [H.out]
    go_enter Tryd.func95, Tryd.ntmps95
    go_wp2_with fail
    go_ret
    exact ⟨rfl, (by (repeat' (first | with_reducible exact Below.refl _ _ | with_reducible refine below_alloc ?_ _ ?_ | with_reducible refine Below.setCell ?_ ?_ _ | with_reducible refine Below.drew ?_ | with_reducible refine below_drewN ?_ _ | with_reducible refine below_step ?_ (by assumption) ?_ | with_reducible refine below_mark ?_ (by assumption) ?_)); all_goals (first | omega | (simp; done) | (simp; omega)))⟩
  · have hne : s.toList = [] ↔ False := ⟨fun e => h0 (by have := congrArg List.length e; rw [ByteArray.toList_eq] at this; simpa using this), False.elim⟩
    have hne2 : s.toList.isEmpty = false := by
      rcases h : s.toList with _ | ⟨x, l⟩
      · exact absurd (hne.1 h) id
      · rfl
    have h0' : decide (s.size ≠ 0) = true := decide_eq_true h0
    have HH := Lib.hid h0'
    clear h0' h0
    go_enter Tryd.func95, Tryd.ntmps95
    go_wp2_with fail
    refine (SG.out _).mono ?_
    rintro e1 w1 ⟨a, n, cap, rfl, hn, hb1⟩
    have HN := Lib.hid (show txt s = decide (0 < n) by rw [hn, HH.out, Bool.and_true])
    clear hn
    go_wp2_with fail
    go_ret
    exact ⟨by rw [HN.out]; simp, hb1⟩
end Go.Proofs.YtppmoajoffeleaaDoor
namespace Go.Proofs.YtppmoajoffeleaaDoor
set_option linter.unusedSimpArgs false
set_option linter.unusedVariables false
set_option maxRecDepth 100000
open Go.RowKit
theorem szs_take_le (ts : List V) (k : Nat) : szs (ts.take k) ≤ szs ts := by
  have := szs_append (ts.take k) (ts.drop k)
  rw [List.take_append_drop] at this; omega
end Go.Proofs.YtppmoajoffeleaaDoor
namespace Go.Proofs.YtppmoajoffeleaaDoor
set_option linter.unusedSimpArgs false
set_option linter.unusedVariables false
set_option maxRecDepth 100000
open Go.RowKit
def Env (w : World) : Prop := Lib.Utf8Tabs (Tryd.laysValid_ren.g 3) (Tryd.laysValid_ren.g 4) w
theorem Env.keep {w w' : World} (h : Env w) (hb : Below w.heap.size w w') : Env w' := by
  obtain ⟨h1, h2⟩ := h
  refine ⟨fun c hc => ?_, fun i hi => ⟨?_, ?_⟩⟩
  · have := h1 c hc
    rw [hb.cell (World.block_lt_of_cell? w _ this)]; exact this
  · have := (h2 i hi).1
    rw [hb.cell (World.block_lt_of_cell? w _ this)]; exact this
  · have := (h2 i hi).2
    rw [hb.cell (World.block_lt_of_cell? w _ this)]; exact this
theorem validString_any (s : ByteArray) (w : World) (hs : s.size ≤ 9223372036854775807) (hE : Env w) : Calls Tryd.prog 122 #[.string s] w fun e w' => e = .returned (.bool (txt s)) ∧ Below w.heap.size w w' :=
  Any.utf8_ValidString Tryd.laysValid s w hs hE
set_option maxHeartbeats 400000 in
theorem textOk_impl (s : ByteArray) (w : World) (hs : s.size ≤ 9223372036854775807) (hE : Env w) : Calls Tryd.prog 98 #[.string s] w fun e w' => e = .returned (.bool (txt s)) ∧ Below w.heap.size w w' := by
  have V := Lib.hid (validString_any s w hs hE)
  clear hE
  go_enter Tryd.func98, Tryd.ntmps98
  go_wp2_with fail
  refine V.out.mono ?_
  rintro e w1 ⟨rfl, hb⟩
  go_wp2_with fail
  go_ret
  exact ⟨rfl, hb⟩
end Go.Proofs.YtppmoajoffeleaaDoor
namespace Go.Proofs.YtppmoajoffeleaaDoor
set_option linter.unusedSimpArgs false
set_option linter.unusedVariables false
set_option maxRecDepth 100000
open Go.RowKit
instance memBa2 (s : ByteArray) (l : List ByteArray) : Decidable (s ∈ l) := @List.instDecidableMemOfLawfulBEq _ instBEqOfDecidableEq inferInstance s l
theorem RepSs.take {w : World} {a : Option Addr} {n cap : Nat} {l : List ByteArray} (h : RepSs w (.slice a n cap) l) (i : Nat) (hi : i ≤ l.length) : RepSs w (.slice a i cap) (l.take i) := by
  obtain ⟨a', b, off, cap', hv, ha, hc, hm, hcell⟩ := h
  simp only [Value.slice.injEq] at hv
  obtain ⟨rfl, rfl, rfl⟩ := hv
  have hl : (l.take i).length = i := by rw [List.length_take]; omega
  refine ⟨a, b, off, cap, by rw [hl], fun hne => ha (fun e => hne (by rw [e]; simp)), by rw [hl]; omega, hm, fun j hj => ?_⟩
  rw [hl] at hj
  rw [List.getElem_take]
  exact hcell j (by omega)
end Go.Proofs.YtppmoajoffeleaaDoor
namespace Go.Proofs.YtppmoajoffeleaaDoor
set_option linter.unusedSimpArgs false
set_option linter.unusedVariables false
set_option maxRecDepth 100000
open Go.RowKit
theorem nodes_mem {t : V} {ts : List V} (h : t ∈ ts) : t.nodes ≤ nodess ts := by
  induction ts with
  | nil => cases h
  | cons u us ih =>
    rw [nodess]
    rcases List.mem_cons.1 h with rfl | h
    · omega
    · have := ih h; omega
theorem rightsB_at {ts : List V} {d : Int} (h : rightsB ts d = true) (j : Nat) (hj : j < ts.length) : rightB ts[j] d = true := by
  rw [rightsB_all, List.all_eq_true] at h
  exact h _ (List.getElem_mem hj)
theorem right_kids {t : V} {d : Int} (h : rightB t d = true) : rightsB t.kids (d - 1) = true := by
  rw [rightB_eq] at h
  simp only [Bool.and_eq_true] at h
  exact h.2
end Go.Proofs.YtppmoajoffeleaaDoor
namespace Go.Proofs.YtppmoajoffeleaaDoor
set_option linter.unusedSimpArgs false
set_option linter.unusedVariables false
set_option maxRecDepth 100000
def MZ : V := .mk 0 0 0 ⟨#[]⟩ []
def lkp (s : ByteArray) : List V → Option V
  | k :: x :: r => if k.k = 5 ∧ k.s = s then some x else lkp s r
  | _ => none
def delK (s : ByteArray) : List V → List V
  | k :: x :: r => if k.k = 5 ∧ k.s = s then r else k :: x :: delK s r
  | l => l
def setK (s : ByteArray) (y : V) : List V → List V
  | k :: x :: r => if k.k = 5 ∧ k.s = s then k :: y :: r else k :: x :: setK s y r
  | l => l
def put1 (out : List V) (key x y : V) : List V :=
  if key.k = 5 then (if x.k = 0 then delK key.s out else if lkp key.s out = none then out ++ [key, y] else setK key.s y out) else out
def old1 (out : List V) (key : V) : V := (lkp key.s out).getD MZ
mutual
def mrg : V → V → V
  | v, .mk k n e s ks => if k = 8 then .mk 8 0 0 ⟨#[]⟩ (mgs none (if v.k = 8 then v.kids else []) ks) else .mk k n e s ks
def mgs : Option V → List V → List V → List V
  | _, out, [] => out
  | none, out, t :: ts => mgs (some t) out ts
  | some key, out, t :: ts => mgs none (put1 out key t (mrg (old1 out key) t)) ts
 end
theorem mrg_eq (v p : V) : mrg v p = if p.k = 8 then .mk 8 0 0 ⟨#[]⟩ (mgs none (if v.k = 8 then v.kids else []) p.kids) else p := by cases p; rw [mrg]; rfl
theorem mgs_pair (out : List V) (key x : V) (ps : List V) : mgs none out (key :: x :: ps) = mgs none (put1 out key x (mrg (old1 out key) x)) ps := by rw [mgs, mgs]
theorem pairs_ind {P : List V → Prop} (h0 : P []) (h2 : ∀ k x r, r.length % 2 = 0 → P r → P (k :: x :: r)) : ∀ l : List V, l.length % 2 = 0 → P l
  | [], _ => h0
  | [_], h => by simp at h
  | k :: x :: r, h => h2 k x r (by simp at h; omega) (pairs_ind h0 h2 r (by simp at h; omega))
def Uq : List V → Prop
  | k :: _ :: r => (k.k = 5 → lkp k.s r = none) ∧ Uq r
  | _ => True
theorem del_none {s : ByteArray} : ∀ l : List V, l.length % 2 = 0 → lkp s l = none → delK s l = l :=
  pairs_ind (fun _ => rfl) (fun k x r _ ih h => by
    rw [lkp] at h
    rw [delK]
    split at h
    · cases h
    · rename_i hc; rw [if_neg hc, ih h])
theorem set_same {s : ByteArray} {y : V} : ∀ l : List V, l.length % 2 = 0 → lkp s l = some y → setK s y l = l :=
  pairs_ind (fun h => by rw [lkp] at h; cases h; intro _ _ _ h; cases h) (fun k x r _ ih h => by
    rw [lkp] at h
    rw [setK]
    split at h
    · rename_i hc; rw [if_pos hc, Option.some.inj h]
    · rename_i hc; rw [if_neg hc, ih h])
theorem lkp_nil (s : ByteArray) : lkp s [] = none := by rw [lkp]; intro _ _ _ h; cases h
theorem lkp_app (s : ByteArray) (b : List V) : ∀ l : List V, l.length % 2 = 0 → lkp s (l ++ b) = (lkp s l).or (lkp s b) :=
  pairs_ind (by rw [lkp_nil]; rfl) (fun k x r _ ih => by
    rw [List.cons_append, List.cons_append, lkp, lkp]
    split
    · rfl
    · exact ih)
theorem lkp_two (s : ByteArray) (k y : V) : lkp s [k, y] = if k.k = 5 ∧ k.s = s then some y else none := by rw [lkp, lkp_nil]
theorem lkp_del {s t : ByteArray} (h : s ≠ t) : ∀ l : List V, l.length % 2 = 0 → lkp s (delK t l) = lkp s l :=
  pairs_ind (by rw [delK]; intro _ _ _ h; cases h) (fun k x r _ ih => by
    rw [delK]
    split
    · rename_i hc; rw [lkp, if_neg (fun h2 => h (h2.2.symm.trans hc.2))]
    · rw [lkp, lkp, ih])
theorem lkp_del_self {s : ByteArray} : ∀ l : List V, l.length % 2 = 0 → Uq l → lkp s (delK s l) = none :=
  pairs_ind (fun _ => by rw [delK, lkp_nil]; intro _ _ _ h; cases h) (fun k x r _ ih hu => by
    rw [Uq] at hu
    rw [delK]
    split
    · rename_i hc; rw [← hc.2]; exact hu.1 hc.1
    · rename_i hc; rw [lkp, if_neg hc]; exact ih hu.2)
theorem lkp_set {s t : ByteArray} {y : V} (h : s ≠ t) : ∀ l : List V, l.length % 2 = 0 → lkp s (setK t y l) = lkp s l :=
  pairs_ind (by rw [setK]; intro _ _ _ h; cases h) (fun k x r _ ih => by
    rw [setK]
    split
    · rename_i hc
      have hn : ¬ (k.k = 5 ∧ k.s = s) := fun h2 => h (h2.2.symm.trans hc.2)
      rw [lkp, lkp, if_neg hn, if_neg hn]
    · rw [lkp, lkp, ih])
theorem lkp_set_self {s : ByteArray} {y : V} : ∀ l : List V, l.length % 2 = 0 → lkp s l ≠ none → lkp s (setK s y l) = some y :=
  pairs_ind (fun h => absurd (lkp_nil s) h) (fun k x r _ ih h => by
    rw [setK]
    split
    · rename_i hc; rw [lkp, if_pos hc]
    · rename_i hc
      rw [lkp, if_neg hc] at h
      rw [lkp, if_neg hc]; exact ih h)
theorem len_del {s : ByteArray} : ∀ l : List V, l.length % 2 = 0 → (delK s l).length % 2 = 0 :=
  pairs_ind (by rw [delK]; rfl; intro _ _ _ h; cases h) (fun k x r hr ih => by
    rw [delK]
    split
    · exact hr
    · simp only [List.length_cons]; omega)
theorem len_set {s : ByteArray} {y : V} : ∀ l : List V, l.length % 2 = 0 → (setK s y l).length % 2 = 0 :=
  pairs_ind (by rw [setK]; rfl; intro _ _ _ h; cases h) (fun k x r hr ih => by
    rw [setK]
    split
    · simp only [List.length_cons]; omega
    · simp only [List.length_cons]; omega)
theorem del_lkp_none {s t : ByteArray} : ∀ l : List V, l.length % 2 = 0 → lkp t l = none → lkp t (delK s l) = none := fun l hl h => by
  by_cases e : t = s
  · subst e; rw [del_none l hl h]; exact h
  · rw [lkp_del e l hl]; exact h
theorem Uq_nil : Uq [] := by rw [Uq]; trivial; intro _ _ _ h; cases h
theorem Uq_del {s : ByteArray} : ∀ l : List V, l.length % 2 = 0 → Uq l → Uq (delK s l) :=
  pairs_ind (fun _ => by rw [delK]; exact Uq_nil; intro _ _ _ h; cases h) (fun k x r hr ih hu => by
    rw [Uq] at hu
    rw [delK]
    split
    · exact hu.2
    · rw [Uq]; exact ⟨fun h5 => del_lkp_none r hr (hu.1 h5), ih hu.2⟩)
theorem Uq_set {s : ByteArray} {y : V} : ∀ l : List V, l.length % 2 = 0 → Uq l → Uq (setK s y l) :=
  pairs_ind (fun _ => by rw [setK]; exact Uq_nil; intro _ _ _ h; cases h) (fun k x r hr ih hu => by
    rw [Uq] at hu
    rw [setK]
    split
    · rw [Uq]; exact hu
    · rename_i hc
      rw [Uq]
      refine ⟨fun h5 => ?_, ih hu.2⟩
      rw [lkp_set (fun e => hc ⟨h5, e⟩) r hr]; exact hu.1 h5)
theorem Uq_app {key y : V} (h5 : key.k = 5) : ∀ l : List V, l.length % 2 = 0 → Uq l → lkp key.s l = none → Uq (l ++ [key, y]) :=
  pairs_ind (fun _ _ => by rw [List.nil_append, Uq]; exact ⟨fun _ => lkp_nil _, Uq_nil⟩) (fun k x r hr ih hu hn => by
    rw [Uq] at hu
    rw [lkp] at hn
    split at hn
    · cases hn
    · rename_i hc
      rw [List.cons_append, List.cons_append, Uq]
      refine ⟨fun hk5 => ?_, ih hu.2 hn⟩
      rw [lkp_app _ _ r hr, hu.1 hk5, lkp_two, if_neg (fun e => hc ⟨hk5, e.2.symm⟩)]; rfl)
theorem put1_len {out : List V} {key x y : V} (h : out.length % 2 = 0) : (put1 out key x y).length % 2 = 0 := by
  unfold put1
  (repeat' split)
  · exact len_del _ h
  · rw [List.length_append]; simp; omega
  · exact len_set _ h
  · exact h
theorem put1_Uq {out : List V} {key x y : V} (h : out.length % 2 = 0) (hu : Uq out) : Uq (put1 out key x y) := by
  unfold put1
  split
  · rename_i h5
    split
    · exact Uq_del _ h hu
    · split
      · rename_i hn; exact Uq_app h5 _ h hu hn
      · exact Uq_set _ h hu
  · exact hu
theorem put1_other {out : List V} {key x y : V} {s : ByteArray} (h : out.length % 2 = 0) (hs : key.k = 5 → s ≠ key.s) : lkp s (put1 out key x y) = lkp s out := by
  unfold put1
  split
  · rename_i h5
    have hne := hs h5
    split
    · exact lkp_del hne _ h
    · split
      · rw [lkp_app _ _ _ h, lkp_two, if_neg (fun e => hne e.2.symm)]; cases lkp s out <;> rfl
      · exact lkp_set hne _ h
  · rfl
theorem put1_self {out : List V} {key x y : V} (h : out.length % 2 = 0) (hu : Uq out) (h5 : key.k = 5) : lkp key.s (put1 out key x y) = if x.k = 0 then none else some y := by
  unfold put1
  rw [if_pos h5]
  split
  · exact lkp_del_self _ h hu
  · split
    · rename_i hn; rw [lkp_app _ _ _ h, hn, lkp_two, if_pos ⟨h5, rfl⟩]; rfl
    · rename_i hn; exact lkp_set_self _ h hn
def AllP (P : V → V → Prop) : List V → Prop
  | k :: x :: r => P k x ∧ AllP P r
  | _ => True
theorem AllP.mono {P Q : V → V → Prop} (h : ∀ k x, P k x → Q k x) : ∀ l : List V, l.length % 2 = 0 → AllP P l → AllP Q l :=
  pairs_ind (fun _ => by rw [AllP]; trivial; intro _ _ _ h; cases h) (fun k x r _ ih ha => by rw [AllP] at ha ⊢; exact ⟨h k x ha.1, ih ha.2⟩)
def Fixd (out : List V) (key x : V) : Prop := key.k = 5 → (x.k = 0 → lkp key.s out = none) ∧ (x.k ≠ 0 → ∃ y, lkp key.s out = some y ∧ mrg y x = y)
theorem put1_fix {out : List V} {key x : V} (h : out.length % 2 = 0) (hf : Fixd out key x) : put1 out key x (mrg (old1 out key) x) = out := by
  unfold put1
  split
  · rename_i h5
    obtain ⟨f0, f1⟩ := hf h5
    split
    · rename_i hx; exact del_none _ h (f0 hx)
    · rename_i hx
      obtain ⟨y, hy, hm⟩ := f1 hx
      rw [if_neg (by rw [hy]; simp)]
      unfold old1
      rw [hy, Option.getD_some, hm]
      exact set_same _ h hy
  · rfl
theorem mgs_fix {out : List V} (h : out.length % 2 = 0) : ∀ ps : List V, ps.length % 2 = 0 → AllP (Fixd out) ps → mgs none out ps = out :=
  pairs_ind (fun _ => by rw [mgs]) (fun k x r _ ih ha => by
    rw [AllP] at ha
    rw [mgs_pair, put1_fix h ha.1]
    exact ih ha.2)
theorem lkp_keys {P : V → V → Prop} {s : ByteArray} : ∀ l : List V, l.length % 2 = 0 → AllP P l → ∀ y, lkp s l = some y → ∃ k, k.k = 5 ∧ k.s = s ∧ P k y :=
  pairs_ind (fun _ y h => by rw [lkp_nil] at h; cases h) (fun k x r _ ih ha y h => by
    rw [AllP] at ha
    rw [lkp] at h
    split at h
    · rename_i hc; obtain rfl := Option.some.inj h; exact ⟨k, hc.1, hc.2, ha.1⟩
    · exact ih ha.2 y h)
theorem mgs_run (Q : V → Prop) (hZ : Q MZ) (hI : ∀ x y : V, Q y → True) : ∀ ps : List V, ps.length % 2 = 0 → AllP (fun _ x => ∀ y, Q y → mrg (mrg y x) x = mrg y x) ps → Uq ps → ∀ out : List V, out.length % 2 = 0 → Uq out →
    AllP (fun k _ => k.k = 5 → ∀ y, lkp k.s out = some y → Q y) ps →
    (mgs none out ps).length % 2 = 0 ∧ Uq (mgs none out ps) ∧ (∀ s, lkp s ps = none → lkp s (mgs none out ps) = lkp s out) ∧ AllP (Fixd (mgs none out ps)) ps :=
  pairs_ind (fun _ _ out h hu _ => by
    rw [mgs]
    exact ⟨h, hu, fun _ _ => rfl, by rw [AllP]; trivial; intro _ _ _ h; cases h⟩) (fun k x r hr ih hm hup out h hu hq => by
    rw [AllP] at hm hq
    rw [Uq] at hup
    rw [mgs_pair]
    have hO : Q (old1 out k) ∨ k.k ≠ 5 := by
      by_cases h5 : k.k = 5
      · left
        unfold old1
        cases hl : lkp k.s out with
        | none => exact hZ
        | some y => exact hq.1 h5 y hl
      · exact .inr h5
    have h1 := put1_len (key := k) (x := x) (y := mrg (old1 out k) x) h
    have h2 := put1_Uq (key := k) (x := x) (y := mrg (old1 out k) x) h hu
    have hrest : AllP (fun k' _ => k'.k = 5 → ∀ y, lkp k'.s (put1 out k x (mrg (old1 out k) x)) = some y → Q y) r := by
      have hk : ∀ l : List V, l.length % 2 = 0 → (k.k = 5 → lkp k.s l = none) → AllP (fun k _ => k.k = 5 → ∀ y, lkp k.s out = some y → Q y) l → AllP (fun k' _ => k'.k = 5 → ∀ y, lkp k'.s (put1 out k x (mrg (old1 out k) x)) = some y → Q y) l :=
        pairs_ind (fun _ _ => by rw [AllP]; trivial; intro _ _ _ h; cases h) (fun k2 x2 r2 _ ih2 hn ha => by
          rw [AllP] at ha ⊢
          refine ⟨fun h5 y hy => ?_, ih2 (fun hk5 => by
            have := hn hk5
            rw [lkp] at this
            split at this
            · cases this
            · exact this) ha.2⟩
          rw [put1_other h (fun hk5 e => by
            have := hn hk5
            rw [lkp, if_pos ⟨h5, e⟩] at this
            cases this)] at hy
          exact ha.1 h5 y hy)
      exact hk r hr hup.1 hq.2
    obtain ⟨a1, a2, a3, a4⟩ := ih hm.2 hup.2 _ h1 h2 hrest
    refine ⟨a1, a2, fun s hs => ?_, ?_⟩
    · rw [lkp] at hs
      split at hs
      · cases hs
      · rename_i hc
        rw [a3 s hs]
        exact put1_other h (fun h5 e => hc ⟨h5, e.symm⟩)
    · rw [AllP]
      refine ⟨fun h5 => ?_, a4⟩
      have hs := put1_self (x := x) (y := mrg (old1 out k) x) h hu h5
      rw [a3 _ (hup.1 h5), hs]
      refine ⟨fun hx => by rw [if_pos hx], fun hx => ⟨_, by rw [if_neg hx], ?_⟩⟩
      exact hm.1 _ (hO.resolve_right (fun h => h h5)))
theorem AllP_of {P : V → V → Prop} : ∀ l : List V, l.length % 2 = 0 → (∀ k ∈ l, ∀ x ∈ l, P k x) → AllP P l :=
  pairs_ind (fun _ => by rw [AllP]; trivial; intro _ _ _ h; cases h) (fun k x r _ ih h => by
    rw [AllP]
    exact ⟨h k (by simp) x (by simp), ih (fun a ha b hb => h a (by simp [ha]) b (by simp [hb]))⟩)
theorem evV_two (k x : V) (r : List V) : evV (k :: x :: r) = k :: evV r := by rw [evV]
theorem lkp_ev {s : ByteArray} : ∀ l : List V, l.length % 2 = 0 → lkp s l ≠ none → ∃ k ∈ evV l, k.k = 5 ∧ k.s = s :=
  pairs_ind (fun h => absurd (lkp_nil s) h) (fun k x r _ ih h => by
    rw [lkp] at h
    rw [evV_two]
    split at h
    · rename_i hc; exact ⟨k, by simp, hc⟩
    · obtain ⟨k2, h1, h2⟩ := ih h; exact ⟨k2, by simp [h1], h2⟩)
theorem ev_mem {l : List V} : l.length % 2 = 0 → ∀ x ∈ evV l, x ∈ l :=
  fun h => pairs_ind (P := fun l => ∀ x ∈ evV l, x ∈ l) (fun x hx => by rw [evV] at hx; exact hx) (fun k x r _ ih y hy => by
    rw [evV_two, List.mem_cons] at hy
    rcases hy with rfl | hy
    · simp
    · have := ih y hy; simp [this]) l h
theorem text_n {t : V} {d : Int} (h : rightB t d = true) (h5 : t.k = 5) : t.n = 0 := by
  have h1 := (rightB_leaf h).1
  unfold nodeB at h1
  rw [if_neg (by omega), if_neg (by omega), if_neg (by omega), if_pos h5, Bool.and_eq_true, decide_eq_true_eq] at h1
  exact h1.1.1
theorem Uq_ev : ∀ l : List V, l.length % 2 = 0 → (∀ x ∈ l, ∃ d, rightB x d = true) → (evV l).Pairwise (fun a b => decide (keyEq a b) = false) → Uq l :=
  pairs_ind (fun _ _ => Uq_nil) (fun k x r hr ih hx hp => by
    rw [evV_two, List.pairwise_cons] at hp
    rw [Uq]
    refine ⟨fun h5 => ?_, ih (fun y hy => hx y (by simp [hy])) hp.2⟩
    cases hl : lkp k.s r with
    | none => rfl
    | some y =>
      obtain ⟨k2, h1, h2, h3⟩ := lkp_ev r hr (by rw [hl]; simp)
      have := hp.1 k2 h1
      obtain ⟨d1, hd1⟩ := hx k (by simp)
      obtain ⟨d2, hd2⟩ := hx k2 (by have := ev_mem hr k2 h1; simp [this])
      rw [decide_eq_false_iff_not] at this
      exact absurd ⟨h5.trans h2.symm, (text_n hd1 h5).trans (text_n hd2 h2).symm, h3.symm⟩ this)
theorem right_map {t : V} {d : Int} (h : rightB t d = true) (h8 : t.k = 8) : t.kids.length % 2 = 0 ∧ Uq t.kids := by
  have hk := right_kids h
  rw [rightB_eq] at h
  simp only [Bool.and_eq_true, ownB] at h
  have h3 := h.1.2.2
  rw [if_neg (by omega), if_neg (by omega), if_pos h8] at h3
  unfold pairsB keysB at h3
  simp only [Bool.and_eq_true, decide_eq_true_eq] at h3
  refine ⟨h3.1.2, Uq_ev _ h3.1.2 (fun x hx => ?_) h3.1.1.2⟩
  obtain ⟨j, hj, rfl⟩ := List.getElem_of_mem hx
  exact ⟨d - 1, rightsB_at hk j hj⟩
def Qd (y : V) : Prop := y = MZ ∨ ∃ d, rightB y d = true
theorem mrg_idem : ∀ (N : Nat) (p : V) (d : Int), p.nodes ≤ N → rightB p d = true → ∀ v : V, Qd v → mrg (mrg v p) p = mrg v p := by
  intro N
  induction N with
  | zero => intro p d h; rw [V.nodes_eq] at h; omega
  | succ N ih =>
  intro p d hN hp v hv
  by_cases h8 : p.k = 8
  · have hpm := right_map hp h8
    have hpk := right_kids hp
    rw [V.nodes_eq] at hN
    have hb : (if v.k = 8 then v.kids else []).length % 2 = 0 ∧ Uq (if v.k = 8 then v.kids else []) ∧ ∀ x ∈ (if v.k = 8 then v.kids else []), Qd x := by
      rcases hv with rfl | ⟨dv, hv⟩
      · rw [if_neg (by unfold MZ; simp [V.k])]; exact ⟨rfl, Uq_nil, fun x hx => by simp at hx⟩
      · split
        · rename_i hv8
          have := right_map hv hv8
          refine ⟨this.1, this.2, fun x hx => ?_⟩
          obtain ⟨j, hj, rfl⟩ := List.getElem_of_mem hx
          exact .inr ⟨dv - 1, rightsB_at (right_kids hv) j hj⟩
        · exact ⟨rfl, Uq_nil, fun x hx => by simp at hx⟩
    obtain ⟨b1, b2, b3⟩ := hb
    have hm : AllP (fun _ x => ∀ y, Qd y → mrg (mrg y x) x = mrg y x) p.kids := AllP_of _ hpm.1 (fun k _ x hx => by
      have hn := nodes_mem hx
      obtain ⟨j, hj, rfl⟩ := List.getElem_of_mem hx
      exact ih p.kids[j] (d - 1) (by omega) (rightsB_at hpk j hj))
    have hq : AllP (fun k _ => k.k = 5 → ∀ y, lkp k.s (if v.k = 8 then v.kids else []) = some y → Qd y) p.kids := AllP_of _ hpm.1 (fun k _ x _ _ y hy => by
      obtain ⟨k2, _, _, h3⟩ := lkp_keys (P := fun _ y => Qd y) _ b1 (AllP_of _ b1 (fun _ _ x hx => b3 x hx)) y hy
      exact h3)
    obtain ⟨a1, a2, a3, a4⟩ := mgs_run Qd (.inl rfl) (fun _ _ _ => trivial) p.kids hpm.1 hm hpm.2 _ b1 b2 hq
    rw [mrg_eq (mrg v p) p, if_pos h8, mrg_eq v p, if_pos h8]
    show V.mk 8 0 0 ⟨#[]⟩ (mgs none (if (8 : Int) = 8 then mgs none (if v.k = 8 then v.kids else []) p.kids else []) p.kids) = _
    rw [if_pos rfl, mgs_fix a1 p.kids hpm.1 a4]
  · rw [mrg_eq (mrg v p) p, if_neg h8, mrg_eq, if_neg h8]
end Go.Proofs.YtppmoajoffeleaaDoor
namespace Go.Proofs.YtppmoajoffeleaaDoor
set_option linter.unusedSimpArgs false
set_option linter.unusedVariables false
set_option maxRecDepth 100000
theorem MZ_sz : MZ.sz = 0 := by unfold MZ; rw [V.sz, szs]; rfl
theorem del_szs {s : ByteArray} : ∀ l : List V, l.length % 2 = 0 → szs (delK s l) ≤ szs l :=
  pairs_ind (by rw [delK]; exact Nat.le_refl _; intro _ _ _ h; cases h) (fun k x r _ ih => by
    rw [delK]
    split
    · rw [szs, szs]; omega
    · rw [szs, szs, szs, szs]; omega)
theorem set_szs {s : ByteArray} {y z : V} : ∀ l : List V, l.length % 2 = 0 → lkp s l = some z → szs (setK s y l) + z.sz = szs l + y.sz :=
  pairs_ind (fun h => by rw [lkp_nil] at h; cases h) (fun k x r _ ih h => by
    rw [lkp] at h
    rw [setK]
    split at h
    · rename_i hc
      obtain rfl := Option.some.inj h
      rw [if_pos hc, szs, szs, szs, szs]; omega
    · rename_i hc
      have := ih h
      rw [if_neg hc, szs, szs, szs, szs]; omega)
theorem put1_szs {out : List V} {key x y : V} (h : out.length % 2 = 0) (hy : y.sz ≤ (old1 out key).sz + x.sz) : szs (put1 out key x y) ≤ szs out + (1 + key.sz) + (1 + x.sz) := by
  unfold put1
  split
  · split
    · have := del_szs (s := key.s) out h; omega
    · split
      · rename_i hn
        unfold old1 at hy
        rw [hn, Option.getD_none, MZ_sz] at hy
        rw [szs_append, szs, szs, szs]; omega
      · rename_i hn
        obtain ⟨z, hz⟩ := Option.ne_none_iff_exists'.1 hn
        have h1 := set_szs (y := y) out h hz
        unfold old1 at hy
        rw [hz, Option.getD_some] at hy
        omega
  · omega
theorem mrg_sz : ∀ (N : Nat) (p : V) (d : Int), p.nodes ≤ N → rightB p d = true → ∀ v : V, (v.k = 8 → v.kids.length % 2 = 0) → (∀ x ∈ v.kids, Qd x) → (mrg v p).sz ≤ v.sz + p.sz := by
  intro N
  induction N with
  | zero => intro p d h; rw [V.nodes_eq] at h; omega
  | succ N ih =>
  intro p d hN hp v hv hq
  rw [mrg_eq]
  split
  · rename_i h8
    have hpm := right_map hp h8
    have hpk := right_kids hp
    have hps := V.sz_eq p
    have hvs := V.sz_eq v
    rw [V.nodes_eq] at hN
    have hrun : ∀ ps : List V, ps.length % 2 = 0 → (∀ x ∈ ps, x.nodes ≤ N ∧ ∃ d', rightB x d' = true) → Uq ps → ∀ out : List V, out.length % 2 = 0 →
        AllP (fun k _ => k.k = 5 → ∀ y, lkp k.s out = some y → Qd y) ps → szs (mgs none out ps) ≤ szs out + szs ps :=
      pairs_ind (fun _ _ out _ _ => by rw [mgs]; omega) (fun k x r hr ihl hx hu out ho hqo => by
        rw [Uq] at hu
        rw [AllP] at hqo
        rw [mgs_pair]
        obtain ⟨hxn, dx, hxr⟩ := hx x (by simp)
        have hold : k.k = 5 → Qd (old1 out k) := by
          intro h5
          unfold old1
          cases hl : lkp k.s out with
          | none => exact .inl rfl
          | some y => exact hqo.1 h5 y hl
        have hrest : AllP (fun k' _ => k'.k = 5 → ∀ y, lkp k'.s (put1 out k x (mrg (old1 out k) x)) = some y → Qd y) r := by
          have hk : ∀ l : List V, l.length % 2 = 0 → (k.k = 5 → lkp k.s l = none) → AllP (fun k _ => k.k = 5 → ∀ y, lkp k.s out = some y → Qd y) l → AllP (fun k' _ => k'.k = 5 → ∀ y, lkp k'.s (put1 out k x (mrg (old1 out k) x)) = some y → Qd y) l :=
            pairs_ind (fun _ _ => by rw [AllP]; trivial; intro _ _ _ h; cases h) (fun k2 x2 r2 _ ih2 hn ha => by
              rw [AllP] at ha ⊢
              refine ⟨fun h5 y hy => ?_, ih2 (fun hk5 => by
                have := hn hk5
                rw [lkp] at this
                split at this
                · cases this
                · exact this) ha.2⟩
              rw [put1_other ho (fun hk5 e => by
                have := hn hk5
                rw [lkp, if_pos ⟨h5, e⟩] at this
                cases this)] at hy
              exact ha.1 h5 y hy)
          exact hk r hr hu.1 hqo.2
        have h1 := ihl (fun y hy => hx y (by simp [hy])) hu.2 _ (put1_len (key := k) (x := x) (y := mrg (old1 out k) x) ho) hrest
        have h2 : szs (put1 out k x (mrg (old1 out k) x)) ≤ szs out + (1 + k.sz) + (1 + x.sz) := by
          by_cases h5 : k.k = 5
          · refine put1_szs ho ?_
            refine ih x dx hxn hxr _ (fun h8 => ?_) (fun z hz => ?_)
            · rcases hold h5 with e | ⟨d2, h2⟩
              · rw [e] at h8; unfold MZ at h8; simp [V.k] at h8
              · exact (right_map h2 h8).1
            · rcases hold h5 with e | ⟨d2, h2⟩
              · rw [e] at hz; unfold MZ at hz; simp [V.kids] at hz
              · obtain ⟨j, hj, rfl⟩ := List.getElem_of_mem hz
                exact .inr ⟨d2 - 1, rightsB_at (right_kids h2) j hj⟩
          · unfold put1; rw [if_neg h5]; omega
        rw [szs, szs]; omega)
    have hb : (if v.k = 8 then v.kids else []).length % 2 = 0 ∧ szs (if v.k = 8 then v.kids else []) ≤ v.sz ∧ ∀ x ∈ (if v.k = 8 then v.kids else []), Qd x := by
      split
      · rename_i h; exact ⟨hv h, by omega, hq⟩
      · exact ⟨rfl, by rw [szs]; omega, fun x hx => by simp at hx⟩
    have h3 := hrun p.kids hpm.1 (fun x hx => by
      have hn := nodes_mem hx
      obtain ⟨j, hj, rfl⟩ := List.getElem_of_mem hx
      exact ⟨by omega, d - 1, rightsB_at hpk j hj⟩) hpm.2 _ hb.1 (AllP_of _ hpm.1 (fun k _ x _ _ y hy => by
        obtain ⟨k2, _, _, h3⟩ := lkp_keys (P := fun _ y => Qd y) _ hb.1 (AllP_of _ hb.1 (fun _ _ x hx => hb.2.2 x hx)) y hy
        exact h3))
    rw [V.sz]
    have h0 : (⟨#[]⟩ : ByteArray).size = 0 := rfl
    omega
  · omega
end Go.Proofs.YtppmoajoffeleaaDoor
namespace Go.Proofs.YtppmoajoffeleaaDoor
set_option linter.unusedSimpArgs false
set_option linter.unusedVariables false
set_option maxRecDepth 100000
open Go.RowKit Go.Lib
def z5 : Array Value := #[.int .i64 0, .int .i64 0, .int .i64 0, .string ⟨#[]⟩, .slice none 0 0]
theorem zc_size (n : Nat) : (Builtin.zeroCells z5 n).toList.length = n * 5 := by simp [Builtin.zeroCells, z5]
theorem zc_one : ∀ v ∈ (Builtin.zeroCells z5 2).toList, v.oneCell' = true := by
  intro v hv
  simp only [Builtin.zeroCells, Array.toList_map, List.mem_map] at hv
  obtain ⟨i, _, rfl⟩ := hv
  have h5 : i % z5.size = 0 ∨ i % z5.size = 1 ∨ i % z5.size = 2 ∨ i % z5.size = 3 ∨ i % z5.size = 4 := by
    have : i % z5.size < z5.size := Nat.mod_lt _ (by decide)
    have h : z5.size = 5 := rfl
    omega
  rcases h5 with h | h | h | h | h <;> rw [h] <;> rfl
theorem run_clear5 (w : World) (ty : TypeId) (b o c : Nat)
    (hc : ∀ j, j < 10 → (w.cell? ⟨b, o + j, none⟩).isSome = true) (hf : ∀ j, j < 10 → w.frozen? ⟨b, o + j, none⟩ = false) :
    (Builtin.clear_ #[24] ty #[.slice (some ⟨b, o, none⟩) 2 c]).run Tryd.prog w = .ok (.tuple #[]) (w.setCells b o (Builtin.zeroCells z5 2).toList) := by
  have hl := zc_size 2
  have hst := run_storeCells_cells (P := Tryd.prog) b o (Builtin.zeroCells z5 2).toList 0 w (by intro j hj; exact hc j (by omega)) (by intro j hj; exact hf j (by omega)) zc_one
  simp only [Nat.add_zero] at hst
  have hv := fun w => Tryd.zeroValue26 w
  have hz : (Value.agg #[Value.int .i64 0, .int .i64 0, .int .i64 0, .string ⟨#[]⟩, .slice none 0 0]).cells = z5 := rfl
  simp [Builtin.clear_, run_underlying Tryd.underlying24, hv, hz, hst]
theorem grownBy_cells (g : Nat) : ∀ (vs : List Value) (o : Nat) (w : World), w.grownBy (w.setCells g o vs) (some g)
  | [], o, w => ⟨rfl, rfl, rfl, Nat.le_refl _, fun _ _ _ => rfl⟩
  | v :: vs, o, w => by
    rw [World.setCells]
    exact grownBy_trans (grownBy_cell w g o v) (grownBy_cells g vs (o + 1) _)
theorem infoSz : ∃ i0, Tryd.prog.info? 26 = some i0 ∧ i0.size = 5 := by
  have h : (Tryd.prog.info? 26).map (fun i => i.size) = some 5 := by kernel_rfl
  rw [Option.map_eq_some_iff] at h
  exact h
set_option maxHeartbeats 2000000 in
theorem Delete_any (g n cap i : Nat) (cur : Array Value) (w : World) (hb : w.heap[g]? = some (.cells cur 26 (0, 0))) (hin : i + 2 ≤ n) (hnc : n ≤ cap) (hn40 : n ≤ 1099511627776) (hm : cap ≤ 9223372036854775807) (hcs : cur.size = cap * 5) (h1 : ∀ u ∈ cur.toList.take (n * 5), u.oneCell' = true) :
    Calls Tryd.prog 68 #[.slice (some ⟨g, 0, none⟩) n cap, .int .i64 (i : Int), .int .i64 ((i : Int) + 2)] w fun e w' => e = .returned (.slice (some ⟨g, 0, none⟩) (n - 2) cap) ∧
      ∃ cur', w'.heap[g]? = some (.cells cur' 26 (0, 0)) ∧ cur'.size = cur.size ∧ cur'.toList.take ((n - 2) * 5) = cur.toList.take (i * 5) ++ (cur.toList.take (n * 5)).drop ((i + 2) * 5) ∧ w.grownBy w' (some g) := by
  obtain ⟨news, hnews⟩ : ∃ news, news = (cur.toList.take (n * 5)).drop ((i + 2) * 5) := ⟨_, rfl⟩
  have hcl : cur.toList.length = cap * 5 := by rw [Array.length_toList, hcs]
  have hlen : news.length = (n - (i + 2)) * 5 := by rw [hnews, List.length_drop, List.length_take, hcl]; omega
  have hcell : ∀ (W : World) (c : Array Value), W.heap[g]? = some (.cells c 26 (0, 0)) → ∀ o, W.cell? ⟨g, o, none⟩ = c[o]? := fun W c h o => cell_of_row W g o c _ (0, 0) h
  obtain ⟨A, hA, hsrc⟩ : ∃ A : Addr, (if cap = i + 2 then some (⟨g, 0, none⟩ : Addr) else some ⟨g, 0 + (i + 2) * 5, none⟩) = some A ∧ Hid (∀ t u, news[t]? = some u → w.drew.cell? (A.add t) = some u) := by
    by_cases h : cap = i + 2
    · refine ⟨⟨g, 0, none⟩, by simp [h], fun t u hu => ?_⟩
      have h0 : news.length = 0 := by rw [hlen]; omega
      rw [List.length_eq_zero_iff.1 h0] at hu
      simp at hu
    · refine ⟨⟨g, 0 + (i + 2) * 5, none⟩, by simp [h], fun t u hu => ?_⟩
      rw [Addr.add_lit]
      show w.cell? _ = _
      rw [hcell w cur hb]
      rw [hnews, List.getElem?_drop, List.getElem?_take] at hu
      split at hu
      · rw [← Array.getElem?_toList]; rw [show 0 + (i + 2) * 5 + t = (i + 2) * 5 + t by omega]; exact hu
      · cases hu
  have hb0 : w.drew.heap[g]? = some (.cells cur 26 (0, 0)) := hb
  have hcl2 : cur.size = cur.toList.length := by simp
  obtain ⟨cur1, hb1, hs1, ht1⟩ := heap_setCells_same g 26 news (0 + i * 5) w.drew cur hb0 (by rw [hlen]; omega)
  obtain ⟨W1, hW1⟩ : ∃ W1, W1 = w.drew.setCells g (0 + i * 5) news := ⟨_, rfl⟩
  rw [← hW1] at hb1
  obtain ⟨cur2, hb2, hs2, ht2⟩ := heap_setCells_same g 26 (Builtin.zeroCells z5 2).toList (0 + (n - 2) * 5) W1 cur1 hb1 (by rw [zc_size, hs1]; omega)
  have s1 : Hid (news.length = (n - (i + 2)) * 5) := Lib.hid hlen
  have s2 : Hid (∀ u ∈ news, u.oneCell' = true) := Lib.hid (fun u hu => h1 u (by rw [hnews] at hu; exact List.mem_of_mem_drop hu))
  have s3 : Hid (∀ t, t < news.length → (w.drew.cell? ⟨g, 0 + i * 5 + t, none⟩).isSome = true ∧ w.drew.frozen? ⟨g, 0 + i * 5 + t, none⟩ = false) := Lib.hid (fun t ht => by
    rw [hlen] at ht
    refine ⟨?_, frozen_of_row w.drew g _ _ _ hb0⟩
    rw [hcell w.drew cur hb0, Array.getElem?_eq_getElem (by omega)]; rfl)
  have hclr : ∀ ty, (Builtin.clear_ #[24] ty #[.slice (some ⟨g, (i + (n - (i + 2))) * 5, none⟩) (n - (i + (n - (i + 2)))) (cap - (i + (n - (i + 2))))]).run Tryd.prog W1 = .ok (.tuple #[]) (W1.setCells g (0 + (n - 2) * 5) (Builtin.zeroCells z5 2).toList) := fun ty => by
    rw [show n - (i + (n - (i + 2))) = 2 by omega, show (i + (n - (i + 2))) * 5 = 0 + (n - 2) * 5 by omega]
    exact run_clear5 W1 ty g _ _ (fun j hj => by rw [hcell W1 cur1 hb1, Array.getElem?_eq_getElem (by omega)]; rfl) (fun j hj => frozen_of_row W1 g _ _ _ hb1)
  obtain ⟨i0, hi0, hz1⟩ := infoSz
  have HF := Lib.hid (show ∃ cur', (W1.setCells g (0 + (n - 2) * 5) (Builtin.zeroCells z5 2).toList).heap[g]? = some (.cells cur' 26 (0, 0)) ∧ cur'.size = cur.size ∧ cur'.toList.take ((n - 2) * 5) = cur.toList.take (i * 5) ++ news ∧ w.grownBy (W1.setCells g (0 + (n - 2) * 5) (Builtin.zeroCells z5 2).toList) (some g) from by
    refine ⟨cur2, hb2, by rw [hs2, hs1], ?_, ?_⟩
    · rw [ht2, ht1]
      rw [Nat.zero_add, Nat.zero_add]
      have e1 : (cur.toList.take (i * 5) ++ news).length = (n - 2) * 5 := by rw [List.length_append, hlen, List.length_take, hcl]; omega
      generalize cur.toList.take (i * 5) ++ news = L at e1 ⊢
      rw [← e1, List.take_left, List.append_assoc, List.take_left]
    · rw [hW1]
      exact grownBy_trans (grownBy_trans (⟨rfl, rfl, rfl, Nat.le_refl _, fun _ _ _ => rfl⟩ : w.grownBy w.drew (some g)) (grownBy_cells g _ _ _)) (grownBy_cells g _ _ _))
  have hW : Hid (W1 = w.drew.setCells g (0 + i * 5) news) := Lib.hid hW1
  have hic : i ≤ cap := by omega
  have hjc : i + 2 ≤ cap := by omega
  have hlt2 : (i : Int) + 2 ≤ (n : Int) := by omega
  have e2 : ((i : Int) + 2).toNat = i + 2 := by omega
  have e3 : ((i : Int) == (i : Int) + 2) = false := by simp; omega
  have h02 : 0 ≤ (i : Int) + 2 := by omega
  rw [Nat.zero_add] at hA
  rw [← hnews]
  clear hW1 hb1 hb2 hs1 hs2 ht1 ht2 hb hb0 hcell hnews hlen hcl hcl2 hcs h1
  go_enter Tryd.func68, Tryd.ntmps68
  go_wp2_with fail
  go_region_law (refine step_append_room rfl (.tmp 22) (.tmp 25) 24 rfl 26 i0 5 Tryd.underlying24 hi0 hz1 g 0 i cap (by simp [Act.eval, Act.put]) A (n - (i + 2)) (cap - (i + 2)) news (by simp [Act.eval, Act.put]) s1.out hsrc.out s2.out (by omega) s3.out ?_; rw [← hW.out])
  all_goals
    go_wp2_with fail
    go_ret
    exact ⟨by rw [show n - 2 = i + (n - (i + 2)) by omega]; rfl, by have h := HF.out; rw [Nat.zero_add] at h; exact h⟩
end Go.Proofs.YtppmoajoffeleaaDoor
namespace Go.Proofs.YtppmoajoffeleaaDoor
set_option linter.unusedSimpArgs false
set_option linter.unusedVariables false
set_option maxRecDepth 100000
open Go.RowKit
theorem info_impl : (Tryd.prog.info? 26).map (fun i => (i.zero, i.size, i.bytes)) = some (some (.agg #[.int .i64 0, .int .i64 0, .int .i64 0, .string ⟨#[]⟩, .slice none 0 0]), 5, 64) := by kernel_rfl
end Go.Proofs.YtppmoajoffeleaaDoor
namespace Go.Proofs.YtppmoajoffeleaaDoor
set_option linter.unusedSimpArgs false
set_option linter.unusedVariables false
set_option maxRecDepth 100000
open Go.RowKit
inductive RepF (w : World) (G : Nat → Prop) : Value → List V → Prop
  | mk (a : Option Addr) (b off cap : Nat) (ts : List V) (sls : Nat → Value) (ha : ts ≠ [] → a = some ⟨b, off, none⟩) (hc : ts.length ≤ cap) (hm : cap ≤ 9223372036854775807)
      (hb : ts ≠ [] → b < w.heap.size ∧ G b) (cells : ∀ i (h : i < ts.length), Cells5 w b (off + i * 5) ts[i] (sls i)) (wfs : ∀ i (h : i < ts.length), ts[i].wf)
      (kids : ∀ i (h : i < ts.length), RepF w G (sls i) ts[i].kids) : RepF w G (.slice a ts.length cap) ts
theorem RepF.rep {w : World} {G : Nat → Prop} {v : Value} {ts : List V} (h : RepF w G v ts) : RepS w v ts := by
  induction h with
  | mk a b off cap ts sls ha hc hm hb cells wfs kids ih => exact .mk a b off cap ts sls ha hc hm (fun hne => (hb hne).1) cells wfs ih
theorem RepF.mono {w : World} {G G' : Nat → Prop} {v : Value} {ts : List V} (h : RepF w G v ts) (hG : ∀ x, G x → x < w.heap.size → G' x) : RepF w G' v ts := by
  induction h with
  | mk a b off cap ts sls ha hc hm hb cells wfs kids ih => exact .mk a b off cap ts sls ha hc hm (fun hne => ⟨(hb hne).1, hG _ (hb hne).2 (hb hne).1⟩) cells wfs ih
theorem RepF.keep {w w' : World} {G : Nat → Prop} {v : Value} {ts : List V} (h : RepF w G v ts) (hz : w.heap.size ≤ w'.heap.size) (hk : ∀ x, G x → x < w.heap.size → w'.heap[x]? = w.heap[x]?) : RepF w' G v ts := by
  induction h with
  | mk a b off cap ts sls ha hc hm hb cells wfs kids ih =>
    refine .mk a b off cap ts sls ha hc hm (fun hne => ⟨Nat.lt_of_lt_of_le (hb hne).1 hz, (hb hne).2⟩) (fun i hi => (cells i hi).keep ?_) wfs ih
    have hne : ts ≠ [] := by intro e; subst e; simp at hi
    exact hk b (hb hne).2 (hb hne).1
theorem RepF.stay {w w' : World} {G : Nat → Prop} {v : Value} {ts : List V} (h : RepF w G v ts) (hb : Below w.heap.size w w') : RepF w' G v ts :=
  h.keep hb.size (fun x _ hx => hb.block x hx)
theorem RepF.bound {w : World} {G : Nat → Prop} {v : Value} {ts : List V} (h : RepF w G v ts) : RepF w (fun x => G x ∧ x < w.heap.size) v ts := h.mono (fun x h1 h2 => ⟨h1, h2⟩)
theorem RepS.toF {w : World} {v : Value} {ts : List V} (h : RepS w v ts) : RepF w (fun x => x < w.heap.size) v ts := by
  induction h with
  | mk a b off cap ts sls ha hc hm hb cells wfs kids ih => exact .mk a b off cap ts sls ha hc hm (fun hne => ⟨hb hne, hb hne⟩) cells wfs ih
theorem OwnS.toF {w : World} {F : Nat → Prop} {v : Value} {ts : List V} (h : OwnS w F v ts) : RepF w F v ts := by
  induction h with
  | mk F a b off cap ts sls Fs ha hc hm hb hF hd cells wfs kids ih =>
    exact .mk a b off cap ts sls ha hc hm (fun hne => by obtain ⟨h1, cur, e, h⟩ := hb hne; exact ⟨lt_of_heap h, h1⟩) cells wfs (fun i hi => (ih i hi).mono (fun x hx _ => (hF i hi x hx).1))
theorem RepF.slice {w : World} {G : Nat → Prop} {v : Value} {ts : List V} (h : RepF w G v ts) : ∃ a cap, v = .slice a ts.length cap := by
  cases h with
  | mk a b off cap ts0 sls ha hc hm hb cells wfs kids => exact ⟨a, cap, rfl⟩
theorem RepF.nil (w : World) (G : Nat → Prop) : RepF w G (.slice none 0 0) [] :=
  .mk none 0 0 0 [] (fun _ => .nilIface) (by simp) (by simp) (by omega) (by simp) (by simp) (by simp) (by simp)
structure PRowS (w : World) (base : Nat) (G : Nat → Prop) (v : Value) (ts : List V) (sls : List Value) : Prop where
  row : w.ownsRow base 26 5 v ts.length (flat ts sls)
  len : sls.length = ts.length
  wfs : ∀ i (h : i < ts.length), ts[i].wf
  kids : ∀ i (h : i < ts.length), RepF w G (sls.getD i undef) ts[i].kids
  own : ∀ g, v.ownBlock = some g → ¬ G g
  inG : ∀ x, G x → x < w.heap.size
def PRow (w : World) (base : Nat) (G : Nat → Prop) (v : Value) (ts : List V) : Prop := ∃ sls, PRowS w base G v ts sls
theorem PRow.lt {w : World} {base : Nat} {G : Nat → Prop} {v : Value} {ts : List V} (h : PRow w base G v ts) : ∀ k, v.ownBlock = some k → base ≤ k ∧ k < w.heap.size := by
  obtain ⟨sls, h⟩ := h; exact h.row.lt
theorem PRow.inG {w : World} {base : Nat} {G : Nat → Prop} {v : Value} {ts : List V} (h : PRow w base G v ts) : ∀ x, G x → x < w.heap.size := by
  obtain ⟨sls, h⟩ := h; exact h.inG
theorem PRow.own {w : World} {base : Nat} {G : Nat → Prop} {v : Value} {ts : List V} (h : PRow w base G v ts) : ∀ x, v.ownBlock = some x → ¬ G x := by
  obtain ⟨sls, h⟩ := h; exact h.own
theorem PRow.slice {w : World} {base : Nat} {G : Nat → Prop} {v : Value} {ts : List V} (h : PRow w base G v ts) : ∃ a cap, v = .slice a ts.length cap := by
  obtain ⟨sls, h⟩ := h
  rcases h.row.2 with ⟨rfl, hn⟩ | ⟨g, cap, cur, hv, _⟩
  · exact ⟨none, 0, by rw [hn]⟩
  · exact ⟨_, _, hv⟩
theorem PRow.slice3 {w : World} {base : Nat} {G : Nat → Prop} {v : Value} {ts : List V} (h : PRow w base G v ts) : ∃ a n cap, v = .slice a n cap := by
  obtain ⟨a, cap, e⟩ := h.slice; exact ⟨a, _, cap, e⟩
theorem PRow.repF {w : World} {base : Nat} {G : Nat → Prop} {v : Value} {ts : List V} (h : PRow w base G v ts) : RepF w (fun x => G x ∨ v.ownBlock = some x) v ts := by
  obtain ⟨sls, h⟩ := h
  rcases h.row.2 with ⟨rfl, hn⟩ | ⟨g, cap, cur, rfl, hbg, hg, hnc, hcm, hcs, htake⟩
  · obtain rfl : ts = [] := List.eq_nil_of_length_eq_zero hn
    exact RepF.nil _ _
  · have hcell : ∀ j u, (flat ts sls)[j]? = some u → w.cell? ⟨g, j, none⟩ = some u := by
      intro j u hu
      have := h.row.cells (g := g) rfl j u hu
      rwa [addr_add _ _ rfl, Nat.zero_add] at this
    refine .mk (some ⟨g, 0, none⟩) g 0 cap ts (fun i => sls.getD i undef) (fun _ => rfl) hnc (by simpa [maxLen] using hcm) (fun _ => ⟨lt_of_heap hg, .inr rfl⟩) ?_ h.wfs (fun i hi => (h.kids i hi).mono (fun x hx _ => .inl hx))
    intro i hi
    have hi2 : i < sls.length := by rw [h.len]; exact hi
    obtain ⟨h0, h1, h2, h3, h4⟩ := flat_get ts sls i hi hi2
    rw [Nat.zero_add, List.getD_eq_getElem?_getD, List.getElem?_eq_getElem hi2]
    exact ⟨hcell _ _ h0, hcell _ _ h1, hcell _ _ h2, hcell _ _ h3, hcell _ _ h4⟩
theorem PRow.rep {w : World} {base : Nat} {G : Nat → Prop} {v : Value} {ts : List V} (h : PRow w base G v ts) : RepS w v ts := h.repF.rep
theorem PRow.keep {w w' : World} {base : Nat} {G : Nat → Prop} {v : Value} {ts : List V} (h : PRow w base G v ts) (hz : w.heap.size ≤ w'.heap.size) (hk : ∀ x, (G x ∨ v.ownBlock = some x) → x < w.heap.size → w'.heap[x]? = w.heap[x]?) : PRow w' base G v ts := by
  obtain ⟨sls, h⟩ := h
  refine ⟨sls, ⟨⟨h.row.1, ?_⟩, h.len, h.wfs, fun i hi => (h.kids i hi).keep hz (fun x hx hs => hk x (.inl hx) hs), h.own, fun x hx => Nat.lt_of_lt_of_le (h.inG x hx) hz⟩⟩
  rcases h.row.2 with h2 | ⟨g, cap, cur, rfl, hbg, hg, r⟩
  · exact .inl h2
  · exact .inr ⟨g, cap, cur, rfl, hbg, by rw [hk g (.inr rfl) (lt_of_heap hg)]; exact hg, r⟩
theorem PRow.stay {w w' : World} {base : Nat} {G : Nat → Prop} {v : Value} {ts : List V} (h : PRow w base G v ts) (hb : Below w.heap.size w w') : PRow w' base G v ts :=
  h.keep hb.size (fun x _ hx => hb.block x hx)
theorem PRow.nil (w : World) (base : Nat) : PRow w base (fun _ => False) (.slice none 0 0) [] :=
  ⟨[], ⟨World.ownsRow_nil w base _ 5, rfl, by simp, by simp, by simp, by simp⟩⟩
theorem PRow.made0 {w : World} {base : Nat} (hb : base ≤ w.heap.size) : PRow (w.alloc (.cells #[] 26)) base (fun _ => False) (.slice (some ⟨w.heap.size, 0, none⟩) 0 0) [] :=
  ⟨[], ⟨World.ownsRow_lit (w := w) #[] 0 hb (by simp [maxLen]) rfl, rfl, by simp, by simp, by simp, by simp⟩⟩
theorem PRowS.cat {w w' : World} {base : Nat} {G F : Nat → Prop} {v v' : Value} {ts us : List V} {sls sms : List Value} (h : PRowS w base G v ts sls) (hl : sms.length = us.length) (hwf : ∀ i (h : i < us.length), us[i].wf)
    (hk : ∀ i (h : i < us.length), RepF w F (sms.getD i undef) us[i].kids) (hF : ∀ x, F x → x < w.heap.size ∧ v.ownBlock ≠ some x)
    (hrow : w'.ownsRow base 26 5 v' (ts.length + us.length) (flat ts sls ++ flat us sms)) (hg : w.grownBy w' v.ownBlock) (hfr : FreshOr w v v') :
    PRow w' base (fun x => G x ∨ F x) v' (ts ++ us) := by
  have hkeep : ∀ x, (G x ∨ F x) → x < w.heap.size → w'.heap[x]? = w.heap[x]? := by
    intro x hx hs
    refine hg.block x hs (fun e => ?_)
    rcases hx with hx | hx
    · exact h.own x e.symm hx
    · exact (hF x hx).2 e.symm
  refine ⟨sls ++ sms, ⟨?_, by simp [h.len, hl], ?_, ?_, ?_, ?_⟩⟩
  · rw [flat_append _ _ _ _ h.len, List.length_append]; exact hrow
  · intro i hi
    by_cases hlt : i < ts.length
    · rw [List.getElem_append_left hlt]; exact h.wfs i hlt
    · rw [List.getElem_append_right (by omega)]; exact hwf _ (by rw [List.length_append] at hi; omega)
  · intro i hi
    rw [List.length_append] at hi
    by_cases hlt : i < ts.length
    · have e : (sls ++ sms).getD i undef = sls.getD i undef := by
        rw [List.getD_eq_getElem?_getD, List.getD_eq_getElem?_getD, List.getElem?_append_left (by rw [h.len]; exact hlt)]
      rw [List.getElem_append_left hlt, e]
      exact ((h.kids i hlt).keep hg.size (fun x hx hs => hkeep x (.inl hx) hs)).mono (fun x hx _ => .inl hx)
    · have e : (sls ++ sms).getD i undef = sms.getD (i - ts.length) undef := by
        rw [List.getD_eq_getElem?_getD, List.getD_eq_getElem?_getD, List.getElem?_append_right (by rw [h.len]; omega), h.len]
      rw [List.getElem_append_right (by omega), e]
      exact ((hk (i - ts.length) (by omega)).keep hg.size (fun x hx hs => hkeep x (.inr hx) hs)).mono (fun x hx _ => .inr hx)
  · intro g hg' hG
    rcases hfr with e | e
    · rw [e] at hg'
      rcases hG with hG | hG
      · exact h.own g hg' hG
      · exact (hF g hG).2 hg'
    · rw [e] at hg'
      simp only [Option.some.injEq] at hg'
      subst hg'
      rcases hG with hG | hG
      · have := h.inG _ hG; omega
      · have := (hF _ hG).1; omega
  · intro x hx
    rcases hx with hx | hx
    · exact Nat.lt_of_lt_of_le (h.inG x hx) hg.size
    · exact Nat.lt_of_lt_of_le (hF x hx).1 hg.size
theorem flat_one (ts : List V) : ∀ (sls : List Value), (∀ s ∈ sls, ∃ a n c, s = .slice a n c) → ∀ u ∈ flat ts sls, u.oneCell' = true := by
  induction ts with
  | nil => intro sls _ u hu; simp [flat] at hu
  | cons t ts ih =>
    intro sls hs u hu
    match sls, hs, hu with
    | [], _, hu => simp [flat] at hu
    | sl :: sls, hs, hu =>
      simp only [flat, List.mem_cons] at hu
      rcases hu with h | h | h | h | h | h
      · subst h; rfl
      · subst h; rfl
      · subst h; rfl
      · subst h; rfl
      · subst h; obtain ⟨a, n, c, e⟩ := hs _ (List.mem_cons_self ..); rw [e]; rfl
      · exact ih sls (fun s hs' => hs s (List.mem_cons_of_mem _ hs')) u h
structure VSrc (w : World) (F : Nat → Prop) (xv : Value) (us : List V) (sms : List Value) : Prop where
  src : Src Tryd.prog 5 24 xv us.length (flat us sms) w
  len : sms.length = us.length
  wfs : ∀ i (h : i < us.length), us[i].wf
  kids : ∀ i (h : i < us.length), RepF w F (sms.getD i undef) us[i].kids
theorem vsrc_of {w : World} {F : Nat → Prop} {v : Value} {ts : List V} (h : RepF w F v ts) : ∃ sms, VSrc w F v ts sms := by
  cases h with
  | mk a b off cap ts0 sls ha hc hm hb cells wfs kids =>
    refine ⟨(List.range ts.length).map sls, ⟨?_, by simp, wfs, ?_⟩⟩
    · by_cases hne : ts = []
      · subst hne
        cases a with
        | none => exact Src.ofNil w Tryd.underlying24 cap
        | some a => exact Src.ofSlice w Tryd.underlying24 a _ _ _ (by simp [flat]) (by simp [flat]) (by simp [flat])
      · obtain rfl := ha hne
        refine Src.ofSlice w Tryd.underlying24 _ _ _ _ (by rw [flat_length _ _ (by simp)]) ?_ (flat_one ts _ ?_)
        · intro j u hu
          rw [addr_add _ _ rfl]
          have hj : j < ts.length * 5 := by
            rcases Nat.lt_or_ge j (flat ts ((List.range ts.length).map sls)).length with h1 | h1
            · rwa [flat_length _ _ (by simp)] at h1
            · rw [List.getElem?_eq_none h1] at hu; cases hu
          have hj5 : j / 5 < ts.length := by omega
          obtain ⟨h0, h1, h2, h3, h4⟩ := flat_get ts ((List.range ts.length).map sls) (j / 5) hj5 (by simpa using hj5)
          obtain ⟨c0, c1, c2, c3, c4⟩ := cells (j / 5) hj5
          have h5 : j % 5 < 5 := Nat.mod_lt _ (by decide)
          have hjj : j = j / 5 * 5 + j % 5 := by omega
          generalize j / 5 = q at *
          generalize j % 5 = r at *
          subst hjj
          match r, h5 with
          | 0, _ => have hu' : (flat ts (List.map sls (List.range ts.length)))[q * 5]? = some u := hu; rw [h0] at hu'; cases hu'; exact c0
          | 1, _ => rw [h1] at hu; cases hu; rw [← Nat.add_assoc]; exact c1
          | 2, _ => rw [h2] at hu; cases hu; rw [← Nat.add_assoc]; exact c2
          | 3, _ => rw [h3] at hu; cases hu; rw [← Nat.add_assoc]; exact c3
          | 4, _ => rw [h4] at hu; cases hu; rw [← Nat.add_assoc]; simpa using c4
        · intro s hs
          obtain ⟨i, hi, rfl⟩ := List.mem_map.1 hs
          obtain ⟨a, cap, e⟩ := (kids i (by simpa using hi)).slice
          exact ⟨a, _, cap, e⟩
    · intro i hi
      have : ((List.range ts.length).map sls).getD i undef = sls i := by simp [List.getD_eq_getElem?_getD, List.getElem?_map, List.getElem?_range hi]
      rw [this]; exact kids i hi
section
variable {w : World} {ops : Array Oper} {rest : List Oper} {o : Oper} {a : Act} {Q : Exit → Act → World → Prop}
theorem app_vals (hgd : o.guard = none) (s x : Operand)
    (ho : o.op = .call { callee := .builtin .append, args := #[s, x], argTypes := #[24, 24] })
    (base : Nat) (G F : Nat → Prop) (v : Value) (ts us : List V) (sms : List Value) (hs : a.eval s = v) (hown : PRow w base G v ts) (xv : Value) (hx : a.eval x = xv) (hsrc : VSrc w F xv us sms) (hF : ∀ x, F x → x < w.heap.size ∧ v.ownBlock ≠ some x)
    (h63 : ts.length + us.length ≤ 1099511627776) (hbase : base ≤ w.heap.size)
    (h : ∀ v' w', PRow w' base (fun x => G x ∨ F x) v' (ts ++ us) → w.grownBy w' v.ownBlock → FreshOr w v v' → wpList Tryd.prog ops Q rest (a.put o.dst v') w') : wpList Tryd.prog ops Q (o :: rest) a w := by
  obtain ⟨i0, hi, hz0, hz1, hz2⟩ := info_parts info_impl
  obtain ⟨sls, hp⟩ := hown
  exact wpList_app hgd s x 24 24 ho base 26 i0 _ 5 64 Tryd.underlying24 hi hz0 hz1 hz2 rfl (by decide) v ts.length (flat ts sls) hs hp.row xv hx us.length (flat us sms) hsrc.src h63 hbase
    (fun v' w' h1 h2 h3 _ => h v' w' (hp.cat hsrc.len hsrc.wfs hsrc.kids hF h1 h2 h3) h2 h3)
theorem step_vals {K : Act → World → Prop} {X : Prop} (hgd : o.guard = none) (s x : Operand)
    (ho : o.op = .call { callee := .builtin .append, args := #[s, x], argTypes := #[24, 24] })
    (base : Nat) (G F : Nat → Prop) (v : Value) (ts us : List V) (sms : List Value) (hs : a.eval s = v) (hown : PRow w base G v ts) (xv : Value) (hx : a.eval x = xv) (hsrc : VSrc w F xv us sms) (hF : ∀ x, F x → x < w.heap.size ∧ v.ownBlock ≠ some x)
    (h63 : ts.length + us.length ≤ 1099511627776) (hbase : base ≤ w.heap.size)
    (h : ∀ v' w', PRow w' base (fun x => G x ∨ F x) v' (ts ++ us) → w.grownBy w' v.ownBlock → FreshOr w v v' → K (a.put o.dst v') w') : if Region.wanted o (yielded ops a.tmps) = true then Oper.wp Tryd.prog o a w K Q else X := by
  obtain ⟨i0, hi, hz0, hz1, hz2⟩ := info_parts info_impl
  obtain ⟨sls, hp⟩ := hown
  exact step_app hgd s x 24 24 ho base 26 i0 _ 5 64 Tryd.underlying24 hi hz0 hz1 hz2 rfl (by decide) v ts.length (flat ts sls) hs hp.row xv hx us.length (flat us sms) hsrc.src h63 hbase
    (fun v' w' h1 h2 h3 _ => h v' w' (hp.cat hsrc.len hsrc.wfs hsrc.kids hF h1 h2 h3) h2 h3)
end
end Go.Proofs.YtppmoajoffeleaaDoor
namespace Go.Proofs.YtppmoajoffeleaaDoor
set_option linter.unusedSimpArgs false
set_option linter.unusedVariables false
set_option maxRecDepth 100000
open Go.RowKit
theorem flat_part (ts : List V) (sls : List Value) (i : Nat) (hl : sls.length = ts.length) (hi : i ≤ ts.length) : flat (ts.take i) (sls.take i) = (flat ts sls).take (i * 5) ∧ flat (ts.drop i) (sls.drop i) = (flat ts sls).drop (i * 5) := by
  have h1 : (sls.take i).length = (ts.take i).length := by rw [List.length_take, List.length_take, hl]
  have h2 := flat_append (ts.take i) (ts.drop i) (sls.take i) (sls.drop i) h1
  rw [List.take_append_drop, List.take_append_drop] at h2
  have h3 : (flat (ts.take i) (sls.take i)).length = i * 5 := by rw [flat_length _ _ h1, List.length_take]; omega
  rw [h2]
  exact ⟨by rw [← h3, List.take_left], by rw [← h3, List.drop_left]⟩
theorem PRow.open {w : World} {base : Nat} {G : Nat → Prop} {g n cap : Nat} {ts : List V} (h : PRow w base G (.slice (some ⟨g, 0, none⟩) n cap) ts) : n = ts.length ∧ n ≤ cap ∧ cap ≤ maxLen ∧ ∃ cur, w.heap[g]? = some (.cells cur 26 (0, 0)) ∧ cur.size = cap * 5 ∧ ∀ u ∈ cur.toList.take (n * 5), u.oneCell' = true := by
  have hs := h
  obtain ⟨sls, hr⟩ := h
  obtain ⟨h1, h2⟩ := hr.row
  rcases h2 with ⟨h2, -⟩ | ⟨g2, cap2, cur, hv, h3, h4, h5, h6, h7, h8⟩
  · cases h2
  · injection hv with e1 e2 e3
    subst e2 e3
    injection e1 with e1
    injection e1 with e1
    subst e1
    refine ⟨rfl, h5, h6, cur, h4, h7, ?_⟩
    rw [h8]
    exact flat_one ts sls (fun s hs => by
      obtain ⟨j, hj, rfl⟩ := List.getElem_of_mem hs
      have hk := hr.kids j (by rw [← hr.len]; exact hj)
      rw [List.getD_eq_getElem?_getD, List.getElem?_eq_getElem hj] at hk
      obtain ⟨a, c, e⟩ := RepF.slice hk
      exact ⟨a, _, c, e⟩)
theorem PRow.cut2 {w w' : World} {base : Nat} {G : Nat → Prop} {g n cap i : Nat} {ts : List V} {cur cur' : Array Value} (h : PRow w base G (.slice (some ⟨g, 0, none⟩) n cap) ts) (hi : i + 2 ≤ ts.length)
    (hb : w.heap[g]? = some (.cells cur 26 (0, 0))) (hb' : w'.heap[g]? = some (.cells cur' 26 (0, 0))) (hs : cur'.size = cur.size)
    (ht : cur'.toList.take ((n - 2) * 5) = cur.toList.take (i * 5) ++ (cur.toList.take (n * 5)).drop ((i + 2) * 5)) (hg : w.grownBy w' (some g)) :
    PRow w' base G (.slice (some ⟨g, 0, none⟩) (n - 2) cap) (ts.take i ++ ts.drop (i + 2)) := by
  obtain ⟨sls, hr⟩ := h
  obtain ⟨h1, h2⟩ := hr.row
  rcases h2 with ⟨h2, -⟩ | ⟨g2, cap2, cur2, hv, h3, h4, h5, h6, h7, h8⟩
  · cases h2
  injection hv with e1 e2 e3
  subst e2 e3
  injection e1 with e1
  injection e1 with e1
  subst e1
  rw [hb] at h4
  injection h4 with h4
  injection h4 with h4
  subst h4
  have hl : (ts.take i ++ ts.drop (i + 2)).length = ts.length - 2 := by rw [List.length_append, List.length_take, List.length_drop]; omega
  have hown := hr.own g rfl
  have hgb : ∀ x, x < w.heap.size → x ≠ g → w'.heap[x]? = w.heap[x]? := fun x hx hxg => hg.block x hx (fun e => hxg (Option.some.inj e))
  refine ⟨sls.take i ++ sls.drop (i + 2), ⟨?_, ?_, ?_, ?_, ?_, ?_⟩⟩
  · have hf : flat (ts.take i ++ ts.drop (i + 2)) (sls.take i ++ sls.drop (i + 2)) = cur.toList.take (i * 5) ++ (cur.toList.take (ts.length * 5)).drop ((i + 2) * 5) := by
      rw [flat_append _ _ _ _ (by rw [List.length_take, List.length_take, hr.len]), (flat_part ts sls i hr.len (by omega)).1, (flat_part ts sls (i + 2) hr.len hi).2, ← h8, List.take_take, Nat.min_eq_left (by omega)]
    rw [hf, hl]
    refine ⟨?_, .inr ⟨g, cap, cur', rfl, h3, hb', by omega, h6, by rw [hs]; exact h7, ht⟩⟩
    rw [← hf, flat_length _ _ (by rw [List.length_append, List.length_append, List.length_take, List.length_take, List.length_drop, List.length_drop, hr.len]), hl]
  · rw [List.length_append, List.length_append, List.length_take, List.length_take, List.length_drop, List.length_drop, hr.len]
  · intro j hj
    have hm : (ts.take i ++ ts.drop (i + 2))[j] ∈ ts := by
      have := List.getElem_mem hj
      rw [List.mem_append] at this
      exact this.elim List.mem_of_mem_take List.mem_of_mem_drop
    obtain ⟨q, hq, e⟩ := List.getElem_of_mem hm
    rw [← e]; exact hr.wfs q hq
  · intro j hj
    have key : ∀ q (hq : q < ts.length), (sls.take i ++ sls.drop (i + 2)).getD j undef = sls.getD q undef → (ts.take i ++ ts.drop (i + 2))[j] = ts[q] → RepF w' G ((sls.take i ++ sls.drop (i + 2)).getD j undef) (ts.take i ++ ts.drop (i + 2))[j].kids := by
      intro q hq e1 e2
      rw [e1, e2]
      exact (hr.kids q hq).keep hg.size (fun x hx hxs => hgb x hxs (fun e => hown (e ▸ hx)))
    by_cases hji : j < i
    · refine key j (by omega) ?_ ?_
      · rw [List.getD_eq_getElem?_getD, List.getD_eq_getElem?_getD, List.getElem?_append_left (by rw [List.length_take, hr.len]; omega), List.getElem?_take, if_pos hji]
      · rw [List.getElem_append_left (by rw [List.length_take]; omega), List.getElem_take]
    · rw [hl] at hj
      refine key (j + 2) (by omega) ?_ ?_
      · rw [List.getD_eq_getElem?_getD, List.getD_eq_getElem?_getD, List.getElem?_append_right (by rw [List.length_take, hr.len]; omega), List.getElem?_drop, List.length_take, hr.len, Nat.min_eq_left (by omega), show i + 2 + (j - i) = j + 2 by omega]
      · rw [List.getElem_append_right (by rw [List.length_take]; omega), List.getElem_drop]
        congr 1
        rw [List.length_take, Nat.min_eq_left (by omega)]; omega
  · intro g2 hg2
    obtain rfl : g = g2 := Option.some.inj hg2
    exact hown
  · intro x hx
    exact Nat.lt_of_lt_of_le (hr.inG x hx) hg.size
end Go.Proofs.YtppmoajoffeleaaDoor
namespace Go.Proofs.YtppmoajoffeleaaDoor
set_option linter.unusedSimpArgs false
set_option linter.unusedVariables false
set_option maxRecDepth 100000
open Go.RowKit
def fk (s : ByteArray) : Nat → List V → Int
  | i, k :: _ :: r => if k.k = 5 ∧ k.s = s then (i : Int) else fk s (i + 2) r
  | _, _ => -1
theorem fk_step (s : ByteArray) (ts : List V) (i : Nat) (hi : i + 1 < ts.length) : fk s i (ts.drop i) = if ts[i].k = 5 ∧ ts[i].s = s then (i : Int) else fk s (i + 2) (ts.drop (i + 2)) := by
  rw [List.drop_eq_getElem_cons (by omega : i < ts.length), List.drop_eq_getElem_cons hi, fk]
theorem fk_stop (s : ByteArray) (ts : List V) (i : Nat) (hi : ¬ i + 1 < ts.length) : fk s i (ts.drop i) = -1 := by
  cases h : ts.drop i with
  | nil => rw [fk]; intro _ _ _ h; cases h
  | cons a r =>
    cases r with
    | nil => rw [fk]; intro _ _ _ h; cases h
    | cons b r =>
      have := congrArg List.length h
      simp at this; omega
theorem fk_in (s : ByteArray) : ∀ (ts : List V), ts.length % 2 = 0 → ∀ i : Nat, (fk s i ts = -1 ∧ lkp s ts = none) ∨ ∃ j : Nat, j % 2 = 0 ∧ fk s i ts = ((i + j : Nat) : Int) ∧ ∃ h : j + 1 < ts.length, lkp s ts = some ts[j + 1] ∧ delK s ts = ts.take j ++ ts.drop (j + 2) ∧ ∀ y, setK s y ts = ts.set (j + 1) y :=
  pairs_ind (fun i => .inl ⟨(by rw [fk]; intro _ _ _ h; cases h), lkp_nil s⟩) (fun k x r _ ih i => by
    rw [fk, lkp]
    by_cases hc : k.k = 5 ∧ k.s = s
    · rw [if_pos hc, if_pos hc]
      refine .inr ⟨0, rfl, by simp, by simp, by simp, ?_, fun y => ?_⟩
      · rw [delK, if_pos hc]; simp
      · rw [setK, if_pos hc]; simp
    · rw [if_neg hc, if_neg hc]
      rcases ih (i + 2) with ⟨h1, h2⟩ | ⟨j, h0, h1, hj, h2, h3, h4⟩
      · exact .inl ⟨h1, h2⟩
      · refine .inr ⟨j + 2, by omega, by rw [h1]; congr 1; omega, by simp only [List.length_cons]; omega, ?_, ?_, fun y => ?_⟩
        · rw [h2]; simp
        · rw [delK, if_neg hc, h3]; simp
        · rw [setK, if_neg hc, h4]; simp)
set_option maxHeartbeats 1000000 in
theorem l02Key_any (w0 : World) (v : Value) (ts : List V) (h : RepS w0 v ts) (hl : ts.length ≤ 1048576) (s : ByteArray) (w : World) (hw : Below w0.heap.size w0 w) :
    Calls Tryd.prog 71 #[v, .string s] w fun e w' => e = .returned (.int .i64 (fk s 0 ts)) ∧ w = w' := by
  obtain ⟨a, b, off, cap, rfl, ha, hc, hm, sls, hel⟩ := h.opened
  have HA := Lib.hid ha; have HE := Lib.hid hel; have HW := Lib.hid hw
  clear ha hel h hw
  go_enter Tryd.func71, Tryd.ntmps71
  go_wp2_with fail
  go_loop [5] (fun i => ∃ j : Nat, j ≤ ts.length + 1 ∧ i = .int .i64 j ∧ Hid (fk s 0 ts = fk s j (ts.drop j))) (fun i => ts.length + 2 - (intOf i).toNat)
  case atStart => exact ⟨0, by omega, rfl, Lib.hid (by rw [List.drop_zero])⟩
  case round =>
    obtain ⟨j, hj, rfl, HF⟩ := hrel
    by_cases hlt : j + 1 < ts.length
    · have hne : ts ≠ [] := by intro e; rw [e] at hlt; simp at hlt
      obtain ⟨rfl, hbw⟩ := HA.out hne
      have hjl : j < ts.length := by omega
      obtain ⟨c0, c1, c2, c3, c4⟩ := (HE.out j hjl).1.keep (HW.out.block b hbw)
      have HS := Lib.hid (fk_step s ts j hlt)
      by_cases h5 : ts[j].k = 5
      · by_cases hs : ts[j].s = s
        · have HR := Lib.hid (show fk s 0 ts = (j : Int) by rw [HF.out, HS.out, if_pos ⟨h5, hs⟩])
          have t5 : (ts[j].k == 5) = true := by simpa using h5
          have ts2 := ba_yes hs
          clear h5 hs
          generalize ts[j].k = kk at *
          generalize ts[j].s = ss at *
          go_wp2_with fail
          go_ret
          exact ⟨by rw [HR.out]; rfl, rfl⟩
        · have HR := Lib.hid (show fk s 0 ts = fk s (j + 2) (ts.drop (j + 2)) by rw [HF.out, HS.out, if_neg (fun e => hs e.2)])
          have t5 : (ts[j].k == 5) = true := by simpa using h5
          have ts2 := ba_no hs
          clear h5 hs HF
          generalize ts[j].k = kk at *
          generalize ts[j].s = ss at *
          go_wp2_with fail
          go_round
          case rel => exact ⟨j + 2, by omega, by go_num, HR⟩
          case measure => simp [intOf]; omega
      · have HR := Lib.hid (show fk s 0 ts = fk s (j + 2) (ts.drop (j + 2)) by rw [HF.out, HS.out, if_neg (fun e => h5 e.1)])
        have t5 : (ts[j].k == 5) = false := by simpa using h5
        clear h5 HF
        generalize ts[j].k = kk at *
        generalize ts[j].s = ss at *
        go_wp2_with fail
        go_round
        case rel => exact ⟨j + 2, by omega, by go_num, HR⟩
        case measure => simp [intOf]; omega
    · have HR := Lib.hid (show fk s 0 ts = -1 by rw [HF.out]; exact fk_stop s ts j hlt)
      go_wp2_with fail
      go_ret
      exact ⟨by rw [HR.out]; rfl, rfl⟩
set_option maxHeartbeats 1000000 in
theorem find_any (w0 : World) (v : Value) (t : V) (h : Rep w0 v t) (hl : t.kids.length ≤ 1048576) (s : ByteArray) (w : World) (hw : Below w0.heap.size w0 w) :
    Calls Tryd.prog 67 #[v, .string s] w fun e w' => e = .returned (.int .i64 (if t.k = 8 then fk s 0 t.kids else -1)) ∧ Below w.heap.size w w' := by
  obtain ⟨sl, rfl, hwf, hr⟩ := h
  obtain ⟨a, b, off, cap, rfl, ha, hc, hm, sls, hel⟩ := hr.opened
  have HA := Lib.hid ha; have HE := Lib.hid hel; have HW := Lib.hid hw
  have BX := Lib.hid (Box.new w t.k t.n t.e t.s (.slice a t.kids.length cap) 26)
  have HAL := Lib.hid (show Below w.heap.size w (w.alloc (.cells #[.int .i64 t.k, .int .i64 t.n, .int .i64 t.e, .string t.s, .slice a t.kids.length cap] 26)) from (Below.refl _ _).alloc (Nat.le_refl _) _)
  have H8 := Lib.hid (show t.k = 8 ∨ ¬ t.k = 8 from Decidable.em _)
  clear ha hel hr hw hwf
  generalize hQ : (if t.k = 8 then fk s 0 t.kids else -1) = Q at *
  have HQ := Lib.hid hQ
  clear hQ
  unfold V.agg
  generalize t.kids = ts at *
  generalize t.k = k at *
  generalize t.n = n at *
  generalize t.e = ee at *
  generalize t.s = st at *
  go_enter Tryd.func67, Tryd.ntmps67
  go_upto_region 1 with fail
  generalize (w.alloc (.cells #[.int .i64 k, .int .i64 n, .int .i64 ee, .string st, .slice a ts.length cap] 26)) = W at *
  have HWW := Lib.hid (HW.out.trans (HAL.out.mono HW.out.size))
  obtain ⟨z0, z1, z2, z3, z4⟩ := BX.out.cells
  rcases H8.out with h8 | h8
  case inr =>
    have t8 : (k == 8) = false := by simpa using h8
    have HR := Lib.hid (show Q = -1 by rw [← HQ.out, if_neg h8])
    clear h8 H8 HQ
    go_wp2_with fail
    go_loop [5] (fun i => i = .int .i64 0) (fun i => 0)
    case atStart => rfl
    case round =>
      obtain rfl := hrel
      go_wp2_with fail
      go_ret
      exact ⟨by rw [HR.out]; rfl, HAL.out⟩
  have t8 : (k == 8) = true := by simpa using h8
  have HR8 := Lib.hid (show Q = fk s 0 ts by rw [← HQ.out, if_pos h8])
  clear h8 H8 HQ
  go_wp2_with fail
  go_loop [5] (fun i => ∃ j : Nat, j ≤ ts.length + 1 ∧ i = .int .i64 j ∧ Hid (fk s 0 ts = fk s j (ts.drop j))) (fun i => ts.length + 2 - (intOf i).toNat)
  case atStart => exact ⟨0, by omega, rfl, Lib.hid (by rw [List.drop_zero])⟩
  case round =>
    obtain ⟨j, hj, rfl, HF⟩ := hrel
    by_cases hlt : j + 1 < ts.length
    · have hne : ts ≠ [] := by intro e; rw [e] at hlt; simp at hlt
      obtain ⟨rfl, hbw⟩ := HA.out hne
      have hjl : j < ts.length := by omega
      obtain ⟨c0, c1, c2, c3, c4⟩ := (HE.out j hjl).1.keep (HWW.out.block b hbw)
      have HS := Lib.hid (fk_step s ts j hlt)
      by_cases h5 : ts[j].k = 5
      · by_cases hs : ts[j].s = s
        · have HR := Lib.hid (show fk s 0 ts = (j : Int) by rw [HF.out, HS.out, if_pos ⟨h5, hs⟩])
          have t5 : (ts[j].k == 5) = true := by simpa using h5
          have ts2 := ba_yes hs
          clear h5 hs
          generalize ts[j].k = kk at *
          generalize ts[j].s = ss at *
          go_wp2_with fail
          go_ret
          exact ⟨by rw [HR8.out, HR.out]; rfl, HAL.out⟩
        · have HR := Lib.hid (show fk s 0 ts = fk s (j + 2) (ts.drop (j + 2)) by rw [HF.out, HS.out, if_neg (fun e => hs e.2)])
          have t5 : (ts[j].k == 5) = true := by simpa using h5
          have ts2 := ba_no hs
          clear h5 hs HF
          generalize ts[j].k = kk at *
          generalize ts[j].s = ss at *
          go_wp2_with fail
          go_round
          case rel => exact ⟨j + 2, by omega, by go_num, HR⟩
          case measure => simp [intOf]; omega
      · have HR := Lib.hid (show fk s 0 ts = fk s (j + 2) (ts.drop (j + 2)) by rw [HF.out, HS.out, if_neg (fun e => h5 e.1)])
        have t5 : (ts[j].k == 5) = false := by simpa using h5
        clear h5 HF
        generalize ts[j].k = kk at *
        generalize ts[j].s = ss at *
        go_wp2_with fail
        go_round
        case rel => exact ⟨j + 2, by omega, by go_num, HR⟩
        case measure => simp [intOf]; omega
    · have HR := Lib.hid (show fk s 0 ts = -1 by rw [HF.out]; exact fk_stop s ts j hlt)
      go_wp2_with fail
      go_ret
      exact ⟨by rw [HR8.out, HR.out]; rfl, HAL.out⟩
end Go.Proofs.YtppmoajoffeleaaDoor
