/- Lemmas for the statement of the last text of this claim: texts joined. -/
import Derived.Test.YtgbgeocmjdgmoaaDoorFnMsgK01
import Derived.Test.YtgbgeocmjdgmoaaDoorFnMsgK03
import Derived.Test.YtgbgeocmjdgmoaaDoorFnMsgK04
import Derived.Test.YtgbgeocmjdgmoaaDoorFnMsgK05
import Derived.Deep.RegionWith
import Derived.Deep.QuietTactic
import Derived.BigQuiet
import Derived.ChangeSlices
namespace Go.Proofs.YtgbgeocmjdgmoaaDoor
set_option linter.unusedSimpArgs false
set_option linter.unusedVariables false
set_option maxRecDepth 100000
open Go.RowKit
def signN (n : Int) (m : Nat) : Int := if 8 ≤ m then n else if n % 256 ^ m < 256 ^ m / 2 then n % 256 ^ m else n % 256 ^ m - 256 ^ m
def mpNum (n : Int) : List UInt8 :=
  if -32 ≤ n ∧ n ≤ 127 then bigZ 1 n else if 0 ≤ n ∧ n ≤ 255 then 204 :: bigZ 1 n else if 0 ≤ n ∧ n ≤ 65535 then 205 :: bigZ 2 n
  else if 0 ≤ n ∧ n ≤ 4294967295 then 206 :: bigZ 4 n else if 0 ≤ n then 207 :: bigZ 8 n else if -128 ≤ n then 208 :: bigZ 1 n
  else if -32768 ≤ n then 209 :: bigZ 2 n else if -2147483648 ≤ n then 210 :: bigZ 4 n else 211 :: bigZ 8 n
def mpMany (n least low one two : Int) : List UInt8 :=
  if n < least then bigZ 1 (low + n) else if n < 256 ∧ 0 < one then bigZ 1 one ++ bigZ 1 n else bigZ 1 two ++ bigZ 2 n
def mpOwn (t : V) : List UInt8 :=
  if t.k = 0 then [192] else if t.k = 1 then [194] else if t.k = 2 then [195] else if t.k = 3 then mpNum t.n
  else if t.k = 4 then [199, 9, 4] ++ bigZ 1 t.e ++ bigZ 8 t.n
  else if t.k = 5 then mpMany t.s.size 32 160 217 218 ++ t.s.data.toList else if t.k = 6 then mpMany t.s.size 0 0 196 197 ++ t.s.data.toList
  else if t.k = 7 then mpMany t.kids.length 16 144 0 220 else if t.k = 8 then mpMany (t.kids.length / 2 : Nat) 16 128 0 222 else [199, 4, 6] ++ bigZ 4 t.n
mutual
def mpL : V → List UInt8
  | .mk k n e s ks => mpOwn (.mk k n e s ks) ++ mpsL ks
def mpsL : List V → List UInt8
  | [] => []
  | t :: ts => mpL t ++ mpsL ts
 end
theorem mpL_eq (t : V) : mpL t = mpOwn t ++ mpsL t.kids := by cases t; rw [mpL]; rfl
theorem mpsL_append : ∀ a b : List V, mpsL (a ++ b) = mpsL a ++ mpsL b
  | [], b => by simp [mpsL]
  | t :: a, b => by rw [List.cons_append, mpsL, mpsL, mpsL_append a b, List.append_assoc]
theorem mpsL_take (ts : List V) (j : Nat) (hj : j < ts.length) : mpsL (ts.take (j + 1)) = mpsL (ts.take j) ++ mpL ts[j] := by
  rw [List.take_succ_eq_append_getElem hj, mpsL_append, mpsL, mpsL, List.append_nil]
theorem mpNum_le (n : Int) : (mpNum n).length ≤ 9 := by
  unfold mpNum
  repeat' split
  all_goals simp [bigZ_length]
theorem mpMany_le (n least low one two : Int) : (mpMany n least low one two).length ≤ 3 := by
  unfold mpMany
  repeat' split
  all_goals simp [bigZ_length]
theorem mpOwn_le (t : V) (h : t.s.size ≤ 2000) : (mpOwn t).length ≤ 2050 := by
  unfold mpOwn
  have hs : t.s.data.toList.length = t.s.size := Array.length_toList
  repeat' split
  all_goals first
    | (simp only [List.length_cons, List.length_nil]; omega)
    | (have := mpNum_le t.n; omega)
    | (have := mpMany_le t.s.size 32 160 217 218; simp only [List.length_append]; omega)
    | (have := mpMany_le t.s.size 0 0 196 197; simp only [List.length_append]; omega)
    | (have := mpMany_le t.kids.length 16 144 0 220; omega)
    | (have := mpMany_le (t.kids.length / 2 : Nat) 16 128 0 222; omega)
    | (simp only [List.length_append, List.length_cons, List.length_nil, bigZ_length]; omega)
mutual
theorem mp_le : ∀ (t : V) (d : Int), rightB t d = true → (mpL t).length ≤ 2050 * t.nodes
  | .mk k n e s ks, d, h => by
    have h1 := mpOwn_le (.mk k n e s ks) (node_small (rightB_leaf h).1)
    have h2 := mps_le ks (d - 1) (right_kids h)
    rw [mpL_eq, List.length_append, V.nodes_eq]
    show (mpOwn (.mk k n e s ks)).length + (mpsL ks).length ≤ 2050 * (1 + nodess ks)
    omega
theorem mps_le : ∀ (ts : List V) (d : Int), rightsB ts d = true → (mpsL ts).length ≤ 2050 * nodess ts
  | [], _, _ => by simp [mpsL]
  | t :: ts, d, h => by
    rw [rightsB, Bool.and_eq_true] at h
    have h1 := mp_le t d h.1
    have h2 := mps_le ts d h.2
    rw [mpsL, List.length_append, nodess]; omega
 end
theorem mps_take_le (ts : List V) (j : Nat) : (mpsL (ts.take j)).length ≤ (mpsL ts).length := by
  have := mpsL_append (ts.take j) (ts.drop j)
  rw [List.take_append_drop] at this
  rw [this, List.length_append]; omega
def mpB (t : V) : List UInt8 := if okT t then mpL t else []
theorem mpB_le (t : V) : (mpB t).length ≤ 615000 := by
  unfold mpB
  split
  · rename_i h
    have h1 := ok_small h
    simp only [okT, Bool.and_eq_true] at h
    have := mp_le t 12 h.1
    omega
  · simp
def wgo (s : ByteArray) (i m : Nat) : Option Int := if i + m ≤ s.size then some (wrap64 (wval (sub s.data.toList i m))) else none
def mgByte (s : ByteArray) (g : Nat → Nat → MG) (b i l : Nat) : MG :=
  if b < 128 then mgLeaf 3 b 0 i l
  else if b < 144 then mgNode 8 0 (mgKids g (2 * (b - 128)) i l)
  else if b < 160 then mgNode 7 0 (mgKids g (b - 144) i l)
  else if b < 192 then mgStr s 5 i (b - 160) l
  else if 224 ≤ b then mgLeaf 3 ((b : Int) - 256) 0 i l
  else if 204 ≤ b ∧ b ≤ 207 then (wgo s i (2 ^ (b - 204))).bind fun n => mgLeaf 3 n 0 (i + 2 ^ (b - 204)) l
  else if 208 ≤ b ∧ b ≤ 211 then (wgo s i (2 ^ (b - 208))).bind fun n => mgLeaf 3 (signN n (2 ^ (b - 208))) 0 (i + 2 ^ (b - 208)) l
  else if b = 192 then mgLeaf 0 0 0 i l
  else if b = 194 ∨ b = 195 then mgLeaf ((b : Int) - 193) 0 0 i l
  else if b = 196 ∨ b = 197 then (wgo s i (b - 195)).bind fun n => mgStr s 6 (i + (b - 195)) n.toNat l
  else if b = 199 then (wgo s i 1).bind fun z => (wgo s (i + 1) 1).bind fun q =>
    if z = 9 ∧ q = 4 then (wgo s (i + 2) 1).bind fun e => (wgo s (i + 3) 8).bind fun n => mgLeaf 4 n (signN e 1) (i + 11) l
    else if z = 4 ∧ q = 6 then (wgo s (i + 2) 4).bind fun n => mgNode 9 n (mgKids g 1 (i + 6) l)
    else none
  else if b = 217 ∨ b = 218 then (wgo s i (b - 216)).bind fun n => mgStr s 5 (i + (b - 216)) n.toNat l
  else if b = 220 then (wgo s i 2).bind fun n => mgNode 7 0 (mgKids g n.toNat (i + 2) l)
  else if b = 222 then (wgo s i 2).bind fun n => mgNode 8 0 (mgKids g (2 * n.toNat) (i + 2) l)
  else none
def mget (s : ByteArray) : Nat → Nat → Nat → MG
  | 0, _, _ => none
  | f + 1, i, l => if h : i < s.size then (if l = 0 then none else mgByte s (mget s f) s[i].toNat (i + 1) (l - 1)) else none
theorem mgood_bind {s : ByteArray} {i0 l i m : Nat} {f : Int → MG} (h : ∀ n, In64 n → i + m ≤ s.size → MGood s i0 l (f n)) : MGood s i0 l ((wgo s i m).bind f) := by
  intro v j q h1
  unfold wgo at h1
  split at h1
  · rename_i h2
    rw [Option.bind_some] at h1
    exact h _ (by unfold In64 wrap64; omega) h2 v j q h1
  · rw [Option.bind_none] at h1; cases h1
theorem signN_in {n : Int} (m : Nat) (h : In64 n) : In64 (signN n m) := by
  unfold signN
  split
  · exact h
  · have h1 : (256 : Nat) ^ m ≤ 256 ^ 7 := Nat.pow_le_pow_right (by decide) (by omega)
    have h2 : (0 : Nat) < 256 ^ m := Nat.pos_of_ne_zero (by simp)
    have h3 : (256 : Int) ^ m = ((256 ^ m : Nat) : Int) := by simp
    rw [h3]
    generalize (256 : Nat) ^ m = P at *
    have h4 := Int.emod_nonneg n (show (P : Int) ≠ 0 by omega)
    have h5 := Int.emod_lt_of_pos n (show (0 : Int) < (P : Int) by omega)
    generalize n % (P : Int) = q at *
    unfold In64
    split <;> omega
theorem mgByte_good {s : ByteArray} {g : Nat → Nat → MG} (hs : s.size ≤ 1048576) (hg : ∀ i l, MGood s i l (g i l)) (b i l : Nat) (hb : b < 256) (hi : i < s.size) : MGood s i (l + 1) (mgByte s g b (i + 1) l) := by
  have z0 : In64 0 := by unfold In64; omega
  have zk : ∀ k : Int, 0 ≤ k → k ≤ 255 → In64 k := fun k h1 h2 => by unfold In64; omega
  unfold mgByte
  refine mg_ite (fun h1 => mgLeaf_good (by omega) (by omega) (zk _ (by omega) (by omega)) (zk _ (by omega) (by omega)) z0) (fun h1 => ?_)
  refine mg_ite (fun h2 => mgNode_good (by omega) (zk _ (by omega) (by omega)) z0 (mgKids_good hg _ _ _ (by omega))) (fun h2 => ?_)
  refine mg_ite (fun h3 => mgNode_good (by omega) (zk _ (by omega) (by omega)) z0 (mgKids_good hg _ _ _ (by omega))) (fun h3 => ?_)
  refine mg_ite (fun h4 => mgStr_good hs (by omega) (zk _ (by omega) (by omega))) (fun h4 => ?_)
  refine mg_ite (fun h5 => mgLeaf_good (by omega) (by omega) (zk _ (by omega) (by omega)) (by unfold In64; omega) z0) (fun h5 => ?_)
  refine mg_ite (fun h6 => mgood_bind fun n hn h => mgLeaf_good (by have := Nat.two_pow_pos (b - 204); omega) (by omega) (zk _ (by omega) (by omega)) hn z0) (fun h6 => ?_)
  refine mg_ite (fun h7 => mgood_bind fun n hn h => mgLeaf_good (by have := Nat.two_pow_pos (b - 208); omega) (by omega) (zk _ (by omega) (by omega)) (signN_in _ hn) z0) (fun h7 => ?_)
  refine mg_ite (fun h8 => mgLeaf_good (by omega) (by omega) z0 z0 z0) (fun h8 => ?_)
  refine mg_ite (fun h9 => mgLeaf_good (by omega) (by omega) (zk _ (by omega) (by omega)) z0 z0) (fun h9 => ?_)
  refine mg_ite (fun h10 => mgood_bind fun n hn h => mgStr_good hs (by omega) (zk _ (by omega) (by omega))) (fun h10 => ?_)
  refine mg_ite (fun h11 => mgood_bind fun z hz h => mgood_bind fun q hq h2 => ?_) (fun h11 => ?_)
  · refine mg_ite (fun h12 => mgood_bind fun e he h3 => mgood_bind fun n hn h4 => mgLeaf_good (by omega) (by omega) (zk _ (by omega) (by omega)) hn (signN_in _ he)) (fun h12 => ?_)
    exact mg_ite (fun h13 => mgood_bind fun n hn h3 => mgNode_good (by omega) (zk _ (by omega) (by omega)) hn (mgKids_good hg _ _ _ (by omega))) (fun _ => mgood_none _ _ _)
  refine mg_ite (fun h14 => mgood_bind fun n hn h => mgStr_good hs (by omega) (zk _ (by omega) (by omega))) (fun h14 => ?_)
  refine mg_ite (fun h15 => mgood_bind fun n hn h => mgNode_good (by omega) (zk _ (by omega) (by omega)) z0 (mgKids_good hg _ _ _ (by omega))) (fun h15 => ?_)
  exact mg_ite (fun h16 => mgood_bind fun n hn h => mgNode_good (by omega) (zk _ (by omega) (by omega)) z0 (mgKids_good hg _ _ _ (by omega))) (fun _ => mgood_none _ _ _)
theorem mget_good {s : ByteArray} (hs : s.size ≤ 1048576) : ∀ f i l, MGood s i l (mget s f i l)
  | 0, i, l => mgood_none _ _ _
  | f + 1, i, l => by
    rw [mget]
    split
    · rename_i h
      split
      · exact mgood_none _ _ _
      · obtain ⟨l', rfl⟩ : ∃ l', l = l' + 1 := ⟨l - 1, by omega⟩
        exact mgByte_good hs (mget_good hs f) _ i l' (by have := (s[i]).toNat_lt; omega) h
    · exact mgood_none _ _ _
theorem mgKids_many {s : ByteArray} {g : Nat → Nat → MG} (hg : ∀ i l, MGood s i l (g i l)) {k i l : Nat} (hi : i ≤ s.size) (h : l < k) : mgKids g k i l = none := by
  cases hp : mgKids g k i l with
  | none => rfl
  | some p =>
    obtain ⟨vs, j, m⟩ := p
    have := mgKids_good hg k i l hi vs j m hp
    have h2 := nodess_ge vs
    have h3 := this.2.2
    omega
def msgR (s : ByteArray) (i : Int) : V × Int :=
  if 0 ≤ i ∧ i ≤ s.size then (match mget s 13 i.toNat 300 with
    | some (v, j, _) => if mpB v = (s.extract i.toNat j).data.toList then (v, (j : Int)) else (.mk 0 0 0 ⟨#[]⟩ [], -1)
    | none => (.mk 0 0 0 ⟨#[]⟩ [], -1))
  else (.mk 0 0 0 ⟨#[]⟩ [], -1)
end Go.Proofs.YtgbgeocmjdgmoaaDoor
namespace Go.Proofs.YtgbgeocmjdgmoaaDoor
set_option linter.unusedSimpArgs false
set_option linter.unusedVariables false
set_option maxRecDepth 100000
open Go.RowKit
theorem and_mask (n : Int) (k : Nat) (hk : k ≤ 56) : bits BinOp.and IntKind.i64 n ((2 ^ k - 1 : Nat) : Int) = n % (2 ^ k : Nat) := by
  have hk2 : 2 ^ k ≤ 2 ^ 56 := Nat.pow_le_pow_right (by decide) hk
  have hpos : 0 < 2 ^ k := Nat.pos_of_ne_zero (by simp)
  have h3 : 2 ^ k - 1 < 2 ^ 64 := by omega
  have hdvd : ((2 ^ k : Nat) : Int) ∣ ((2 ^ 64 : Nat) : Int) := Int.natCast_dvd_natCast.2 (Nat.pow_dvd_pow 2 (by omega))
  have h4 : (n % ((2 ^ 64 : Nat) : Int)) % ((2 ^ k : Nat) : Int) = n % ((2 ^ k : Nat) : Int) := Int.emod_emod_of_dvd n hdvd
  have h0 : 0 ≤ n % ((2 ^ 64 : Nat) : Int) := Int.emod_nonneg _ (by decide)
  have key : (((BitVec.ofInt 64 n &&& BitVec.ofInt 64 (((2 ^ k - 1 : Nat)) : Int)).toNat : Nat) : Int) = n % ((2 ^ k : Nat) : Int) := by
    rw [BitVec.toNat_and, BitVec.ofInt_natCast, BitVec.toNat_ofNat, BitVec.toNat_ofInt, Nat.mod_eq_of_lt h3, Nat.and_two_pow_sub_one_eq_mod, Int.natCast_emod, Int.toNat_of_nonneg h0, h4]
  have hlt : n % ((2 ^ k : Nat) : Int) < ((2 ^ k : Nat) : Int) := Int.emod_lt_of_pos _ (by omega)
  have hge : 0 ≤ n % ((2 ^ k : Nat) : Int) := Int.emod_nonneg _ (by omega)
  show IntKind.i64.wrap (((BitVec.ofInt 64 n &&& BitVec.ofInt 64 (((2 ^ k - 1 : Nat)) : Int)).toNat : Nat) : Int) = _
  rw [key]
  generalize n % ((2 ^ k : Nat) : Int) = q at *
  simp only [IntKind.wrap, IntKind.signed, IntKind.bits]
  simp
  omega
theorem sign_shift (n : Int) (m : Nat) (h1 : 1 ≤ m) (h8 : m ≤ 8) (h : In64 n) : wrap64 (n * 2 ^ (64 - 8 * m)) / 2 ^ (64 - 8 * m) = signN n m := by
  have hm : m = 1 ∨ m = 2 ∨ m = 3 ∨ m = 4 ∨ m = 5 ∨ m = 6 ∨ m = 7 ∨ m = 8 := by omega
  unfold In64 at h
  unfold signN wrap64
  rcases hm with rfl | rfl | rfl | rfl | rfl | rfl | rfl | rfl
  all_goals (simp; try (split <;> omega))
  omega
theorem SignOf_impl (n : Int) (m : Nat) (w : World) (h1 : 1 ≤ m) (h8 : m ≤ 8) (h : In64 n) : Calls Tryd.prog 52 #[.int .i64 n, .int .i64 m] w fun e w' => e = .returned (.int .i64 (signN n m)) ∧ w' = w := by
  have HS := Lib.hid (sign_shift n m h1 h8 h)
  go_enter Tryd.func52, Tryd.ntmps52
  go_wp2_with (go_at_call 105; refine (within_yes _ _ _ _ (by omega) (by omega)).mono ?_; rintro e w' ⟨rfl, rfl⟩)
  go_ret
  exact ⟨by rw [← HS.out]; rfl, rfl⟩
theorem SignOf_spec8 (n : Int) (w : World) : Calls Tryd.prog 53 #[.int .i64 n, .int .i64 8] w fun e w' => e = .returned (.int .i64 n) ∧ w' = w := by
  go_enter Tryd.func53, Tryd.ntmps53
  go_wp2_with (go_at_call 102; refine (l01In_no _ _ _ _ (by omega)).mono ?_; rintro e w' ⟨rfl, rfl⟩)
  go_ret
  exact ⟨rfl, rfl⟩
theorem pow_step (i : Nat) (h : i < 7) : wrap64 (((256 ^ i : Nat) : Int) * 256) = ((256 ^ (i + 1) : Nat) : Int) := by
  have hm : i = 0 ∨ i = 1 ∨ i = 2 ∨ i = 3 ∨ i = 4 ∨ i = 5 ∨ i = 6 := by omega
  rcases hm with rfl | rfl | rfl | rfl | rfl | rfl | rfl <;> simp [wrap64]
theorem SignOf_spec (n : Int) (m : Nat) (w : World) (h1 : 1 ≤ m) (h7 : m ≤ 7) : Calls Tryd.prog 53 #[.int .i64 n, .int .i64 m] w fun e w' => e = .returned (.int .i64 (signN n m)) ∧ w' = w := by
  have IN := Lib.hid (fun W => l01In_yes m 1 7 W (by omega) (by omega))
  have hP : (256 : Nat) ^ m = 2 ^ (8 * m) := by rw [Nat.pow_mul]
  have h2 : (256 : Nat) ^ m ≤ 256 ^ 7 := Nat.pow_le_pow_right (by decide) (by omega)
  have h3 : (256 : Nat) ^ 1 ≤ 256 ^ m := Nat.pow_le_pow_right (by decide) h1
  have hw1 : wrap64 (((256 ^ m : Nat) : Int) - 1) = ((2 ^ (8 * m) - 1 : Nat) : Int) := by rw [← hP]; unfold wrap64; omega
  have hA := and_mask n (8 * m) (by omega)
  rw [← hw1] at hA
  rw [← hP] at hA
  have hw3 : wrap64 (((256 ^ m : Nat) : Int) - 1) = ((256 ^ m : Nat) : Int) - 1 := by unfold wrap64; omega
  rw [hw3] at hA
  clear hw1
  have hS : signN n m = if n % ((256 ^ m : Nat) : Int) < ((256 ^ m : Nat) : Int) / 2 then n % ((256 ^ m : Nat) : Int) else n % ((256 ^ m : Nat) : Int) - ((256 ^ m : Nat) : Int) := by
    unfold signN; rw [if_neg (by omega)]; simp
  have HS := Lib.hid hS
  have HPW := Lib.hid (fun i hi => pow_step i hi)
  have HP1 := Lib.hid (show (256 : Nat) ^ 0 = 1 from rfl)
  have hb0 : ((256 ^ m : Nat) : Int) ≤ 72057594037927936 := by omega
  have hge : 0 ≤ n % ((256 ^ m : Nat) : Int) := Int.emod_nonneg _ (by omega)
  have hlt : n % ((256 ^ m : Nat) : Int) < ((256 ^ m : Nat) : Int) := Int.emod_lt_of_pos _ (by omega)
  have hdv : ((256 ^ m : Nat) : Int).tdiv 2 = ((256 ^ m : Nat) : Int) / 2 := Int.tdiv_eq_ediv_of_nonneg (by omega)
  clear hS hP h2 h3
  go_enter Tryd.func53, Tryd.ntmps53
  go_wp2_with fail
  refine (IN.out _).mono ?_
  rintro e w1 ⟨rfl, rfl⟩
  go_wp2_with fail
  go_loopw [5, 6] (fun a i wr => ∃ j : Nat, j ≤ m ∧ i = .int .i64 j ∧ a = .int .i64 ((256 ^ j : Nat) : Int) ∧ wr = w1) (fun _ i _ => m + 1 - (intOf i).toNat)
  case atStart => exact ⟨0, by omega, rfl, rfl, rfl⟩
  case round =>
    obtain ⟨j, hj, rfl, rfl, rfl⟩ := hrel
    by_cases hlt2 : j < m
    · have hs := HPW.out j (by omega)
      go_wp2_with fail
      go_roundw
      case rel => exact ⟨j + 1, by omega, by go_num, by rw [← hs]; simp, trivial⟩
      case measure => simp [intOf]; omega
    · obtain rfl : j = m := by omega
      have HA := Lib.hid hA
      generalize ((256 ^ j : Nat) : Int) = P at *
      clear hA hdv HP1 HPW
      go_wp2_with fail
      · rename_i hh
        rw [HA.out] at hh
        have hw2 : wrap64 (n % P - P) = n % P - P := by unfold wrap64; omega
        go_ret
        exact ⟨by rw [HS.out, if_neg (by omega), ← hw2, ← HA.out]; rfl, rfl⟩
      · rename_i hh
        rw [HA.out] at hh
        go_ret
        exact ⟨by rw [HS.out, if_pos hh, ← HA.out]; rfl, rfl⟩
end Go.Proofs.YtgbgeocmjdgmoaaDoor
namespace Go.Proofs.YtgbgeocmjdgmoaaDoor
set_option linter.unusedSimpArgs false
set_option linter.unusedVariables false
set_option maxRecDepth 100000
open Go.RowKit
theorem cat3 (a b c : List UInt8) : (⟨a.toArray⟩ : ByteArray) ++ ⟨b.toArray⟩ ++ ⟨c.toArray⟩ = ⟨(a ++ b ++ c).toArray⟩ := by simp [ByteArray.ext_iff]
theorem PutWide_spec (n m : Int) (w : World) (hn : In64 n) (hm0 : 1 ≤ m) (hm : m ≤ 8) : Calls Tryd.prog 51 #[.int .i64 n, .int .i64 m] w (TxtRet w (bigZ m.toNat n)) := by
  obtain ⟨h1, h2⟩ := hn
  have IN := Lib.hid (fun W => l01In_yes m 1 8 W hm0 hm)
  have hx : ∃ x : Int, IntKind.u64.wrap n = x ∧ 0 ≤ x ∧ x < 18446744073709551616 ∧ bigZ m.toNat n = big m.toNat x.toNat := by
    by_cases h : 0 ≤ n
    · exact ⟨n, u64w n h (by omega), h, by omega, by rw [big_bigZ]; congr 1; omega⟩
    · refine ⟨n + 18446744073709551616, ?_, by omega, by omega, ?_⟩
      · unfold IntKind.wrap; simp [IntKind.bits, IntKind.signed]; omega
      · rw [big_bigZ, show (((n + 18446744073709551616).toNat : Nat) : Int) = n + 18446744073709551616 by omega, ← bigZ_neg m.toNat (n + 18446744073709551616) (by omega)]
        congr 1; omega
  obtain ⟨x, hx, x0, x1, he⟩ := hx
  have BG := Lib.hid (fun W => l05Big_int x m W x0 x1 (by omega) (by omega))
  rw [he]
  clear he h1 h2 x0 x1 hm0 hm
  go_enter Tryd.func51, Tryd.ntmps51
  go_wp2_with fail
  refine (IN.out _).mono ?_
  rintro e w1 ⟨rfl, rfl⟩
  go_wp2_with fail
  refine (BG.out _).mono ?_
  rintro e w1 ⟨rfl, hb⟩
  go_wp2_with fail
  go_ret
  exact ⟨rfl, hb⟩
theorem l06Int_0 (n : Int) (hn : In64 n)  (h0 : -32 ≤ n ∧ n ≤ 127) (w : World) : Calls Tryd.prog 186 #[.int .i64 n] w (TxtRet w (bigZ 1 n)) := by
  have I0 := Lib.hid (fun W => l01In_yes n (-32) 127 W (by omega) (by omega))
  have PW := Lib.hid (fun W => PutWide_spec n 1 W hn (by omega) (by omega))
  have S1 : ¬ 9223372036854775807 < 1 + (bigZ 1 n).length := by rw [bigZ_length]; omega
  clear h0 hn
  go_enter Tryd.func186, Tryd.ntmps186
  go_wp2_with fail
  refine (I0.out _).mono ?_
  rintro e w1 ⟨rfl, rfl⟩
  go_wp2_with fail
  refine (PW.out _).mono ?_
  rintro e w1 ⟨rfl, hb⟩
  go_wp2_with fail
  go_ret
  exact ⟨rfl, hb⟩
theorem l06Int_1 (n : Int) (hn : In64 n) (h0 : ¬ (-32 ≤ n ∧ n ≤ 127)) (h1 : 0 ≤ n ∧ n ≤ 255) (w : World) : Calls Tryd.prog 186 #[.int .i64 n] w (TxtRet w (204 :: bigZ 1 n)) := by
  have I0 := Lib.hid (fun W => l01In_no n (-32) 127 W (by omega))
  have I1 := Lib.hid (fun W => l01In_yes n 0 255 W (by omega) (by omega))
  have PW := Lib.hid (fun W => PutWide_spec n 1 W hn (by omega) (by omega))
  have S1 : ¬ 9223372036854775807 < 1 + (bigZ 1 n).length := by rw [bigZ_length]; omega
  clear h0 h1 hn
  go_enter Tryd.func186, Tryd.ntmps186
  go_wp2_with fail
  refine (I0.out _).mono ?_
  rintro e w1 ⟨rfl, rfl⟩
  go_wp2_with fail
  refine (I1.out _).mono ?_
  rintro e w1 ⟨rfl, rfl⟩
  go_wp2_with fail
  refine (PW.out _).mono ?_
  rintro e w1 ⟨rfl, hb⟩
  go_wp2_with fail
  go_ret
  exact ⟨ret_str (bstr_append [204] _), hb⟩
theorem l06Int_2 (n : Int) (hn : In64 n) (h0 : ¬ (-32 ≤ n ∧ n ≤ 127)) (h1 : ¬ (0 ≤ n ∧ n ≤ 255)) (h2 : 0 ≤ n ∧ n ≤ 65535) (w : World) : Calls Tryd.prog 186 #[.int .i64 n] w (TxtRet w (205 :: bigZ 2 n)) := by
  have I0 := Lib.hid (fun W => l01In_no n (-32) 127 W (by omega))
  have I1 := Lib.hid (fun W => l01In_no n 0 255 W (by omega))
  have I2 := Lib.hid (fun W => l01In_yes n 0 65535 W (by omega) (by omega))
  have PW := Lib.hid (fun W => PutWide_spec n 2 W hn (by omega) (by omega))
  have S1 : ¬ 9223372036854775807 < 1 + (bigZ 2 n).length := by rw [bigZ_length]; omega
  clear h0 h1 h2 hn
  go_enter Tryd.func186, Tryd.ntmps186
  go_wp2_with fail
  refine (I0.out _).mono ?_
  rintro e w1 ⟨rfl, rfl⟩
  go_wp2_with fail
  refine (I1.out _).mono ?_
  rintro e w1 ⟨rfl, rfl⟩
  go_wp2_with fail
  refine (I2.out _).mono ?_
  rintro e w1 ⟨rfl, rfl⟩
  go_wp2_with fail
  refine (PW.out _).mono ?_
  rintro e w1 ⟨rfl, hb⟩
  go_wp2_with fail
  go_ret
  exact ⟨ret_str (bstr_append [205] _), hb⟩
theorem l06Int_3 (n : Int) (hn : In64 n) (h0 : ¬ (-32 ≤ n ∧ n ≤ 127)) (h1 : ¬ (0 ≤ n ∧ n ≤ 255)) (h2 : ¬ (0 ≤ n ∧ n ≤ 65535)) (h3 : 0 ≤ n ∧ n ≤ 4294967295) (w : World) : Calls Tryd.prog 186 #[.int .i64 n] w (TxtRet w (206 :: bigZ 4 n)) := by
  have I0 := Lib.hid (fun W => l01In_no n (-32) 127 W (by omega))
  have I1 := Lib.hid (fun W => l01In_no n 0 255 W (by omega))
  have I2 := Lib.hid (fun W => l01In_no n 0 65535 W (by omega))
  have I3 := Lib.hid (fun W => l01In_yes n 0 4294967295 W (by omega) (by omega))
  have PW := Lib.hid (fun W => PutWide_spec n 4 W hn (by omega) (by omega))
  have S1 : ¬ 9223372036854775807 < 1 + (bigZ 4 n).length := by rw [bigZ_length]; omega
  clear h0 h1 h2 h3 hn
  go_enter Tryd.func186, Tryd.ntmps186
  go_wp2_with fail
  refine (I0.out _).mono ?_
  rintro e w1 ⟨rfl, rfl⟩
  go_wp2_with fail
  refine (I1.out _).mono ?_
  rintro e w1 ⟨rfl, rfl⟩
  go_wp2_with fail
  refine (I2.out _).mono ?_
  rintro e w1 ⟨rfl, rfl⟩
  go_wp2_with fail
  refine (I3.out _).mono ?_
  rintro e w1 ⟨rfl, rfl⟩
  go_wp2_with fail
  refine (PW.out _).mono ?_
  rintro e w1 ⟨rfl, hb⟩
  go_wp2_with fail
  go_ret
  exact ⟨ret_str (bstr_append [206] _), hb⟩
theorem l06Int_4 (n : Int) (hn : In64 n) (h0 : ¬ (-32 ≤ n ∧ n ≤ 127)) (h1 : ¬ (0 ≤ n ∧ n ≤ 255)) (h2 : ¬ (0 ≤ n ∧ n ≤ 65535)) (h3 : ¬ (0 ≤ n ∧ n ≤ 4294967295)) (h4 : 0 ≤ n) (w : World) : Calls Tryd.prog 186 #[.int .i64 n] w (TxtRet w (207 :: bigZ 8 n)) := by
  have I0 := Lib.hid (fun W => l01In_no n (-32) 127 W (by omega))
  have I1 := Lib.hid (fun W => l01In_no n 0 255 W (by omega))
  have I2 := Lib.hid (fun W => l01In_no n 0 65535 W (by omega))
  have I3 := Lib.hid (fun W => l01In_no n 0 4294967295 W (by omega))
  have PW := Lib.hid (fun W => PutWide_spec n 8 W hn (by omega) (by omega))
  have g4 : decide (0 ≤ n) = true := decide_eq_true (by omega)
  have S1 : ¬ 9223372036854775807 < 1 + (bigZ 8 n).length := by rw [bigZ_length]; omega
  clear h0 h1 h2 h3 h4 hn
  go_enter Tryd.func186, Tryd.ntmps186
  go_wp2_with fail
  refine (I0.out _).mono ?_
  rintro e w1 ⟨rfl, rfl⟩
  go_wp2_with fail
  refine (I1.out _).mono ?_
  rintro e w1 ⟨rfl, rfl⟩
  go_wp2_with fail
  refine (I2.out _).mono ?_
  rintro e w1 ⟨rfl, rfl⟩
  go_wp2_with fail
  refine (I3.out _).mono ?_
  rintro e w1 ⟨rfl, rfl⟩
  go_wp2_with fail
  refine (PW.out _).mono ?_
  rintro e w1 ⟨rfl, hb⟩
  go_wp2_with fail
  go_ret
  exact ⟨ret_str (bstr_append [207] _), hb⟩
theorem l06Int_5 (n : Int) (hn : In64 n) (h0 : ¬ (-32 ≤ n ∧ n ≤ 127)) (h1 : ¬ (0 ≤ n ∧ n ≤ 255)) (h2 : ¬ (0 ≤ n ∧ n ≤ 65535)) (h3 : ¬ (0 ≤ n ∧ n ≤ 4294967295)) (h4 : ¬ (0 ≤ n)) (h5 : -128 ≤ n) (w : World) : Calls Tryd.prog 186 #[.int .i64 n] w (TxtRet w (208 :: bigZ 1 n)) := by
  have I0 := Lib.hid (fun W => l01In_no n (-32) 127 W (by omega))
  have I1 := Lib.hid (fun W => l01In_no n 0 255 W (by omega))
  have I2 := Lib.hid (fun W => l01In_no n 0 65535 W (by omega))
  have I3 := Lib.hid (fun W => l01In_no n 0 4294967295 W (by omega))
  have PW := Lib.hid (fun W => PutWide_spec n 1 W hn (by omega) (by omega))
  have g4 : decide (0 ≤ n) = false := decide_eq_false (by omega)
  have g5 : decide (-128 ≤ n) = true := decide_eq_true (by omega)
  have S1 : ¬ 9223372036854775807 < 1 + (bigZ 1 n).length := by rw [bigZ_length]; omega
  clear h0 h1 h2 h3 h4 h5 hn
  go_enter Tryd.func186, Tryd.ntmps186
  go_wp2_with fail
  refine (I0.out _).mono ?_
  rintro e w1 ⟨rfl, rfl⟩
  go_wp2_with fail
  refine (I1.out _).mono ?_
  rintro e w1 ⟨rfl, rfl⟩
  go_wp2_with fail
  refine (I2.out _).mono ?_
  rintro e w1 ⟨rfl, rfl⟩
  go_wp2_with fail
  refine (I3.out _).mono ?_
  rintro e w1 ⟨rfl, rfl⟩
  go_wp2_with fail
  refine (PW.out _).mono ?_
  rintro e w1 ⟨rfl, hb⟩
  go_wp2_with fail
  go_ret
  exact ⟨ret_str (bstr_append [208] _), hb⟩
theorem l06Int_6 (n : Int) (hn : In64 n) (h0 : ¬ (-32 ≤ n ∧ n ≤ 127)) (h1 : ¬ (0 ≤ n ∧ n ≤ 255)) (h2 : ¬ (0 ≤ n ∧ n ≤ 65535)) (h3 : ¬ (0 ≤ n ∧ n ≤ 4294967295)) (h4 : ¬ (0 ≤ n)) (h5 : ¬ (-128 ≤ n)) (h6 : -32768 ≤ n) (w : World) : Calls Tryd.prog 186 #[.int .i64 n] w (TxtRet w (209 :: bigZ 2 n)) := by
  have I0 := Lib.hid (fun W => l01In_no n (-32) 127 W (by omega))
  have I1 := Lib.hid (fun W => l01In_no n 0 255 W (by omega))
  have I2 := Lib.hid (fun W => l01In_no n 0 65535 W (by omega))
  have I3 := Lib.hid (fun W => l01In_no n 0 4294967295 W (by omega))
  have PW := Lib.hid (fun W => PutWide_spec n 2 W hn (by omega) (by omega))
  have g4 : decide (0 ≤ n) = false := decide_eq_false (by omega)
  have g5 : decide (-128 ≤ n) = false := decide_eq_false (by omega)
  have g6 : decide (-32768 ≤ n) = true := decide_eq_true (by omega)
  have S1 : ¬ 9223372036854775807 < 1 + (bigZ 2 n).length := by rw [bigZ_length]; omega
  clear h0 h1 h2 h3 h4 h5 h6 hn
  go_enter Tryd.func186, Tryd.ntmps186
  go_wp2_with fail
  refine (I0.out _).mono ?_
  rintro e w1 ⟨rfl, rfl⟩
  go_wp2_with fail
  refine (I1.out _).mono ?_
  rintro e w1 ⟨rfl, rfl⟩
  go_wp2_with fail
  refine (I2.out _).mono ?_
  rintro e w1 ⟨rfl, rfl⟩
  go_wp2_with fail
  refine (I3.out _).mono ?_
  rintro e w1 ⟨rfl, rfl⟩
  go_wp2_with fail
  refine (PW.out _).mono ?_
  rintro e w1 ⟨rfl, hb⟩
  go_wp2_with fail
  go_ret
  exact ⟨ret_str (bstr_append [209] _), hb⟩
theorem l06Int_7 (n : Int) (hn : In64 n) (h0 : ¬ (-32 ≤ n ∧ n ≤ 127)) (h1 : ¬ (0 ≤ n ∧ n ≤ 255)) (h2 : ¬ (0 ≤ n ∧ n ≤ 65535)) (h3 : ¬ (0 ≤ n ∧ n ≤ 4294967295)) (h4 : ¬ (0 ≤ n)) (h5 : ¬ (-128 ≤ n)) (h6 : ¬ (-32768 ≤ n)) (h7 : -2147483648 ≤ n) (w : World) : Calls Tryd.prog 186 #[.int .i64 n] w (TxtRet w (210 :: bigZ 4 n)) := by
  have I0 := Lib.hid (fun W => l01In_no n (-32) 127 W (by omega))
  have I1 := Lib.hid (fun W => l01In_no n 0 255 W (by omega))
  have I2 := Lib.hid (fun W => l01In_no n 0 65535 W (by omega))
  have I3 := Lib.hid (fun W => l01In_no n 0 4294967295 W (by omega))
  have PW := Lib.hid (fun W => PutWide_spec n 4 W hn (by omega) (by omega))
  have g4 : decide (0 ≤ n) = false := decide_eq_false (by omega)
  have g5 : decide (-128 ≤ n) = false := decide_eq_false (by omega)
  have g6 : decide (-32768 ≤ n) = false := decide_eq_false (by omega)
  have g7 : decide (-2147483648 ≤ n) = true := decide_eq_true (by omega)
  have S1 : ¬ 9223372036854775807 < 1 + (bigZ 4 n).length := by rw [bigZ_length]; omega
  clear h0 h1 h2 h3 h4 h5 h6 h7 hn
  go_enter Tryd.func186, Tryd.ntmps186
  go_wp2_with fail
  refine (I0.out _).mono ?_
  rintro e w1 ⟨rfl, rfl⟩
  go_wp2_with fail
  refine (I1.out _).mono ?_
  rintro e w1 ⟨rfl, rfl⟩
  go_wp2_with fail
  refine (I2.out _).mono ?_
  rintro e w1 ⟨rfl, rfl⟩
  go_wp2_with fail
  refine (I3.out _).mono ?_
  rintro e w1 ⟨rfl, rfl⟩
  go_wp2_with fail
  refine (PW.out _).mono ?_
  rintro e w1 ⟨rfl, hb⟩
  go_wp2_with fail
  go_ret
  exact ⟨ret_str (bstr_append [210] _), hb⟩
theorem l06Int_8 (n : Int) (hn : In64 n) (h0 : ¬ (-32 ≤ n ∧ n ≤ 127)) (h1 : ¬ (0 ≤ n ∧ n ≤ 255)) (h2 : ¬ (0 ≤ n ∧ n ≤ 65535)) (h3 : ¬ (0 ≤ n ∧ n ≤ 4294967295)) (h4 : ¬ (0 ≤ n)) (h5 : ¬ (-128 ≤ n)) (h6 : ¬ (-32768 ≤ n)) (h7 : ¬ (-2147483648 ≤ n)) (w : World) : Calls Tryd.prog 186 #[.int .i64 n] w (TxtRet w (211 :: bigZ 8 n)) := by
  have I0 := Lib.hid (fun W => l01In_no n (-32) 127 W (by omega))
  have I1 := Lib.hid (fun W => l01In_no n 0 255 W (by omega))
  have I2 := Lib.hid (fun W => l01In_no n 0 65535 W (by omega))
  have I3 := Lib.hid (fun W => l01In_no n 0 4294967295 W (by omega))
  have PW := Lib.hid (fun W => PutWide_spec n 8 W hn (by omega) (by omega))
  have g4 : decide (0 ≤ n) = false := decide_eq_false (by omega)
  have g5 : decide (-128 ≤ n) = false := decide_eq_false (by omega)
  have g6 : decide (-32768 ≤ n) = false := decide_eq_false (by omega)
  have g7 : decide (-2147483648 ≤ n) = false := decide_eq_false (by omega)
  have S1 : ¬ 9223372036854775807 < 1 + (bigZ 8 n).length := by rw [bigZ_length]; omega
  clear h0 h1 h2 h3 h4 h5 h6 h7 hn
  go_enter Tryd.func186, Tryd.ntmps186
  go_wp2_with fail
  refine (I0.out _).mono ?_
  rintro e w1 ⟨rfl, rfl⟩
  go_wp2_with fail
  refine (I1.out _).mono ?_
  rintro e w1 ⟨rfl, rfl⟩
  go_wp2_with fail
  refine (I2.out _).mono ?_
  rintro e w1 ⟨rfl, rfl⟩
  go_wp2_with fail
  refine (I3.out _).mono ?_
  rintro e w1 ⟨rfl, rfl⟩
  go_wp2_with fail
  refine (PW.out _).mono ?_
  rintro e w1 ⟨rfl, hb⟩
  go_wp2_with fail
  go_ret
  exact ⟨ret_str (bstr_append [211] _), hb⟩
theorem l06Int_any (n : Int) (hn : In64 n) (w : World) : Calls Tryd.prog 186 #[.int .i64 n] w (TxtRet w (mpNum n)) := by
  unfold mpNum
  by_cases h0 : -32 ≤ n ∧ n ≤ 127
  · rw [if_pos h0]; exact l06Int_0 n hn h0 w
  rw [if_neg h0]
  by_cases h1 : 0 ≤ n ∧ n ≤ 255
  · rw [if_pos h1]; exact l06Int_1 n hn h0 h1 w
  rw [if_neg h1]
  by_cases h2 : 0 ≤ n ∧ n ≤ 65535
  · rw [if_pos h2]; exact l06Int_2 n hn h0 h1 h2 w
  rw [if_neg h2]
  by_cases h3 : 0 ≤ n ∧ n ≤ 4294967295
  · rw [if_pos h3]; exact l06Int_3 n hn h0 h1 h2 h3 w
  rw [if_neg h3]
  by_cases h4 : 0 ≤ n
  · rw [if_pos h4]; exact l06Int_4 n hn h0 h1 h2 h3 h4 w
  rw [if_neg h4]
  by_cases h5 : -128 ≤ n
  · rw [if_pos h5]; exact l06Int_5 n hn h0 h1 h2 h3 h4 h5 w
  rw [if_neg h5]
  by_cases h6 : -32768 ≤ n
  · rw [if_pos h6]; exact l06Int_6 n hn h0 h1 h2 h3 h4 h5 h6 w
  rw [if_neg h6]
  by_cases h7 : -2147483648 ≤ n
  · rw [if_pos h7]; exact l06Int_7 n hn h0 h1 h2 h3 h4 h5 h6 h7 w
  rw [if_neg h7]
  exact l06Int_8 n hn h0 h1 h2 h3 h4 h5 h6 h7 w
theorem l06Many_any (n least low one two : Int) (hn : 0 ≤ n ∧ n ≤ 2000) (hl : 0 ≤ low ∧ low ≤ 255) (h1 : 0 ≤ one ∧ one ≤ 255) (h2 : 0 ≤ two ∧ two ≤ 255) (w : World) :
    Calls Tryd.prog 187 #[.int .i64 n, .int .i64 least, .int .i64 low, .int .i64 one, .int .i64 two] w (TxtRet w (mpMany n least low one two)) := by
  unfold mpMany
  by_cases c1 : n < least
  · rw [if_pos c1]
    have hw0 : wrap64 (low + n) = low + n := by unfold wrap64; omega
    have PW := Lib.hid (fun W => PutWide_spec (low + n) 1 W (by unfold In64; omega) (by omega) (by omega))
    have t1 : decide (n < least) = true := decide_eq_true c1
    clear c1 hn hl h1 h2
    go_enter Tryd.func187, Tryd.ntmps187
    go_wp2_with fail
    refine (PW.out _).mono ?_
    rintro e w1 ⟨rfl, hb⟩
    go_wp2_with fail
    go_ret
    exact ⟨rfl, hb⟩
  · rw [if_neg c1]
    have t1 : decide (n < least) = false := decide_eq_false c1
    by_cases c2 : n < 256 ∧ 0 < one
    · rw [if_pos c2]
      have t2 : decide (n < 256) = true := decide_eq_true c2.1
      have t3 : decide (0 < one) = true := decide_eq_true c2.2
      have P1 := Lib.hid (fun W => PutWide_spec one 1 W (by unfold In64; omega) (by omega) (by omega))
      have P2 := Lib.hid (fun W => PutWide_spec n 1 W (by unfold In64; omega) (by omega) (by omega))
      have S1 : ¬ 9223372036854775807 < (bigZ 1 one).length + (bigZ 1 n).length := by rw [bigZ_length, bigZ_length]; omega
      clear c1 c2 hn hl h1 h2
      go_enter Tryd.func187, Tryd.ntmps187
      go_wp2_with fail
      refine (P1.out _).mono ?_
      rintro e w1 ⟨rfl, hb⟩
      go_wp2_with fail
      refine (P2.out _).mono ?_
      rintro e w2 ⟨rfl, hb2⟩
      go_wp2_with fail
      go_ret
      exact ⟨ret_str (bstr_append _ _), hb.trans (hb2.mono hb.size)⟩
    · rw [if_neg c2]
      have hcase : decide (n < 256) = false ∨ (decide (n < 256) = true ∧ decide (0 < one) = false) := by
        by_cases q : n < 256
        · exact .inr ⟨decide_eq_true q, decide_eq_false (fun h => c2 ⟨q, h⟩)⟩
        · exact .inl (decide_eq_false q)
      have P1 := Lib.hid (fun W => PutWide_spec two 1 W (by unfold In64; omega) (by omega) (by omega))
      have P2 := Lib.hid (fun W => PutWide_spec n 2 W (by unfold In64; omega) (by omega) (by omega))
      have S1 : ¬ 9223372036854775807 < (bigZ 1 two).length + (bigZ 2 n).length := by rw [bigZ_length, bigZ_length]; omega
      clear c1 c2 hn hl h1 h2
      rcases hcase with t2 | ⟨t2, t3⟩
      all_goals
        go_enter Tryd.func187, Tryd.ntmps187
        go_wp2_with fail
        refine (P1.out _).mono ?_
        rintro e w1 ⟨rfl, hb⟩
        go_wp2_with fail
        refine (P2.out _).mono ?_
        rintro e w2 ⟨rfl, hb2⟩
        go_wp2_with fail
        go_ret
        exact ⟨ret_str (bstr_append _ _), hb.trans (hb2.mono hb.size)⟩
set_option maxHeartbeats 1000000 in
theorem l06Put_0 (n e : Int) (s : ByteArray) (sl : Value) (w : World) : Calls Tryd.prog 124 #[.agg #[.int .i64 0, .int .i64 n, .int .i64 e, .string s, sl]] w (TxtRet w ([192])) := by
  go_enter Tryd.func124, Tryd.ntmps124
  go_wp2_with fail
  go_ret
  exact ⟨rfl, (by (with_reducible (repeat' (first | exact Below.refl _ _ | refine below_alloc ?_ _ ?_ | refine Below.setCell ?_ ?_ _ | refine Below.drew ?_ | refine below_drewN ?_ _ | refine below_step ?_ (by assumption) ?_ | refine below_mark ?_ (by assumption) ?_))); all_goals (first | omega | (simp; done) | (simp; omega)))⟩
set_option maxHeartbeats 1000000 in
theorem l06Put_1 (n e : Int) (s : ByteArray) (sl : Value) (w : World) : Calls Tryd.prog 124 #[.agg #[.int .i64 1, .int .i64 n, .int .i64 e, .string s, sl]] w (TxtRet w ([194])) := by
  go_enter Tryd.func124, Tryd.ntmps124
  go_wp2_with fail
  go_ret
  exact ⟨rfl, (by (with_reducible (repeat' (first | exact Below.refl _ _ | refine below_alloc ?_ _ ?_ | refine Below.setCell ?_ ?_ _ | refine Below.drew ?_ | refine below_drewN ?_ _ | refine below_step ?_ (by assumption) ?_ | refine below_mark ?_ (by assumption) ?_))); all_goals (first | omega | (simp; done) | (simp; omega)))⟩
set_option maxHeartbeats 1000000 in
theorem l06Put_2 (n e : Int) (s : ByteArray) (sl : Value) (w : World) : Calls Tryd.prog 124 #[.agg #[.int .i64 2, .int .i64 n, .int .i64 e, .string s, sl]] w (TxtRet w ([195])) := by
  go_enter Tryd.func124, Tryd.ntmps124
  go_wp2_with fail
  go_ret
  exact ⟨rfl, (by (with_reducible (repeat' (first | exact Below.refl _ _ | refine below_alloc ?_ _ ?_ | refine Below.setCell ?_ ?_ _ | refine Below.drew ?_ | refine below_drewN ?_ _ | refine below_step ?_ (by assumption) ?_ | refine below_mark ?_ (by assumption) ?_))); all_goals (first | omega | (simp; done) | (simp; omega)))⟩
set_option maxHeartbeats 1000000 in
theorem l06Put_3 (n e : Int) (hn : In64 n) (s : ByteArray) (sl : Value) (w : World) : Calls Tryd.prog 124 #[.agg #[.int .i64 3, .int .i64 n, .int .i64 e, .string s, sl]] w (TxtRet w (mpNum n)) := by
  have PH := Lib.hid (fun (W : World) => l06Int_any n hn W)
  go_enter Tryd.func124, Tryd.ntmps124
  go_wp2_with fail
  refine (PH.out _).mono ?_
  rintro x w1 ⟨rfl, hb1⟩
  go_wp2_with fail
  go_ret
  exact ⟨rfl, (by (with_reducible (repeat' (first | exact Below.refl _ _ | refine below_alloc ?_ _ ?_ | refine Below.setCell ?_ ?_ _ | refine Below.drew ?_ | refine below_drewN ?_ _ | refine below_step ?_ (by assumption) ?_ | refine below_mark ?_ (by assumption) ?_))); all_goals (first | omega | (simp; done) | (simp; omega)))⟩
set_option maxHeartbeats 1000000 in
theorem l06Put_4 (n e : Int) (hn : In64 n) (he : In64 e) (s : ByteArray) (sl : Value) (w : World) : Calls Tryd.prog 124 #[.agg #[.int .i64 4, .int .i64 n, .int .i64 e, .string s, sl]] w (TxtRet w ([199, 9, 4] ++ bigZ 1 e ++ bigZ 8 n)) := by
  have P1 := Lib.hid (fun (W : World) => PutWide_spec e 1 W he (by omega) (by omega))
  have P2 := Lib.hid (fun (W : World) => PutWide_spec n 8 W hn (by omega) (by omega))
  have S1 : ¬ 9223372036854775807 < 3 + (bigZ 1 e).length := by rw [bigZ_length]; omega
  have S2 : ¬ 9223372036854775807 < 3 + (bigZ 1 e).length + (bigZ 8 n).length := by rw [bigZ_length, bigZ_length]; omega
  have BX := Lib.hid (box_cells w 4 n e s sl 26 (Box.new w 4 n e s sl 26))
  go_enter Tryd.func124, Tryd.ntmps124
  obtain ⟨q0, q1, q2, q3, q4⟩ := BX.out
  go_wp2_with fail
  have hbw : Below w.heap.size w (w.alloc (.cells #[.int .i64 4, .int .i64 n, .int .i64 e, .string s, sl] 26)) := (by (with_reducible (repeat' (first | exact Below.refl _ _ | refine below_alloc ?_ _ ?_ | refine Below.setCell ?_ ?_ _ | refine Below.drew ?_ | refine below_drewN ?_ _ | refine below_step ?_ (by assumption) ?_ | refine below_mark ?_ (by assumption) ?_))); all_goals (first | omega | (simp; done) | (simp; omega)))
  go_region_held3 (fun w' => w'.cell? ⟨w.heap.size, 1, none⟩ = some (.int .i64 n) ∧ w'.cell? ⟨w.heap.size, 2, none⟩ = some (.int .i64 e) ∧ Below w.heap.size w w') (first | with_reducible exact ⟨by assumption, by assumption, by assumption⟩ | with_reducible assumption | exact ⟨q1, q2, hbw.drew⟩ | go_keep) (((first | with_reducible refine (P1.out _).mono ?_ | with_reducible refine (P2.out _).mono ?_); rintro e2 w2 ⟨rfl, hb2⟩; have hS := keep2b hb2 (by with_reducible assumption); obtain ⟨hS1, hS2, hS3⟩ := hS))
  go_wp2_with fail
  go_ret
  exact ⟨ret_str (cat3 _ _ _), hS3⟩
set_option maxHeartbeats 1000000 in
theorem l06Put_56 (k least low one two n e : Int) (hk : k = 5 ∧ least = 32 ∧ low = 160 ∧ one = 217 ∧ two = 218 ∨ k = 6 ∧ least = 0 ∧ low = 0 ∧ one = 196 ∧ two = 197) (s : ByteArray) (hs : s.size ≤ 2000) (sl : Value) (w : World) : Calls Tryd.prog 124 #[.agg #[.int .i64 k, .int .i64 n, .int .i64 e, .string s, sl]] w (TxtRet w (mpMany s.size least low one two ++ s.data.toList)) := by
  have P1 := Lib.hid (fun (W : World) => l06Many_any s.size least low one two (by omega) (by omega) (by omega) (by omega) W)
  have L1 := mpMany_le s.size least low one two
  generalize mpMany s.size least low one two = H at *
  have S1 : ¬ 9223372036854775807 < H.length + s.size := by omega
  have BX := Lib.hid (box_cells w k n e s sl 26 (Box.new w k n e s sl 26))
  clear L1
  have hbw : Below w.heap.size w (w.alloc (.cells #[.int .i64 k, .int .i64 n, .int .i64 e, .string s, sl] 26)) := (by (with_reducible (repeat' (first | exact Below.refl _ _ | refine below_alloc ?_ _ ?_ | refine Below.setCell ?_ ?_ _ | refine Below.drew ?_ | refine below_drewN ?_ _ | refine below_step ?_ (by assumption) ?_ | refine below_mark ?_ (by assumption) ?_))); all_goals (first | omega | (simp; done) | (simp; omega)))
  rcases hk with ⟨rfl, rfl, rfl, rfl, rfl⟩ | ⟨rfl, rfl, rfl, rfl, rfl⟩
  all_goals
    go_enter Tryd.func124, Tryd.ntmps124
    obtain ⟨q0, q1, q2, q3, q4⟩ := BX.out
    go_wp2_with fail
    go_region_held3 (fun w' => w'.cell? ⟨w.heap.size, 3, none⟩ = some (.string s) ∧ Below w.heap.size w w') (first | with_reducible exact ⟨by assumption, by assumption⟩ | with_reducible assumption | exact ⟨q3, hbw.drew⟩ | go_keep) (((with_reducible refine (P1.out _).mono ?_); rintro e2 w2 ⟨rfl, hb2⟩; have hS := keep1b hb2 (by with_reducible assumption); obtain ⟨hS1, hS3⟩ := hS))
    go_wp2_with fail
    go_ret
    exact ⟨ret_str (cat2 _ _), hS3⟩
set_option maxHeartbeats 2000000 in
theorem l06Put_any (w0 : World) : ∀ (N : Nat) (v : Value) (t : V) (d : Int), t.sz < N → rightB t d = true → Rep w0 v t → t.sz ≤ 1048576 → t.nodes ≤ 300 → ∀ (w : World), Below w0.heap.size w0 w →
    Calls Tryd.prog 124 #[v] w (TxtRet w (mpL t)) := by
  intro N
  induction N with
  | zero => intro v t d h; omega
  | succ N ih =>
  intro v t d hN hright h hsz hnd w hw
  obtain ⟨sl, rfl, hwf, hr⟩ := h
  have hts := V.sz_eq t
  have htn := V.nodes_eq t
  have hlen := szs_length t.kids
  obtain ⟨hn64, he64, hss⟩ : In64 t.n ∧ In64 t.e ∧ t.s.size ≤ 2000 := ⟨hwf.2.1, hwf.2.2.1, node_small (rightB_leaf hright).1⟩
  have hkin := kind_in hright
  have hC := mpL_eq t
  by_cases hpk : t.k ≠ 7 ∧ t.k ≠ 8 ∧ t.k ≠ 9
  · have hkids := plain_kids hright hpk
    rw [hkids, mpsL, List.append_nil] at hC
    rw [hC]
    unfold V.agg mpOwn
    have hcase : t.k = 0 ∨ t.k = 1 ∨ t.k = 2 ∨ t.k = 3 ∨ t.k = 4 ∨ t.k = 5 ∨ t.k = 6 := by omega
    rcases hcase with h | h | h | h | h | h | h
    · rw [if_pos h, h]; exact l06Put_0 _ _ _ _ _
    · rw [if_neg (by omega), if_pos h, h]; exact l06Put_1 _ _ _ _ _
    · rw [if_neg (by omega), if_neg (by omega), if_pos h, h]; exact l06Put_2 _ _ _ _ _
    · rw [if_neg (by omega), if_neg (by omega), if_neg (by omega), if_pos h, h]; exact l06Put_3 _ _ hn64 _ _ _
    · rw [if_neg (by omega), if_neg (by omega), if_neg (by omega), if_neg (by omega), if_pos h, h]; exact l06Put_4 _ _ hn64 he64 _ _ _
    · rw [if_neg (by omega), if_neg (by omega), if_neg (by omega), if_neg (by omega), if_neg (by omega), if_pos h, h]; exact l06Put_56 5 _ _ _ _ _ _ (.inl ⟨rfl, rfl, rfl, rfl, rfl⟩) _ hss _ _
    · rw [if_neg (by omega), if_neg (by omega), if_neg (by omega), if_neg (by omega), if_neg (by omega), if_neg (by omega), if_pos h, h]; exact l06Put_56 6 _ _ _ _ _ _ (.inr ⟨rfl, rfl, rfl, rfl, rfl⟩) _ hss _ _
  obtain ⟨a, b, off, cap, rfl, ha, hc, hm, sls, hel⟩ := hr.opened
  have HA := Lib.hid ha; have HE := Lib.hid hel; have HW := Lib.hid hw
  have hkr := right_kids hright
  have hln := nodess_ge t.kids
  have hl : t.kids.length ≤ 1048576 := by omega
  have V1 := Lib.hid (fun (j : Nat) (hj : j < t.kids.length) (W : World) (hW : Below w0.heap.size w0 W) => ih (t.kids[j].agg (sls j)) t.kids[j] (d - 1) (by have h1 := szs_mem (List.getElem_mem hj); omega) (rightsB_get hkr j hj) ⟨sls j, rfl, (HE.out j hj).2.1, (HE.out j hj).2.2⟩ (by have h1 := szs_mem (List.getElem_mem hj); omega) (by have h1 := nodess_mem (List.getElem_mem hj); omega) W hW)
  have HR := Lib.hid hC
  have BX := Lib.hid (Box.new w t.k t.n t.e t.s (.slice a t.kids.length cap) 26)
  have hle := mps_le t.kids (d - 1) hkr
  have hlh := mpOwn_le t hss
  have HL := Lib.hid (fun (j : Nat) (hj : j < t.kids.length) => show (mpOwn t ++ mpsL (t.kids.take j)).length + (mpL t.kids[j]).length ≤ 700000 by
    have e1 := mpsL_take t.kids j hj
    have e2 := mps_take_le t.kids (j + 1)
    have e3 := congrArg List.length e1
    rw [List.length_append] at e3
    rw [List.length_append]; omega)
  have HT := Lib.hid (fun (j : Nat) (hj : j < t.kids.length) => mpsL_take t.kids j hj)
  have hcase : (t.k == 7) = true ∧ mpOwn t = mpMany t.kids.length 16 144 0 220 ∨ (t.k == 7) = false ∧ (t.k == 8) = true ∧ mpOwn t = mpMany (t.kids.length / 2 : Nat) 16 128 0 222 ∨ (t.k == 7) = false ∧ (t.k == 8) = false ∧ mpOwn t = [199, 4, 6] ++ bigZ 4 t.n := by
    have hcs : t.k = 7 ∨ t.k = 8 ∨ t.k = 9 := by omega
    unfold mpOwn
    rcases hcs with h | h | h
    · exact .inl ⟨by simpa using h, by simp [h]⟩
    · exact .inr (.inl ⟨by rw [h]; rfl, by simpa using h, by simp [h]⟩)
    · exact .inr (.inr ⟨by rw [h]; rfl, by rw [h]; rfl, by simp [h]⟩)
  have P7 := Lib.hid (fun (W : World) => l06Many_any t.kids.length 16 144 0 220 (by omega) (by omega) (by omega) (by omega) W)
  have P8 := Lib.hid (fun (W : World) => l06Many_any (t.kids.length / 2 : Nat) 16 128 0 222 (by omega) (by omega) (by omega) (by omega) W)
  have P9 := Lib.hid (fun (W : World) => PutWide_spec t.n 4 W hn64 (by omega) (by omega))
  have S9 : ¬ 9223372036854775807 < 3 + (bigZ 4 t.n).length := by rw [bigZ_length]; omega
  have n0 : (t.k == 0) = false := by simp; omega
  have n1 : (t.k == 1) = false := by simp; omega
  have n2 : (t.k == 2) = false := by simp; omega
  have n3 : (t.k == 3) = false := by simp; omega
  have n4 : (t.k == 4) = false := by simp; omega
  have n5 : (t.k == 5) = false := by simp; omega
  have n6 : (t.k == 6) = false := by simp; omega
  clear ih hel ha hc hm hN hr hwf hlen hts htn hsz hnd hright hkr hle hlh hpk hkin hn64 he64 hss hC hw hln
  unfold V.agg
  generalize mpL t = R at *
  generalize mpOwn t = H at *
  generalize t.k = k at *
  generalize t.n = n at *
  generalize t.e = e at *
  generalize t.s = s at *
  generalize t.kids = ts at *
  have BXW := Lib.hid (show Below w.heap.size w (w.alloc (.cells #[.int .i64 k, .int .i64 n, .int .i64 e, .string s, .slice a ts.length cap] 26)) from (by (with_reducible (repeat' (first | exact Below.refl _ _ | refine below_alloc ?_ _ ?_ | refine Below.setCell ?_ ?_ _ | refine Below.drew ?_ | refine below_drewN ?_ _ | refine below_step ?_ (by assumption) ?_ | refine below_mark ?_ (by assumption) ?_))); all_goals (first | omega | (simp; done) | (simp; omega))))
  rcases hcase with ⟨t7, hh⟩ | ⟨t7, t8, hh⟩ | ⟨t7, t8, hh⟩
  · rw [← hh] at P7
    have PH := P7
    clear P7 P8 P9 S9 hh
    go_enter Tryd.func124, Tryd.ntmps124
    go_wp2_with fail
    refine (PH.out _).mono ?_
    rintro x1 w1 ⟨rfl, hb1⟩
    have hb0 := BXW.out.trans (hb1.mono BXW.out.size)
    have BX1 := Lib.hid (BX.out.stay hb1)
    go_wp2_with fail
    go_loopw [3, 4] (fun o i wr => ∃ j : Nat, j ≤ ts.length ∧ i = .int .i64 j ∧ o = bstr (H ++ mpsL (ts.take j)) ∧ Below w1.heap.size w1 wr) (fun _ i _ => ts.length + 1 - (intOf i).toNat)
    case atStart => exact ⟨0, by omega, rfl, by rw [List.take_zero, mpsL, List.append_nil], Below.refl _ _⟩
    case round =>
      obtain ⟨j, hj, rfl, rfl, hbl⟩ := hrel
      have HBL := Lib.hid (hb0.trans (hbl.mono hb0.size))
      obtain ⟨q0, -, -, -, q4⟩ := (BX1.out.stay hbl).cells
      by_cases hlt : j < ts.length
      · have hne : ts ≠ [] := by intro e; rw [e] at hlt; simp at hlt
        obtain ⟨rfl, hbw⟩ := HA.out hne
        have HWR := Lib.hid (HW.out.trans (HBL.out.mono HW.out.size))
        obtain ⟨c0, c1, c2, c3, c4⟩ := (HE.out j hlt).1.keep (HWR.out.block b hbw)
        have VJ := Lib.hid (fun (W : World) (hW : Below wr.heap.size wr W) => V1.out j hlt W (below_step HWR.out hW (by have := HWR.out.size; omega)))
        have hlj := HL.out j hlt
        have HTJ := Lib.hid (HT.out j hlt)
        obtain ⟨a3, cap3, hs3⟩ := (HE.out j hlt).2.2.slice
        rw [hs3] at c4 VJ
        clear hs3 V1
        unfold V.agg at VJ
        generalize mpL ts[j] = C at *
        generalize hQ : H ++ mpsL (ts.take j) = Q at *
        have HQ := Lib.hid hQ; clear hQ
        have S1 : ¬ 9223372036854775807 < Q.length + C.length := by omega
        clear hlj
        go_wp2_with fail
        refine (VJ.out _ ((by (with_reducible (repeat' (first | exact Below.refl _ _ | refine below_alloc ?_ _ ?_ | refine Below.setCell ?_ ?_ _ | refine Below.drew ?_ | refine below_drewN ?_ _ | refine below_step ?_ (by assumption) ?_ | refine below_mark ?_ (by assumption) ?_))); all_goals (first | omega | (simp; done) | (simp; omega))))).mono ?_
        rintro x w2 ⟨rfl, hb2⟩
        go_wp2_with fail
        go_roundw
        case rel => exact ⟨j + 1, by omega, by go_num, by rw [HTJ.out, bstr_append, ← List.append_assoc, HQ.out], hbl.trans (Below.mono ((by (with_reducible (repeat' (first | exact Below.refl _ _ | refine below_alloc ?_ _ ?_ | refine Below.setCell ?_ ?_ _ | refine Below.drew ?_ | refine below_drewN ?_ _ | refine below_step ?_ (by assumption) ?_ | refine below_mark ?_ (by assumption) ?_))); all_goals (first | omega | (simp; done) | (simp; omega)))) hbl.size)⟩
        case measure => simp [intOf]; omega
      · go_wp2_with fail
        go_ret
        refine ⟨?_, HBL.out⟩
        rw [HR.out, show j = ts.length by omega, List.take_length]
        rfl
  · rw [← hh] at P8
    have PH := P8
    clear P7 P8 P9 S9 hh
    go_enter Tryd.func124, Tryd.ntmps124
    go_wp2_with fail
    refine (PH.out _).mono ?_
    rintro x1 w1 ⟨rfl, hb1⟩
    have hb0 := BXW.out.trans (hb1.mono BXW.out.size)
    have BX1 := Lib.hid (BX.out.stay hb1)
    go_wp2_with fail
    go_loopw [3, 4] (fun o i wr => ∃ j : Nat, j ≤ ts.length ∧ i = .int .i64 j ∧ o = bstr (H ++ mpsL (ts.take j)) ∧ Below w1.heap.size w1 wr) (fun _ i _ => ts.length + 1 - (intOf i).toNat)
    case atStart => exact ⟨0, by omega, rfl, by rw [List.take_zero, mpsL, List.append_nil], Below.refl _ _⟩
    case round =>
      obtain ⟨j, hj, rfl, rfl, hbl⟩ := hrel
      have HBL := Lib.hid (hb0.trans (hbl.mono hb0.size))
      obtain ⟨q0, -, -, -, q4⟩ := (BX1.out.stay hbl).cells
      by_cases hlt : j < ts.length
      · have hne : ts ≠ [] := by intro e; rw [e] at hlt; simp at hlt
        obtain ⟨rfl, hbw⟩ := HA.out hne
        have HWR := Lib.hid (HW.out.trans (HBL.out.mono HW.out.size))
        obtain ⟨c0, c1, c2, c3, c4⟩ := (HE.out j hlt).1.keep (HWR.out.block b hbw)
        have VJ := Lib.hid (fun (W : World) (hW : Below wr.heap.size wr W) => V1.out j hlt W (below_step HWR.out hW (by have := HWR.out.size; omega)))
        have hlj := HL.out j hlt
        have HTJ := Lib.hid (HT.out j hlt)
        obtain ⟨a3, cap3, hs3⟩ := (HE.out j hlt).2.2.slice
        rw [hs3] at c4 VJ
        clear hs3 V1
        unfold V.agg at VJ
        generalize mpL ts[j] = C at *
        generalize hQ : H ++ mpsL (ts.take j) = Q at *
        have HQ := Lib.hid hQ; clear hQ
        have S1 : ¬ 9223372036854775807 < Q.length + C.length := by omega
        clear hlj
        go_wp2_with fail
        refine (VJ.out _ ((by (with_reducible (repeat' (first | exact Below.refl _ _ | refine below_alloc ?_ _ ?_ | refine Below.setCell ?_ ?_ _ | refine Below.drew ?_ | refine below_drewN ?_ _ | refine below_step ?_ (by assumption) ?_ | refine below_mark ?_ (by assumption) ?_))); all_goals (first | omega | (simp; done) | (simp; omega))))).mono ?_
        rintro x w2 ⟨rfl, hb2⟩
        go_wp2_with fail
        go_roundw
        case rel => exact ⟨j + 1, by omega, by go_num, by rw [HTJ.out, bstr_append, ← List.append_assoc, HQ.out], hbl.trans (Below.mono ((by (with_reducible (repeat' (first | exact Below.refl _ _ | refine below_alloc ?_ _ ?_ | refine Below.setCell ?_ ?_ _ | refine Below.drew ?_ | refine below_drewN ?_ _ | refine below_step ?_ (by assumption) ?_ | refine below_mark ?_ (by assumption) ?_))); all_goals (first | omega | (simp; done) | (simp; omega)))) hbl.size)⟩
        case measure => simp [intOf]; omega
      · go_wp2_with fail
        go_ret
        refine ⟨?_, HBL.out⟩
        rw [HR.out, show j = ts.length by omega, List.take_length]
        rfl
  · have PH := P9
    have HH := Lib.hid hh
    clear P7 P8 P9 hh
    go_enter Tryd.func124, Tryd.ntmps124
    go_wp2_with fail
    refine (PH.out _).mono ?_
    rintro x1 w1 ⟨rfl, hb1⟩
    have hb0 := BXW.out.trans (hb1.mono BXW.out.size)
    have BX1 := Lib.hid (BX.out.stay hb1)
    go_wp2_with fail
    go_loopw [3, 4] (fun o i wr => ∃ j : Nat, j ≤ ts.length ∧ i = .int .i64 j ∧ o = bstr (H ++ mpsL (ts.take j)) ∧ Below w1.heap.size w1 wr) (fun _ i _ => ts.length + 1 - (intOf i).toNat)
    case atStart => exact ⟨0, by omega, rfl, by rw [List.take_zero, mpsL, List.append_nil, HH.out]; exact congrArg Value.string (bstr_append [199, 4, 6] _), Below.refl _ _⟩
    case round =>
      obtain ⟨j, hj, rfl, rfl, hbl⟩ := hrel
      have HBL := Lib.hid (hb0.trans (hbl.mono hb0.size))
      obtain ⟨q0, -, -, -, q4⟩ := (BX1.out.stay hbl).cells
      by_cases hlt : j < ts.length
      · have hne : ts ≠ [] := by intro e; rw [e] at hlt; simp at hlt
        obtain ⟨rfl, hbw⟩ := HA.out hne
        have HWR := Lib.hid (HW.out.trans (HBL.out.mono HW.out.size))
        obtain ⟨c0, c1, c2, c3, c4⟩ := (HE.out j hlt).1.keep (HWR.out.block b hbw)
        have VJ := Lib.hid (fun (W : World) (hW : Below wr.heap.size wr W) => V1.out j hlt W (below_step HWR.out hW (by have := HWR.out.size; omega)))
        have hlj := HL.out j hlt
        have HTJ := Lib.hid (HT.out j hlt)
        obtain ⟨a3, cap3, hs3⟩ := (HE.out j hlt).2.2.slice
        rw [hs3] at c4 VJ
        clear hs3 V1
        unfold V.agg at VJ
        generalize mpL ts[j] = C at *
        generalize hQ : H ++ mpsL (ts.take j) = Q at *
        have HQ := Lib.hid hQ; clear hQ
        have S1 : ¬ 9223372036854775807 < Q.length + C.length := by omega
        clear hlj
        go_wp2_with fail
        refine (VJ.out _ ((by (with_reducible (repeat' (first | exact Below.refl _ _ | refine below_alloc ?_ _ ?_ | refine Below.setCell ?_ ?_ _ | refine Below.drew ?_ | refine below_drewN ?_ _ | refine below_step ?_ (by assumption) ?_ | refine below_mark ?_ (by assumption) ?_))); all_goals (first | omega | (simp; done) | (simp; omega))))).mono ?_
        rintro x w2 ⟨rfl, hb2⟩
        go_wp2_with fail
        go_roundw
        case rel => exact ⟨j + 1, by omega, by go_num, by rw [HTJ.out, bstr_append, ← List.append_assoc, HQ.out], hbl.trans (Below.mono ((by (with_reducible (repeat' (first | exact Below.refl _ _ | refine below_alloc ?_ _ ?_ | refine Below.setCell ?_ ?_ _ | refine Below.drew ?_ | refine below_drewN ?_ _ | refine below_step ?_ (by assumption) ?_ | refine below_mark ?_ (by assumption) ?_))); all_goals (first | omega | (simp; done) | (simp; omega)))) hbl.size)⟩
        case measure => simp [intOf]; omega
      · go_wp2_with fail
        go_ret
        refine ⟨?_, HBL.out⟩
        rw [HR.out, show j = ts.length by omega, List.take_length]
        rfl
set_option maxHeartbeats 1000000 in
theorem PutMsg_spec (w0 : World) (v : Value) (t : V) (h : Rep w0 v t) (hsz : t.sz ≤ 1048576) (w : World) (hw : Below w0.heap.size w0 w) :
    Calls Tryd.prog 49 #[v] w (TxtRet w (mpB t)) := by
  have FI := Lib.hid (fun (W : World) (hW : Below w.heap.size w W) => ValueOk_spec w0 v t h hsz W (hw.trans (hW.mono hw.size)))
  have PU := Lib.hid (fun (ho : okT t = true) (W : World) (hW : Below w.heap.size w W) => l06Put_any w0 _ v t 12 (Nat.lt_succ_self _) (by simp only [okT, Bool.and_eq_true] at ho; exact ho.1) h hsz (ok_small ho).2 W (hw.trans (hW.mono hw.size)))
  have HB := Lib.hid (show mpB t = if okT t then mpL t else [] from rfl)
  obtain ⟨sl, rfl, hwf, hr⟩ := h
  obtain ⟨sa, sc, rfl⟩ := hr.slice
  clear hr hwf hsz
  unfold V.agg at *
  generalize okT t = b at *
  generalize mpB t = R at *
  generalize mpL t = C at *
  generalize t.k = k at *
  generalize t.n = n at *
  generalize t.e = e at *
  generalize t.s = s at *
  generalize t.kids = ts at *
  have BX := Lib.hid (Box.new w k n e s (.slice sa ts.length sc) 26)
  cases b
  all_goals
    go_enter Tryd.func49, Tryd.ntmps49
    go_wp2_with fail
    refine (FI.out _ ((by (with_reducible (repeat' (first | exact Below.refl _ _ | refine below_alloc ?_ _ ?_ | refine Below.setCell ?_ ?_ _ | refine Below.drew ?_ | refine below_drewN ?_ _ | refine below_step ?_ (by assumption) ?_ | refine below_mark ?_ (by assumption) ?_))); all_goals (first | omega | (simp; done) | (simp; omega))))).mono ?_
    rintro x w1 ⟨rfl, hb1⟩
    obtain ⟨p0, p1, p2, p3, p4⟩ := (BX.out.stay hb1).cells
    go_wp2_with fail
  · go_ret
    exact ⟨by rw [HB.out]; rfl, (by (with_reducible (repeat' (first | exact Below.refl _ _ | refine below_alloc ?_ _ ?_ | refine Below.setCell ?_ ?_ _ | refine Below.drew ?_ | refine below_drewN ?_ _ | refine below_step ?_ (by assumption) ?_ | refine below_mark ?_ (by assumption) ?_))); all_goals (first | omega | (simp; done) | (simp; omega)))⟩
  · refine (PU.out (by trivial) _ ((by (with_reducible (repeat' (first | exact Below.refl _ _ | refine below_alloc ?_ _ ?_ | refine Below.setCell ?_ ?_ _ | refine Below.drew ?_ | refine below_drewN ?_ _ | refine below_step ?_ (by assumption) ?_ | refine below_mark ?_ (by assumption) ?_))); all_goals (first | omega | (simp; done) | (simp; omega))))).mono ?_
    rintro x w2 ⟨rfl, hb2⟩
    go_wp2_with fail
    go_ret
    exact ⟨by rw [HB.out]; rfl, (by (with_reducible (repeat' (first | exact Below.refl _ _ | refine below_alloc ?_ _ ?_ | refine Below.setCell ?_ ?_ _ | refine Below.drew ?_ | refine below_drewN ?_ _ | refine below_step ?_ (by assumption) ?_ | refine below_mark ?_ (by assumption) ?_))); all_goals (first | omega | (simp; done) | (simp; omega)))⟩
end Go.Proofs.YtgbgeocmjdgmoaaDoor
namespace Go.Proofs.YtgbgeocmjdgmoaaDoor
set_option linter.unusedSimpArgs false
set_option linter.unusedVariables false
set_option maxRecDepth 100000
open Go.RowKit
theorem GetWide_spec (s : ByteArray) (i m : Int) (w : World) (hs : s.size ≤ 9223372036854775807) (hi : 0 ≤ i) (hm0 : 1 ≤ m) (hm : m ≤ 8) (him : i ≤ s.size - m) :
    Calls Tryd.prog 47 #[.string s, .int .i64 i, .int .i64 m] w fun e w' => e = .returned (.tuple #[.int .i64 (wrap64 (wval (sub s.data.toList i.toNat m.toNat))), .bool true]) ∧ w' = w := by
  have IN := Lib.hid (fun W => l01In_yes m 1 8 W hm0 hm)
  go_enter Tryd.func47, Tryd.ntmps47
  go_wp2_with fail
  refine (IN.out _).mono ?_
  rintro e w1 ⟨rfl, rfl⟩
  go_wp2_with fail
  go_loopw [8, 9] (fun n k wr => ∃ j : Nat, (j : Int) ≤ m ∧ k = .int .i64 j ∧ n = .int .u64 (wval (sub s.data.toList i.toNat j) : Nat) ∧ wr = w1) (fun _ k _ => (m + 1 - intOf k).toNat)
  case atStart => exact ⟨0, by omega, rfl, by simp [sub, wval], rfl⟩
  case round =>
    obtain ⟨j, hj, rfl, rfl, rfl⟩ := hrel
    by_cases hlt : (j : Int) < m
    · have HV := wval_snoc (sub s.data.toList i.toNat j) s[(i + (j : Int)).toNat]
      have HS := sub_succ s i.toNat j (by omega)
      have hlt2 := wval_sub_lt s.data.toList i.toNat (j + 1) (by omega)
      have hix : s[(i + (j : Int)).toNat] = s[i.toNat + j] := by simp only [show (i + (j : Int)).toNat = i.toNat + j by omega]
      rw [HS, ← hix, HV] at hlt2
      have HT := Lib.hid (show ((wval (sub s.data.toList i.toNat (j + 1)) : Nat) : Int) = 256 * (wval (sub s.data.toList i.toNat j) : Nat) + (s[(i + (j : Int)).toNat].toNat : Nat) by rw [HS, ← hix, HV]; simp)
      clear HV HS hix
      generalize wval (sub s.data.toList i.toNat j) = v at *
      have hc := s[(i + (j : Int)).toNat].toNat_lt
      have hu1 := u64w (256 * (v : Int)) (by omega) (by omega)
      have hu2 := u64w (s[(i + (j : Int)).toNat].toNat : Int) (by omega) (by omega)
      have hu3 := u64w (256 * (v : Int) + (s[(i + (j : Int)).toNat].toNat : Int)) (by omega) (by omega)
      go_wp2_with fail
      go_roundw
      case rel => exact ⟨j + 1, by omega, by go_num, by rw [HT.out], trivial⟩
      case measure => simp [intOf]; omega
    · have hjm : m.toNat = j := by omega
      have HX := Lib.hid (show IntKind.i64.wrap ((wval (sub s.data.toList i.toNat j) : Nat) : Int) = wrap64 ((wval (sub s.data.toList i.toNat j) : Nat) : Int) by
        simp only [IntKind.wrap, IntKind.signed, IntKind.bits, wrap64]; simp; split <;> omega)
      go_wp2_with fail
      go_ret2
      exact ⟨rfl, rfl⟩
theorem GetWide_spec_no (s : ByteArray) (i m : Int) (w : World) (hs : s.size ≤ 9223372036854775807) (hm0 : 1 ≤ m) (hm : m ≤ 8) (h : i < 0 ∨ s.size - m < i) :
    Calls Tryd.prog 47 #[.string s, .int .i64 i, .int .i64 m] w fun e w' => e = .returned (.tuple #[.int .i64 0, .bool false]) ∧ w' = w := by
  have IN := Lib.hid (fun W => l01In_yes m 1 8 W hm0 hm)
  by_cases h1 : i < 0
  · clear h
    go_enter Tryd.func47, Tryd.ntmps47
    go_wp2_with fail
    refine (IN.out _).mono ?_
    rintro e w1 ⟨rfl, rfl⟩
    go_wp2_with fail
    go_ret2
    exact ⟨rfl, rfl⟩
  · have h2 : (s.size : Int) - m < i := by omega
    clear h
    go_enter Tryd.func47, Tryd.ntmps47
    go_wp2_with fail
    refine (IN.out _).mono ?_
    rintro e w1 ⟨rfl, rfl⟩
    go_wp2_with fail
    go_ret2
    exact ⟨rfl, rfl⟩
def WideRet (o : Option Int) (w : World) (e : Ending) (w' : World) : Prop := (match o with | some n => e = .returned (.tuple #[.int .i64 n, .bool true]) | none => e = .returned (.tuple #[.int .i64 0, .bool false])) ∧ w' = w
theorem GetWide_go (s : ByteArray) (i m : Nat) (w : World) (hs : s.size ≤ 1048576) (hm0 : 1 ≤ m) (hm : m ≤ 8) : Calls Tryd.prog 47 #[.string s, .int .i64 i, .int .i64 m] w (WideRet (wgo s i m) w) := by
  unfold wgo WideRet
  by_cases h : i + m ≤ s.size
  · rw [if_pos h]
    have := GetWide_spec s i m w (by omega) (by omega) (by omega) (by omega) (by omega)
    rw [Int.toNat_natCast, Int.toNat_natCast] at this
    exact this
  · rw [if_neg h]
    exact GetWide_spec_no s i m w (by omega) (by omega) (by omega) (.inr (by omega))
def RB (w : World) (r : Nat) (s : ByteArray) (l : Int) : Prop := w.heap[r]? = some (.cells #[.string s, .int .i64 l] 117 (0, 0))
theorem RB.stay {w w' : World} {r : Nat} {s : ByteArray} {l : Int} (h : RB w r s l) (hb : Below w.heap.size w w') : RB w' r s l := (hb.block r (lt_of_heap h)).trans h
theorem RB.cells {w : World} {r : Nat} {s : ByteArray} {l : Int} (h : RB w r s l) : w.cell? ⟨r, 0, none⟩ = some (.string s) ∧ w.cell? ⟨r, 1, none⟩ = some (.int .i64 l) ∧ w.frozen? ⟨r, 1, none⟩ = false :=
  ⟨by rw [cell_of_row _ _ _ _ _ (0, 0) h]; rfl, by rw [cell_of_row _ _ _ _ _ (0, 0) h]; rfl, frozen_of_row w r 1 _ _ h⟩
theorem RB.set {w : World} {r : Nat} {s : ByteArray} {l : Int} (h : RB w r s l) (l' : Int) : RB (w.setCell ⟨r, 1, none⟩ (.int .i64 l')) r s l' := by
  unfold RB at *
  rw [heap_setCell_same w r 1 _ _ _ h]; rfl
def MgRet (r : Nat) (s : ByteArray) (o : MG) (w : World) (e : Ending) (w' : World) : Prop := (match o with
  | some q => ∃ sl, e = .returned (.tuple #[q.1.agg sl, .int .i64 (q.2.1 : Int)]) ∧ q.1.wf ∧ OwnS w' (fun x => w.heap.size ≤ x) sl q.1.kids ∧ RB w' r s q.2.2
  | none => ∃ (t : V) (a : Option Addr) (n c : Nat), e = .returned (.tuple #[t.agg (.slice a n c), .int .i64 (-1)])) ∧ Touch (fun x => x = r) (fun x => x = r) w w'
set_option maxHeartbeats 2000000 in
theorem l06Kids_any (r : Nat) (s : ByteArray) (hs : s.size ≤ 1048576) (g : Nat → Nat → MG) (hg : ∀ i l, MGood s i l (g i l)) (deep : Int) (hd : 0 ≤ deep ∧ deep ≤ 100)
    (hG : ∀ (i l : Nat) (W : World), i ≤ s.size → l ≤ 300 → RB W r s l → Calls Tryd.prog 121 #[.pointer (some ⟨r, 0, none⟩), .int .i64 i, .int .i64 (deep + 1)] W (MgRet r s (g i l) W))
    (kind : Int) (many i l : Nat) (hi : i ≤ s.size) (hl : l ≤ 300) (hk : In64 kind) (w : World) (hRB : RB w r s l) (hm : many ≤ 600) :
    Calls Tryd.prog 181 #[.pointer (some ⟨r, 0, none⟩), .int .i64 i, .int .i64 kind, .int .i64 many, .bool true, .int .i64 deep] w (MgRet r s (mgNode kind 0 (mgKids g many i l)) w) := by
  have hrw := lt_of_heap hRB
  have HR := Lib.hid hRB
  have HG := Lib.hid hG
  have hwd : wrap64 (deep + 1) = deep + 1 := by unfold wrap64; omega
  have HKG := Lib.hid (fun (j : Nat) => mgKids_good hg j i l hi)
  have HST := Lib.hid (fun (j : Nat) (h : mgKids g j i l = none) (hj : j ≤ many) => mgKids_none h hj)
  have HSM := Lib.hid (fun (j : Nat) (p) (h : mgKids g j i l = some p) (q) (hq : g p.2.1 p.2.2 = some q) => mgKids_some h hq)
  have HSP := Lib.hid (fun (j : Nat) (p) (h : mgKids g j i l = some p) (hq : g p.2.1 p.2.2 = none) => mgKids_stop h hq)
  have HK0 := Lib.hid (show mgKids g 0 i l = some ([], i, l) from rfl)
  have hwf : ∀ us : List V, (V.mk kind 0 0 ⟨#[]⟩ us).wf := fun us => ⟨hk, ⟨by show (-9223372036854775808 : Int) ≤ 0; omega, by show (0 : Int) ≤ _; omega⟩, ⟨by show (-9223372036854775808 : Int) ≤ 0; omega, by show (0 : Int) ≤ _; omega⟩, by show ByteArray.size ⟨#[]⟩ ≤ _; simp [ByteArray.size]⟩
  have HPN := Lib.hid (show mgKids g many i l = none → ∀ e w', (∃ (t : V) (a : Option Addr) (n c : Nat), e = .returned (.tuple #[t.agg (.slice a n c), .int .i64 (-1)])) → Touch (fun x => x = r) (fun x => x = r) w w' → MgRet r s (mgNode kind 0 (mgKids g many i l)) w e w' from
    fun hn e w' h1 h2 => by rw [hn]; exact ⟨h1, h2⟩)
  have HPS := Lib.hid (show ∀ us j m, mgKids g many i l = some (us, j, m) → ∀ e w', (∃ sl, e = .returned (.tuple #[.agg #[.int .i64 kind, .int .i64 0, .int .i64 0, .string ⟨#[]⟩, sl], .int .i64 (j : Int)]) ∧ OwnS w' (fun x => w.heap.size ≤ x) sl us ∧ RB w' r s m) → Touch (fun x => x = r) (fun x => x = r) w w' → MgRet r s (mgNode kind 0 (mgKids g many i l)) w e w' from
    fun us j m hn e w' ⟨sl, h1, h2, h3⟩ h4 => by rw [hn]; exact ⟨⟨sl, h1, hwf us, h2, h3⟩, h4⟩)
  have BZ := Lib.hid (show Box ((w.alloc (.cells #[.int .i64 0, .int .i64 0, .int .i64 0, .string ⟨#[]⟩, .slice none 0 0] 26)).alloc (.cells #[.int .i64 kind, .int .i64 0, .int .i64 0, .string ⟨#[]⟩, .slice none 0 0] 26)) w.heap.size 0 0 0 ⟨#[]⟩ (.slice none 0 0) 26 from (Box.new w _ _ _ _ _ _).alloc _)
  have BO := Lib.hid (show Box ((w.alloc (.cells #[.int .i64 0, .int .i64 0, .int .i64 0, .string ⟨#[]⟩, .slice none 0 0] 26)).alloc (.cells #[.int .i64 kind, .int .i64 0, .int .i64 0, .string ⟨#[]⟩, .slice none 0 0] 26)) (w.heap.size + 1) kind 0 0 ⟨#[]⟩ (.slice none 0 0) 26 by
    have := Box.new (w.alloc (.cells #[.int .i64 0, .int .i64 0, .int .i64 0, .string ⟨#[]⟩, .slice none 0 0] 26)) kind 0 0 ⟨#[]⟩ (.slice none 0 0) 26
    rwa [show (w.alloc (.cells #[.int .i64 0, .int .i64 0, .int .i64 0, .string ⟨#[]⟩, .slice none 0 0] 26)).heap.size = w.heap.size + 1 by simp] at this)
  have HBW := Lib.hid (show Below w.heap.size w ((w.alloc (.cells #[.int .i64 0, .int .i64 0, .int .i64 0, .string ⟨#[]⟩, .slice none 0 0] 26)).alloc (.cells #[.int .i64 kind, .int .i64 0, .int .i64 0, .string ⟨#[]⟩, .slice none 0 0] 26)) from (by (with_reducible (repeat' (first | exact Below.refl _ _ | refine below_alloc ?_ _ ?_ | refine Below.setCell ?_ ?_ _ | refine Below.drew ?_ | refine below_drewN ?_ _ | refine below_step ?_ (by assumption) ?_ | refine below_mark ?_ (by assumption) ?_))); all_goals (first | omega | (simp; done) | (simp; omega))))
  have HZW := Lib.hid (show ((w.alloc (.cells #[.int .i64 0, .int .i64 0, .int .i64 0, .string ⟨#[]⟩, .slice none 0 0] 26)).alloc (.cells #[.int .i64 kind, .int .i64 0, .int .i64 0, .string ⟨#[]⟩, .slice none 0 0] 26)).heap.size = w.heap.size + 1 + 1 by simp)
  clear hG hg hRB hk hwf
  go_enter Tryd.func181, Tryd.ntmps181
  go_wp2_with fail
  generalize ((w.alloc (.cells #[.int .i64 0, .int .i64 0, .int .i64 0, .string ⟨#[]⟩, .slice none 0 0] 26)).alloc (.cells #[.int .i64 kind, .int .i64 0, .int .i64 0, .string ⟨#[]⟩, .slice none 0 0] 26)) = W3 at *
  go_loopw [15, 1, 16, 17] (fun kk ii _ _ wr => ∃ (j ij lj : Nat) (G : Nat → Prop) (o : Value) (L1 : List V), j ≤ many ∧ kk = .int .i64 j ∧ ii = .int .i64 ij ∧ mgKids g j i l = some (L1, ij, lj) ∧ RAcc r W3 wr (w.heap.size + 1) kind 0 0 ⟨#[]⟩ L1 o G ∧ RB wr r s lj) (fun kk _ _ _ _ => many + 1 - (intOf kk).toNat)
  case atStart => exact ⟨0, i, l, _, _, [], by omega, rfl, rfl, HK0.out, RAcc.nil BO.out HZW.out (by omega), HR.out.stay HBW.out⟩
  case round =>
    obtain ⟨j, ij, lj, G, o, L1, hj, rfl, rfl, hkd, hacc, hrb⟩ := hrel
    have HACC := Lib.hid hacc; have HKD := Lib.hid hkd; have HRJ := Lib.hid hrb; clear hacc hkd hrb
    have hz9 := HACC.out.touch.size
    have hzw := HZW.out
    have hgd := HKG.out j L1 ij lj HKD.out
    obtain ⟨hg1, hg2, hg3, hg4⟩ := hgd
    have BZw := Lib.hid (show Box wr w.heap.size 0 0 0 ⟨#[]⟩ (.slice none 0 0) 26 from (HACC.out.touch.block w.heap.size (by omega) (by omega)).trans BZ.out)
    have HTW := Lib.hid (show Touch (fun x => x = r) (fun x => x = r) w wr from ⟨HACC.out.touch.os.trans HBW.out.os, HACC.out.touch.tape.trans HBW.out.tape, HACC.out.touch.output.trans HBW.out.output, by omega, fun x hx hn => (HACC.out.touch.block x (by omega) (by omega)).trans (HBW.out.block x hx), fun x hx => .inl hx⟩)
    by_cases hlt : j < many
    · have VJ := Lib.hid (fun (W : World) (hW : Below wr.heap.size wr W) => HG.out ij lj W hg2 (by omega) (HRJ.out.stay hW))
      cases hgs : g ij lj with
      | none =>
        have HN := Lib.hid (HPN.out (HST.out (j + 1) (HSP.out j _ HKD.out hgs) (by omega)))
        rw [hgs] at VJ
        clear HSP HSM HST HPS HPN HKG HK0 hgs
        go_wp2_with fail
        refine (VJ.out _ ((by (with_reducible (repeat' (first | exact Below.refl _ _ | refine below_alloc ?_ _ ?_ | refine Below.setCell ?_ ?_ _ | refine Below.drew ?_ | refine below_drewN ?_ _ | refine below_step ?_ (by assumption) ?_ | refine below_mark ?_ (by assumption) ?_))); all_goals (first | omega | (simp; done) | (simp; omega))))).mono ?_
        rintro x w5 ⟨⟨t', sa, sn, sc, rfl⟩, ht5⟩
        unfold V.agg
        have hz5 := ht5.size
        have HACC2 := Lib.hid (HACC.out.over ht5)
        have BZr := Lib.hid (show Box w5 w.heap.size 0 0 0 ⟨#[]⟩ (.slice none 0 0) 26 from (ht5.block w.heap.size (by omega) (by omega)).trans BZw.out)
        obtain ⟨g0, g1, g2, g3, g4⟩ := HACC2.out.box.cells
        obtain ⟨z0, z1, z2, z3, z4⟩ := BZr.out.cells
        have zf0 := BZr.out.free (i := 0); have zf1 := BZr.out.free (i := 1); have zf2 := BZr.out.free (i := 2); have zf3 := BZr.out.free (i := 3); have zf4 := BZr.out.free (i := 4)
        have hm1 : w.heap.size ≠ w5.heap.size := by omega
        have hm2 : w5.heap.size ≠ w.heap.size := by omega
        have hm3 : w.heap.size < w5.heap.size := by omega
        have hm4 : w.heap.size + 1 ≠ w5.heap.size := by omega
        have hm5 : w5.heap.size ≠ w.heap.size + 1 := by omega
        have hm6 : w.heap.size + 1 < w5.heap.size := by omega
        obtain ⟨oa, on, oc, rfl⟩ := HACC.out.rows.slice3
        have HTX := Lib.hid (HTW.out.trans ht5)
        clear ht5 HACC2 BZw BZr HACC
        go_wp2_with fail
        refine bodyPost_ret (v := .tuple #[.agg #[.int .i64 kind, .int .i64 0, .int .i64 0, .string ⟨#[]⟩, .slice oa on oc], .int .i64 (-1)]) (by simp [results, Tryd.results181, go_sem, z0, z1, z2, z3, z4, hm1, hm2, hm3]) rfl (HN.out _ _ ⟨.mk kind 0 0 ⟨#[]⟩ [], oa, on, oc, rfl⟩ ((HTX.out.set5 w.heap.size (Nat.le_refl _) _ _ _ _ _).trans (Touch.of_below ((Below.refl _ _).alloc (Nat.le_refl _) _))))
      | some q =>
        obtain ⟨u, iq, lq⟩ := q
        have HTJ := Lib.hid (HSM.out j _ HKD.out _ hgs)
        rw [hgs] at VJ
        clear HSP HSM HST HPS HPN HK0 hgs
        go_wp2_with fail
        refine (VJ.out _ ((by (with_reducible (repeat' (first | exact Below.refl _ _ | refine below_alloc ?_ _ ?_ | refine Below.setCell ?_ ?_ _ | refine Below.drew ?_ | refine below_drewN ?_ _ | refine below_step ?_ (by assumption) ?_ | refine below_mark ?_ (by assumption) ?_))); all_goals (first | omega | (simp; done) | (simp; omega))))).mono ?_
        rintro x w5 ⟨⟨us, rfl, uwf, uo, hrb5⟩, ht5⟩
        obtain ⟨ua, un, uc, rfl⟩ : ∃ sa sn sc, us = .slice sa sn sc := by obtain ⟨p, q, e⟩ := uo.slice; exact ⟨p, _, q, e⟩
        unfold V.agg
        have hz5 := ht5.size
        have HWF := Lib.hid uwf
        have HO := Lib.hid uo.bound
        have HRB := Lib.hid hrb5
        have HACC2 := Lib.hid (HACC.out.over ht5)
        have hin : (0 : Int) ≤ (iq : Int) := by omega
        obtain ⟨g0, g1, g2, g3, g4⟩ := HACC2.out.box.cells
        have hm4 : w.heap.size + 1 ≠ w5.heap.size := by omega
        have hm5 : w5.heap.size ≠ w.heap.size + 1 := by omega
        have hm6 : w.heap.size + 1 < w5.heap.size := by omega
        clear uo uwf VJ hrb5 ht5 HTW BZw HRJ
        go_wp2_with (at_builtin; refine app_own rfl _ _ rfl (w.heap.size + 1 + 1) G (fun x => wr.heap.size ≤ x ∧ x < w5.heap.size) _ L1 rfl ((HACC2.out.stay ((by (with_reducible (repeat' (first | exact Below.refl _ _ | refine below_alloc ?_ _ ?_ | refine Below.setCell ?_ ?_ _ | refine Below.drew ?_ | refine below_drewN ?_ _ | refine below_step ?_ (by assumption) ?_ | refine below_mark ?_ (by assumption) ?_))); all_goals (first | omega | (simp; done) | (simp; omega))))).rows) u (.slice ua un uc) _ rfl (by first | exact heap_alloc_here _ (by simp) | exact heap_alloc_here _ rfl) HWF.out (OwnS.keep HO.out (fun x hx hxs => (heap_alloc_old _ _ (by simp; omega)).trans (heap_alloc_old _ _ hxs))) (fun x hx => by have h1 := hx.1; have h2 := hx.2; exact ⟨by omega, by simp; omega, fun hG => by have := (HACC.out.rows.inG x hG).2; omega, fun e => by have := (HACC.out.rows.lt x e).2; omega⟩) (by omega) (by simp; omega) ?_; intro v2 w2 hrow2 hg2 hfr2; obtain ⟨va, vn, vc, rfl⟩ := hrow2.slice3; have HG2 := Lib.hid hg2; have HR2 := Lib.hid hrow2; have HB2 := Lib.hid (show Box w2 (w.heap.size + 1) kind 0 0 ⟨#[]⟩ o 26 from (hg2.block (w.heap.size + 1) (by simp; omega) (fun e => by have := (HACC2.out.rows.lt _ e.symm).1; omega)).trans (HACC2.out.stay ((by (with_reducible (repeat' (first | exact Below.refl _ _ | refine below_alloc ?_ _ ?_ | refine Below.setCell ?_ ?_ _ | refine Below.drew ?_ | refine below_drewN ?_ _ | refine below_step ?_ (by assumption) ?_ | refine below_mark ?_ (by assumption) ?_))); all_goals (first | omega | (simp; done) | (simp; omega))))).box); have hfz := HB2.out.free (i := 4); have hcc := HB2.out.cells.2.2.2.2; clear hrow2 hg2 hfr2)
        have hb5n : Below w5.heap.size w5 ((w5.alloc (.cells #[.int .i64 u.k, .int .i64 u.n, .int .i64 u.e, .string u.s, .slice ua un uc] 26)).alloc (.cells #[.int .i64 u.k, .int .i64 u.n, .int .i64 u.e, .string u.s, .slice ua un uc] 26)) := (by (with_reducible (repeat' (first | exact Below.refl _ _ | refine below_alloc ?_ _ ?_ | refine Below.setCell ?_ ?_ _ | refine Below.drew ?_ | refine below_drewN ?_ _ | refine below_step ?_ (by assumption) ?_ | refine below_mark ?_ (by assumption) ?_))); all_goals (first | omega | (simp; done) | (simp; omega)))
        go_roundw
        case rel => exact ⟨j + 1, iq, lq, _, _, _, by omega, by go_num, rfl, HTJ.out, HACC2.out.put hb5n HG2.out HR2.out, (HACC2.out.same hb5n HG2.out (.slice va vn vc) r (by omega) (by omega)).trans HRB.out⟩
        case measure => simp [intOf]; omega
    · obtain rfl : j = many := by omega
      have HP := Lib.hid (HPS.out _ _ _ HKD.out)
      obtain ⟨oa, on, oc, rfl⟩ := HACC.out.rows.slice3
      obtain ⟨g0, g1, g2, g3, g4⟩ := HACC.out.box.cells
      obtain ⟨z0, z1, z2, z3, z4⟩ := BZw.out.cells
      have zf0 := BZw.out.free (i := 0); have zf1 := BZw.out.free (i := 1); have zf2 := BZw.out.free (i := 2); have zf3 := BZw.out.free (i := 3); have zf4 := BZw.out.free (i := 4)
      have HO := Lib.hid (OwnS.mono (HACC.out.rows.own.set5 w.heap.size (by omega) (.int .i64 kind) (.int .i64 0) (.int .i64 0) (.string ⟨#[]⟩) (.slice oa on oc)) (F' := fun x => w.heap.size ≤ x) (fun x hx => by omega))
      have HRZ := Lib.hid (show RB (set5 wr w.heap.size (.int .i64 kind) (.int .i64 0) (.int .i64 0) (.string ⟨#[]⟩) (.slice oa on oc)) r s lj from (heap_set5 _ _ _ _ _ _ _ _ (by omega)).trans HRJ.out)
      have HTZ := Lib.hid (HTW.out.set5 w.heap.size (Nat.le_refl _) (.int .i64 kind) (.int .i64 0) (.int .i64 0) (.string ⟨#[]⟩) (.slice oa on oc))
      clear HACC HRJ HTW BZw HG HKG HST HSM HSP HK0 HPN HPS BO BZ HBW
      go_wp2_with fail
      refine bodyPost_ret (v := .tuple #[.agg #[.int .i64 kind, .int .i64 0, .int .i64 0, .string ⟨#[]⟩, .slice oa on oc], .int .i64 ij]) (by simp [results, Tryd.results181, go_sem, z0, z1, z2, z3, z4]) rfl (HP.out _ _ ⟨_, rfl, HO.out, HRZ.out⟩ HTZ.out)
end Go.Proofs.YtgbgeocmjdgmoaaDoor
namespace Go.Proofs.YtgbgeocmjdgmoaaDoor
set_option linter.unusedSimpArgs false
set_option linter.unusedVariables false
set_option maxRecDepth 100000
open Go.RowKit
theorem wgo_small {s : ByteArray} {i m : Nat} {n : Int} (h : wgo s i m = some n) (hm : m ≤ 2) : ∃ q : Nat, n = q ∧ q ≤ 65535 ∧ i + m ≤ s.size := by
  unfold wgo at h
  split at h
  · rename_i hf
    simp only [Option.some.injEq] at h
    have h1 := wval_lt (sub s.data.toList i m)
    have h2 : (sub s.data.toList i m).length ≤ m := by simp [sub]; omega
    have h3 : (256 : Nat) ^ (sub s.data.toList i m).length ≤ 256 ^ 2 := Nat.pow_le_pow_right (by decide) (by omega)
    refine ⟨wval (sub s.data.toList i m), ?_, by omega, hf⟩
    rw [← h]; unfold wrap64; omega
  · cases h
def mgExt (s : ByteArray) (g : Nat → Nat → MG) (i l : Nat) : MG :=
  (wgo s i 1).bind fun z => (wgo s (i + 1) 1).bind fun q =>
    if z = 9 ∧ q = 4 then (wgo s (i + 2) 1).bind fun e => (wgo s (i + 3) 8).bind fun n => mgLeaf 4 n (signN e 1) (i + 11) l
    else if z = 4 ∧ q = 6 then (wgo s (i + 2) 4).bind fun n => mgNode 9 n (mgKids g 1 (i + 6) l)
    else none
theorem wgo_in {s : ByteArray} {i m : Nat} {n : Int} (h : wgo s i m = some n) : In64 n ∧ i + m ≤ s.size := by
  unfold wgo at h
  split at h
  · simp only [Option.some.injEq] at h
    subst h
    exact ⟨by unfold In64 wrap64; omega, by assumption⟩
  · cases h
end Go.Proofs.YtgbgeocmjdgmoaaDoor
namespace Go.Proofs.YtgbgeocmjdgmoaaDoor
set_option linter.unusedSimpArgs false
set_option linter.unusedVariables false
set_option maxRecDepth 100000
open Go.RowKit
def UB (w : World) (d : Nat) (s : ByteArray) (i : Nat) (c : Int) (bad : Bool) : Prop := w.heap[d]? = some (.cells #[.string s, .int .i64 (i : Int), .int .i64 c, .bool bad] 113 (0, 0))
theorem UB.stay {w w' : World} {d : Nat} {s : ByteArray} {i : Nat} {c : Int} {bad : Bool} (h : UB w d s i c bad) (hb : Below w.heap.size w w') : UB w' d s i c bad := (hb.block d (lt_of_heap h)).trans h
theorem UB.cells {w : World} {d : Nat} {s : ByteArray} {i : Nat} {c : Int} {bad : Bool} (h : UB w d s i c bad) : w.cell? ⟨d, 0, none⟩ = some (.string s) ∧ w.cell? ⟨d, 1, none⟩ = some (.int .i64 (i : Int)) ∧ w.cell? ⟨d, 2, none⟩ = some (.int .i64 c) ∧ w.cell? ⟨d, 3, none⟩ = some (.bool bad) ∧
    w.frozen? ⟨d, 1, none⟩ = false ∧ w.frozen? ⟨d, 2, none⟩ = false ∧ w.frozen? ⟨d, 3, none⟩ = false :=
  ⟨by rw [cell_of_row _ _ _ _ _ (0, 0) h]; rfl, by rw [cell_of_row _ _ _ _ _ (0, 0) h]; rfl, by rw [cell_of_row _ _ _ _ _ (0, 0) h]; rfl, by rw [cell_of_row _ _ _ _ _ (0, 0) h]; rfl, frozen_of_row w d 1 _ _ h, frozen_of_row w d 2 _ _ h, frozen_of_row w d 3 _ _ h⟩
theorem UB.setI {w : World} {d : Nat} {s : ByteArray} {i : Nat} {c : Int} {bad : Bool} (h : UB w d s i c bad) (i' : Nat) (x : Int) (hx : x = (i' : Int)) : UB (w.setCell ⟨d, 1, none⟩ (.int .i64 x)) d s i' c bad := by
  subst hx; unfold UB at *; rw [heap_setCell_same w d 1 _ _ _ h]; rfl
theorem UB.setC {w : World} {d : Nat} {s : ByteArray} {i : Nat} {c : Int} {bad : Bool} (h : UB w d s i c bad) (c' : Int) : UB (w.setCell ⟨d, 2, none⟩ (.int .i64 c')) d s i c' bad := by
  unfold UB at *; rw [heap_setCell_same w d 2 _ _ _ h]; rfl
theorem UB.setB {w : World} {d : Nat} {s : ByteArray} {i : Nat} {c : Int} {bad : Bool} (h : UB w d s i c bad) (b' : Bool) : UB (w.setCell ⟨d, 3, none⟩ (.bool b')) d s i c b' := by
  unfold UB at *; rw [heap_setCell_same w d 3 _ _ _ h]; rfl
theorem UB.drewN {w : World} {d : Nat} {s : ByteArray} {i : Nat} {c : Int} {bad : Bool} (n : Nat) (h : UB w d s i c bad) : UB (w.drewN n) d s i c bad := h.stay (below_drewN (Below.refl _ _) n)
theorem GetWide_do (s : ByteArray) (i m : Nat) (w : World) (hs : s.size ≤ 1048576) (hm0 : 1 ≤ m) (hm : m ≤ 8) : Calls Tryd.prog 46 #[.string s, .int .i64 i, .int .i64 m] w (WideRet (wgo s i m) w) := by
  unfold wgo WideRet
  by_cases h : i + m ≤ s.size
  · rw [if_pos h]
    have := GetWide_any s i m w (by omega) (by omega) (by omega) (by omega) (by omega)
    rw [Int.toNat_natCast, Int.toNat_natCast] at this
    exact this
  · rw [if_neg h]
    exact GetWide_no s i m w (by omega) (by omega) (by omega) (.inr (by omega))
def WdRet (d : Nat) (s : ByteArray) (i m : Nat) (c : Int) (o : Option Int) (w : World) (e : Ending) (w' : World) : Prop :=
  (match o with
  | some n => e = .returned (.int .i64 n) ∧ UB w' d s (i + m) c false
  | none => e = .returned (.int .i64 0) ∧ UB w' d s i c true) ∧ Touch (fun x => x = d) (fun x => x = d) w w'
set_option maxHeartbeats 1000000 in
theorem wide_any (d : Nat) (s : ByteArray) (hs : s.size ≤ 1048576) (i m : Nat) (hi : i ≤ s.size) (hm0 : 1 ≤ m) (hm : m ≤ 8) (c : Int) (bad : Bool) (w : World) (h : UB w d s i c bad) :
    Calls Tryd.prog 176 #[.pointer (some ⟨d, 0, none⟩), .int .i64 m] w (WdRet d s i m c (if bad then none else wgo s i m) w) := by
  have HU := Lib.hid h
  obtain ⟨u0, u1, u2, u3, f1, f2, f3⟩ := h.cells
  have GW := Lib.hid (fun W => GetWide_do s i m W hs hm0 hm)
  have HT := Lib.hid (Touch.refl (fun x => x = d) w)
  clear h
  cases bad with
  | true =>
    rw [if_pos rfl]
    cases hg : wgo s i m with
    | none =>
      rw [hg] at GW
      clear hg
      go_enter Tryd.func176, Tryd.ntmps176
      go_wp2_with fail
      go_quiet ((go_at_call 46; refine Calls.quiet_of_same (GW.out _)))
      go_wp2_with fail
      go_ret
      exact ⟨⟨rfl, (HU.out.stay ((by (with_reducible (repeat' (first | exact Below.refl _ _ | refine below_alloc ?_ _ ?_ | refine Below.setCell ?_ ?_ _ | refine Below.drew ?_ | refine below_drewN ?_ _ | refine below_step ?_ (by assumption) ?_ | refine below_mark ?_ (by assumption) ?_))); all_goals (first | omega | (simp; done) | (simp; omega))))).setB true⟩, (Touch.of_below ((by (with_reducible (repeat' (first | exact Below.refl _ _ | refine below_alloc ?_ _ ?_ | refine Below.setCell ?_ ?_ _ | refine Below.drew ?_ | refine below_drewN ?_ _ | refine below_step ?_ (by assumption) ?_ | refine below_mark ?_ (by assumption) ?_))); all_goals (first | omega | (simp; done) | (simp; omega))))).cellD _⟩
    | some n =>
      rw [hg] at GW
      clear hg
      go_enter Tryd.func176, Tryd.ntmps176
      go_wp2_with fail
      go_quiet ((go_at_call 46; refine Calls.quiet_of_same (GW.out _)))
      go_wp2_with fail
      go_ret
      exact ⟨⟨rfl, (HU.out.stay ((by (with_reducible (repeat' (first | exact Below.refl _ _ | refine below_alloc ?_ _ ?_ | refine Below.setCell ?_ ?_ _ | refine Below.drew ?_ | refine below_drewN ?_ _ | refine below_step ?_ (by assumption) ?_ | refine below_mark ?_ (by assumption) ?_))); all_goals (first | omega | (simp; done) | (simp; omega))))).setB true⟩, (Touch.of_below ((by (with_reducible (repeat' (first | exact Below.refl _ _ | refine below_alloc ?_ _ ?_ | refine Below.setCell ?_ ?_ _ | refine Below.drew ?_ | refine below_drewN ?_ _ | refine below_step ?_ (by assumption) ?_ | refine below_mark ?_ (by assumption) ?_))); all_goals (first | omega | (simp; done) | (simp; omega))))).cellD _⟩
  | false =>
    rw [if_neg (by simp)]
    cases hg : wgo s i m with
    | none =>
      rw [hg] at GW
      clear hg
      go_enter Tryd.func176, Tryd.ntmps176
      go_wp2_with fail
      go_quiet ((go_at_call 46; refine Calls.quiet_of_same (GW.out _)))
      go_wp2_with fail
      go_ret
      exact ⟨⟨rfl, (HU.out.stay ((by (with_reducible (repeat' (first | exact Below.refl _ _ | refine below_alloc ?_ _ ?_ | refine Below.setCell ?_ ?_ _ | refine Below.drew ?_ | refine below_drewN ?_ _ | refine below_step ?_ (by assumption) ?_ | refine below_mark ?_ (by assumption) ?_))); all_goals (first | omega | (simp; done) | (simp; omega))))).setB true⟩, (Touch.of_below ((by (with_reducible (repeat' (first | exact Below.refl _ _ | refine below_alloc ?_ _ ?_ | refine Below.setCell ?_ ?_ _ | refine Below.drew ?_ | refine below_drewN ?_ _ | refine below_step ?_ (by assumption) ?_ | refine below_mark ?_ (by assumption) ?_))); all_goals (first | omega | (simp; done) | (simp; omega))))).cellD _⟩
    | some n =>
      rw [hg] at GW
      clear hg
      go_enter Tryd.func176, Tryd.ntmps176
      go_wp2_with fail
      go_quiet ((go_at_call 46; refine Calls.quiet_of_same (GW.out _)))
      go_wp2_with fail
      go_ret
      exact ⟨⟨rfl, (HU.out.stay ((by (with_reducible (repeat' (first | exact Below.refl _ _ | refine below_alloc ?_ _ ?_ | refine Below.setCell ?_ ?_ _ | refine Below.drew ?_ | refine below_drewN ?_ _ | refine below_step ?_ (by assumption) ?_ | refine below_mark ?_ (by assumption) ?_))); all_goals (first | omega | (simp; done) | (simp; omega))))).setI (i + m) _ rfl⟩, (Touch.of_below ((by (with_reducible (repeat' (first | exact Below.refl _ _ | refine below_alloc ?_ _ ?_ | refine Below.setCell ?_ ?_ _ | refine Below.drew ?_ | refine below_drewN ?_ _ | refine below_step ?_ (by assumption) ?_ | refine below_mark ?_ (by assumption) ?_))); all_goals (first | omega | (simp; done) | (simp; omega))))).cellD _⟩
def TxRet (d : Nat) (s : ByteArray) (i m : Nat) (c : Int) (b : Bool) (w : World) (e : Ending) (w' : World) : Prop :=
  (match b with
  | true => e = .returned (.string (s.extract i (i + m))) ∧ UB w' d s (i + m) c false
  | false => e = .returned (.string ⟨#[]⟩) ∧ UB w' d s i c true) ∧ Touch (fun x => x = d) (fun x => x = d) w w'
set_option maxHeartbeats 1000000 in
theorem text_any (d : Nat) (s : ByteArray) (hs : s.size ≤ 1048576) (i m : Nat) (hi : i ≤ s.size) (hm : m ≤ 70000) (c : Int) (bad : Bool) (w : World) (h : UB w d s i c bad) :
    Calls Tryd.prog 178 #[.pointer (some ⟨d, 0, none⟩), .int .i64 m] w (TxRet d s i m c (!bad && decide (i + m ≤ s.size)) w) := by
  have HU := Lib.hid h
  obtain ⟨u0, u1, u2, u3, f1, f2, f3⟩ := h.cells
  have HT := Lib.hid (Touch.refl (fun x => x = d) w)
  clear h
  cases bad with
  | true =>
    show Calls _ _ _ _ (TxRet d s i m c false w)
    go_enter Tryd.func178, Tryd.ntmps178
    go_wp2_with fail
    go_quiet (fail)
    go_wp2_with fail
    go_ret
    exact ⟨⟨rfl, (HU.out.stay ((by (with_reducible (repeat' (first | exact Below.refl _ _ | refine below_alloc ?_ _ ?_ | refine Below.setCell ?_ ?_ _ | refine Below.drew ?_ | refine below_drewN ?_ _ | refine below_step ?_ (by assumption) ?_ | refine below_mark ?_ (by assumption) ?_))); all_goals (first | omega | (simp; done) | (simp; omega))))).setB true⟩, (Touch.of_below ((by (with_reducible (repeat' (first | exact Below.refl _ _ | refine below_alloc ?_ _ ?_ | refine Below.setCell ?_ ?_ _ | refine Below.drew ?_ | refine below_drewN ?_ _ | refine below_step ?_ (by assumption) ?_ | refine below_mark ?_ (by assumption) ?_))); all_goals (first | omega | (simp; done) | (simp; omega))))).cellD _⟩
  | false =>
    by_cases hf : i + m ≤ s.size
    · rw [decide_eq_true hf]
      have t1 : decide ((s.size : Int) - i < m) = false := decide_eq_false (by omega)
      have e1 : (i : Int) + m - m = i := by omega
      go_enter Tryd.func178, Tryd.ntmps178
      go_wp2_with fail
      go_quiet (fail)
      go_wp2_with fail
      go_quiet (fail)
      go_wp2_with fail
      go_ret
      exact ⟨⟨rfl, UB.drewN _ ((UB.drewN _ HU.out).setI (i + m) _ rfl)⟩, touch_drewN _ ((touch_drewN _ HT.out).cellD _)⟩
    · rw [decide_eq_false hf]
      have t1 : decide ((s.size : Int) - i < m) = true := decide_eq_true (by omega)
      go_enter Tryd.func178, Tryd.ntmps178
      go_wp2_with fail
      go_quiet (fail)
      go_wp2_with fail
      go_ret
      exact ⟨⟨rfl, (HU.out.stay ((by (with_reducible (repeat' (first | exact Below.refl _ _ | refine below_alloc ?_ _ ?_ | refine Below.setCell ?_ ?_ _ | refine Below.drew ?_ | refine below_drewN ?_ _ | refine below_step ?_ (by assumption) ?_ | refine below_mark ?_ (by assumption) ?_))); all_goals (first | omega | (simp; done) | (simp; omega))))).setB true⟩, (Touch.of_below ((by (with_reducible (repeat' (first | exact Below.refl _ _ | refine below_alloc ?_ _ ?_ | refine Below.setCell ?_ ?_ _ | refine Below.drew ?_ | refine below_drewN ?_ _ | refine below_step ?_ (by assumption) ?_ | refine below_mark ?_ (by assumption) ?_))); all_goals (first | omega | (simp; done) | (simp; omega))))).cellD _⟩
end Go.Proofs.YtgbgeocmjdgmoaaDoor
namespace Go.Proofs.YtgbgeocmjdgmoaaDoor
set_option linter.unusedSimpArgs false
set_option linter.unusedVariables false
set_option maxRecDepth 100000
open Go.RowKit
def UmSt (d : Nat) (s : ByteArray) (o : Option (Nat × Nat)) (w : World) : Prop := match o with
  | some q => UB w d s q.1 (300 - (q.2 : Int)) false
  | none => ∃ (p : Nat) (c : Int), p ≤ s.size ∧ UB w d s p c true
theorem UmSt.keep {d : Nat} {s : ByteArray} {o : Option (Nat × Nat)} {w w' : World} (h : UmSt d s o w) (hb : w'.heap[d]? = w.heap[d]?) : UmSt d s o w' := by
  cases o with
  | some q => exact hb.trans h
  | none => obtain ⟨p, c, h1, h2⟩ := h; exact ⟨p, c, h1, hb.trans h2⟩
theorem UmSt.lt {d : Nat} {s : ByteArray} {o : Option (Nat × Nat)} {w : World} (h : UmSt d s o w) : d < w.heap.size := by
  cases o with
  | some q => exact lt_of_heap h
  | none => obtain ⟨p, c, h1, h2⟩ := h; exact lt_of_heap h2
def UmRet (d : Nat) (s : ByteArray) (o : MG) (w : World) (e : Ending) (w' : World) : Prop :=
  ∃ (t : V) (sl : Value), e = .returned (t.agg sl) ∧ t.wf ∧ OwnS w' (fun x => w.heap.size ≤ x) sl t.kids ∧ (∀ q, o = some q → t = q.1) ∧ UmSt d s (o.map (·.2)) w' ∧ Touch (fun x => x = d) (fun x => x = d) w w'
def UkRet (d : Nat) (s : ByteArray) (o : Option (List V × Nat × Nat)) (w : World) (e : Ending) (w' : World) : Prop :=
  ∃ (us : List V) (sl : Value), e = .returned sl ∧ OwnS w' (fun x => w.heap.size ≤ x) sl us ∧ (∀ q, o = some q → us = q.1) ∧ UmSt d s (o.map (·.2)) w' ∧ Touch (fun x => x = d) (fun x => x = d) w w'
def UmLoop (d : Nat) (s : ByteArray) (g : Nat → Nat → MG) (k i l j : Nat) (us : List V) (st : Option (Nat × Nat)) : Prop := match st with
  | some q => mgKids g j i l = some (us, q.1, q.2)
  | none => mgKids g k i l = none
set_option maxHeartbeats 2000000 in
theorem many_any (d : Nat) (s : ByteArray) (hs : s.size ≤ 1048576) (g : Nat → Nat → MG) (hg : ∀ i l, MGood s i l (g i l)) (deep : Int)
    (hV : ∀ (i l : Nat) (W : World), i ≤ s.size → l ≤ 300 → UB W d s i (300 - (l : Int)) false → Calls Tryd.prog 120 #[.pointer (some ⟨d, 0, none⟩), .int .i64 deep] W (UmRet d s (g i l) W))
    (k i l : Nat) (hi : i ≤ s.size) (hl : l ≤ 300) (hk : k ≤ 200000) (w : World) (h : UB w d s i (300 - (l : Int)) false) :
    Calls Tryd.prog 177 #[.pointer (some ⟨d, 0, none⟩), .int .i64 k, .int .i64 deep] w (UkRet d s (mgKids g k i l) w) := by
  have hdw := lt_of_heap h
  have HU := Lib.hid h
  have HV := Lib.hid hV
  have HKG := Lib.hid (fun (j : Nat) => mgKids_good hg j i l hi)
  have HST := Lib.hid (fun (j : Nat) (h : mgKids g j i l = none) (hj : j ≤ k) => mgKids_none h hj)
  have HSM := Lib.hid (fun (j : Nat) (p) (h : mgKids g j i l = some p) (q) (hq : g p.2.1 p.2.2 = some q) => mgKids_some h hq)
  have HSP := Lib.hid (fun (j : Nat) (p) (h : mgKids g j i l = some p) (hq : g p.2.1 p.2.2 = none) => mgKids_stop h hq)
  have HFIN := Lib.hid (show ∀ (us : List V) (sl : Value) (st : Option (Nat × Nat)) (w' : World), UmLoop d s g k i l k us st → OwnS w' (fun x => w.heap.size ≤ x) sl us → UmSt d s st w' → Touch (fun x => x = d) (fun x => x = d) w w' → UkRet d s (mgKids g k i l) w (.returned sl) w' from
    fun us sl st w' h1 h2 h3 h4 => by
      cases st with
      | some q => rw [show mgKids g k i l = some (us, q.1, q.2) from h1]; exact ⟨us, sl, rfl, h2, (fun q' e => by injection e with e; rw [← e]), h3, h4⟩
      | none => rw [show mgKids g k i l = none from h1]; exact ⟨us, sl, rfl, h2, (fun q' e => by cases e), h3, h4⟩)
  have HL0 := Lib.hid (show UmLoop d s g k i l 0 [] (some (i, l)) from rfl)
  clear hV hg h
  go_enter Tryd.func177, Tryd.ntmps177
  go_wp2_with fail
  go_loopw [1, 7] (fun n o wr => ∃ (j : Nat) (us : List V) (G : Nat → Prop) (st : Option (Nat × Nat)), j ≤ k ∧ n = .int .i64 ((k : Int) - j) ∧ VRows wr w.heap.size 26 G o us ∧ us.length = j ∧ UmLoop d s g k i l j us st ∧ UmSt d s st wr ∧ Touch (fun x => x = d) (fun x => x = d) w wr) (fun n _ _ => (intOf n).toNat)
  case atStart => exact ⟨0, [], _, some (i, l), by omega, by simp, VRows.made0 (Nat.le_refl _) (heap_alloc_new w _), rfl, HL0.out, HU.out.stay ((Below.refl _ _).alloc (Nat.le_refl _) _), Touch.of_below ((Below.refl _ _).alloc (Nat.le_refl _) _)⟩
  case round =>
    obtain ⟨j, us, G, st, hj, rfl, hrow, hlen, hlp, hst, htw⟩ := hrel
    have hzw := htw.size
    have hdr := hst.lt
    have HR := Lib.hid hrow
    have HT := Lib.hid htw
    have HS := Lib.hid hst
    have HLP := Lib.hid hlp
    obtain ⟨oa, on, oc, rfl⟩ := hrow.slice3
    clear hrow htw hlp
    cases st with
    | none =>
      obtain ⟨p, c, hp, hub⟩ := hst
      obtain ⟨u0, u1, u2, u3, f1, f2, f3⟩ := hub.cells
      have hjk : j = k ∨ j < k := by omega
      have HF := Lib.hid (HFIN.out us (.slice oa on oc) none wr HLP.out HR.out.own HS.out HT.out)
      clear HFIN HL0 HSP HSM HST HKG HV
      rcases hjk with rfl | hlt
      · have t1 : decide ((0 : Int) < (j : Int) - j) = false := decide_eq_false (by omega)
        go_wp2_with fail
        go_ret
        exact HF.out
      · have t1 : decide ((0 : Int) < (k : Int) - j) = true := decide_eq_true (by omega)
        go_wp2_with fail
        go_ret
        exact HF.out
    | some q =>
      obtain ⟨ij, lj⟩ := q
      obtain ⟨u0, u1, u2, u3, f1, f2, f3⟩ := (show UB wr d s ij (300 - (lj : Int)) false from hst).cells
      obtain ⟨hg1, hg2, hg3, hg4⟩ := HKG.out j us ij lj HLP.out
      by_cases hlt : j < k
      · have t1 : decide ((0 : Int) < (k : Int) - j) = true := decide_eq_true (by omega)
        have VJ := Lib.hid (fun (W : World) (hW : Below wr.heap.size wr W) => HV.out ij lj W hg2 (by omega) (UB.stay (show UB wr d s ij (300 - (lj : Int)) false from HS.out) hW))
        have HN := Lib.hid (show ∀ t, (∀ q, g ij lj = some q → t = q.1) → UmLoop d s g k i l (j + 1) (us ++ [t]) ((g ij lj).map (·.2)) from fun t ht => by
          cases hgs : g ij lj with
          | none => exact HST.out (j + 1) (HSP.out j _ HLP.out hgs) (by omega)
          | some q => rw [ht q hgs]; exact HSM.out j _ HLP.out _ hgs)
        generalize g ij lj = og at *
        clear HFIN HL0 HSP HSM HST HKG HV
        go_wp2_with fail
        refine (VJ.out _ ((by (with_reducible (repeat' (first | exact Below.refl _ _ | refine below_alloc ?_ _ ?_ | refine Below.setCell ?_ ?_ _ | refine Below.drew ?_ | refine below_drewN ?_ _ | refine below_step ?_ (by assumption) ?_ | refine below_mark ?_ (by assumption) ?_))); all_goals (first | omega | (simp; done) | (simp; omega))))).mono ?_
        rintro x w5 ⟨t, sl, rfl, twf, tow, htq, hst5, ht5⟩
        obtain ⟨ua, un, uc, rfl⟩ : ∃ sa sn sc, sl = .slice sa sn sc := by obtain ⟨p, q, e⟩ := tow.slice; exact ⟨p, _, q, e⟩
        unfold V.agg
        have hz5 := ht5.size
        have HWF := Lib.hid twf
        have HO := Lib.hid tow.bound
        have HT5 := Lib.hid ht5
        have HS5 := Lib.hid hst5
        have HL1 := Lib.hid (HN.out t htq)
        have HR5 := Lib.hid (show VRows w5 w.heap.size 26 G (.slice oa on oc) us from rows_over HR.out ht5 hdw)
        clear tow twf VJ ht5 hst5 htq HN
        go_wp2_with (at_builtin; refine app_own rfl _ _ rfl w.heap.size G (fun x => wr.heap.size ≤ x ∧ x < w5.heap.size) _ us rfl ((HR5.out.keep ((by (with_reducible (repeat' (first | exact Below.refl _ _ | refine below_alloc ?_ _ ?_ | refine Below.setCell ?_ ?_ _ | refine Below.drew ?_ | refine below_drewN ?_ _ | refine below_step ?_ (by assumption) ?_ | refine below_mark ?_ (by assumption) ?_))); all_goals (first | omega | (simp; done) | (simp; omega)))))) t (.slice ua un uc) _ rfl (by first | exact heap_alloc_here _ (by simp) | exact heap_alloc_here _ rfl | exact heap_alloc_new _ _) HWF.out (OwnS.keep HO.out (fun x hx hxs => (heap_alloc_old _ _ hxs))) (fun x hx => by have h1 := hx.1; have h2 := hx.2; exact ⟨by omega, by simp; omega, fun hG => by have := (HR.out.inG x hG).2; omega, fun e => by have := (HR.out.lt x e).2; omega⟩) (by omega) (by simp; omega) ?_; intro v2 w2 hrow2 hg2 hfr2; obtain ⟨va, vn, vc, rfl⟩ := hrow2.slice3; have HG2 := Lib.hid hg2; have HR2 := Lib.hid hrow2; clear hrow2 hg2 hfr2)
        go_roundw
        case rel =>
          refine ⟨j + 1, _, _, _, by omega, by go_num, HR2.out, by simp [hlen], HL1.out, HS5.out.keep ?_, ?_⟩
          · rw [HG2.out.block d (by simp; omega) (fun e => by have := (HR.out.lt d e.symm).1; omega)]
            exact heap_alloc_old _ _ HS5.out.lt
          · exact touch_grown ((HT.out.trans HT5.out).trans (Touch.of_below ((by (with_reducible (repeat' (first | exact Below.refl _ _ | refine below_alloc ?_ _ ?_ | refine Below.setCell ?_ ?_ _ | refine Below.drew ?_ | refine below_drewN ?_ _ | refine below_step ?_ (by assumption) ?_ | refine below_mark ?_ (by assumption) ?_))); all_goals (first | omega | (simp; done) | (simp; omega)))))) HG2.out (Nat.le_refl _) (fun x hx => (HR.out.lt x hx).1)
        case measure => simp [intOf]; omega
      · obtain rfl : j = k := by omega
        have t1 : decide ((0 : Int) < (j : Int) - j) = false := decide_eq_false (by omega)
        have HF := Lib.hid (HFIN.out us (.slice oa on oc) (some (ij, lj)) wr HLP.out HR.out.own HS.out HT.out)
        clear HFIN HL0 HSP HSM HST HKG HV
        go_wp2_with fail
        go_ret
        exact HF.out
set_option maxHeartbeats 1000000 in
theorem many_bad (d : Nat) (s : ByteArray) (n deep : Int) (p : Nat) (hp : p ≤ s.size) (c : Int) (w : World) (h : UB w d s p c true) :
    Calls Tryd.prog 177 #[.pointer (some ⟨d, 0, none⟩), .int .i64 n, .int .i64 deep] w (UkRet d s none w) := by
  have hdw := lt_of_heap h
  have HU := Lib.hid h
  obtain ⟨u0, u1, u2, u3, f1, f2, f3⟩ := h.cells
  have HF := Lib.hid (show UkRet d s none w (.returned (.slice (some ⟨w.heap.size, 0, none⟩) 0 0)) (w.alloc (.cells #[] 26)) from
    ⟨[], _, rfl, (VRows.made0 (Nat.le_refl _) (heap_alloc_new w _)).own, (fun q e => by cases e), ⟨p, c, hp, HU.out.stay ((Below.refl _ _).alloc (Nat.le_refl _) _)⟩, Touch.of_below ((Below.refl _ _).alloc (Nat.le_refl _) _)⟩)
  clear h
  by_cases hn : 0 < n
  · have t1 : decide (0 < n) = true := decide_eq_true hn
    go_enter Tryd.func177, Tryd.ntmps177
    go_wp2_with fail
    refine wp_loop_rounds 1 ?_
    rw [rounds_succ]
    go_wp2_with fail
    go_ret
    exact HF.out
  · have t1 : decide (0 < n) = false := decide_eq_false hn
    go_enter Tryd.func177, Tryd.ntmps177
    go_wp2_with fail
    refine wp_loop_rounds 1 ?_
    rw [rounds_succ]
    go_wp2_with fail
    go_ret
    exact HF.out
end Go.Proofs.YtgbgeocmjdgmoaaDoor
namespace Go.Proofs.YtgbgeocmjdgmoaaDoor
set_option linter.unusedSimpArgs false
set_option linter.unusedVariables false
set_option maxRecDepth 100000
open Go.RowKit
theorem New_any (w0 : World) (v : Value) (N : Nat) (hD : Drw w0 v N) (w : World) (hw : Below w0.heap.size w0 w) :
    Calls Tryd.prog 88 #[v] w fun e w' => e = .returned (.pointer (some ⟨w.heap.size, 0, none⟩)) ∧ CuX w0 w.heap.size v N w' ∧ Below w.heap.size w w' := by
  obtain ⟨⟨L, hL, rfl⟩, hn⟩ := hD
  refine (l01New_any w0 v L hL hn w hw).mono ?_
  rintro e w' ⟨h, he, hc, hb⟩
  exact ⟨he, ⟨_, hc⟩, hb⟩
theorem DX.lower {w0 w w1 w2 : World} {c N : Nat} {v : Value} (h : DX w0 c v N w1 w2) (hb : Below w.heap.size w w1) (hc : w.heap.size ≤ c) : Below w.heap.size w w2 := by
  have h2 := h.2
  exact ⟨h2.os.trans hb.os, h2.tape.trans hb.tape, h2.output.trans hb.output, Nat.le_trans hb.size h2.size, fun k hk => (h2.block k (Nat.lt_of_lt_of_le hk hb.size) (by omega)).trans (hb.block k hk)⟩
def DrawV (w : World) (e : Ending) (w' : World) : Prop := ∃ (t : V) (sl : Value), e = .returned (t.agg sl) ∧ t.wf ∧ t.sz ≤ 4000 ∧ RepS w' sl t.kids ∧ Below w.heap.size w w'
set_option maxHeartbeats 8000000 in
theorem DrawPutMsg_any (w0 : World) (v : Value) (N : Nat) (hD : Drw w0 v N) (w : World) (hw : Below w0.heap.size w0 w) :
    Calls Tryd.prog 37 #[v] w (DrawV w) := by
  have BZ := Lib.hid (Box.new w 0 0 0 ⟨#[]⟩ (.slice none 0 0) 26)
  have hb0 : Below w.heap.size w (w.alloc (.cells #[.int .i64 0, .int .i64 0, .int .i64 0, .string ⟨#[]⟩, .slice none 0 0] 26)) := (Below.refl _ _).alloc (Nat.le_refl _) _
  have HB0 := Lib.hid hb0
  have NW := Lib.hid (fun (W : World) (hW : Below w0.heap.size w0 W) => New_any w0 v N hD W hW)
  have VL := Lib.hid (fun (c : Nat) (W : World) (h : CuX w0 c v N W) => l05Value_any w0 c v N hD W h)
  have HW0 := Lib.hid (hw.trans (hb0.mono hw.size))
  have hz0 : w.heap.size + 1 = (w.alloc (.cells #[.int .i64 0, .int .i64 0, .int .i64 0, .string ⟨#[]⟩, .slice none 0 0] 26)).heap.size := by simp
  clear hb0 hw hD
  go_enter Tryd.func37, Tryd.ntmps37
  go_wp2_with fail
  generalize (w.alloc (.cells #[.int .i64 0, .int .i64 0, .int .i64 0, .string ⟨#[]⟩, .slice none 0 0] 26)) = W0 at *
  refine (NW.out W0 HW0.out).mono ?_
  rintro e1 w1 ⟨rfl, hc1, hb1⟩
  have HC1 := Lib.hid hc1
  have HB1 := Lib.hid hb1
  have BZ1 := Lib.hid (BZ.out.stay hb1)
  have hz1 := hb1.size
  clear hc1 hb1
  go_wp2_with fail
  refine (VL.out W0.heap.size w1 HC1.out).mono ?_
  rintro e2 w2 ⟨t, sl, G, rfl, hwf, hsz, ho, hgl, hd2⟩
  obtain ⟨sa, sn, sc, rfl⟩ : ∃ sa sn sc, sl = .slice sa sn sc := by obtain ⟨p, q, e⟩ := ho.slice; exact ⟨p, _, q, e⟩
  have HB2 := Lib.hid (hd2.lower HB1.out (Nat.le_refl _))
  have BZ2 := Lib.hid (BZ1.out.overC hd2.2 (by omega))
  have HW := Lib.hid hwf
  have HO := Lib.hid (ho.set5 (z := w.heap.size) (by omega) (fun x hx => by have := hgl x hx; omega) (.int .i64 t.k) (.int .i64 t.n) (.int .i64 t.e) (.string t.s) (.slice sa sn sc)).rep
  clear hd2 hwf ho hgl
  unfold V.agg
  obtain ⟨z0, z1, z2, z3, z4⟩ := BZ2.out.cells
  have zf0 := BZ2.out.free (i := 0); have zf1 := BZ2.out.free (i := 1); have zf2 := BZ2.out.free (i := 2); have zf3 := BZ2.out.free (i := 3); have zf4 := BZ2.out.free (i := 4)
  have HF := Lib.hid (show DrawV w (.returned (t.agg (.slice sa sn sc))) (set5 w2 w.heap.size (.int .i64 t.k) (.int .i64 t.n) (.int .i64 t.e) (.string t.s) (.slice sa sn sc)) from
    ⟨t, _, rfl, HW.out, hsz, HO.out, ((HB0.out.trans (HB2.out.mono (by omega))).trans ((below_set5 w2 w.heap.size (.int .i64 t.k) (.int .i64 t.n) (.int .i64 t.e) (.string t.s) (.slice sa sn sc)).mono (Nat.le_refl _)))⟩)
  go_wp2_with fail
  exact bodyPost_ret (v := t.agg (.slice sa sn sc)) (by simp [results, Tryd.results37, go_sem, z0, z1, z2, z3, z4, V.agg]) rfl HF.out
set_option maxHeartbeats 8000000 in
theorem DrawMsgSize_any (w0 : World) (v : Value) (N : Nat) (hD : Drw w0 v N) (w : World) (hw : Below w0.heap.size w0 w) :
    Calls Tryd.prog 42 #[v] w (DrawV w) := by
  have BZ := Lib.hid (Box.new w 0 0 0 ⟨#[]⟩ (.slice none 0 0) 26)
  have hb0 : Below w.heap.size w (w.alloc (.cells #[.int .i64 0, .int .i64 0, .int .i64 0, .string ⟨#[]⟩, .slice none 0 0] 26)) := (Below.refl _ _).alloc (Nat.le_refl _) _
  have HB0 := Lib.hid hb0
  have NW := Lib.hid (fun (W : World) (hW : Below w0.heap.size w0 W) => New_any w0 v N hD W hW)
  have VL := Lib.hid (fun (c : Nat) (W : World) (h : CuX w0 c v N W) => l05Value_any w0 c v N hD W h)
  have HW0 := Lib.hid (hw.trans (hb0.mono hw.size))
  have hz0 : w.heap.size + 1 = (w.alloc (.cells #[.int .i64 0, .int .i64 0, .int .i64 0, .string ⟨#[]⟩, .slice none 0 0] 26)).heap.size := by simp
  clear hb0 hw hD
  go_enter Tryd.func42, Tryd.ntmps42
  go_wp2_with fail
  generalize (w.alloc (.cells #[.int .i64 0, .int .i64 0, .int .i64 0, .string ⟨#[]⟩, .slice none 0 0] 26)) = W0 at *
  refine (NW.out W0 HW0.out).mono ?_
  rintro e1 w1 ⟨rfl, hc1, hb1⟩
  have HC1 := Lib.hid hc1
  have HB1 := Lib.hid hb1
  have BZ1 := Lib.hid (BZ.out.stay hb1)
  have hz1 := hb1.size
  clear hc1 hb1
  go_wp2_with fail
  refine (VL.out W0.heap.size w1 HC1.out).mono ?_
  rintro e2 w2 ⟨t, sl, G, rfl, hwf, hsz, ho, hgl, hd2⟩
  obtain ⟨sa, sn, sc, rfl⟩ : ∃ sa sn sc, sl = .slice sa sn sc := by obtain ⟨p, q, e⟩ := ho.slice; exact ⟨p, _, q, e⟩
  have HB2 := Lib.hid (hd2.lower HB1.out (Nat.le_refl _))
  have BZ2 := Lib.hid (BZ1.out.overC hd2.2 (by omega))
  have HW := Lib.hid hwf
  have HO := Lib.hid (ho.set5 (z := w.heap.size) (by omega) (fun x hx => by have := hgl x hx; omega) (.int .i64 t.k) (.int .i64 t.n) (.int .i64 t.e) (.string t.s) (.slice sa sn sc)).rep
  clear hd2 hwf ho hgl
  unfold V.agg
  obtain ⟨z0, z1, z2, z3, z4⟩ := BZ2.out.cells
  have zf0 := BZ2.out.free (i := 0); have zf1 := BZ2.out.free (i := 1); have zf2 := BZ2.out.free (i := 2); have zf3 := BZ2.out.free (i := 3); have zf4 := BZ2.out.free (i := 4)
  have HF := Lib.hid (show DrawV w (.returned (t.agg (.slice sa sn sc))) (set5 w2 w.heap.size (.int .i64 t.k) (.int .i64 t.n) (.int .i64 t.e) (.string t.s) (.slice sa sn sc)) from
    ⟨t, _, rfl, HW.out, hsz, HO.out, ((HB0.out.trans (HB2.out.mono (by omega))).trans ((below_set5 w2 w.heap.size (.int .i64 t.k) (.int .i64 t.n) (.int .i64 t.e) (.string t.s) (.slice sa sn sc)).mono (Nat.le_refl _)))⟩)
  go_wp2_with fail
  exact bodyPost_ret (v := t.agg (.slice sa sn sc)) (by simp [results, Tryd.results42, go_sem, z0, z1, z2, z3, z4, V.agg]) rfl HF.out
def DrawII (w : World) (e : Ending) (w' : World) : Prop := ∃ n m : Int, e = .returned (.tuple #[.int .i64 n, .int .i64 m]) ∧ In64 n ∧ -1 ≤ m ∧ m ≤ 9 ∧ Below w.heap.size w w'
set_option maxHeartbeats 8000000 in
theorem DrawPutWide_any (w0 : World) (v : Value) (N : Nat) (hD : Drw w0 v N) (w : World) (hw : Below w0.heap.size w0 w) :
    Calls Tryd.prog 43 #[v] w (DrawII w) := by
  have NW := Lib.hid (fun (W : World) (hW : Below w0.heap.size w0 W) => New_any w0 v N hD W hW)
  have NU := Lib.hid (fun (c : Nat) (W : World) (h : CuX w0 c v N W) => l06Nums_any w0 c v N hD W h)
  have BL := Lib.hid (fun (c : Nat) (q : Int) (hq : In64 q) (W : World) (h : CuX w0 c v N W) => Below1_any w0 c v N hD q hq W h)
  have HW0 := Lib.hid hw
  clear hw hD
  go_enter Tryd.func43, Tryd.ntmps43
  go_wp2_with fail
  refine (NW.out w HW0.out).mono ?_
  rintro e1 w1 ⟨rfl, hc1, hb1⟩
  have HC1 := Lib.hid hc1
  have HB1 := Lib.hid hb1
  clear hc1 hb1
  go_wp2_with fail
  refine (NU.out w.heap.size w1 HC1.out).mono ?_
  rintro e2 w2 ⟨z, rfl, hz, hd2⟩
  have HD2 := Lib.hid hd2
  have HZ := Lib.hid hz
  clear hd2 hz
  go_wp2_with fail
  refine (BL.out w.heap.size 11 (by unfold In64; omega) w2 HD2.out.1).mono ?_
  rintro e3 w3 ⟨x, rfl, hx0, hx1, hd3⟩
  have HB3 := Lib.hid ((HD2.out.trans hd3).lower HB1.out (Nat.le_refl _))
  have hx : x ≤ 10 := by omega
  clear hd3 hx1
  go_wp2_with fail
  go_ret2
  exact ⟨_, _, rfl, HZ.out, by omega, by omega, HB3.out⟩
set_option maxHeartbeats 8000000 in
theorem DrawSignOf_any (w0 : World) (v : Value) (N : Nat) (hD : Drw w0 v N) (w : World) (hw : Below w0.heap.size w0 w) :
    Calls Tryd.prog 48 #[v] w (DrawII w) := by
  have NW := Lib.hid (fun (W : World) (hW : Below w0.heap.size w0 W) => New_any w0 v N hD W hW)
  have NU := Lib.hid (fun (c : Nat) (W : World) (h : CuX w0 c v N W) => l06Nums_any w0 c v N hD W h)
  have BL := Lib.hid (fun (c : Nat) (q : Int) (hq : In64 q) (W : World) (h : CuX w0 c v N W) => Below1_any w0 c v N hD q hq W h)
  have HW0 := Lib.hid hw
  clear hw hD
  go_enter Tryd.func48, Tryd.ntmps48
  go_wp2_with fail
  refine (NW.out w HW0.out).mono ?_
  rintro e1 w1 ⟨rfl, hc1, hb1⟩
  have HC1 := Lib.hid hc1
  have HB1 := Lib.hid hb1
  clear hc1 hb1
  go_wp2_with fail
  refine (NU.out w.heap.size w1 HC1.out).mono ?_
  rintro e2 w2 ⟨z, rfl, hz, hd2⟩
  have HD2 := Lib.hid hd2
  have HZ := Lib.hid hz
  clear hd2 hz
  go_wp2_with fail
  refine (BL.out w.heap.size 11 (by unfold In64; omega) w2 HD2.out.1).mono ?_
  rintro e3 w3 ⟨x, rfl, hx0, hx1, hd3⟩
  have HB3 := Lib.hid ((HD2.out.trans hd3).lower HB1.out (Nat.le_refl _))
  have hx : x ≤ 10 := by omega
  clear hd3 hx1
  go_wp2_with fail
  go_ret2
  exact ⟨_, _, rfl, HZ.out, by omega, by omega, HB3.out⟩
def DrawSII (B : Nat) (w : World) (e : Ending) (w' : World) : Prop := ∃ (s : ByteArray) (i m : Int), e = .returned (.tuple #[.string s, .int .i64 i, .int .i64 m]) ∧ s.size ≤ B ∧ In64 i ∧ -1 ≤ m ∧ m ≤ 9 ∧ Below w.heap.size w w'
set_option maxHeartbeats 8000000 in
theorem DrawGetWide_any (w0 : World) (v : Value) (N : Nat) (hD : Drw w0 v N) (w : World) (hw : Below w0.heap.size w0 w) :
    Calls Tryd.prog 45 #[v] w (DrawSII 100 w) := by
  have NW := Lib.hid (fun (W : World) (hW : Below w0.heap.size w0 W) => New_any w0 v N hD W hW)
  have NU := Lib.hid (fun (c : Nat) (W : World) (h : CuX w0 c v N W) => l06Nums_any w0 c v N hD W h)
  have BL := Lib.hid (fun (c : Nat) (q : Int) (hq : In64 q) (W : World) (h : CuX w0 c v N W) => Below1_any w0 c v N hD q hq W h)
  have PI := Lib.hid (fun (c : Nat) (W : World) (h : CuX w0 c v N W) => PickI_any w0 c v N hD [1, 1, 0, 5, 9, -1, 9223372036854775807] 3 (by unfold In64; decide) (by decide) 7 7 rfl W h _ rfl)
  have PW := Lib.hid (fun (n : Int) (hn : In64 n) (W : World) => PutWide_spec n 8 W hn (by omega) (by omega))
  have HW0 := Lib.hid hw
  clear hw hD
  go_enter Tryd.func45, Tryd.ntmps45
  go_wp2_with fail
  refine (NW.out w HW0.out).mono ?_
  rintro e1 w1 ⟨rfl, hc1, hb1⟩
  have HC1 := Lib.hid hc1
  have HB1 := Lib.hid hb1
  clear hc1 hb1
  go_wp2_with fail
  refine (NU.out w.heap.size w1 HC1.out).mono ?_
  rintro e2 w2 ⟨z, rfl, hz, hd2⟩
  have HD2 := Lib.hid hd2
  have HZ := Lib.hid hz
  clear hd2 hz
  go_wp2_with fail
  refine (PW.out z HZ.out w2).mono ?_
  rintro e3 w3 ⟨rfl, hb3⟩
  have HD3 := Lib.hid (HD2.out.stay hb3)
  obtain ⟨s8, hs8, hls⟩ : ∃ s8 : ByteArray, s8 = ⟨(bigZ (8 : Int).toNat z).toArray⟩ ∧ s8.size = 8 := ⟨_, rfl, bigZ_length _ _⟩
  rw [show bstr (bigZ (8 : Int).toNat z) = .string s8 from by rw [hs8]]
  clear hb3 hs8
  go_wp2_with fail
  refine (PI.out w.heap.size w3 HD3.out.1).mono ?_
  rintro e4 w4 ⟨i, rfl, hi, hd4⟩
  have HD4 := Lib.hid (HD3.out.trans hd4)
  have HI := Lib.hid hi
  clear hd4 hi
  go_wp2_with fail
  refine (BL.out w.heap.size 11 (by unfold In64; omega) w4 HD4.out.1).mono ?_
  rintro e5 w5 ⟨x, rfl, hx0, hx1, hd5⟩
  have HB5 := Lib.hid ((HD4.out.trans hd5).lower HB1.out (Nat.le_refl _))
  have hx : x ≤ 10 := by omega
  clear hd5 hx1
  go_wp2_with fail
  go_ret3
  have hq0 : (⟨#[120]⟩ : ByteArray).size = 1 := rfl
  exact ⟨_, _, _, rfl, by simp only [ByteArray.size_append, hls, hq0]; omega, HI.out, by omega, by omega, HB5.out⟩
theorem mpB_sz (t : V) : (⟨(mpB t).toArray⟩ : ByteArray).size ≤ 615000 := mpB_le t
def DrawSI (B : Nat) (w : World) (e : Ending) (w' : World) : Prop := ∃ (s : ByteArray) (i : Int), e = .returned (.tuple #[.string s, .int .i64 i]) ∧ s.size ≤ B ∧ In64 i ∧ Below w.heap.size w w'
set_option maxHeartbeats 800000 in
theorem DrawGetMsg_any (w0 : World) (v : Value) (N : Nat) (hD : Drw w0 v N) (w : World) (hw : Below w0.heap.size w0 w) :
    Calls Tryd.prog 39 #[v] w (DrawSI 700000 w) := by
  have NW := Lib.hid (fun (W : World) (hW : Below w0.heap.size w0 W) => New_any w0 v N hD W hW)
  have VL := Lib.hid (fun (c : Nat) (W : World) (h : CuX w0 c v N W) => l05Value_any w0 c v N hD W h)
  have BE := Lib.hid (fun (c : Nat) (s : ByteArray) (hs : s.size ≤ 2000000) (W : World) (h : CuX w0 c v N W) => l01Bent_any w0 c v N hD s hs W h)
  have PI := Lib.hid (fun (c : Nat) (W : World) (h : CuX w0 c v N W) => PickI_any w0 c v N hD [1, 1, 1, 1, 0, 2, -1, 9223372036854775807] 3 (by unfold In64; decide) (by decide) 8 8 rfl W h _ rfl)
  have HW0 := Lib.hid hw
  clear hw hD
  go_enter Tryd.func39, Tryd.ntmps39
  go_wp2_with fail
  refine (NW.out w HW0.out).mono ?_
  rintro e1 w1 ⟨rfl, hc1, hb1⟩
  have HC1 := Lib.hid hc1
  have HB1 := Lib.hid hb1
  clear hc1 hb1
  go_wp2_with fail
  refine (VL.out w.heap.size w1 HC1.out).mono ?_
  rintro e2 w2 ⟨t, sl, G, rfl, hwf, hsz, ho, hgl, hd2⟩
  have HD2 := Lib.hid hd2
  have PM := Lib.hid (PutMsg_spec w2 (t.agg sl) t ⟨sl, rfl, hwf, ho.rep⟩ (by omega) w2 (Below.refl _ _))
  clear hwf ho hgl hd2
  go_wp2_with fail
  refine PM.out.mono ?_
  rintro e3 w3 ⟨rfl, hb3⟩
  have HD3 := Lib.hid (HD2.out.stay hb3)
  obtain ⟨s8, hs8, hls⟩ : ∃ s8 : ByteArray, s8 = ⟨(mpB t).toArray⟩ ∧ s8.size ≤ 615000 := ⟨_, rfl, mpB_sz t⟩
  rw [show bstr (mpB t) = .string s8 from by rw [hs8]]
  clear hb3 hs8 PM
  go_wp2_with fail
  refine (BE.out w.heap.size s8 (by omega) w3 HD3.out.1).mono ?_
  rintro e4 w4 ⟨u, rfl, hu, hd4⟩
  have HD4 := Lib.hid (HD3.out.trans hd4)
  clear hd4
  go_wp2_with fail
  refine (PI.out w.heap.size w4 HD4.out.1).mono ?_
  rintro e5 w5 ⟨i, rfl, hi, hd5⟩
  have HB5 := Lib.hid ((HD4.out.trans hd5).lower HB1.out (Nat.le_refl _))
  have HI := Lib.hid hi
  clear hd5 hi
  go_wp2_with fail
  go_ret2
  have hq0 : (⟨#[120]⟩ : ByteArray).size = 1 := rfl
  have hq1 : (⟨#[121]⟩ : ByteArray).size = 1 := rfl
  exact ⟨_, _, rfl, by simp only [ByteArray.size_append, hq0, hq1]; omega, HI.out, HB5.out⟩
end Go.Proofs.YtgbgeocmjdgmoaaDoor
namespace Go.Proofs.YtgbgeocmjdgmoaaDoor
set_option linter.unusedSimpArgs false
set_option linter.unusedVariables false
set_option maxRecDepth 100000
open Go.RowKit
theorem open_bytes {H : Type} {enc : TypeId × Value → H} {w : World} {sp : Nat → Bool} {hd : Bool} {v : Value} {d : DataW H} {p : List MemPlace} (hv : ∃ a len cap, v = .slice a len cap)
    (h : DataW.Trod enc Tryd.prog w 0 sp hd 22 v d p) : ∃ L : List Int, BRead w v L := by
  obtain ⟨fuel, hf⟩ := h
  obtain ⟨a0, len0, cap0, rfl⟩ := hv
  rcases Go.ChangeShapes.open_ints Tryd.underlying22 Tryd.underlying5 (by kernel_rfl) hf with ⟨hc, _⟩ | ⟨a, len, cap, zs, hc, _, hlc, hcm, hsl, _, hcell, hss⟩
  · have hc : Value.slice a0 len0 cap0 = .slice none 0 0 := by simpa [Value.cells] using hc
    exact ⟨[], none, 0, 0, 0, hc, by simp, by simp, by omega, by simp, by simp⟩
  · have hc : Value.slice a0 len0 cap0 = .slice (some a) len cap := by simpa [Value.cells] using hc
    have hle : len ≤ zs.length := by rw [hsl]; split <;> omega
    have hs0 : 0 < len → a.spot = none ∧ a.block < w.heap.size := by
      intro h0
      have h1 := hcell 0 (by omega)
      have : a.add 0 = a := by unfold Addr.add; simp
      rw [this] at h1
      refine ⟨?_, World.block_lt_of_cell? w a h1⟩
      cases hq : a.spot with
      | none => rfl
      | some q => simp [World.cell?, hq] at h1; split at h1 <;> cases h1
    have hlen : (zs.take len).length = len := by rw [List.length_take]; omega
    refine ⟨zs.take len, some a, a.block, a.off, cap, by rw [hlen]; exact hc, ?_, by rw [hlen]; exact hlc, by simpa [maxLen] using hcm, ?_, ?_⟩
    · intro hne
      have h0 : 0 < len := by rcases Nat.eq_zero_or_pos len with e | e; (subst e; simp at hne); exact e
      obtain ⟨h1, h2⟩ := hs0 h0
      refine ⟨?_, h2⟩
      cases a; simp at h1; subst h1; rfl
    · intro i hi
      have hi2 := hi
      rw [hlen] at hi
      have h1 := hcell i (by omega)
      rw [addr_add _ _ (hs0 (by omega)).1] at h1
      have e : (zs.take len)[i]'hi2 = zs.getD i 0 := by
        rw [List.getElem_take, List.getD_eq_getElem?_getD, List.getElem?_eq_getElem (by omega)]; rfl
      rw [e]
      exact h1
    · intro n hn
      have := hss n (List.mem_of_mem_take hn)
      simp [Lit.wf, IntKind.min, IntKind.max, IntKind.signed, IntKind.bits] at this
      omega
end Go.Proofs.YtgbgeocmjdgmoaaDoor
