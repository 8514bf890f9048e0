/- Lemmas for the statement of the last text of this claim: texts joined. -/
import Derived.Test.YtgbgeocmjdgmoaaDoorFnMsgK06
namespace Go.Proofs.YtgbgeocmjdgmoaaDoor
set_option linter.unusedSimpArgs false
set_option linter.unusedVariables false
set_option maxRecDepth 100000
open Go.RowKit
def At (s : ByteArray) (i : Nat) (L : List UInt8) : Prop := i + L.length ≤ s.size ∧ sub s.data.toList i L.length = L
theorem At.nil {s : ByteArray} {i : Nat} (h : i ≤ s.size) : At s i [] := ⟨by simpa using h, by simp [sub]⟩
theorem sub_split (l : List UInt8) (i m k : Nat) : sub l i (m + k) = sub l i m ++ sub l (i + m) k := by
  unfold sub; rw [List.take_add, List.drop_drop]
theorem At.append {s : ByteArray} {i : Nat} {A B : List UInt8} (h : At s i (A ++ B)) : At s i A ∧ At s (i + A.length) B := by
  obtain ⟨h1, h2⟩ := h
  rw [List.length_append] at h1 h2
  rw [sub_split] at h2
  have hl : (sub s.data.toList i A.length).length = A.length := sub_length _ _ _ (by show i + A.length ≤ s.size; omega)
  have := List.append_inj h2 hl
  exact ⟨⟨by omega, this.1⟩, ⟨by omega, this.2⟩⟩
theorem At.cons {s : ByteArray} {i : Nat} {b : UInt8} {L : List UInt8} (h : At s i (b :: L)) : ∃ hi : i < s.size, s[i] = b ∧ At s (i + 1) L := by
  have h0 := At.append (A := [b]) (B := L) h
  have h1 := h0.1
  have hi : i < s.size := by have := h1.1; simp at this; omega
  refine ⟨hi, ?_, h0.2⟩
  have h2 := h1.2
  have h3 : sub s.data.toList i 1 = [s[i]] := by have := sub_succ s i 0 (by omega); simpa [sub] using this
  rw [show [b].length = 1 from rfl, h3] at h2
  simpa using h2
theorem At.text {s t : ByteArray} {i : Nat} (h : At s i t.data.toList) : i + t.size ≤ s.size ∧ s.extract i (i + t.size) = t := by
  have hl : t.data.toList.length = t.size := by simp
  obtain ⟨h1, h2⟩ := h
  rw [hl] at h1 h2
  refine ⟨h1, ba_ext ?_⟩
  rw [← h2, ByteArray.data_extract]
  simp [sub, List.take_drop]
theorem wval_app (A B : List UInt8) : wval (A ++ B) = wval A * 256 ^ B.length + wval B := by
  induction B generalizing A with
  | nil => simp [wval]
  | cons b B ih =>
    rw [show A ++ b :: B = (A ++ [b]) ++ B by simp, ih, wval_snoc, show b :: B = [b] ++ B from rfl, ih [b], show wval [b] = b.toNat by simp [wval]]
    rw [Nat.add_mul, List.length_append, show [b].length = 1 from rfl, Nat.pow_add, Nat.pow_one, Nat.add_assoc, Nat.mul_comm 256 (wval A), Nat.mul_assoc]
theorem emod_mul' (n p : Int) (hp : 0 < p) : n % (p * 256) = n / p % 256 * p + n % p := by
  have h1 := Int.emod_add_mul_ediv n p
  have h2 := Int.emod_add_mul_ediv (n / p) 256
  have h3 := Int.emod_nonneg n (by omega : p ≠ 0)
  have h4 := Int.emod_lt_of_pos n hp
  have h5 : 0 ≤ n / p % 256 := Int.emod_nonneg _ (by omega)
  have h6 : n / p % 256 < 256 := Int.emod_lt_of_pos _ (by omega)
  have h7 : n / p % 256 * p ≤ 255 * p := Int.mul_le_mul_of_nonneg_right (by omega) (by omega)
  have h8 : 0 ≤ n / p % 256 * p := Int.mul_nonneg h5 (by omega)
  have e : n = n / p % 256 * p + n % p + p * 256 * (n / p / 256) := by
    have e2 : p * (n / p) = n / p % 256 * p + p * 256 * (n / p / 256) := by
      conv => lhs; rw [← h2]
      rw [Int.mul_add, Int.mul_comm p (n / p % 256), Int.mul_assoc]
    omega
  conv => lhs; rw [e]
  rw [Int.add_mul_emod_self_left, Int.emod_eq_of_lt (by omega) (by omega)]
theorem wval_bigZ : ∀ (m : Nat) (n : Int), ((wval (bigZ m n) : Nat) : Int) = n % 256 ^ m
  | 0, n => by simp [bigZ, wval]
  | m + 1, n => by
    rw [bigZ, show UInt8.ofNat (n / 256 ^ m % 256).toNat :: bigZ m n = [UInt8.ofNat (n / 256 ^ m % 256).toNat] ++ bigZ m n from rfl, wval_app, bigZ_length]
    have h5 : 0 ≤ n / 256 ^ m % 256 := Int.emod_nonneg _ (by omega)
    have h6 : n / 256 ^ m % 256 < 256 := Int.emod_lt_of_pos _ (by omega)
    have hb : wval [UInt8.ofNat (n / 256 ^ m % 256).toNat] = (n / 256 ^ m % 256).toNat := by simp [wval]; omega
    rw [hb, Int.natCast_add, Int.natCast_mul, wval_bigZ m n, Int.toNat_of_nonneg h5, Int.pow_succ, emod_mul' n (256 ^ m) (Int.pow_pos (by omega))]
    simp
theorem At.wide {s : ByteArray} {i m : Nat} {n : Int} (h : At s i (bigZ m n)) : wgo s i m = some (wrap64 (n % 256 ^ m)) := by
  obtain ⟨h1, h2⟩ := h
  rw [bigZ_length] at h1 h2
  unfold wgo
  rw [if_pos h1, h2, wval_bigZ]
theorem bigZ1_byte {n : Int} {b : Nat} (hb : b < 256) (h : n % 256 = b) : bigZ 1 n = [UInt8.ofNat b] := by
  simp [bigZ]; rw [h]; simp
theorem byte_at {s : ByteArray} {i : Nat} {b : Nat} {L : List UInt8} (hb : b < 256) (h : At s i (UInt8.ofNat b :: L)) : ∃ hi : i < s.size, s[i].toNat = b ∧ At s (i + 1) L := by
  obtain ⟨hi, h1, h2⟩ := h.cons
  refine ⟨hi, ?_, h2⟩
  rw [h1]; simp; omega
def MP (s : ByteArray) (t : V) : Prop := ∀ (d : Int) (f i l : Nat), rightB t d = true → d + 1 ≤ f → t.nodes ≤ l → l ≤ 300 → At s i (mpL t) → mget s f i l = some (t, i + (mpL t).length, l - t.nodes)
theorem mget_byte {s : ByteArray} {f i l : Nat} {b : Nat} (hi : i < s.size) (hb : s[i].toNat = b) (hl : 1 ≤ l) : mget s (f + 1) i l = mgByte s (mget s f) b (i + 1) (l - 1) := by
  rw [mget, dif_pos hi, if_neg (by omega), hb]
theorem nodess_take (ts : List V) (j : Nat) (hj : j < ts.length) : nodess (ts.take (j + 1)) = nodess (ts.take j) + ts[j].nodes := by
  rw [List.take_succ_eq_append_getElem hj, nodess_append, nodess, nodess, Nat.add_zero]
theorem nodess_take_le (ts : List V) (j : Nat) : nodess (ts.take j) ≤ nodess ts := by
  have := nodess_append (ts.take j) (ts.drop j)
  rw [List.take_append_drop] at this; omega
theorem mpsL_split (ts : List V) (j : Nat) : mpsL ts = mpsL (ts.take j) ++ mpsL (ts.drop j) := by
  rw [← mpsL_append, List.take_append_drop]
theorem kids_at {s : ByteArray} {ts : List V} {f i l : Nat} {d : Int} (hs : i ≤ s.size) (hk : ∀ t ∈ ts, MP s t) (hr : rightsB ts d = true) (hd : d + 1 ≤ f) (hl : nodess ts ≤ l) (hl3 : l ≤ 300) (ha : At s i (mpsL ts)) : mgKids (mget s f) ts.length i l = some (ts, i + (mpsL ts).length, l - nodess ts) := by
  have key : ∀ n, n ≤ ts.length → mgKids (mget s f) n i l = some (ts.take n, i + (mpsL (ts.take n)).length, l - nodess (ts.take n)) := by
    intro n
    induction n with
    | zero => intro _; simp [mgKids, mpsL, nodess]
    | succ n ih =>
      intro hn
      have hn' : n < ts.length := by omega
      have hm : ts[n] ∈ ts := List.getElem_mem hn'
      have h1 := nodess_take ts n hn'
      have h2 := nodess_take_le ts (n + 1)
      have hat : At s (i + (mpsL (ts.take n)).length) (mpL ts[n]) := by
        rw [mpsL_split ts n] at ha
        have h3 := ha.append.2
        rw [List.drop_eq_getElem_cons hn', mpsL] at h3
        exact h3.append.1
      have hrn : rightB ts[n] d = true := by
        rw [rightsB_all] at hr
        exact List.all_eq_true.1 hr _ hm
      rw [mgKids, ih (by omega), Option.bind_some]
      show (mget s f (i + (mpsL (ts.take n)).length) (l - nodess (ts.take n))).map _ = _
      rw [hk _ hm d f _ _ hrn hd (by omega) (by omega) hat, Option.map_some]
      simp only [Option.some.injEq, Prod.mk.injEq]
      refine ⟨(List.take_succ_eq_append_getElem hn').symm, ?_, by omega⟩
      rw [mpsL_take ts n hn', List.length_append]; omega
  have := key ts.length (Nat.le_refl _)
  rwa [List.take_length] at this
mutual
def wfV : V → Prop
  | .mk k n e s ks => (V.mk k n e s ks).wf ∧ wfVs ks
def wfVs : List V → Prop
  | [] => True
  | t :: ts => wfV t ∧ wfVs ts
 end
theorem wfV_eq (t : V) : wfV t ↔ t.wf ∧ wfVs t.kids := by cases t; rw [wfV]; rfl
theorem wfVs_mem : ∀ {ts : List V}, wfVs ts ↔ ∀ t ∈ ts, wfV t
  | [] => by simp [wfVs]
  | t :: ts => by rw [wfVs, wfVs_mem (ts := ts)]; simp
theorem RepS.wfs {w : World} {v : Value} {ts : List V} (h : RepS w v ts) : wfVs ts := by
  induction h with
  | mk a b off cap ts sls ha hc hm hbb cells wfs kids ih =>
    rw [wfVs_mem]
    intro t ht
    obtain ⟨i, hi, rfl⟩ := List.getElem_of_mem ht
    exact (wfV_eq _).2 ⟨wfs i hi, ih i hi⟩
theorem Rep.wfV {w : World} {v : Value} {t : V} (h : Rep w v t) : wfV t := by
  obtain ⟨sl, rfl, h1, h2⟩ := h
  exact (wfV_eq t).2 ⟨h1, h2.wfs⟩
theorem map_even' {t : V} {d : Int} (h : rightB t d = true) (h8 : t.k = 8) : t.kids.length % 2 = 0 := by
  rw [rightB_eq] at h
  simp only [Bool.and_eq_true, ownB] at h
  have h3 := h.1.2.2
  rw [if_neg (by omega), if_neg (by omega), if_pos h8] at h3
  unfold pairsB at h3
  simp only [Bool.and_eq_true, decide_eq_true_eq] at h3
  exact h3.1.2
theorem right_parts {t : V} {d : Int} (h : rightB t d = true) : 0 ≤ d ∧ nodeB t = true ∧ (t.k ≠ 7 → t.k ≠ 8 → t.k ≠ 9 → t.kids = []) ∧ (t.k = 9 → t.kids.length = 1) ∧ (t.k = 8 → t.kids.length % 2 = 0) ∧ rightsB t.kids (d - 1) = true := by
  have h8 := fun e => map_even' h e
  rw [rightB_eq] at h
  simp only [Bool.and_eq_true, ownB, decide_eq_true_eq] at h
  obtain ⟨⟨h1, h2, h3⟩, h4⟩ := h
  refine ⟨h1, h2, fun a b c => ?_, fun e => ?_, h8, h4⟩
  · rw [if_neg a, if_neg c, if_neg b] at h3
    simpa using h3
  · rw [if_neg (by omega), if_pos e] at h3
    simpa using h3
theorem ba_nil {s : ByteArray} (h : s.size = 0) : s = ⟨#[]⟩ := by
  apply ba_ext
  have h2 : s.data.toList.length = 0 := by rw [Array.length_toList]; exact h
  rw [List.length_eq_zero_iff.1 h2]
theorem p2568 : (256 : Int) ^ 8 = 18446744073709551616 := by decide
theorem p2564 : (256 : Int) ^ 4 = 4294967296 := by decide
theorem p2562 : (256 : Int) ^ 2 = 65536 := by decide
theorem p2561 : (256 : Int) ^ 1 = 256 := by decide
theorem num_at {s : ByteArray} {n : Int} {f i l : Nat} (hn : In64 n) (hl : 1 ≤ l) (ha : At s i (mpNum n)) : mget s (f + 1) i l = some (.mk 3 n 0 ⟨#[]⟩ [], i + (mpNum n).length, l - 1) := by
  unfold mpNum at ha ⊢
  unfold In64 at hn
  by_cases h1 : -32 ≤ n ∧ n ≤ 127
  · rw [if_pos h1] at ha ⊢
    by_cases h0 : 0 ≤ n
    · rw [bigZ1_byte (b := n.toNat) (by omega) (by omega)] at ha ⊢
      obtain ⟨hi, hb, -⟩ := byte_at (by omega) ha
      rw [mget_byte hi hb hl]; unfold mgByte
      rw [if_pos (by omega)]
      simp [mgLeaf]; omega
    · rw [bigZ1_byte (b := (n + 256).toNat) (by omega) (by omega)] at ha ⊢
      obtain ⟨hi, hb, -⟩ := byte_at (by omega) ha
      rw [mget_byte hi hb hl]; unfold mgByte
      rw [if_neg (by omega), if_neg (by omega), if_neg (by omega), if_neg (by omega), if_pos (by omega)]
      simp [mgLeaf]; omega
  rw [if_neg h1] at ha ⊢
  by_cases h2 : 0 ≤ n ∧ n ≤ 255
  · rw [if_pos h2] at ha ⊢
    obtain ⟨hi, hb, h3⟩ := byte_at (b := 204) (by omega) ha
    rw [mget_byte hi hb hl]; simp only [mgByte, Nat.reduceLT, Nat.reduceLeDiff, if_false, if_true, and_self, Nat.reduceSub, Nat.reducePow]
    rw [h3.wide, Option.bind_some, p2561]
    simp [mgLeaf, bigZ_length, wrap64]; omega
  rw [if_neg h2] at ha ⊢
  by_cases h3 : 0 ≤ n ∧ n ≤ 65535
  · rw [if_pos h3] at ha ⊢
    obtain ⟨hi, hb, h3⟩ := byte_at (b := 205) (by omega) ha
    rw [mget_byte hi hb hl]; simp only [mgByte, Nat.reduceLT, Nat.reduceLeDiff, if_false, if_true, and_self, Nat.reduceSub, Nat.reducePow]
    rw [h3.wide, Option.bind_some, p2562]
    simp [mgLeaf, bigZ_length, wrap64]; omega
  rw [if_neg h3] at ha ⊢
  by_cases h4 : 0 ≤ n ∧ n ≤ 4294967295
  · rw [if_pos h4] at ha ⊢
    obtain ⟨hi, hb, h3⟩ := byte_at (b := 206) (by omega) ha
    rw [mget_byte hi hb hl]; simp only [mgByte, Nat.reduceLT, Nat.reduceLeDiff, if_false, if_true, and_self, Nat.reduceSub, Nat.reducePow]
    rw [h3.wide, Option.bind_some, p2564]
    simp [mgLeaf, bigZ_length, wrap64]; omega
  rw [if_neg h4] at ha ⊢
  by_cases h5 : 0 ≤ n
  · rw [if_pos h5] at ha ⊢
    obtain ⟨hi, hb, h3⟩ := byte_at (b := 207) (by omega) ha
    rw [mget_byte hi hb hl]; simp only [mgByte, Nat.reduceLT, Nat.reduceLeDiff, if_false, if_true, and_self, Nat.reduceSub, Nat.reducePow]
    rw [h3.wide, Option.bind_some, p2568]
    simp [mgLeaf, bigZ_length, wrap64]; omega
  rw [if_neg h5] at ha ⊢
  by_cases h6 : -128 ≤ n
  · rw [if_pos h6] at ha ⊢
    obtain ⟨hi, hb, h3⟩ := byte_at (b := 208) (by omega) ha
    rw [mget_byte hi hb hl]; simp only [mgByte, Nat.reduceLT, Nat.reduceLeDiff, if_false, if_true, and_self, Nat.reduceSub, Nat.reducePow, false_and, and_false]
    rw [h3.wide, Option.bind_some, p2561]
    simp [mgLeaf, bigZ_length, wrap64, signN]; split <;> omega
  rw [if_neg h6] at ha ⊢
  by_cases h7 : -32768 ≤ n
  · rw [if_pos h7] at ha ⊢
    obtain ⟨hi, hb, h3⟩ := byte_at (b := 209) (by omega) ha
    rw [mget_byte hi hb hl]; simp only [mgByte, Nat.reduceLT, Nat.reduceLeDiff, if_false, if_true, and_self, Nat.reduceSub, Nat.reducePow, false_and, and_false]
    rw [h3.wide, Option.bind_some, p2562]
    simp [mgLeaf, bigZ_length, wrap64, signN]; split <;> omega
  rw [if_neg h7] at ha ⊢
  by_cases h8 : -2147483648 ≤ n
  · rw [if_pos h8] at ha ⊢
    obtain ⟨hi, hb, h3⟩ := byte_at (b := 210) (by omega) ha
    rw [mget_byte hi hb hl]; simp only [mgByte, Nat.reduceLT, Nat.reduceLeDiff, if_false, if_true, and_self, Nat.reduceSub, Nat.reducePow, false_and, and_false]
    rw [h3.wide, Option.bind_some, p2564]
    simp [mgLeaf, bigZ_length, wrap64, signN]; split <;> omega
  rw [if_neg h8] at ha ⊢
  obtain ⟨hi, hb, h3⟩ := byte_at (b := 211) (by omega) ha
  rw [mget_byte hi hb hl]; simp only [mgByte, Nat.reduceLT, Nat.reduceLeDiff, if_false, if_true, and_self, Nat.reduceSub, Nat.reducePow, false_and, and_false]
  rw [h3.wide, Option.bind_some, p2568]
  simp [mgLeaf, bigZ_length, wrap64, signN]; omega
theorem str_at {s : ByteArray} {k : Int} {t : ByteArray} {j l : Nat} (ha : At s j t.data.toList) : mgStr s k j t.size l = some (.mk k 0 0 t [], j + t.size, l) := by
  obtain ⟨h1, h2⟩ := ha.text
  unfold mgStr; rw [if_pos h1, h2]
theorem byte_lit {b : Nat} (hb : b < 256) : bigZ 1 (b : Int) = [UInt8.ofNat b] := bigZ1_byte hb (by omega)
theorem node_leaf {t : V} (h : nodeB t = true) (hk : t.k = 0 ∨ t.k = 1 ∨ t.k = 2 ∨ t.k = 7 ∨ t.k = 8) : t.n = 0 ∧ t.e = 0 ∧ t.s.size = 0 := by
  unfold nodeB at h; rw [if_pos hk] at h; exact of_decide_eq_true h
theorem node_3 {t : V} (h : nodeB t = true) (hk : t.k = 3) : t.e = 0 ∧ t.s.size = 0 := by
  unfold nodeB at h; rw [if_neg (by omega), if_pos hk] at h; exact of_decide_eq_true h
theorem node_4 {t : V} (h : nodeB t = true) (hk : t.k = 4) : decOk t.n t.e = true ∧ t.s.size = 0 := by
  unfold nodeB at h; rw [if_neg (by omega), if_neg (by omega), if_pos hk, Bool.and_eq_true] at h; exact ⟨h.1, of_decide_eq_true h.2⟩
theorem node_5 {t : V} (h : nodeB t = true) (hk : t.k = 5) : t.n = 0 ∧ t.e = 0 ∧ t.s.size ≤ 2000 := by
  unfold nodeB at h; rw [if_neg (by omega), if_neg (by omega), if_neg (by omega), if_pos hk, Bool.and_eq_true] at h; exact of_decide_eq_true h.1
theorem node_6 {t : V} (h : nodeB t = true) (hk : t.k = 6) : t.n = 0 ∧ t.e = 0 ∧ t.s.size ≤ 2000 := by
  unfold nodeB at h; rw [if_neg (by omega), if_neg (by omega), if_neg (by omega), if_neg (by omega), if_pos hk] at h; exact of_decide_eq_true h
theorem node_9 {t : V} (h : nodeB t = true) (hk : t.k = 9) : 0 ≤ t.n ∧ t.n ≤ 1000000 ∧ t.e = 0 ∧ t.s.size = 0 := by
  unfold nodeB at h; rw [if_neg (by omega), if_neg (by omega), if_neg (by omega), if_neg (by omega), if_neg (by omega), if_pos hk] at h; exact of_decide_eq_true h
theorem dec_e {n e : Int} (h : decOk n e = true) : -20 ≤ e ∧ e ≤ 20 := by
  unfold decOk at h
  simp only [Bool.and_eq_true, decide_eq_true_eq] at h
  exact ⟨h.1.2.2.2.1, h.1.2.2.2.2.1⟩
theorem w_256 {n : Nat} (h : n < 256) : (wrap64 ((n : Int) % 256)).toNat = n := by unfold wrap64; omega
theorem w_65536 {n : Nat} (h : n < 65536) : (wrap64 ((n : Int) % 65536)).toNat = n := by unfold wrap64; omega
set_option maxHeartbeats 4000000 in
theorem mp_node (s : ByteArray) (k n e : Int) (b : ByteArray) (ks : List V) (hw : wfV (.mk k n e b ks)) (hk : ∀ t ∈ ks, MP s t) : ∀ (d : Int) (f i l : Nat), rightB (.mk k n e b ks) d = true → d + 1 ≤ f → (V.mk k n e b ks).nodes ≤ l → l ≤ 300 → At s i (mpL (.mk k n e b ks)) → mget s f i l = some (.mk k n e b ks, i + (mpL (.mk k n e b ks)).length, l - (V.mk k n e b ks).nodes) := by
  intro d f i l hr hd hn hl ha
  have hki := kind_in hr
  obtain ⟨h0, hnd, hp, h9, h8, hrs⟩ := right_parts hr
  obtain ⟨f, rfl⟩ : ∃ f', f = f' + 1 := ⟨f - 1, by omega⟩
  have hwf := ((wfV_eq _).1 hw).1
  simp only [V.k, V.kids] at hp h9 h8 hrs hki
  rw [V.nodes_eq] at hn ⊢
  simp only [V.kids] at hn ⊢
  rw [mpL_eq] at ha ⊢
  simp only [V.kids] at ha ⊢
  have hln := nodess_ge ks
  have hc : k = 0 ∨ k = 1 ∨ k = 2 ∨ k = 3 ∨ k = 4 ∨ k = 5 ∨ k = 6 ∨ k = 7 ∨ k = 8 ∨ k = 9 := by omega
  rcases hc with rfl | rfl | rfl | rfl | rfl | rfl | rfl | rfl | rfl | rfl
  · obtain rfl := hp (by decide) (by decide) (by decide)
    obtain ⟨h1, h2, h3⟩ := node_leaf hnd (.inl rfl)
    obtain rfl : n = 0 := h1
    obtain rfl : e = 0 := h2
    obtain rfl := ba_nil h3
    obtain ⟨hi, hb, -⟩ := byte_at (b := 192) (by omega) ha
    rw [mget_byte hi hb (by omega)]
    simp [mgByte, mgLeaf, mpOwn, V.k, mpsL, nodess]
  · obtain rfl := hp (by decide) (by decide) (by decide)
    obtain ⟨h1, h2, h3⟩ := node_leaf hnd (.inr (.inl rfl))
    obtain rfl : n = 0 := h1
    obtain rfl : e = 0 := h2
    obtain rfl := ba_nil h3
    obtain ⟨hi, hb, -⟩ := byte_at (b := 194) (by omega) ha
    rw [mget_byte hi hb (by omega)]
    simp [mgByte, mgLeaf, mpOwn, V.k, mpsL, nodess]
  · obtain rfl := hp (by decide) (by decide) (by decide)
    obtain ⟨h1, h2, h3⟩ := node_leaf hnd (.inr (.inr (.inl rfl)))
    obtain rfl : n = 0 := h1
    obtain rfl : e = 0 := h2
    obtain rfl := ba_nil h3
    obtain ⟨hi, hb, -⟩ := byte_at (b := 195) (by omega) ha
    rw [mget_byte hi hb (by omega)]
    simp [mgByte, mgLeaf, mpOwn, V.k, mpsL, nodess]
  · obtain rfl := hp (by decide) (by decide) (by decide)
    obtain ⟨h2, h3⟩ := node_3 hnd rfl
    obtain rfl : e = 0 := h2
    obtain rfl := ba_nil h3
    have e1 : mpOwn (.mk 3 n 0 ⟨#[]⟩ []) = mpNum n := by simp [mpOwn, V.k, V.n]
    rw [e1] at ha ⊢
    rw [num_at hwf.2.1 (by omega) ha.append.1]
    simp [mpsL, nodess]
    exact ⟨rfl, rfl⟩
  · obtain rfl := hp (by decide) (by decide) (by decide)
    obtain ⟨h2, h3⟩ := node_4 hnd rfl
    obtain rfl := ba_nil h3
    have he : -20 ≤ e ∧ e ≤ 20 := dec_e h2
    have hn64 := hwf.2.1
    simp only [V.n] at hn64
    unfold In64 at hn64
    have e1 : mpOwn (.mk 4 n e ⟨#[]⟩ []) = [199, 9, 4] ++ bigZ 1 e ++ bigZ 8 n := by simp [mpOwn, V.k, V.n, V.e]
    rw [e1] at ha ⊢
    have ha1 := ha.append.1
    rw [show ([199, 9, 4] ++ bigZ 1 e ++ bigZ 8 n : List UInt8) = UInt8.ofNat 199 :: (bigZ 1 9 ++ (bigZ 1 4 ++ (bigZ 1 e ++ bigZ 8 n))) by simp [bigZ]] at ha1
    obtain ⟨hi, hb, h4⟩ := byte_at (b := 199) (by omega) ha1
    have a1 := h4.append.1
    have h5 := h4.append.2
    rw [bigZ_length] at h5
    have a2 := h5.append.1
    have h6 := h5.append.2
    rw [bigZ_length] at h6
    have a3 := h6.append.1
    have a4 := h6.append.2
    rw [bigZ_length] at a4
    rw [mget_byte hi hb (by omega)]
    simp only [mgByte, Nat.reduceLT, Nat.reduceLeDiff, Nat.reduceEqDiff, if_false, if_true, and_self, or_self, false_and, and_false, or_false, false_or]
    rw [a1.wide, Option.bind_some, a2.wide, Option.bind_some, p2561]
    rw [if_pos (by unfold wrap64; omega)]
    rw [a3.wide, Option.bind_some, a4.wide, Option.bind_some, p2561, p2568]
    have e2 : signN (wrap64 (e % 256)) 1 = e := by unfold signN wrap64; rw [if_neg (by omega)]; simp only [p2561]; split <;> omega
    have e3 : wrap64 (n % 18446744073709551616) = n := by unfold wrap64; omega
    rw [e2, e3]
    simp [mgLeaf, mpsL, nodess, bigZ_length] <;> omega
  · obtain rfl := hp (by decide) (by decide) (by decide)
    obtain ⟨h1, h2, h3⟩ := node_5 hnd rfl
    obtain rfl : n = 0 := h1
    obtain rfl : e = 0 := h2
    have h3 : b.size ≤ 2000 := h3
    have e1 : mpOwn (.mk 5 0 0 b []) = mpMany b.size 32 160 217 218 ++ b.data.toList := by simp [mpOwn, V.k, V.s]
    rw [e1] at ha ⊢
    have ha1 := ha.append.1
    have ha2 := ha1.append.1
    have ha3 := ha1.append.2
    unfold mpMany at ha2 ha3 ⊢
    by_cases c1 : (b.size : Int) < 32
    · rw [if_pos c1] at ha2 ha3 ⊢
      rw [bigZ1_byte (b := 160 + b.size) (by omega) (by omega)] at ha2 ha3 ⊢
      obtain ⟨hi, hb, -⟩ := byte_at (by omega) ha2
      rw [mget_byte hi hb (by omega)]; unfold mgByte
      rw [if_neg (by omega), if_neg (by omega), if_neg (by omega), if_pos (by omega), show 160 + b.size - 160 = b.size by omega]
      rw [show [UInt8.ofNat (160 + b.size)].length = 1 from rfl] at ha3
      rw [str_at ha3]
      simp [mpsL, nodess] <;> omega
    · rw [if_neg c1] at ha2 ha3 ⊢
      by_cases c2 : (b.size : Int) < 256
      · rw [if_pos (by omega)] at ha2 ha3 ⊢
        rw [show bigZ 1 217 = [UInt8.ofNat 217] from byte_lit (b := 217) (by omega)] at ha2 ha3 ⊢
        obtain ⟨hi, hb, h4⟩ := byte_at (by omega) ha2
        rw [mget_byte hi hb (by omega)]
        simp only [mgByte, Nat.reduceLT, Nat.reduceLeDiff, Nat.reduceEqDiff, if_false, if_true, and_self, or_self, false_and, and_false, or_false, false_or, or_true, true_or, Nat.reduceSub]
        rw [h4.wide, Option.bind_some, p2561, show (wrap64 ((b.size : Int) % 256)).toNat = b.size from w_256 (by omega)]
        rw [List.length_append, bigZ_length, show [UInt8.ofNat 217].length = 1 from rfl] at ha3
        rw [Nat.add_assoc i 1 1, str_at ha3]
        simp [mpsL, nodess, bigZ_length] <;> omega
      · rw [if_neg (by omega)] at ha2 ha3 ⊢
        rw [show bigZ 1 218 = [UInt8.ofNat 218] from byte_lit (b := 218) (by omega)] at ha2 ha3 ⊢
        obtain ⟨hi, hb, h4⟩ := byte_at (by omega) ha2
        rw [mget_byte hi hb (by omega)]
        simp only [mgByte, Nat.reduceLT, Nat.reduceLeDiff, Nat.reduceEqDiff, if_false, if_true, and_self, or_self, false_and, and_false, or_false, false_or, or_true, true_or, Nat.reduceSub]
        rw [h4.wide, Option.bind_some, p2562, show (wrap64 ((b.size : Int) % 65536)).toNat = b.size from w_65536 (by omega)]
        rw [List.length_append, bigZ_length, show [UInt8.ofNat 218].length = 1 from rfl] at ha3
        rw [Nat.add_assoc i 1 2, str_at ha3]
        simp [mpsL, nodess, bigZ_length] <;> omega
  · obtain rfl := hp (by decide) (by decide) (by decide)
    obtain ⟨h1, h2, h3⟩ := node_6 hnd rfl
    obtain rfl : n = 0 := h1
    obtain rfl : e = 0 := h2
    have h3 : b.size ≤ 2000 := h3
    have e1 : mpOwn (.mk 6 0 0 b []) = mpMany b.size 0 0 196 197 ++ b.data.toList := by simp [mpOwn, V.k, V.s]
    rw [e1] at ha ⊢
    have ha1 := ha.append.1
    have ha2 := ha1.append.1
    have ha3 := ha1.append.2
    unfold mpMany at ha2 ha3 ⊢
    rw [if_neg (by omega)] at ha2 ha3 ⊢
    by_cases c2 : (b.size : Int) < 256
    · rw [if_pos (by omega)] at ha2 ha3 ⊢
      rw [show bigZ 1 196 = [UInt8.ofNat 196] from byte_lit (b := 196) (by omega)] at ha2 ha3 ⊢
      obtain ⟨hi, hb, h4⟩ := byte_at (by omega) ha2
      rw [mget_byte hi hb (by omega)]
      simp only [mgByte, Nat.reduceLT, Nat.reduceLeDiff, Nat.reduceEqDiff, if_false, if_true, and_self, or_self, false_and, and_false, or_false, false_or, or_true, true_or, Nat.reduceSub]
      rw [h4.wide, Option.bind_some, p2561, show (wrap64 ((b.size : Int) % 256)).toNat = b.size from w_256 (by omega)]
      rw [List.length_append, bigZ_length, show [UInt8.ofNat 196].length = 1 from rfl] at ha3
      rw [Nat.add_assoc i 1 1, str_at ha3]
      simp [mpsL, nodess, bigZ_length] <;> omega
    · rw [if_neg (by omega)] at ha2 ha3 ⊢
      rw [show bigZ 1 197 = [UInt8.ofNat 197] from byte_lit (b := 197) (by omega)] at ha2 ha3 ⊢
      obtain ⟨hi, hb, h4⟩ := byte_at (by omega) ha2
      rw [mget_byte hi hb (by omega)]
      simp only [mgByte, Nat.reduceLT, Nat.reduceLeDiff, Nat.reduceEqDiff, if_false, if_true, and_self, or_self, false_and, and_false, or_false, false_or, or_true, true_or, Nat.reduceSub]
      rw [h4.wide, Option.bind_some, p2562, show (wrap64 ((b.size : Int) % 65536)).toNat = b.size from w_65536 (by omega)]
      rw [List.length_append, bigZ_length, show [UInt8.ofNat 197].length = 1 from rfl] at ha3
      rw [Nat.add_assoc i 1 2, str_at ha3]
      simp [mpsL, nodess, bigZ_length] <;> omega
  · obtain ⟨h1, h2, h3⟩ := node_leaf hnd (.inr (.inr (.inr (.inl rfl))))
    obtain rfl : n = 0 := h1
    obtain rfl : e = 0 := h2
    obtain rfl := ba_nil h3
    have e1 : mpOwn (.mk 7 0 0 ⟨#[]⟩ ks) = mpMany ks.length 16 144 0 220 := by simp [mpOwn, V.k, V.kids]
    rw [e1] at ha ⊢
    have ha2 := ha.append.1
    have ha3 := ha.append.2
    unfold mpMany at ha2 ha3 ⊢
    by_cases c1 : (ks.length : Int) < 16
    · rw [if_pos c1] at ha2 ha3 ⊢
      rw [bigZ1_byte (b := 144 + ks.length) (by omega) (by omega)] at ha2 ha3 ⊢
      obtain ⟨hi, hb, -⟩ := byte_at (by omega) ha2
      rw [mget_byte hi hb (by omega)]; unfold mgByte
      rw [if_neg (by omega), if_neg (by omega), if_pos (by omega), show 144 + ks.length - 144 = ks.length by omega]
      rw [show [UInt8.ofNat (144 + ks.length)].length = 1 from rfl] at ha3
      rw [kids_at (by have := ha3.1; omega) hk hrs (by omega) (by omega) (by omega) ha3]
      simp [mgNode] <;> omega
    · rw [if_neg c1, if_neg (by omega)] at ha2 ha3 ⊢
      rw [show bigZ 1 220 = [UInt8.ofNat 220] from byte_lit (b := 220) (by omega)] at ha2 ha3 ⊢
      obtain ⟨hi, hb, h4⟩ := byte_at (by omega) ha2
      rw [mget_byte hi hb (by omega)]
      simp only [mgByte, Nat.reduceLT, Nat.reduceLeDiff, Nat.reduceEqDiff, if_false, if_true, and_self, or_self, false_and, and_false, or_false, false_or, or_true, true_or, Nat.reduceSub]
      rw [h4.wide, Option.bind_some, p2562, show (wrap64 ((ks.length : Int) % 65536)).toNat = ks.length from w_65536 (by omega)]
      rw [List.length_append, bigZ_length, show [UInt8.ofNat 220].length = 1 from rfl] at ha3
      rw [Nat.add_assoc i 1 2, kids_at (by have := ha3.1; omega) hk hrs (by omega) (by omega) (by omega) ha3]
      simp [mgNode, bigZ_length] <;> omega
  · obtain ⟨h1, h2, h3⟩ := node_leaf hnd (.inr (.inr (.inr (.inr rfl))))
    obtain rfl : n = 0 := h1
    obtain rfl : e = 0 := h2
    obtain rfl := ba_nil h3
    have hev := h8 rfl
    have e1 : mpOwn (.mk 8 0 0 ⟨#[]⟩ ks) = mpMany (ks.length / 2 : Nat) 16 128 0 222 := by simp [mpOwn, V.k, V.kids]
    rw [e1] at ha ⊢
    have ha2 := ha.append.1
    have ha3 := ha.append.2
    obtain ⟨q, hq⟩ : ∃ q, ks.length = 2 * q := ⟨ks.length / 2, by omega⟩
    rw [show ks.length / 2 = q by omega] at ha2 ha3 ⊢
    unfold mpMany at ha2 ha3 ⊢
    by_cases c1 : (q : Int) < 16
    · rw [if_pos c1] at ha2 ha3 ⊢
      rw [bigZ1_byte (b := 128 + q) (by omega) (by omega)] at ha2 ha3 ⊢
      obtain ⟨hi, hb, -⟩ := byte_at (by omega) ha2
      rw [mget_byte hi hb (by omega)]; unfold mgByte
      rw [if_neg (by omega), if_pos (by omega), show 2 * (128 + q - 128) = ks.length by omega]
      rw [show [UInt8.ofNat (128 + q)].length = 1 from rfl] at ha3
      rw [kids_at (by have := ha3.1; omega) hk hrs (by omega) (by omega) (by omega) ha3]
      simp [mgNode] <;> omega
    · rw [if_neg c1, if_neg (by omega)] at ha2 ha3 ⊢
      rw [show bigZ 1 222 = [UInt8.ofNat 222] from byte_lit (b := 222) (by omega)] at ha2 ha3 ⊢
      obtain ⟨hi, hb, h4⟩ := byte_at (by omega) ha2
      rw [mget_byte hi hb (by omega)]
      simp only [mgByte, Nat.reduceLT, Nat.reduceLeDiff, Nat.reduceEqDiff, if_false, if_true, and_self, or_self, false_and, and_false, or_false, false_or, or_true, true_or, Nat.reduceSub]
      rw [h4.wide, Option.bind_some, p2562, show 2 * (wrap64 ((q : Int) % 65536)).toNat = ks.length by rw [w_65536 (by omega)]; omega]
      rw [List.length_append, bigZ_length, show [UInt8.ofNat 222].length = 1 from rfl] at ha3
      rw [Nat.add_assoc i 1 2, kids_at (by have := ha3.1; omega) hk hrs (by omega) (by omega) (by omega) ha3]
      simp [mgNode, bigZ_length] <;> omega
  · obtain ⟨h1, h2, h4, h3⟩ := node_9 hnd rfl
    obtain rfl : e = 0 := h4
    have h1 : 0 ≤ n := h1
    have h2 : n ≤ 1000000 := h2
    obtain rfl := ba_nil h3
    have h9' := h9 rfl
    have e1 : mpOwn (.mk 9 n 0 ⟨#[]⟩ ks) = [199, 4, 6] ++ bigZ 4 n := by simp [mpOwn, V.k, V.n]
    rw [e1] at ha ⊢
    have ha1 := ha.append.1
    have ha7 := ha.append.2
    rw [show ([199, 4, 6] ++ bigZ 4 n : List UInt8) = UInt8.ofNat 199 :: (bigZ 1 4 ++ (bigZ 1 6 ++ bigZ 4 n)) by simp [bigZ]] at ha1
    obtain ⟨hi, hb, h4⟩ := byte_at (b := 199) (by omega) ha1
    have a1 := h4.append.1
    have h5 := h4.append.2
    rw [bigZ_length] at h5
    have a2 := h5.append.1
    have a3 := h5.append.2
    rw [bigZ_length] at a3
    rw [mget_byte hi hb (by omega)]
    simp only [mgByte, Nat.reduceLT, Nat.reduceLeDiff, Nat.reduceEqDiff, if_false, if_true, and_self, or_self, false_and, and_false, or_false, false_or]
    rw [a1.wide, Option.bind_some, a2.wide, Option.bind_some, p2561]
    rw [if_neg (by unfold wrap64; omega), if_pos (by unfold wrap64; omega)]
    rw [a3.wide, Option.bind_some, p2564]
    have e3 : wrap64 (n % 4294967296) = n := by unfold wrap64; omega
    rw [List.length_append, bigZ_length, show ([199, 4, 6] : List UInt8).length = 3 from rfl] at ha7
    rw [e3, show i + 1 + 6 = i + (3 + 4) by omega, ← h9', kids_at (by have := ha7.1; omega) hk hrs (by omega) (by omega) (by omega) ha7]
    simp [mgNode, bigZ_length] <;> omega
mutual
theorem mp_all (s : ByteArray) : ∀ t : V, wfV t → MP s t
  | .mk k n e b ks, h => mp_node s k n e b ks h (mps_all s ks ((wfV_eq _).1 h).2)
theorem mps_all (s : ByteArray) : ∀ ts : List V, wfVs ts → ∀ t ∈ ts, MP s t
  | [], _, t, ht => by cases ht
  | u :: ts, h, t, ht => by
    rw [wfVs] at h
    rw [List.mem_cons] at ht
    rcases ht with rfl | ht
    · exact mp_all s t h.1
    · exact mps_all s ts h.2 t ht
 end
theorem msg_back {t : V} (hw : wfV t) (ho : okT t = true) : msgR ⟨(mpB t).toArray⟩ 0 = (t, ((mpB t).length : Int)) := by
  have e : mpB t = mpL t := by unfold mpB; rw [if_pos ho]
  simp only [okT, Bool.and_eq_true, decide_eq_true_eq] at ho
  rw [e]
  have hat : At (⟨(mpL t).toArray⟩ : ByteArray) 0 (mpL t) := by
    refine ⟨by simp [ByteArray.size], by simp [sub]⟩
  have h := mp_all _ t hw 12 13 0 300 ho.1 (by omega) ho.2 (by omega) hat
  unfold msgR
  rw [if_pos ⟨by omega, by simp⟩]
  simp only [Int.toNat_zero, h, Nat.zero_add]
  rw [if_pos]
  rw [e, ByteArray.data_extract]
  simp
end Go.Proofs.YtgbgeocmjdgmoaaDoor
namespace Go.Proofs.YtgbgeocmjdgmoaaDoor
set_option linter.unusedSimpArgs false
set_option linter.unusedVariables false
set_option maxRecDepth 100000
open Go.RowKit
theorem PutWide_out (n m : Int) (w : World) (hm : m < 1 ∨ 8 < m) : Calls Tryd.prog 44 #[.int .i64 n, .int .i64 m] w fun e w' => e = .returned (.string ⟨#[]⟩) ∧ w' = w := by
  go_enter Tryd.func44, Tryd.ntmps44
  go_wp2_with (go_at_call 105; refine (within_no _ _ _ _ (by omega)).mono ?_; rintro e w' ⟨rfl, rfl⟩)
  go_ret
  exact ⟨rfl, rfl⟩
theorem GetWide_out (s : ByteArray) (i m : Int) (w : World) (hm : m < 1 ∨ 8 < m) : Calls Tryd.prog 46 #[.string s, .int .i64 i, .int .i64 m] w fun e w' => e = .returned (.tuple #[.int .i64 0, .bool false]) ∧ w' = w := by
  go_enter Tryd.func46, Tryd.ntmps46
  go_wp2_with (go_at_call 105; refine (within_no _ _ _ _ (by omega)).mono ?_; rintro e w' ⟨rfl, rfl⟩)
  go_ret2
  exact ⟨rfl, rfl⟩
theorem SignOf_out (n m : Int) (w : World) (hm : m < 1 ∨ 8 < m) : Calls Tryd.prog 52 #[.int .i64 n, .int .i64 m] w fun e w' => e = .returned (.int .i64 n) ∧ w' = w := by
  go_enter Tryd.func52, Tryd.ntmps52
  go_wp2_with (go_at_call 105; refine (within_no _ _ _ _ (by omega)).mono ?_; rintro e w' ⟨rfl, rfl⟩)
  go_ret
  exact ⟨rfl, rfl⟩
theorem PutWide_spec_out (n m : Int) (w : World) (hm : m < 1 ∨ 8 < m) : Calls Tryd.prog 51 #[.int .i64 n, .int .i64 m] w fun e w' => e = .returned (.string ⟨#[]⟩) ∧ w' = w := by
  go_enter Tryd.func51, Tryd.ntmps51
  go_wp2_with (go_at_call 102; refine (l01In_no _ _ _ _ (by omega)).mono ?_; rintro e w' ⟨rfl, rfl⟩)
  go_ret
  exact ⟨rfl, rfl⟩
theorem GetWide_spec_out (s : ByteArray) (i m : Int) (w : World) (hm : m < 1 ∨ 8 < m) : Calls Tryd.prog 47 #[.string s, .int .i64 i, .int .i64 m] w fun e w' => e = .returned (.tuple #[.int .i64 0, .bool false]) ∧ w' = w := by
  go_enter Tryd.func47, Tryd.ntmps47
  go_wp2_with (go_at_call 102; refine (l01In_no _ _ _ _ (by omega)).mono ?_; rintro e w' ⟨rfl, rfl⟩)
  go_ret2
  exact ⟨rfl, rfl⟩
theorem SignOf_spec_out (n m : Int) (w : World) (hm : m < 1 ∨ 7 < m) : Calls Tryd.prog 53 #[.int .i64 n, .int .i64 m] w fun e w' => e = .returned (.int .i64 n) ∧ w' = w := by
  go_enter Tryd.func53, Tryd.ntmps53
  go_wp2_with (go_at_call 102; refine (l01In_no _ _ _ _ (by omega)).mono ?_; rintro e w' ⟨rfl, rfl⟩)
  go_ret
  exact ⟨rfl, rfl⟩
def pwB (n m : Int) : List UInt8 := if 1 ≤ m ∧ m ≤ 8 then bigZ m.toNat n else []
def gwR (s : ByteArray) (i m : Int) : Int × Bool := if 1 ≤ m ∧ m ≤ 8 ∧ 0 ≤ i ∧ i ≤ s.size - m then (wrap64 (wval (sub s.data.toList i.toNat m.toNat)), true) else (0, false)
def soR (n m : Int) : Int := if 1 ≤ m ∧ m ≤ 7 then signN n m.toNat else n
theorem txt_out {w w' : World} {e : Ending} (h : e = .returned (.string ⟨#[]⟩) ∧ w' = w) : TxtRet w [] e w' := ⟨h.1, by rw [h.2]; exact Below.refl _ _⟩
theorem PutWide_ib (n m : Int) (w : World) : Calls Tryd.prog 44 #[.int .i64 n, .int .i64 m] w (TxtRet w (pwB n m)) := by
  unfold pwB
  by_cases h : 1 ≤ m ∧ m ≤ 8
  · rw [if_pos h]; exact PutWide_any n m w h.1 h.2
  · rw [if_neg h]; exact (PutWide_out n m w (by omega)).mono (fun e w' h => txt_out h)
theorem PutWide_sb (n m : Int) (hn : In64 n) (w : World) : Calls Tryd.prog 51 #[.int .i64 n, .int .i64 m] w (TxtRet w (pwB n m)) := by
  unfold pwB
  by_cases h : 1 ≤ m ∧ m ≤ 8
  · rw [if_pos h]; exact PutWide_spec n m w hn h.1 h.2
  · rw [if_neg h]; exact (PutWide_spec_out n m w (by omega)).mono (fun e w' h => txt_out h)
theorem GetWide_ib (s : ByteArray) (hs : s.size ≤ 1048576) (i m : Int) (w : World) : Calls Tryd.prog 46 #[.string s, .int .i64 i, .int .i64 m] w fun e w' => e = .returned (.tuple #[.int .i64 (gwR s i m).1, .bool (gwR s i m).2]) ∧ w' = w := by
  unfold gwR
  by_cases h : 1 ≤ m ∧ m ≤ 8
  · by_cases h2 : 0 ≤ i ∧ i ≤ s.size - m
    · rw [if_pos ⟨h.1, h.2, h2.1, h2.2⟩]; exact GetWide_any s i m w (by omega) h2.1 h.1 h.2 h2.2
    · rw [if_neg (by omega)]; exact GetWide_no s i m w (by omega) h.1 h.2 (by omega)
  · rw [if_neg (by omega)]; exact GetWide_out s i m w (by omega)
theorem GetWide_sb (s : ByteArray) (hs : s.size ≤ 1048576) (i m : Int) (w : World) : Calls Tryd.prog 47 #[.string s, .int .i64 i, .int .i64 m] w fun e w' => e = .returned (.tuple #[.int .i64 (gwR s i m).1, .bool (gwR s i m).2]) ∧ w' = w := by
  unfold gwR
  by_cases h : 1 ≤ m ∧ m ≤ 8
  · by_cases h2 : 0 ≤ i ∧ i ≤ s.size - m
    · rw [if_pos ⟨h.1, h.2, h2.1, h2.2⟩]; exact GetWide_spec s i m w (by omega) h2.1 h.1 h.2 h2.2
    · rw [if_neg (by omega)]; exact GetWide_spec_no s i m w (by omega) h.1 h.2 (by omega)
  · rw [if_neg (by omega)]; exact GetWide_spec_out s i m w (by omega)
theorem SignOf_ib (n m : Int) (hn : In64 n) (w : World) : Calls Tryd.prog 52 #[.int .i64 n, .int .i64 m] w fun e w' => e = .returned (.int .i64 (soR n m)) ∧ w' = w := by
  unfold soR
  by_cases h : 1 ≤ m ∧ m ≤ 7
  · rw [if_pos h]
    have := SignOf_impl n m.toNat w (by omega) (by omega) hn
    rwa [show ((m.toNat : Nat) : Int) = m by omega] at this
  · rw [if_neg h]
    by_cases h8 : m = 8
    · subst h8
      have := SignOf_impl n 8 w (by omega) (by omega) hn
      rwa [show signN n 8 = n by simp [signN]] at this
    · exact SignOf_out n m w (by omega)
theorem SignOf_sb (n m : Int) (w : World) : Calls Tryd.prog 53 #[.int .i64 n, .int .i64 m] w fun e w' => e = .returned (.int .i64 (soR n m)) ∧ w' = w := by
  unfold soR
  by_cases h : 1 ≤ m ∧ m ≤ 7
  · rw [if_pos h]
    have := SignOf_spec n m.toNat w (by omega) (by omega)
    rwa [show ((m.toNat : Nat) : Int) = m by omega] at this
  · rw [if_neg h]; exact SignOf_spec_out n m w (by omega)
end Go.Proofs.YtgbgeocmjdgmoaaDoor
namespace Go.Proofs.YtgbgeocmjdgmoaaDoor
set_option linter.unusedSimpArgs false
set_option linter.unusedVariables false
set_option maxRecDepth 100000
open Go.RowKit
theorem wide_back (n m : Int) (h : 1 ≤ m ∧ m ≤ 8) : gwR ⟨(bigZ m.toNat n).toArray⟩ 0 m = (wrap64 (n % 256 ^ m.toNat), true) := by
  have hs : (⟨(bigZ m.toNat n).toArray⟩ : ByteArray).size = m.toNat := bigZ_length _ _
  unfold gwR
  rw [if_pos ⟨h.1, h.2, by omega, by rw [hs]; omega⟩]
  have e : sub (bigZ m.toNat n) 0 m.toNat = bigZ m.toNat n := by
    unfold sub
    rw [List.drop_zero]
    exact List.take_of_length_le (by rw [bigZ_length]; exact Nat.le_refl _)
  show (wrap64 (wval (sub (bigZ m.toNat n) 0 m.toNat)), true) = _
  rw [e, wval_bigZ]
theorem wide_8 (n : Int) (hn : In64 n) : wrap64 (n % 256 ^ (8 : Int).toNat) = n := by
  unfold In64 at hn
  rw [show (256 : Int) ^ (8 : Int).toNat = 18446744073709551616 by decide]
  unfold wrap64; omega
theorem sign_back (n m : Int) (hn : -128 ≤ n ∧ n < 128) (h : 1 ≤ m ∧ m ≤ 8) : soR (wrap64 (n % 256 ^ m.toNat)) m = n := by
  have hm : m = 1 ∨ m = 2 ∨ m = 3 ∨ m = 4 ∨ m = 5 ∨ m = 6 ∨ m = 7 ∨ m = 8 := by omega
  rcases hm with rfl | rfl | rfl | rfl | rfl | rfl | rfl | rfl
  case inr.inr.inr.inr.inr.inr.inr => unfold soR; rw [if_neg (by omega)]; exact wide_8 n (by unfold In64; omega)
  all_goals
    unfold soR signN wrap64
    simp
    split <;> omega
theorem pw_none (n m : Int) : pwB n m = [] ↔ ¬ (1 ≤ m ∧ m ≤ 8) := by
  unfold pwB
  split
  · rename_i h
    refine ⟨fun e => ?_, fun h2 => absurd h h2⟩
    have := bigZ_length m.toNat n
    rw [e] at this; simp at this; omega
  · rename_i h; exact ⟨fun _ => h, fun _ => rfl⟩
end Go.Proofs.YtgbgeocmjdgmoaaDoor
