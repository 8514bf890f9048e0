/- How many text keys are known: spec.Known and impl.Known. -/
import Derived.Test.YtlholofiepjeaaaAllKeys
import Derived.Test.YtlholofiepjeaaaNames
namespace Go.Proofs.Ytlholofiepjeaaa
open Go.RowKit
def knownC (t l : List ByteArray) : Nat := l.countP fun s => decide (0 ≤ atS t s)
def onesL (m : Int) : Nat → List V → List ByteArray
  | _, [] => []
  | i, t :: ts => one1 m i t ++ onesL m (i + 1) ts
theorem onesL_evs : ∀ (ts : List V) (i : Nat), i % 2 = 0 → onesL 8 i ts = evs ts
  | [], _, _ => rfl
  | [t], i, h => by simp [onesL, one1, evs, k5, h]
  | t :: u :: ts, i, h => by
    have h1 : ¬ (i + 1) % 2 = 0 := by omega
    simp only [onesL, onesL_evs ts (i + 2) (by omega), evs]
    simp [one1, k5, h, h1]
theorem onesL_no (m : Int) (h : ¬ m = 8) : ∀ (ts : List V) (i : Nat), onesL m i ts = []
  | [], _ => rfl
  | t :: ts, i => by simp [onesL, one1, h, onesL_no m h ts]
theorem onesL_keys1 (u : V) : onesL u.k 0 u.kids = keys1 u := by
  unfold keys1
  split
  · rename_i h; rw [h]; exact onesL_evs _ 0 rfl
  · rename_i h; exact onesL_no _ h _ _
mutual
theorem count_keys (p : ByteArray → Bool) : ∀ t : V, t.keysR.countP p = (t.pre.flatMap keys1).countP p
  | .mk k n e s ks => by
    have h := count_keyss p k 0 ks
    have h1 := onesL_keys1 (.mk k n e s ks)
    simp only [V.keysR, V.pre, List.flatMap_cons, List.countP_append, h, ← h1, V.k, V.kids]
theorem count_keyss (p : ByteArray → Bool) (m : Int) : ∀ (i : Nat) (ts : List V), (keysRs m i ts).countP p = (onesL m i ts).countP p + ((pres ts).flatMap keys1).countP p
  | _, [] => by simp [keysRs, onesL, pres]
  | i, t :: ts => by
    have h1 := count_keys p t
    have h2 := count_keyss p m (i + 1) ts
    simp only [keysRs, onesL, pres, List.flatMap_append, List.countP_append, h1, h2]; omega
 end
theorem known_same (t : V) (l : List ByteArray) : knownC l t.keysR = knownC l (t.pre.flatMap keys1) := count_keys _ t
theorem knownC_take (t l : List ByteArray) (k : Nat) (h : k < l.length) : knownC t (l.take (k + 1)) = knownC t (l.take k) + if 0 ≤ atS t l[k] then 1 else 0 := by
  unfold knownC
  rw [List.take_succ_eq_append_getElem h, List.countP_append]
  simp [List.countP_cons]
theorem knownC_le (t l : List ByteArray) (k : Nat) : knownC t (l.take k) ≤ k := Nat.le_trans List.countP_le_length (by rw [List.length_take]; omega)
theorem keys1s_le (t : V) (h : t.sz ≤ 1048576) : (t.pre.flatMap keys1).length ≤ 4194304 := by
  have h1 := keys1s_length t.pre; have h2 := wt_pre t; omega
set_option maxHeartbeats 400000 in
theorem Known_spec (w0 : World) (v tv : Value) (t : V) (l : List ByteArray) (h : Rep w0 v t) (hsz : t.sz ≤ 1048576) (hl : RepSs w0 tv l) (w : World) (hw : Below w0.heap.size w0 w) :
    Calls Try.prog 20 #[v, tv] w fun e w' => e = .returned (.int .i64 (knownC l t.keysR)) ∧ Below w.heap.size w w' := by
  obtain ⟨sl, rfl, hwf, hr⟩ := h
  have K1 := Lib.hid (fun w'' (hh : Below w.heap.size w w'') => l11Keys_any w0 sl t.kids hr (by have := V.sz_eq t; omega) t rfl w'' (below_step hw hh (Nat.le_refl _)))
  have A1 := Lib.hid (fun s w'' (hh : Below w.heap.size w w'') => l11At_any w0 tv l s hl w'' (below_step hw hh (Nat.le_refl _)))
  have hkl : t.keysR.length ≤ 1048576 := Nat.le_trans (keysR_length t) hsz
  unfold V.agg at K1 ⊢
  generalize t.k = vk at *
  generalize t.n = vn at *
  generalize t.e = ve at *
  generalize t.s = vs at *
  generalize t.keysR = kl at *
  obtain ⟨la, lb, loff, lcap, rfl, _⟩ := hl
  clear hr hwf hsz
  go_enter Try.func20, Try.ntmps20
  go_wp2_with fail
  refine (K1.out _ (by (repeat' (first | with_reducible exact Below.refl _ _ | with_reducible refine below_alloc ?_ _ ?_ | with_reducible refine Below.setCell ?_ ?_ _ | with_reducible refine Below.drew ?_ | with_reducible refine below_drewN ?_ _ | with_reducible refine below_step ?_ (by assumption) ?_)); all_goals (first | omega | (simp; done) | (simp; omega)))).mono ?_
  rintro e1 w1 ⟨kv, rfl, hk1, hb1⟩
  obtain ⟨ka, kb, koff, kcap, rfl, hka, hkc, hkm, hkcell⟩ := hk1.rep
  have HKA := Lib.hid hka; have HKC := Lib.hid hkcell
  clear hka hkc hkm hkcell hk1
  go_wp2_with fail
  go_loop [5, 7] (fun c i => ∃ k : Nat, ∃ q : Nat, k ≤ kl.length ∧ i = .int .i64 k ∧ c = .int .i64 q ∧ q ≤ k ∧ Hid (q = knownC l (kl.take k))) (fun _ i => kl.length - (intOf i).toNat)
  case atStart => exact ⟨0, 0, by omega, rfl, rfl, by omega, Lib.hid rfl⟩
  case round =>
    obtain ⟨k, q, hk, rfl, rfl, hqk, HQ⟩ := hrel
    by_cases hlt : k < kl.length
    · have hne : kl ≠ [] := by intro e; rw [e] at hlt; simp at hlt
      obtain ⟨rfl, hbw⟩ := HKA.out hne
      have hcell := (HKC.out k hlt).1
      have HT := Lib.hid (knownC_take l kl k hlt)
      generalize kl[k] = s at *
      go_wp2_with fail
      refine (A1.out s _ (by (repeat' (first | with_reducible exact Below.refl _ _ | with_reducible refine below_alloc ?_ _ ?_ | with_reducible refine Below.setCell ?_ ?_ _ | with_reducible refine Below.drew ?_ | with_reducible refine below_drewN ?_ _ | with_reducible refine below_step ?_ (by assumption) ?_)); all_goals (first | omega | (simp; done) | (simp; omega)))).mono ?_
      rintro e2 w2 ⟨rfl, rfl⟩
      generalize atS l s = x at *
      by_cases hx : 0 ≤ x
      · have HN := Lib.hid (show q + 1 = knownC l (kl.take (k + 1)) by rw [HT.out, if_pos hx, HQ.out])
        go_wp2_with fail
        go_round
        case rel => exact ⟨k + 1, q + 1, by omega, by go_num, by go_num, by omega, HN⟩
        case measure => simp [intOf]; omega
      · have HN := Lib.hid (show q = knownC l (kl.take (k + 1)) by rw [HT.out, if_neg hx, HQ.out]; rfl)
        go_wp2_with fail
        go_round
        case rel => exact ⟨k + 1, q, by omega, by go_num, rfl, by omega, HN⟩
        case measure => simp [intOf]; omega
    · have H := Lib.hid (show q = knownC l kl by rw [HQ.out, List.take_of_length_le (by omega)])
      go_wp2_with fail
      go_ret
      exact ⟨by rw [← H.out]; rfl, (by (repeat' (first | with_reducible exact Below.refl _ _ | with_reducible refine below_alloc ?_ _ ?_ | with_reducible refine Below.setCell ?_ ?_ _ | with_reducible refine Below.drew ?_ | with_reducible refine below_drewN ?_ _ | with_reducible refine below_step ?_ (by assumption) ?_)); all_goals (first | omega | (simp; done) | (simp; omega)))⟩
set_option maxHeartbeats 400000 in
theorem Known_impl (w0 : World) (v tv : Value) (t : V) (l : List ByteArray) (h : Rep w0 v t) (hsz : t.sz ≤ 1048576) (hl : RepSs w0 tv l) (w : World) (hw : Below w0.heap.size w0 w) :
    Calls Try.prog 22 #[v, tv] w fun e w' => e = .returned (.int .i64 (knownC l t.keysR)) ∧ Below w.heap.size w w' := by
  have HS := Lib.hid (known_same t l)
  have K1 := Lib.hid (fun w'' (hh : Below w.heap.size w w'') => allKeys_any w0 v t h hsz w'' (below_step hw hh (Nat.le_refl _)))
  have A1 := Lib.hid (fun s w'' (hh : Below w.heap.size w w'') => ContainsN_any w0 tv l s hl w'' (below_step hw hh (Nat.le_refl _)))
  have hkl := keys1s_le t hsz
  obtain ⟨sl, rfl, hwf, hr⟩ := h
  unfold V.agg at K1 ⊢
  generalize t.k = vk at *
  generalize t.n = vn at *
  generalize t.e = ve at *
  generalize t.s = vs at *
  generalize t.pre.flatMap keys1 = kl at *
  obtain ⟨la, lb, loff, lcap, rfl, _⟩ := hl
  clear hr hwf hsz
  go_enter Try.func22, Try.ntmps22
  go_wp2_with fail
  refine (K1.out _ (by (repeat' (first | with_reducible exact Below.refl _ _ | with_reducible refine below_alloc ?_ _ ?_ | with_reducible refine Below.setCell ?_ ?_ _ | with_reducible refine Below.drew ?_ | with_reducible refine below_drewN ?_ _ | with_reducible refine below_step ?_ (by assumption) ?_)); all_goals (first | omega | (simp; done) | (simp; omega)))).mono ?_
  rintro e1 w1 ⟨kv, rfl, hk1, hb1⟩
  obtain ⟨ka, kb, koff, kcap, rfl, hka, hkc, hkm, hkcell⟩ := hk1.rep
  have HKA := Lib.hid hka; have HKC := Lib.hid hkcell
  clear hka hkc hkm hkcell hk1
  go_wp2_with fail
  go_loop [5, 11, 7] (fun c i _ => ∃ k : Nat, ∃ q : Nat, k ≤ kl.length ∧ i = .int .i64 k ∧ c = .int .i64 q ∧ q ≤ k ∧ Hid (q = knownC l (kl.take k))) (fun _ i _ => kl.length - (intOf i).toNat)
  case atStart => exact ⟨0, 0, by omega, rfl, rfl, by omega, Lib.hid rfl⟩
  case round =>
    obtain ⟨k, q, hk, rfl, rfl, hqk, HQ⟩ := hrel
    by_cases hlt : k < kl.length
    · have hne : kl ≠ [] := by intro e; rw [e] at hlt; simp at hlt
      obtain ⟨rfl, hbw⟩ := HKA.out hne
      have hcell := (HKC.out k hlt).1
      have HT := Lib.hid (knownC_take l kl k hlt)
      generalize kl[k] = s at *
      go_wp2_with fail
      refine (A1.out s _ (by (repeat' (first | with_reducible exact Below.refl _ _ | with_reducible refine below_alloc ?_ _ ?_ | with_reducible refine Below.setCell ?_ ?_ _ | with_reducible refine Below.drew ?_ | with_reducible refine below_drewN ?_ _ | with_reducible refine below_step ?_ (by assumption) ?_)); all_goals (first | omega | (simp; done) | (simp; omega)))).mono ?_
      rintro e2 w2 ⟨rfl, rfl⟩
      generalize atS l s = x at *
      by_cases hx : 0 ≤ x
      · have HN := Lib.hid (show q + 1 = knownC l (kl.take (k + 1)) by rw [HT.out, if_pos hx, HQ.out])
        go_wp2_with fail
        go_round
        case rel => exact ⟨k + 1, q + 1, by omega, by go_num, by go_num, by omega, HN⟩
        case measure => simp [intOf]; omega
      · have HN := Lib.hid (show q = knownC l (kl.take (k + 1)) by rw [HT.out, if_neg hx, HQ.out]; rfl)
        go_wp2_with fail
        go_round
        case rel => exact ⟨k + 1, q, by omega, by go_num, rfl, by omega, HN⟩
        case measure => simp [intOf]; omega
    · have H := Lib.hid (show q = knownC l kl by rw [HQ.out, List.take_of_length_le (by omega)])
      go_wp2_with fail
      go_ret
      exact ⟨by rw [HS.out, ← H.out]; rfl, (by (repeat' (first | with_reducible exact Below.refl _ _ | with_reducible refine below_alloc ?_ _ ?_ | with_reducible refine Below.setCell ?_ ?_ _ | with_reducible refine Below.drew ?_ | with_reducible refine below_drewN ?_ _ | with_reducible refine below_step ?_ (by assumption) ?_)); all_goals (first | omega | (simp; done) | (simp; omega)))⟩
end Go.Proofs.Ytlholofiepjeaaa
