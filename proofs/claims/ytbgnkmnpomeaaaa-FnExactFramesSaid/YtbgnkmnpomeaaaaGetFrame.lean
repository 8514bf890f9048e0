/- What the two GetFrame return. Written by gen_frame.py. -/
import Derived.Test.YtbgnkmnpomeaaaaGetHead
import Derived.Test.YtbgnkmnpomeaaaaFrame
namespace Go.Proofs.Ytbgnkmnpomeaaaa
set_option linter.unusedVariables false
open Go.RowKit
theorem getH_found (s : ByteArray) (i : Int) : getH s i = (-1, 0, -1) ∨ ∃ a n x, getH s i = (a, n, x) ∧ Found s i a n x ∧ headL a.toNat n.toNat = sub s.data.toList i.toNat (x - i).toNat := by
  unfold getH
  rcases anyH_found s i with e | ⟨a, n, x, e, hf⟩
  · left; rw [e]; rfl
  · rw [e]
    by_cases hl : (headL a.toNat n.toNat).length = (x - i).toNat
    · refine .inr ⟨a, n, x, ?_, hf, hf.same hl⟩
      rw [if_neg]
      have := hf.i0; have := hf.x0
      simp only []
      omega
    · left; rw [if_pos (.inr hl)]
def getF (s : ByteArray) (i : Int) : ByteArray × Int :=
  let r := getH s i
  if r.1 ≠ 2 ∨ 100000 < r.2.1 ∨ (s.size : Int) - r.2.2 < r.2.1 + 4 then (⟨#[]⟩, -1)
  else if sumL (crcOf (s.extract r.2.2.toNat (r.2.2 + r.2.1).toNat).data.toList) = sub s.data.toList (r.2.2 + r.2.1).toNat 4 then (s.extract r.2.2.toNat (r.2.2 + r.2.1).toNat, r.2.2 + r.2.1 + 4)
  else (⟨#[]⟩, -1)
def Frame2 (c : ByteArray) (x : Int) (e : Ending) : Prop := e = .returned (.tuple #[.string c, .int .i64 x])
theorem sub_add (l : List UInt8) (i m k : Nat) : sub l i (m + k) = sub l i m ++ sub l (i + m) k := by
  unfold sub
  rw [List.take_add, List.drop_drop]
theorem frame_same (s : ByteArray) (i a n x : Int) (hf : Found s i a n x) (hh : headL a.toNat n.toNat = sub s.data.toList i.toNat (x - i).toNat) (ha : a = 2) (hn : n ≤ 100000) (hfit : x + n + 4 ≤ s.size) :
    ((⟨(frameL (s.extract x.toNat (x + n).toNat).data.toList).toArray⟩ : ByteArray) = s.extract i.toNat (x + n + 4).toNat ↔ sumL (crcOf (s.extract x.toNat (x + n).toNat).data.toList) = sub s.data.toList (x + n).toNat 4) := by
  have h1 := hf.i0; have h2 := hf.x0; have h3 := hf.n0
  have hc : (s.extract x.toNat (x + n).toNat).data.toList = sub s.data.toList x.toNat n.toNat := by
    rw [extract_sub s x (x + n) (by omega) (by omega), show (x + n - x) = n by omega]
  have hlen : (sub s.data.toList x.toNat n.toNat).length = n.toNat := sub_length _ _ _ (by rw [← size_eq]; omega)
  rw [hc, extract_sub s i (x + n + 4) h1 (by omega), show (x + n + 4 - i).toNat = (x - i).toNat + (n.toNat + 4) by omega, sub_add, sub_add]
  rw [show i.toNat + (x - i).toNat = x.toNat by omega, show x.toNat + n.toNat = (x + n).toNat by omega, ← hh, frameL, if_pos (by rw [hlen]; omega), hlen, ha]
  constructor
  · intro h
    have := congrArg (fun b : ByteArray => b.data.toList) h
    simpa using this
  · intro h
    rw [h]
    simp
set_option maxHeartbeats 400000 in
theorem frameL_le (l : List UInt8) (h : l.length ≤ 100000) : (frameL l).length ≤ 100013 := by
  rw [frameL, if_pos h]
  have := headL_le 2 l.length
  simp only [List.length_append, sumL, big_length]
  omega
set_option maxRecDepth 100000 in
set_option maxHeartbeats 800000 in
theorem GetFrame_impl_none (s : ByteArray) (i a n x : Int) (w : World) (hs : s.size ≤ 9223372036854775800) (hg : ∀ W, Calls Try.prog 58 #[.string s, .int .i64 i] W fun e w' => Head3 a n x e ∧ Below W.heap.size W w') (ha : a = -1) (hx : x = -1) (hn : n = 0) :
    Calls Try.prog 34 #[.string s, .int .i64 i] w fun e w' => Frame2 ⟨#[]⟩ (-1) e ∧ Below w.heap.size w w' := by
  have GH := Lib.hid hg
  clear hg
  subst ha hx hn
  go_enter Try.func34, Try.ntmps34
  go_wp2_with fail
  refine (GH.out _).mono ?_
  rintro e1 w1 ⟨rfl, hb1⟩
  go_wp2_with fail
  go_ret2
  exact ⟨rfl, (by (repeat' (first | with_reducible exact Below.refl _ _ | with_reducible refine below_alloc ?_ _ ?_ | with_reducible refine Below.setCell ?_ ?_ _ | with_reducible refine Below.drew ?_ | with_reducible refine below_drewN ?_ _ | with_reducible refine below_step ?_ (by assumption) ?_)); all_goals (first | omega | (simp; done) | (simp; omega)))⟩

set_option maxRecDepth 100000 in
set_option maxHeartbeats 800000 in
theorem GetFrame_impl_kind (s : ByteArray) (i a n x : Int) (w : World) (hs : s.size ≤ 9223372036854775800) (hg : ∀ W, Calls Try.prog 58 #[.string s, .int .i64 i] W fun e w' => Head3 a n x e ∧ Below W.heap.size W w') (n0 : 0 ≤ n) (n1 : n < 18446744073709551616) (x0 : 0 ≤ x) (x1 : x ≤ s.size) (ha : a ≠ 2) :
    Calls Try.prog 34 #[.string s, .int .i64 i] w fun e w' => Frame2 ⟨#[]⟩ (-1) e ∧ Below w.heap.size w w' := by
  have GH := Lib.hid hg
  clear hg
  have t1 : (a != 2) = true := by simpa using ha
  have t2 : (a == 2) = false := by simpa using ha
  clear ha
  go_enter Try.func34, Try.ntmps34
  go_wp2_with fail
  refine (GH.out _).mono ?_
  rintro e1 w1 ⟨rfl, hb1⟩
  go_wp2_with fail
  go_ret2
  exact ⟨rfl, (by (repeat' (first | with_reducible exact Below.refl _ _ | with_reducible refine below_alloc ?_ _ ?_ | with_reducible refine Below.setCell ?_ ?_ _ | with_reducible refine Below.drew ?_ | with_reducible refine below_drewN ?_ _ | with_reducible refine below_step ?_ (by assumption) ?_)); all_goals (first | omega | (simp; done) | (simp; omega)))⟩

set_option maxRecDepth 100000 in
set_option maxHeartbeats 800000 in
theorem GetFrame_impl_great (s : ByteArray) (i a n x : Int) (w : World) (hs : s.size ≤ 9223372036854775800) (hg : ∀ W, Calls Try.prog 58 #[.string s, .int .i64 i] W fun e w' => Head3 a n x e ∧ Below W.heap.size W w') (n0 : 0 ≤ n) (n1 : n < 18446744073709551616) (x0 : 0 ≤ x) (x1 : x ≤ s.size) (ha : a = 2) (hn : 100000 < n) :
    Calls Try.prog 34 #[.string s, .int .i64 i] w fun e w' => Frame2 ⟨#[]⟩ (-1) e ∧ Below w.heap.size w w' := by
  have GH := Lib.hid hg
  clear hg
  subst ha
  go_enter Try.func34, Try.ntmps34
  go_wp2_with fail
  refine (GH.out _).mono ?_
  rintro e1 w1 ⟨rfl, hb1⟩
  go_wp2_with fail
  go_ret2
  exact ⟨rfl, (by (repeat' (first | with_reducible exact Below.refl _ _ | with_reducible refine below_alloc ?_ _ ?_ | with_reducible refine Below.setCell ?_ ?_ _ | with_reducible refine Below.drew ?_ | with_reducible refine below_drewN ?_ _ | with_reducible refine below_step ?_ (by assumption) ?_)); all_goals (first | omega | (simp; done) | (simp; omega)))⟩

set_option maxRecDepth 100000 in
set_option maxHeartbeats 800000 in
theorem GetFrame_impl_short (s : ByteArray) (i a n x : Int) (w : World) (hs : s.size ≤ 9223372036854775800) (hg : ∀ W, Calls Try.prog 58 #[.string s, .int .i64 i] W fun e w' => Head3 a n x e ∧ Below W.heap.size W w') (n0 : 0 ≤ n) (n1 : n < 18446744073709551616) (x0 : 0 ≤ x) (x1 : x ≤ s.size) (ha : a = 2) (hn : n ≤ 100000) (hfit : (s.size : Int) < x + n + 4) :
    Calls Try.prog 34 #[.string s, .int .i64 i] w fun e w' => Frame2 ⟨#[]⟩ (-1) e ∧ Below w.heap.size w w' := by
  have GH := Lib.hid hg
  clear hg
  subst ha
  go_enter Try.func34, Try.ntmps34
  go_wp2_with fail
  refine (GH.out _).mono ?_
  rintro e1 w1 ⟨rfl, hb1⟩
  go_wp2_with fail
  go_ret2
  exact ⟨rfl, (by (repeat' (first | with_reducible exact Below.refl _ _ | with_reducible refine below_alloc ?_ _ ?_ | with_reducible refine Below.setCell ?_ ?_ _ | with_reducible refine Below.drew ?_ | with_reducible refine below_drewN ?_ _ | with_reducible refine below_step ?_ (by assumption) ?_)); all_goals (first | omega | (simp; done) | (simp; omega)))⟩

set_option maxRecDepth 100000 in
set_option maxHeartbeats 800000 in
theorem GetFrame_impl_yes (s : ByteArray) (i a n x : Int) (w : World) (hs : s.size ≤ 9223372036854775800) (hg : ∀ W, Calls Try.prog 58 #[.string s, .int .i64 i] W fun e w' => Head3 a n x e ∧ Below W.heap.size W w') (n0 : 0 ≤ n) (n1 : n < 18446744073709551616) (x0 : 0 ≤ x) (x1 : x ≤ s.size) (ha : a = 2) (hn : n ≤ 100000) (hfit : x + n + 4 ≤ s.size) (i0 : 0 ≤ i) (ix : i < x) (hsum : sumL (crcOf (s.extract x.toNat (x + n).toNat).data.toList) = sub s.data.toList (x + n).toNat 4) :
    Calls Try.prog 34 #[.string s, .int .i64 i] w fun e w' => Frame2 (s.extract x.toNat (x + n).toNat) (x + n + 4) e ∧ Below w.heap.size w w' := by
  have GH := Lib.hid hg
  clear hg
  subst ha
  have hcr := crcOf_range (s.extract x.toNat (x + n).toNat).data.toList
  have hxl : (s.extract x.toNat (x + n).toNat).size ≤ 140737488351232 := by rw [size_eq, extract_sub s x (x + n) x0 (by omega)]; simp [sub]; omega
  have C1 := Lib.hid (fun W => crc_impl (s.extract x.toNat (x + n).toNat) W hxl)
  have S1 := Lib.hid (fun W => sumBytes_any (crcOf (s.extract x.toNat (x + n).toNat).data.toList) W hcr.1 hcr.2)
  have hext : s.extract (x + n).toNat (x + n + 4).toNat = ⟨(sub s.data.toList (x + n).toNat 4).toArray⟩ := by rw [extract_sub s (x + n) (x + n + 4) (by omega) (by omega), show (x + n + 4 - (x + n)).toNat = 4 by omega]
  have t1 : (sumL (crcOf (s.extract x.toNat (x + n).toNat).data.toList) == (s.extract (x + n).toNat (x + n + 4).toNat).toList) = true := by
    rw [hext, ByteArray.toList_mk]; simpa using hsum
  clear hsum hext hxl hcr
  have a1 : x ≤ x + n := by omega
  have a2 : x + n ≤ s.size := by omega
  have a3 : x + n ≤ x + n + 4 := by omega
  have a4 : 0 ≤ x + n := by omega
  have a5 : 0 ≤ x + n + 4 := by omega
  have a6 : IntKind.i64.wrap (x + n + 4) = x + n + 4 := by simp [IntKind.wrap, IntKind.signed, IntKind.bits]; omega
  generalize crcOf (s.extract x.toNat (x + n).toNat).data.toList = cr at *
  generalize sumL cr = sm at *
  go_enter Try.func34, Try.ntmps34
  go_wp2_with fail
  refine (GH.out _).mono ?_
  rintro e1 w1 ⟨rfl, hb1⟩
  go_wp2_with fail
  go_region_held3 (fun w' => True) (first | exact trivial | go_keep) (first | (go_at_call 14; refine (C1.out _).mono ?_; rintro e2 w2 ⟨rfl, rfl⟩) | (go_at_call 40; refine (S1.out _).mono ?_; rintro e3 w3 ⟨rfl, hb3⟩))
  go_wp2_with fail
  go_ret2
  exact ⟨rfl, (by (repeat' (first | with_reducible exact Below.refl _ _ | with_reducible refine below_alloc ?_ _ ?_ | with_reducible refine Below.setCell ?_ ?_ _ | with_reducible refine Below.drew ?_ | with_reducible refine below_drewN ?_ _ | with_reducible refine below_step ?_ (by assumption) ?_)); all_goals (first | omega | (simp; done) | (simp; omega)))⟩

set_option maxRecDepth 100000 in
set_option maxHeartbeats 800000 in
theorem GetFrame_impl_no (s : ByteArray) (i a n x : Int) (w : World) (hs : s.size ≤ 9223372036854775800) (hg : ∀ W, Calls Try.prog 58 #[.string s, .int .i64 i] W fun e w' => Head3 a n x e ∧ Below W.heap.size W w') (n0 : 0 ≤ n) (n1 : n < 18446744073709551616) (x0 : 0 ≤ x) (x1 : x ≤ s.size) (ha : a = 2) (hn : n ≤ 100000) (hfit : x + n + 4 ≤ s.size) (i0 : 0 ≤ i) (ix : i < x) (hsum : ¬ sumL (crcOf (s.extract x.toNat (x + n).toNat).data.toList) = sub s.data.toList (x + n).toNat 4) :
    Calls Try.prog 34 #[.string s, .int .i64 i] w fun e w' => Frame2 ⟨#[]⟩ (-1) e ∧ Below w.heap.size w w' := by
  have GH := Lib.hid hg
  clear hg
  subst ha
  have hcr := crcOf_range (s.extract x.toNat (x + n).toNat).data.toList
  have hxl : (s.extract x.toNat (x + n).toNat).size ≤ 140737488351232 := by rw [size_eq, extract_sub s x (x + n) x0 (by omega)]; simp [sub]; omega
  have C1 := Lib.hid (fun W => crc_impl (s.extract x.toNat (x + n).toNat) W hxl)
  have S1 := Lib.hid (fun W => sumBytes_any (crcOf (s.extract x.toNat (x + n).toNat).data.toList) W hcr.1 hcr.2)
  have hext : s.extract (x + n).toNat (x + n + 4).toNat = ⟨(sub s.data.toList (x + n).toNat 4).toArray⟩ := by rw [extract_sub s (x + n) (x + n + 4) (by omega) (by omega), show (x + n + 4 - (x + n)).toNat = 4 by omega]
  have t1 : (sumL (crcOf (s.extract x.toNat (x + n).toNat).data.toList) == (s.extract (x + n).toNat (x + n + 4).toNat).toList) = false := by
    rw [hext, ByteArray.toList_mk]; simpa using hsum
  clear hsum hext hxl hcr
  have a1 : x ≤ x + n := by omega
  have a2 : x + n ≤ s.size := by omega
  have a3 : x + n ≤ x + n + 4 := by omega
  have a4 : 0 ≤ x + n := by omega
  have a5 : 0 ≤ x + n + 4 := by omega
  have a6 : IntKind.i64.wrap (x + n + 4) = x + n + 4 := by simp [IntKind.wrap, IntKind.signed, IntKind.bits]; omega
  generalize crcOf (s.extract x.toNat (x + n).toNat).data.toList = cr at *
  generalize sumL cr = sm at *
  go_enter Try.func34, Try.ntmps34
  go_wp2_with fail
  refine (GH.out _).mono ?_
  rintro e1 w1 ⟨rfl, hb1⟩
  go_wp2_with fail
  go_region_held3 (fun w' => True) (first | exact trivial | go_keep) (first | (go_at_call 14; refine (C1.out _).mono ?_; rintro e2 w2 ⟨rfl, rfl⟩) | (go_at_call 40; refine (S1.out _).mono ?_; rintro e3 w3 ⟨rfl, hb3⟩))
  go_wp2_with fail
  go_ret2
  exact ⟨rfl, (by (repeat' (first | with_reducible exact Below.refl _ _ | with_reducible refine below_alloc ?_ _ ?_ | with_reducible refine Below.setCell ?_ ?_ _ | with_reducible refine Below.drew ?_ | with_reducible refine below_drewN ?_ _ | with_reducible refine below_step ?_ (by assumption) ?_)); all_goals (first | omega | (simp; done) | (simp; omega)))⟩

theorem GetFrame_impl (s : ByteArray) (i : Int) (w : World) (hs : s.size ≤ 9223372036854775800) (hi0 : -9223372036854775808 ≤ i) (hi1 : i ≤ 9223372036854775807) :
    Calls Try.prog 34 #[.string s, .int .i64 i] w fun e w' => Frame2 (getF s i).1 (getF s i).2 e ∧ Below w.heap.size w w' := by
  have hg := fun W => GetHead_impl s i W hs hi0 hi1
  unfold getF
  rcases getH_found s i with e | ⟨a, n, x, e, hf, hh⟩
  · rw [e] at hg ⊢
    exact GetFrame_impl_none s i (-1) 0 (-1) w hs hg rfl rfl rfl
  · rw [e] at hg ⊢
    have h1 := hf.i0; have h2 := hf.x0; have h3 := hf.n0; have h4 := hf.n1; have h5 := hf.x1
    by_cases ha : a = 2
    · by_cases hn : 100000 < n
      · rw [if_pos (.inr (.inl hn))]
        exact GetFrame_impl_great s i a n x w hs hg h3 h4 (by omega) h5 ha hn
      · by_cases hfit : (s.size : Int) - x < n + 4
        · rw [if_pos (.inr (.inr hfit))]
          exact GetFrame_impl_short s i a n x w hs hg h3 h4 (by omega) h5 ha (by omega) (by omega)
        · rw [if_neg (by simp only []; omega)]
          by_cases hsum : sumL (crcOf (s.extract x.toNat (x + n).toNat).data.toList) = sub s.data.toList (x + n).toNat 4
          · rw [if_pos hsum]
            exact GetFrame_impl_yes s i a n x w hs hg h3 h4 (by omega) h5 ha (by omega) (by omega) h1 h2 hsum
          · rw [if_neg hsum]
            exact GetFrame_impl_no s i a n x w hs hg h3 h4 (by omega) h5 ha (by omega) (by omega) h1 h2 hsum
    · rw [if_pos (.inl ha)]
      exact GetFrame_impl_kind s i a n x w hs hg h3 h4 (by omega) h5 ha
set_option maxRecDepth 100000 in
set_option maxHeartbeats 800000 in
theorem GetFrame_spec_none (s : ByteArray) (i a n x : Int) (w : World) (hs : s.size ≤ 9223372036854775800) (hg : ∀ W, Calls Try.prog 57 #[.string s, .int .i64 i] W fun e w' => Head3 a n x e ∧ Below W.heap.size W w') (ha : a = -1) (hx : x = -1) (hn : n = 0) :
    Calls Try.prog 33 #[.string s, .int .i64 i] w fun e w' => Frame2 ⟨#[]⟩ (-1) e ∧ Below w.heap.size w w' := by
  have GH := Lib.hid hg
  clear hg
  subst ha hx hn
  go_enter Try.func33, Try.ntmps33
  go_wp2_with fail
  refine (GH.out _).mono ?_
  rintro e1 w1 ⟨rfl, hb1⟩
  go_wp2_with fail
  go_ret2
  exact ⟨rfl, (by (repeat' (first | with_reducible exact Below.refl _ _ | with_reducible refine below_alloc ?_ _ ?_ | with_reducible refine Below.setCell ?_ ?_ _ | with_reducible refine Below.drew ?_ | with_reducible refine below_drewN ?_ _ | with_reducible refine below_step ?_ (by assumption) ?_)); all_goals (first | omega | (simp; done) | (simp; omega)))⟩

set_option maxRecDepth 100000 in
set_option maxHeartbeats 800000 in
theorem GetFrame_spec_kind (s : ByteArray) (i a n x : Int) (w : World) (hs : s.size ≤ 9223372036854775800) (hg : ∀ W, Calls Try.prog 57 #[.string s, .int .i64 i] W fun e w' => Head3 a n x e ∧ Below W.heap.size W w') (n0 : 0 ≤ n) (n1 : n < 18446744073709551616) (x0 : 0 ≤ x) (x1 : x ≤ s.size) (ha : a ≠ 2) :
    Calls Try.prog 33 #[.string s, .int .i64 i] w fun e w' => Frame2 ⟨#[]⟩ (-1) e ∧ Below w.heap.size w w' := by
  have GH := Lib.hid hg
  clear hg
  have t1 : (a != 2) = true := by simpa using ha
  have t2 : (a == 2) = false := by simpa using ha
  clear ha
  go_enter Try.func33, Try.ntmps33
  go_wp2_with fail
  refine (GH.out _).mono ?_
  rintro e1 w1 ⟨rfl, hb1⟩
  go_wp2_with fail
  go_ret2
  exact ⟨rfl, (by (repeat' (first | with_reducible exact Below.refl _ _ | with_reducible refine below_alloc ?_ _ ?_ | with_reducible refine Below.setCell ?_ ?_ _ | with_reducible refine Below.drew ?_ | with_reducible refine below_drewN ?_ _ | with_reducible refine below_step ?_ (by assumption) ?_)); all_goals (first | omega | (simp; done) | (simp; omega)))⟩

set_option maxRecDepth 100000 in
set_option maxHeartbeats 800000 in
theorem GetFrame_spec_great (s : ByteArray) (i a n x : Int) (w : World) (hs : s.size ≤ 9223372036854775800) (hg : ∀ W, Calls Try.prog 57 #[.string s, .int .i64 i] W fun e w' => Head3 a n x e ∧ Below W.heap.size W w') (n0 : 0 ≤ n) (n1 : n < 18446744073709551616) (x0 : 0 ≤ x) (x1 : x ≤ s.size) (ha : a = 2) (hn : 100000 < n) :
    Calls Try.prog 33 #[.string s, .int .i64 i] w fun e w' => Frame2 ⟨#[]⟩ (-1) e ∧ Below w.heap.size w w' := by
  have GH := Lib.hid hg
  clear hg
  subst ha
  go_enter Try.func33, Try.ntmps33
  go_wp2_with fail
  refine (GH.out _).mono ?_
  rintro e1 w1 ⟨rfl, hb1⟩
  go_wp2_with fail
  go_ret2
  exact ⟨rfl, (by (repeat' (first | with_reducible exact Below.refl _ _ | with_reducible refine below_alloc ?_ _ ?_ | with_reducible refine Below.setCell ?_ ?_ _ | with_reducible refine Below.drew ?_ | with_reducible refine below_drewN ?_ _ | with_reducible refine below_step ?_ (by assumption) ?_)); all_goals (first | omega | (simp; done) | (simp; omega)))⟩

set_option maxRecDepth 100000 in
set_option maxHeartbeats 800000 in
theorem GetFrame_spec_short (s : ByteArray) (i a n x : Int) (w : World) (hs : s.size ≤ 9223372036854775800) (hg : ∀ W, Calls Try.prog 57 #[.string s, .int .i64 i] W fun e w' => Head3 a n x e ∧ Below W.heap.size W w') (n0 : 0 ≤ n) (n1 : n < 18446744073709551616) (x0 : 0 ≤ x) (x1 : x ≤ s.size) (ha : a = 2) (hn : n ≤ 100000) (hfit : (s.size : Int) < x + n + 4) :
    Calls Try.prog 33 #[.string s, .int .i64 i] w fun e w' => Frame2 ⟨#[]⟩ (-1) e ∧ Below w.heap.size w w' := by
  have GH := Lib.hid hg
  clear hg
  subst ha
  go_enter Try.func33, Try.ntmps33
  go_wp2_with fail
  refine (GH.out _).mono ?_
  rintro e1 w1 ⟨rfl, hb1⟩
  go_wp2_with fail
  go_ret2
  exact ⟨rfl, (by (repeat' (first | with_reducible exact Below.refl _ _ | with_reducible refine below_alloc ?_ _ ?_ | with_reducible refine Below.setCell ?_ ?_ _ | with_reducible refine Below.drew ?_ | with_reducible refine below_drewN ?_ _ | with_reducible refine below_step ?_ (by assumption) ?_)); all_goals (first | omega | (simp; done) | (simp; omega)))⟩

set_option maxRecDepth 100000 in
set_option maxHeartbeats 800000 in
theorem GetFrame_spec_yes (s : ByteArray) (i a n x : Int) (w : World) (hs : s.size ≤ 9223372036854775800) (hg : ∀ W, Calls Try.prog 57 #[.string s, .int .i64 i] W fun e w' => Head3 a n x e ∧ Below W.heap.size W w') (n0 : 0 ≤ n) (n1 : n < 18446744073709551616) (x0 : 0 ≤ x) (x1 : x ≤ s.size) (ha : a = 2) (hn : n ≤ 100000) (hfit : x + n + 4 ≤ s.size) (i0 : 0 ≤ i) (ix : i < x) (hsum : (⟨(frameL (s.extract x.toNat (x + n).toNat).data.toList).toArray⟩ : ByteArray) = s.extract i.toNat (x + n + 4).toNat) :
    Calls Try.prog 33 #[.string s, .int .i64 i] w fun e w' => Frame2 (s.extract x.toNat (x + n).toNat) (x + n + 4) e ∧ Below w.heap.size w w' := by
  have GH := Lib.hid hg
  clear hg
  subst ha
  have hxl : (s.extract x.toNat (x + n).toNat).size ≤ 100000 := by rw [size_eq, extract_sub s x (x + n) x0 (by omega)]; simp [sub]; omega
  have F1 := Lib.hid (fun W => PutFrame_spec (s.extract x.toNat (x + n).toNat) W (by omega))
  have hfl := frameL_le (s.extract x.toNat (x + n).toNat).data.toList (by rw [← size_eq]; exact hxl)
  have t1 : (frameL (s.extract x.toNat (x + n).toNat).data.toList == (s.extract i.toNat (x + n + 4).toNat).toList) = true := by
    have := ba_yes hsum; rwa [ByteArray.toList_mk] at this
  clear hsum hxl
  have a1 : x ≤ x + n := by omega
  have a2 : x + n ≤ s.size := by omega
  have a3 : i ≤ x + n + 4 := by omega
  have a4 : 0 ≤ x + n := by omega
  have a5 : 0 ≤ x + n + 4 := by omega
  generalize frameL (s.extract x.toNat (x + n).toNat).data.toList = fl at *
  go_enter Try.func33, Try.ntmps33
  go_wp2_with fail
  refine (GH.out _).mono ?_
  rintro e1 w1 ⟨rfl, hb1⟩
  go_wp2_with fail
  go_region_held3 (fun w' => True) (first | exact trivial | go_keep) (first | (go_at_call 15; refine (F1.out _).mono ?_; rintro e2 w2 ⟨rfl, hb2⟩))
  go_wp2_with fail
  go_ret2
  exact ⟨rfl, (by (repeat' (first | with_reducible exact Below.refl _ _ | with_reducible refine below_alloc ?_ _ ?_ | with_reducible refine Below.setCell ?_ ?_ _ | with_reducible refine Below.drew ?_ | with_reducible refine below_drewN ?_ _ | with_reducible refine below_step ?_ (by assumption) ?_)); all_goals (first | omega | (simp; done) | (simp; omega)))⟩

set_option maxRecDepth 100000 in
set_option maxHeartbeats 800000 in
theorem GetFrame_spec_no (s : ByteArray) (i a n x : Int) (w : World) (hs : s.size ≤ 9223372036854775800) (hg : ∀ W, Calls Try.prog 57 #[.string s, .int .i64 i] W fun e w' => Head3 a n x e ∧ Below W.heap.size W w') (n0 : 0 ≤ n) (n1 : n < 18446744073709551616) (x0 : 0 ≤ x) (x1 : x ≤ s.size) (ha : a = 2) (hn : n ≤ 100000) (hfit : x + n + 4 ≤ s.size) (i0 : 0 ≤ i) (ix : i < x) (hsum : ¬ (⟨(frameL (s.extract x.toNat (x + n).toNat).data.toList).toArray⟩ : ByteArray) = s.extract i.toNat (x + n + 4).toNat) :
    Calls Try.prog 33 #[.string s, .int .i64 i] w fun e w' => Frame2 ⟨#[]⟩ (-1) e ∧ Below w.heap.size w w' := by
  have GH := Lib.hid hg
  clear hg
  subst ha
  have hxl : (s.extract x.toNat (x + n).toNat).size ≤ 100000 := by rw [size_eq, extract_sub s x (x + n) x0 (by omega)]; simp [sub]; omega
  have F1 := Lib.hid (fun W => PutFrame_spec (s.extract x.toNat (x + n).toNat) W (by omega))
  have hfl := frameL_le (s.extract x.toNat (x + n).toNat).data.toList (by rw [← size_eq]; exact hxl)
  have t1 : (frameL (s.extract x.toNat (x + n).toNat).data.toList == (s.extract i.toNat (x + n + 4).toNat).toList) = false := by
    have := ba_no hsum; rwa [ByteArray.toList_mk] at this
  clear hsum hxl
  have a1 : x ≤ x + n := by omega
  have a2 : x + n ≤ s.size := by omega
  have a3 : i ≤ x + n + 4 := by omega
  have a4 : 0 ≤ x + n := by omega
  have a5 : 0 ≤ x + n + 4 := by omega
  generalize frameL (s.extract x.toNat (x + n).toNat).data.toList = fl at *
  go_enter Try.func33, Try.ntmps33
  go_wp2_with fail
  refine (GH.out _).mono ?_
  rintro e1 w1 ⟨rfl, hb1⟩
  go_wp2_with fail
  go_region_held3 (fun w' => True) (first | exact trivial | go_keep) (first | (go_at_call 15; refine (F1.out _).mono ?_; rintro e2 w2 ⟨rfl, hb2⟩))
  go_wp2_with fail
  go_ret2
  exact ⟨rfl, (by (repeat' (first | with_reducible exact Below.refl _ _ | with_reducible refine below_alloc ?_ _ ?_ | with_reducible refine Below.setCell ?_ ?_ _ | with_reducible refine Below.drew ?_ | with_reducible refine below_drewN ?_ _ | with_reducible refine below_step ?_ (by assumption) ?_)); all_goals (first | omega | (simp; done) | (simp; omega)))⟩

theorem GetFrame_spec (s : ByteArray) (i : Int) (w : World) (hs : s.size ≤ 9223372036854775800) (hi0 : -9223372036854775808 ≤ i) (hi1 : i ≤ 9223372036854775807) :
    Calls Try.prog 33 #[.string s, .int .i64 i] w fun e w' => Frame2 (getF s i).1 (getF s i).2 e ∧ Below w.heap.size w w' := by
  have hg := fun W => GetHead_spec s i W hs hi0 hi1
  unfold getF
  rcases getH_found s i with e | ⟨a, n, x, e, hf, hh⟩
  · rw [e] at hg ⊢
    exact GetFrame_spec_none s i (-1) 0 (-1) w hs hg rfl rfl rfl
  · rw [e] at hg ⊢
    have h1 := hf.i0; have h2 := hf.x0; have h3 := hf.n0; have h4 := hf.n1; have h5 := hf.x1
    by_cases ha : a = 2
    · by_cases hn : 100000 < n
      · rw [if_pos (.inr (.inl hn))]
        exact GetFrame_spec_great s i a n x w hs hg h3 h4 (by omega) h5 ha hn
      · by_cases hfit : (s.size : Int) - x < n + 4
        · rw [if_pos (.inr (.inr hfit))]
          exact GetFrame_spec_short s i a n x w hs hg h3 h4 (by omega) h5 ha (by omega) (by omega)
        · rw [if_neg (by simp only []; omega)]
          by_cases hsum : sumL (crcOf (s.extract x.toNat (x + n).toNat).data.toList) = sub s.data.toList (x + n).toNat 4
          · rw [if_pos hsum]
            exact GetFrame_spec_yes s i a n x w hs hg h3 h4 (by omega) h5 ha (by omega) (by omega) h1 h2 ((frame_same s i a n x hf hh ha (by omega) (by omega)).2 hsum)
          · rw [if_neg hsum]
            exact GetFrame_spec_no s i a n x w hs hg h3 h4 (by omega) h5 ha (by omega) (by omega) h1 h2 (fun h => hsum ((frame_same s i a n x hf hh ha (by omega) (by omega)).1 h))
    · rw [if_pos (.inl ha)]
      exact GetFrame_spec_kind s i a n x w hs hg h3 h4 (by omega) h5 ha
end Go.Proofs.Ytbgnkmnpomeaaaa
