/- Lemmas for the statement of the last text of this claim: texts joined. -/
import Derived.Test.YtgbgeocmjdgmoaaDoorCbK08
import Derived.Test.YtgbgeocmjdgmoaaDoorCbK09
namespace Go.Proofs.YtgbgeocmjdgmoaaDoor
set_option linter.unusedSimpArgs false
set_option linter.unusedVariables false
set_option maxRecDepth 100000
open Go.RowKit
theorem below22 (w : World) (o o' : Obj) : Below w.heap.size w ((w.alloc o).alloc o') := ((Below.refl _ _).alloc (Nat.le_refl _) o).alloc (by simp) o'
theorem touch_new {A A' : Nat → Prop} {w W : World} (h : Touch A A' w W) (c i : Nat) (hc : w.heap.size ≤ c) (v : Value) : Touch A A' w (W.setCell ⟨c, i, none⟩ v) :=
  ⟨h.os, h.tape, h.output, by simpa using h.size, fun x hx hn => (heap_setCell_other _ _ _ _ (fun e => by have e' : x = c := e; omega)).trans (h.block x hx hn), h.new⟩
set_option maxHeartbeats 4000000 in
theorem lget_open (r : Nat) (s : ByteArray) (hs : s.size ≤ 1048576) (g : Nat → Nat → MG) (hg : ∀ i l, CGood s i l (g i l)) (deep : Int) (hdp : 0 ≤ deep ∧ deep ≤ 14)
    (hG : ∀ (i l : Nat) (W : World), i ≤ s.size → l ≤ 1204 → RC W r s true l → Calls Tryd.prog 138 #[.pointer (some ⟨r, 0, none⟩), .int .i64 i, .int .i64 (deep + 1)] W (CgRet r s true (g i l) W))
    (i l : Nat) (hi : i < s.size) (hl : l + 1 ≤ 1204) (w : World) (hR : RC w r s true ((l + 1 : Nat) : Int)) (a : Nat) (ha : 2 ≤ a ∧ a ≤ 5) (hb : s[i].toNat % 32 = 31 ∧ s[i].toNat / 32 = a) (o : MG) (hO : ∀ W, RC W r s true (l : Int) → Calls Tryd.prog 211 #[.pointer (some ⟨r, 0, none⟩), .int .i64 i, .int .i64 deep] W (CgRet r s true o W)) :
    Calls Tryd.prog 138 #[.pointer (some ⟨r, 0, none⟩), .int .i64 i, .int .i64 deep] w (CgRet r s true o w) := by
  have hrw := hR.lt
  have HR := Lib.hid hR
  obtain ⟨m0, m1, m2, mf⟩ := hR.cells
  obtain ⟨hdp0, hdp1⟩ := hdp
  have t14 : decide (14 < deep) = false := decide_eq_false (by omega)
  have hbl : ((s[i].toNat : Nat) : Int) < 256 := by have := s[i].toNat_lt; omega
  have hr1 : r ≠ w.heap.size := by omega
  have hr2 : w.heap.size ≠ r := by omega
  have HR5 := Lib.hid (show RC ((w.setCell ⟨r, 2, none⟩ (.int .i64 (l : Int))).alloc (.cells #[.int .i64 0, .int .i64 0, .int .i64 0, .string ⟨#[]⟩, .slice none 0 0] 26)) r s true (l : Int) from (HR.out.set l).stay ((Below.refl _ _).alloc (Nat.le_refl _) _))
  have HT5 := Lib.hid (show Touch (fun x => x = r) (fun x => x = r) w ((w.setCell ⟨r, 2, none⟩ (.int .i64 (l : Int))).alloc (.cells #[.int .i64 0, .int .i64 0, .int .i64 0, .string ⟨#[]⟩, .slice none 0 0] 26)) from ((Touch.refl _ w).cellD _).trans (Touch.of_below ((Below.refl _ _).alloc (Nat.le_refl _) _)))
  have BZ5 := Lib.hid (show Box ((w.setCell ⟨r, 2, none⟩ (.int .i64 (l : Int))).alloc (.cells #[.int .i64 0, .int .i64 0, .int .i64 0, .string ⟨#[]⟩, .slice none 0 0] 26)) w.heap.size 0 0 0 ⟨#[]⟩ (.slice none 0 0) 26 from heap_alloc_here _ (by simp))
  have hz5 : ((w.setCell ⟨r, 2, none⟩ (.int .i64 (l : Int))).alloc (.cells #[.int .i64 0, .int .i64 0, .int .i64 0, .string ⟨#[]⟩, .slice none 0 0] 26)).heap.size = w.heap.size + 1 := by simp
  have BZ := Lib.hid (Box.new w 0 0 0 ⟨#[]⟩ (.slice none 0 0) 26)
  obtain ⟨z0, z1, z2, z3, z4⟩ := BZ.out.cells
  have zf0 := BZ.out.free (i := 0); have zf1 := BZ.out.free (i := 1); have zf2 := BZ.out.free (i := 2); have zf3 := BZ.out.free (i := 3); have zf4 := BZ.out.free (i := 4)
  obtain ⟨hb1, hb2⟩ := hb
  have hrr : ((s[i].toNat : Nat) : Int) % 32 = 31 := by omega
  have hdv : ((s[i].toNat : Nat) : Int) / 32 = (a : Int) := by omega
  have IN := Lib.hid (fun W => l01In_yes (a : Int) 2 5 W (by omega) (by omega))
  have ON := Lib.hid hO
  clear hb1 hb2 hG hg hR hO
  go_enter Tryd.func138, Tryd.ntmps138
  go_wp2_with fail
  refine (IN.out _).mono ?_
  rintro e5 w5 ⟨rfl, rfl⟩
  go_wp2_with fail
  refine (ON.out _ HR5.out).mono ?_
  cases o with
  | none =>
    rintro e6 w6 ⟨⟨t, ua, un, uc, rfl⟩, ht6⟩
    unfold V.agg
    have hz6 := ht6.size
    rw [hz5] at hz6
    have BZ6 := Lib.hid (show Box w6 w.heap.size 0 0 0 ⟨#[]⟩ (.slice none 0 0) 26 from (ht6.block w.heap.size (by rw [hz5]; omega) hr2).trans BZ5.out)
    have HT6 := Lib.hid (HT5.out.trans ht6)
    clear z0 z1 z2 z3 z4 zf0 zf1 zf2 zf3 zf4 m0 m1 m2 mf ht6
    obtain ⟨z0, z1, z2, z3, z4⟩ := BZ6.out.cells
    have zf0 := BZ6.out.free (i := 0); have zf1 := BZ6.out.free (i := 1); have zf2 := BZ6.out.free (i := 2); have zf3 := BZ6.out.free (i := 3); have zf4 := BZ6.out.free (i := 4)
    go_wp2_with fail
    refine bodyPost_ret (v := .tuple #[.agg #[.int .i64 t.k, .int .i64 t.n, .int .i64 t.e, .string t.s, .slice ua un uc], .int .i64 (-1)]) (by simp [results, Tryd.results138, go_sem, z0, z1, z2, z3, z4]) rfl ⟨⟨t, ua, un, uc, rfl⟩, HT6.out.set5 w.heap.size (Nat.le_refl _) _ _ _ _ _⟩
  | some q =>
    obtain ⟨t, j, m⟩ := q
    rintro e6 w6 ⟨⟨sl, rfl, twf, tow, hrc⟩, ht6⟩
    obtain ⟨ua, un, uc, rfl⟩ : ∃ sa sn sc, sl = .slice sa sn sc := by obtain ⟨p, q, e⟩ := tow.slice; exact ⟨p, _, q, e⟩
    unfold V.agg
    have hz6 := ht6.size
    rw [hz5] at hz6
    have BZ6 := Lib.hid (show Box w6 w.heap.size 0 0 0 ⟨#[]⟩ (.slice none 0 0) 26 from (ht6.block w.heap.size (by rw [hz5]; omega) hr2).trans BZ5.out)
    have HT6 := Lib.hid (HT5.out.trans ht6)
    have HP := Lib.hid (fun v0 v1 v2 v3 v4 => show CgRet r s true (some (t, j, m)) w (.returned (.tuple #[.agg #[.int .i64 t.k, .int .i64 t.n, .int .i64 t.e, .string t.s, .slice ua un uc], .int .i64 (j : Int)])) (set5 w6 w.heap.size v0 v1 v2 v3 v4) from
      ⟨⟨.slice ua un uc, rfl, twf, OwnS.mono (OwnS.set5 tow w.heap.size (fun hx => by have hx' : ((w.setCell ⟨r, 2, none⟩ (.int .i64 (l : Int))).alloc (.cells #[.int .i64 0, .int .i64 0, .int .i64 0, .string ⟨#[]⟩, .slice none 0 0] 26)).heap.size ≤ w.heap.size := hx; rw [hz5] at hx'; omega) _ _ _ _ _) (fun x hx => by have hx' : ((w.setCell ⟨r, 2, none⟩ (.int .i64 (l : Int))).alloc (.cells #[.int .i64 0, .int .i64 0, .int .i64 0, .string ⟨#[]⟩, .slice none 0 0] 26)).heap.size ≤ x := hx; rw [hz5] at hx'; omega), (heap_set5 _ _ _ _ _ _ _ _ hr1).trans hrc⟩, HT6.out.set5 w.heap.size (Nat.le_refl _) _ _ _ _ _⟩)
    clear z0 z1 z2 z3 z4 zf0 zf1 zf2 zf3 zf4 m0 m1 m2 mf ht6 tow hrc twf
    obtain ⟨z0, z1, z2, z3, z4⟩ := BZ6.out.cells
    have zf0 := BZ6.out.free (i := 0); have zf1 := BZ6.out.free (i := 1); have zf2 := BZ6.out.free (i := 2); have zf3 := BZ6.out.free (i := 3); have zf4 := BZ6.out.free (i := 4)
    go_wp2_with fail
    refine bodyPost_ret (v := .tuple #[.agg #[.int .i64 t.k, .int .i64 t.n, .int .i64 t.e, .string t.s, .slice ua un uc], .int .i64 (j : Int)]) (by simp [results, Tryd.results138, go_sem, z0, z1, z2, z3, z4]) rfl (HP.out _ _ _ _ _)
set_option maxHeartbeats 4000000 in
theorem lget_nohead (r : Nat) (s : ByteArray) (hs : s.size ≤ 1048576) (lo : Bool) (g : Nat → Nat → MG) (hg : ∀ i l, CGood s i l (g i l)) (deep : Int) (hdp : 0 ≤ deep ∧ deep ≤ 14)
    (hG : ∀ (i l : Nat) (W : World), i ≤ s.size → l ≤ 1204 → RC W r s lo l → Calls Tryd.prog 138 #[.pointer (some ⟨r, 0, none⟩), .int .i64 i, .int .i64 (deep + 1)] W (CgRet r s lo (g i l) W))
    (i l : Nat) (hi : i < s.size) (hl : l + 1 ≤ 1204) (w : World) (hR : RC w r s lo ((l + 1 : Nat) : Int)) (hno : lo = false ∨ s[i].toNat % 32 ≠ 31 ∨ (s[i].toNat / 32 < 2 ∨ 5 < s[i].toNat / 32)) (hh : hdR lo s i = none) :
    Calls Tryd.prog 138 #[.pointer (some ⟨r, 0, none⟩), .int .i64 i, .int .i64 deep] w (CgRet r s lo none w) := by
  have hrw := hR.lt
  have HR := Lib.hid hR
  obtain ⟨m0, m1, m2, mf⟩ := hR.cells
  obtain ⟨hdp0, hdp1⟩ := hdp
  have t14 : decide (14 < deep) = false := decide_eq_false (by omega)
  have hbl : ((s[i].toNat : Nat) : Int) < 256 := by have := s[i].toNat_lt; omega
  have hr1 : r ≠ w.heap.size := by omega
  have hr2 : w.heap.size ≠ r := by omega
  have HR5 := Lib.hid (show RC ((w.setCell ⟨r, 2, none⟩ (.int .i64 (l : Int))).alloc (.cells #[.int .i64 0, .int .i64 0, .int .i64 0, .string ⟨#[]⟩, .slice none 0 0] 26)) r s lo (l : Int) from (HR.out.set l).stay ((Below.refl _ _).alloc (Nat.le_refl _) _))
  have HT5 := Lib.hid (show Touch (fun x => x = r) (fun x => x = r) w ((w.setCell ⟨r, 2, none⟩ (.int .i64 (l : Int))).alloc (.cells #[.int .i64 0, .int .i64 0, .int .i64 0, .string ⟨#[]⟩, .slice none 0 0] 26)) from ((Touch.refl _ w).cellD _).trans (Touch.of_below ((Below.refl _ _).alloc (Nat.le_refl _) _)))
  have BZ5 := Lib.hid (show Box ((w.setCell ⟨r, 2, none⟩ (.int .i64 (l : Int))).alloc (.cells #[.int .i64 0, .int .i64 0, .int .i64 0, .string ⟨#[]⟩, .slice none 0 0] 26)) w.heap.size 0 0 0 ⟨#[]⟩ (.slice none 0 0) 26 from heap_alloc_here _ (by simp))
  have hz5 : ((w.setCell ⟨r, 2, none⟩ (.int .i64 (l : Int))).alloc (.cells #[.int .i64 0, .int .i64 0, .int .i64 0, .string ⟨#[]⟩, .slice none 0 0] 26)).heap.size = w.heap.size + 1 := by simp
  have BZ := Lib.hid (Box.new w 0 0 0 ⟨#[]⟩ (.slice none 0 0) 26)
  obtain ⟨z0, z1, z2, z3, z4⟩ := BZ.out.cells
  have zf0 := BZ.out.free (i := 0); have zf1 := BZ.out.free (i := 1); have zf2 := BZ.out.free (i := 2); have zf3 := BZ.out.free (i := 3); have zf4 := BZ.out.free (i := 4)
  have HD := Lib.hid (fun W (h : RC W r s lo (l : Int)) => show Calls Tryd.prog 212 #[.pointer (some ⟨r, 0, none⟩), .int .i64 i] W fun e w' => HdRet none e ∧ Below W.heap.size W w' from by
    have := l05Head_any r s hs lo i (by omega) l W h
    rw [hh] at this; exact this)
  clear hh hG hg hR
  obtain ⟨q31, hr31⟩ : ∃ q, q = ((s[i].toNat : Nat) : Int) % 32 := ⟨_, rfl⟩
  have hrr : ((s[i].toNat : Nat) : Int) % 32 = q31 := hr31.symm
  obtain ⟨a, hdv⟩ : ∃ a, a = ((s[i].toNat : Nat) : Int) / 32 := ⟨_, rfl⟩
  have hdv2 : ((s[i].toNat : Nat) : Int) / 32 = a := hdv.symm
  have tno : lo = false ∨ (lo = true ∧ (q31 == 31) = false) ∨ (lo = true ∧ (q31 == 31) = true ∧ (a < 2 ∨ 5 < a)) := by
    cases lo
    · exact .inl rfl
    · by_cases h : q31 = 31
      · refine .inr (.inr ⟨rfl, by simpa using h, ?_⟩)
        rcases hno with h2 | h2 | h2
        · cases h2
        · omega
        · omega
      · exact .inr (.inl ⟨rfl, by simpa using h⟩)
  clear hno hr31 hdv
  rcases tno with rfl | ⟨rfl, t31⟩ | ⟨rfl, t31, ha⟩
  · clear hrr hdv2
    go_enter Tryd.func138, Tryd.ntmps138
    go_wp2_with fail
    refine (HD.out _ HR5.out).mono ?_
    rintro e6 w6 ⟨he, hb6⟩
    obtain rfl := he
    have hz6 := hb6.size
    rw [hz5] at hz6
    have HR6 := Lib.hid (HR5.out.stay hb6)
    have HT6 := Lib.hid (HT5.out.trans (Touch.of_below hb6))
    have BZ6 := Lib.hid (BZ5.out.stay hb6)
    have hlt6 : w.heap.size < w6.heap.size := by omega
    clear z0 z1 z2 z3 z4 zf0 zf1 zf2 zf3 zf4 m0 m1 m2 mf hb6
    obtain ⟨m0, m1, m2, mf⟩ := HR6.out.cells
    obtain ⟨z0, z1, z2, z3, z4⟩ := BZ6.out.cells
    have zf0 := BZ6.out.free (i := 0); have zf1 := BZ6.out.free (i := 1); have zf2 := BZ6.out.free (i := 2); have zf3 := BZ6.out.free (i := 3); have zf4 := BZ6.out.free (i := 4)
    have hm1 : w.heap.size ≠ w6.heap.size := by omega
    have hm2 : w6.heap.size ≠ w.heap.size := by omega
    have hm3 : r ≠ w6.heap.size := by omega
    have hm4 : w6.heap.size ≠ r := by omega
    have hm5 : r < w6.heap.size := by omega
    go_wp2_with fail
    refine bodyPost_ret (v := .tuple #[.agg #[.int .i64 0, .int .i64 0, .int .i64 0, .string ⟨#[]⟩, .slice none 0 0], .int .i64 (-1)]) (by simp [results, Tryd.results138, go_sem, z0, z1, z2, z3, z4]) rfl (cg_fail (HT6.out.set5 w.heap.size (Nat.le_refl _) _ _ _ _ _))
  · clear hdv2
    go_enter Tryd.func138, Tryd.ntmps138
    go_wp2_with fail
    refine (HD.out _ HR5.out).mono ?_
    rintro e6 w6 ⟨he, hb6⟩
    obtain rfl := he
    have hz6 := hb6.size
    rw [hz5] at hz6
    have HR6 := Lib.hid (HR5.out.stay hb6)
    have HT6 := Lib.hid (HT5.out.trans (Touch.of_below hb6))
    have BZ6 := Lib.hid (BZ5.out.stay hb6)
    have hlt6 : w.heap.size < w6.heap.size := by omega
    clear z0 z1 z2 z3 z4 zf0 zf1 zf2 zf3 zf4 m0 m1 m2 mf hb6
    obtain ⟨m0, m1, m2, mf⟩ := HR6.out.cells
    obtain ⟨z0, z1, z2, z3, z4⟩ := BZ6.out.cells
    have zf0 := BZ6.out.free (i := 0); have zf1 := BZ6.out.free (i := 1); have zf2 := BZ6.out.free (i := 2); have zf3 := BZ6.out.free (i := 3); have zf4 := BZ6.out.free (i := 4)
    have hm1 : w.heap.size ≠ w6.heap.size := by omega
    have hm2 : w6.heap.size ≠ w.heap.size := by omega
    have hm3 : r ≠ w6.heap.size := by omega
    have hm4 : w6.heap.size ≠ r := by omega
    have hm5 : r < w6.heap.size := by omega
    go_wp2_with fail
    refine bodyPost_ret (v := .tuple #[.agg #[.int .i64 0, .int .i64 0, .int .i64 0, .string ⟨#[]⟩, .slice none 0 0], .int .i64 (-1)]) (by simp [results, Tryd.results138, go_sem, z0, z1, z2, z3, z4]) rfl (cg_fail (HT6.out.set5 w.heap.size (Nat.le_refl _) _ _ _ _ _))
  · have IN := Lib.hid (fun W => l01In_no a 2 5 W (by omega))
    clear ha
    go_enter Tryd.func138, Tryd.ntmps138
    go_wp2_with fail
    refine (IN.out _).mono ?_
    rintro e5 w5 ⟨rfl, rfl⟩
    go_wp2_with fail
    refine (HD.out _ HR5.out).mono ?_
    rintro e6 w6 ⟨he, hb6⟩
    obtain rfl := he
    have hz6 := hb6.size
    rw [hz5] at hz6
    have HR6 := Lib.hid (HR5.out.stay hb6)
    have HT6 := Lib.hid (HT5.out.trans (Touch.of_below hb6))
    have BZ6 := Lib.hid (BZ5.out.stay hb6)
    have hlt6 : w.heap.size < w6.heap.size := by omega
    clear z0 z1 z2 z3 z4 zf0 zf1 zf2 zf3 zf4 m0 m1 m2 mf hb6
    obtain ⟨m0, m1, m2, mf⟩ := HR6.out.cells
    obtain ⟨z0, z1, z2, z3, z4⟩ := BZ6.out.cells
    have zf0 := BZ6.out.free (i := 0); have zf1 := BZ6.out.free (i := 1); have zf2 := BZ6.out.free (i := 2); have zf3 := BZ6.out.free (i := 3); have zf4 := BZ6.out.free (i := 4)
    have hm1 : w.heap.size ≠ w6.heap.size := by omega
    have hm2 : w6.heap.size ≠ w.heap.size := by omega
    have hm3 : r ≠ w6.heap.size := by omega
    have hm4 : w6.heap.size ≠ r := by omega
    have hm5 : r < w6.heap.size := by omega
    go_wp2_with fail
    refine bodyPost_ret (v := .tuple #[.agg #[.int .i64 0, .int .i64 0, .int .i64 0, .string ⟨#[]⟩, .slice none 0 0], .int .i64 (-1)]) (by simp [results, Tryd.results138, go_sem, z0, z1, z2, z3, z4]) rfl (cg_fail (HT6.out.set5 w.heap.size (Nat.le_refl _) _ _ _ _ _))
set_option maxHeartbeats 8000000 in
theorem lget_num0 (r : Nat) (s : ByteArray) (hs : s.size ≤ 1048576) (lo : Bool) (g : Nat → Nat → MG) (hg : ∀ i l, CGood s i l (g i l)) (deep : Int) (hdp : 0 ≤ deep ∧ deep ≤ 14)
    (hG : ∀ (i l : Nat) (W : World), i ≤ s.size → l ≤ 1204 → RC W r s lo l → Calls Tryd.prog 138 #[.pointer (some ⟨r, 0, none⟩), .int .i64 i, .int .i64 (deep + 1)] W (CgRet r s lo (g i l) W))
    (i l : Nat) (hi : i < s.size) (hl : l + 1 ≤ 1204) (w : World) (hR : RC w r s lo ((l + 1 : Nat) : Int)) (hno : lo = false ∨ s[i].toNat % 32 ≠ 31) (a n x : Nat) (hh : hdR lo s i = some (a, n, x)) (ha : a = 0) :
    Calls Tryd.prog 138 #[.pointer (some ⟨r, 0, none⟩), .int .i64 i, .int .i64 deep] w (CgRet r s lo (if 9223372036854775807 < n then none else mgLeaf 3 (if a = 1 then -1 - (n : Int) else n) 0 x l) w) := by
  have hrw := hR.lt
  have HR := Lib.hid hR
  obtain ⟨m0, m1, m2, mf⟩ := hR.cells
  obtain ⟨hdp0, hdp1⟩ := hdp
  have t14 : decide (14 < deep) = false := decide_eq_false (by omega)
  have hbl : ((s[i].toNat : Nat) : Int) < 256 := by have := s[i].toNat_lt; omega
  have hr1 : r ≠ w.heap.size := by omega
  have hr2 : w.heap.size ≠ r := by omega
  have HR5 := Lib.hid (show RC ((w.setCell ⟨r, 2, none⟩ (.int .i64 (l : Int))).alloc (.cells #[.int .i64 0, .int .i64 0, .int .i64 0, .string ⟨#[]⟩, .slice none 0 0] 26)) r s lo (l : Int) from (HR.out.set l).stay ((Below.refl _ _).alloc (Nat.le_refl _) _))
  have HT5 := Lib.hid (show Touch (fun x => x = r) (fun x => x = r) w ((w.setCell ⟨r, 2, none⟩ (.int .i64 (l : Int))).alloc (.cells #[.int .i64 0, .int .i64 0, .int .i64 0, .string ⟨#[]⟩, .slice none 0 0] 26)) from ((Touch.refl _ w).cellD _).trans (Touch.of_below ((Below.refl _ _).alloc (Nat.le_refl _) _)))
  have BZ5 := Lib.hid (show Box ((w.setCell ⟨r, 2, none⟩ (.int .i64 (l : Int))).alloc (.cells #[.int .i64 0, .int .i64 0, .int .i64 0, .string ⟨#[]⟩, .slice none 0 0] 26)) w.heap.size 0 0 0 ⟨#[]⟩ (.slice none 0 0) 26 from heap_alloc_here _ (by simp))
  have hz5 : ((w.setCell ⟨r, 2, none⟩ (.int .i64 (l : Int))).alloc (.cells #[.int .i64 0, .int .i64 0, .int .i64 0, .string ⟨#[]⟩, .slice none 0 0] 26)).heap.size = w.heap.size + 1 := by simp
  have BZ := Lib.hid (Box.new w 0 0 0 ⟨#[]⟩ (.slice none 0 0) 26)
  obtain ⟨z0, z1, z2, z3, z4⟩ := BZ.out.cells
  have zf0 := BZ.out.free (i := 0); have zf1 := BZ.out.free (i := 1); have zf2 := BZ.out.free (i := 2); have zf3 := BZ.out.free (i := 3); have zf4 := BZ.out.free (i := 4)
  have HD := Lib.hid (fun W (h : RC W r s lo (l : Int)) => show Calls Tryd.prog 212 #[.pointer (some ⟨r, 0, none⟩), .int .i64 i] W fun e w' => HdRet (some (a, n, x)) e ∧ Below W.heap.size W w' from by
    have := l05Head_any r s hs lo i (by omega) l W h
    rw [hh] at this; exact this)
  have hx := hdR_some hh
  obtain ⟨hx1, hx2, hx3, hx4, hx5⟩ := hx
  clear hx5
  subst ha
  have LF := Lib.hid (fun W (h : RC W r s lo (l : Int)) => l05Whole_any 0 n x l (by omega) hx3 W)
  have HQ := Lib.hid (fun (q : V × Nat × Nat) (e : (if 9223372036854775807 < n then none else mgLeaf 3 (if 0 = 1 then -1 - (n : Int) else n) 0 x l) = some q) => show q.2.1 = x ∧ q.2.2 = l from by split at e <;> cases e; exact ⟨rfl, rfl⟩)
  clear hh hG hg hR
  generalize (if 9223372036854775807 < n then none else mgLeaf 3 (if 0 = 1 then -1 - (n : Int) else n) 0 x l) = o at *
  obtain ⟨q31, hr31⟩ : ∃ q, q = ((s[i].toNat : Nat) : Int) % 32 := ⟨_, rfl⟩
  have hrr : ((s[i].toNat : Nat) : Int) % 32 = q31 := hr31.symm
  have tno : lo = false ∨ (q31 == 31) = false := hno.imp id (fun h => by rw [hr31]; simp; omega)
  clear hno hr31
  cases lo
  · clear hrr tno
    go_enter Tryd.func138, Tryd.ntmps138
    go_wp2_with fail
    refine (HD.out _ HR5.out).mono ?_
    rintro e6 w6 ⟨he, hb6⟩
    obtain rfl := he
    have hz6 := hb6.size
    rw [hz5] at hz6
    have HR6 := Lib.hid (HR5.out.stay hb6)
    have HT6 := Lib.hid (HT5.out.trans (Touch.of_below hb6))
    have BZ6 := Lib.hid (BZ5.out.stay hb6)
    have hlt6 : w.heap.size < w6.heap.size := by omega
    clear z0 z1 z2 z3 z4 zf0 zf1 zf2 zf3 zf4 m0 m1 m2 mf hb6
    obtain ⟨m0, m1, m2, mf⟩ := HR6.out.cells
    obtain ⟨z0, z1, z2, z3, z4⟩ := BZ6.out.cells
    have zf0 := BZ6.out.free (i := 0); have zf1 := BZ6.out.free (i := 1); have zf2 := BZ6.out.free (i := 2); have zf3 := BZ6.out.free (i := 3); have zf4 := BZ6.out.free (i := 4)
    have hm1 : w.heap.size ≠ w6.heap.size := by omega
    have hm2 : w6.heap.size ≠ w.heap.size := by omega
    have hm3 : r ≠ w6.heap.size := by omega
    have hm4 : w6.heap.size ≠ r := by omega
    have hm5 : r < w6.heap.size := by omega
    have HR7 := Lib.hid (HR6.out.stay ((Below.refl _ _).alloc (Nat.le_refl _) (.cells #[.int .i64 0, .int .i64 0, .int .i64 0, .string ⟨#[]⟩, .slice none 0 0] 26)))
    have HT7 := Lib.hid (HT6.out.trans (Touch.of_below ((Below.refl _ _).alloc (Nat.le_refl _) (.cells #[.int .i64 0, .int .i64 0, .int .i64 0, .string ⟨#[]⟩, .slice none 0 0] 26))))
    have BZ7 := Lib.hid (BZ6.out.alloc (.cells #[.int .i64 0, .int .i64 0, .int .i64 0, .string ⟨#[]⟩, .slice none 0 0] 26))
    have BV7 := Lib.hid (Box.new w6 0 0 0 ⟨#[]⟩ (.slice none 0 0) 26)
    have hz7 : (w6.alloc (.cells #[.int .i64 0, .int .i64 0, .int .i64 0, .string ⟨#[]⟩, .slice none 0 0] 26)).heap.size = w6.heap.size + 1 := by simp
    obtain ⟨y0, y1, y2, y3, y4⟩ := BV7.out.cells
    have yf0 := BV7.out.free (i := 0); have yf1 := BV7.out.free (i := 1); have yf2 := BV7.out.free (i := 2); have yf3 := BV7.out.free (i := 3); have yf4 := BV7.out.free (i := 4)
    go_wp2_with fail
    refine (LF.out _ HR7.out).mono ?_
    cases o with
    | none =>
      rintro e8 w8 ⟨rfl, hb8⟩
      have hz8 := hb8.size
      rw [hz7] at hz8
      have HR8 := Lib.hid (HR7.out.stay hb8)
      have HT8 := Lib.hid (HT7.out.trans (Touch.of_below hb8))
      have BZ8 := Lib.hid (BZ7.out.stay hb8)
      have BV8 := Lib.hid (BV7.out.stay hb8)
      clear z0 z1 z2 z3 z4 zf0 zf1 zf2 zf3 zf4 y0 y1 y2 y3 y4 yf0 yf1 yf2 yf3 yf4 m0 m1 m2 mf hb8
      obtain ⟨z0, z1, z2, z3, z4⟩ := BZ8.out.cells
      have zf0 := BZ8.out.free (i := 0); have zf1 := BZ8.out.free (i := 1); have zf2 := BZ8.out.free (i := 2); have zf3 := BZ8.out.free (i := 3); have zf4 := BZ8.out.free (i := 4)
      obtain ⟨y0, y1, y2, y3, y4⟩ := BV8.out.cells
      have yf0 := BV8.out.free (i := 0); have yf1 := BV8.out.free (i := 1); have yf2 := BV8.out.free (i := 2); have yf3 := BV8.out.free (i := 3); have yf4 := BV8.out.free (i := 4)
      have hm6 : w6.heap.size < w8.heap.size := by omega
      have hm7 : w.heap.size < w8.heap.size := by omega
      go_wp2_with fail
      refine bodyPost_ret (v := .tuple #[.agg #[.int .i64 0, .int .i64 0, .int .i64 0, .string ⟨#[]⟩, .slice none 0 0], .int .i64 (-1)]) (by simp [results, Tryd.results138, go_sem, z0, z1, z2, z3, z4]) rfl (cg_fail ((HT8.out.set5 w6.heap.size (by omega) _ _ _ _ _).set5 w.heap.size (Nat.le_refl _) _ _ _ _ _))
    | some q =>
      obtain ⟨t, j, m⟩ := q
      obtain ⟨rfl, rfl⟩ := HQ.out _ rfl
      rintro e8 w8 ⟨⟨rfl, twf, tk⟩, hb8⟩
      unfold V.agg
      have hz8 := hb8.size
      rw [hz7] at hz8
      have HR8 := Lib.hid (HR7.out.stay hb8)
      have HT8 := Lib.hid (HT7.out.trans (Touch.of_below hb8))
      have BZ8 := Lib.hid (BZ7.out.stay hb8)
      have BV8 := Lib.hid (BV7.out.stay hb8)
      clear z0 z1 z2 z3 z4 zf0 zf1 zf2 zf3 zf4 y0 y1 y2 y3 y4 yf0 yf1 yf2 yf3 yf4 m0 m1 m2 mf hb8
      obtain ⟨z0, z1, z2, z3, z4⟩ := BZ8.out.cells
      have zf0 := BZ8.out.free (i := 0); have zf1 := BZ8.out.free (i := 1); have zf2 := BZ8.out.free (i := 2); have zf3 := BZ8.out.free (i := 3); have zf4 := BZ8.out.free (i := 4)
      obtain ⟨y0, y1, y2, y3, y4⟩ := BV8.out.cells
      have yf0 := BV8.out.free (i := 0); have yf1 := BV8.out.free (i := 1); have yf2 := BV8.out.free (i := 2); have yf3 := BV8.out.free (i := 3); have yf4 := BV8.out.free (i := 4)
      have hm6 : w6.heap.size < w8.heap.size := by omega
      have hm7 : w.heap.size < w8.heap.size := by omega
      have HP := Lib.hid (fun v0 v1 v2 v3 v4 x0 x1 x2 x3 x4 => show CgRet r s false (some (t, j, m)) w (.returned (.tuple #[.agg #[.int .i64 t.k, .int .i64 t.n, .int .i64 t.e, .string t.s, .slice none 0 0], .int .i64 (j : Int)])) (set5 (set5 w8 w6.heap.size x0 x1 x2 x3 x4) w.heap.size v0 v1 v2 v3 v4) from
        ⟨⟨.slice none 0 0, rfl, twf, by rw [tk]; exact OwnS.nil _ _, (heap_set5 _ _ _ _ _ _ _ _ hr1).trans ((heap_set5 _ _ _ _ _ _ _ _ hm3).trans HR8.out)⟩, (HT8.out.set5 w6.heap.size (by omega) _ _ _ _ _).set5 w.heap.size (Nat.le_refl _) _ _ _ _ _⟩)
      clear twf tk
      go_wp2_with fail
      refine bodyPost_ret (v := .tuple #[.agg #[.int .i64 t.k, .int .i64 t.n, .int .i64 t.e, .string t.s, .slice none 0 0], .int .i64 (j : Int)]) (by simp [results, Tryd.results138, go_sem, z0, z1, z2, z3, z4]) rfl (HP.out _ _ _ _ _ _ _ _ _ _)
  · have t31 : (q31 == 31) = false := tno.resolve_left (by simp)
    clear tno
    go_enter Tryd.func138, Tryd.ntmps138
    go_wp2_with fail
    refine (HD.out _ HR5.out).mono ?_
    rintro e6 w6 ⟨he, hb6⟩
    obtain rfl := he
    have hz6 := hb6.size
    rw [hz5] at hz6
    have HR6 := Lib.hid (HR5.out.stay hb6)
    have HT6 := Lib.hid (HT5.out.trans (Touch.of_below hb6))
    have BZ6 := Lib.hid (BZ5.out.stay hb6)
    have hlt6 : w.heap.size < w6.heap.size := by omega
    clear z0 z1 z2 z3 z4 zf0 zf1 zf2 zf3 zf4 m0 m1 m2 mf hb6
    obtain ⟨m0, m1, m2, mf⟩ := HR6.out.cells
    obtain ⟨z0, z1, z2, z3, z4⟩ := BZ6.out.cells
    have zf0 := BZ6.out.free (i := 0); have zf1 := BZ6.out.free (i := 1); have zf2 := BZ6.out.free (i := 2); have zf3 := BZ6.out.free (i := 3); have zf4 := BZ6.out.free (i := 4)
    have hm1 : w.heap.size ≠ w6.heap.size := by omega
    have hm2 : w6.heap.size ≠ w.heap.size := by omega
    have hm3 : r ≠ w6.heap.size := by omega
    have hm4 : w6.heap.size ≠ r := by omega
    have hm5 : r < w6.heap.size := by omega
    have HR7 := Lib.hid (HR6.out.stay ((Below.refl _ _).alloc (Nat.le_refl _) (.cells #[.int .i64 0, .int .i64 0, .int .i64 0, .string ⟨#[]⟩, .slice none 0 0] 26)))
    have HT7 := Lib.hid (HT6.out.trans (Touch.of_below ((Below.refl _ _).alloc (Nat.le_refl _) (.cells #[.int .i64 0, .int .i64 0, .int .i64 0, .string ⟨#[]⟩, .slice none 0 0] 26))))
    have BZ7 := Lib.hid (BZ6.out.alloc (.cells #[.int .i64 0, .int .i64 0, .int .i64 0, .string ⟨#[]⟩, .slice none 0 0] 26))
    have BV7 := Lib.hid (Box.new w6 0 0 0 ⟨#[]⟩ (.slice none 0 0) 26)
    have hz7 : (w6.alloc (.cells #[.int .i64 0, .int .i64 0, .int .i64 0, .string ⟨#[]⟩, .slice none 0 0] 26)).heap.size = w6.heap.size + 1 := by simp
    obtain ⟨y0, y1, y2, y3, y4⟩ := BV7.out.cells
    have yf0 := BV7.out.free (i := 0); have yf1 := BV7.out.free (i := 1); have yf2 := BV7.out.free (i := 2); have yf3 := BV7.out.free (i := 3); have yf4 := BV7.out.free (i := 4)
    go_wp2_with fail
    refine (LF.out _ HR7.out).mono ?_
    cases o with
    | none =>
      rintro e8 w8 ⟨rfl, hb8⟩
      have hz8 := hb8.size
      rw [hz7] at hz8
      have HR8 := Lib.hid (HR7.out.stay hb8)
      have HT8 := Lib.hid (HT7.out.trans (Touch.of_below hb8))
      have BZ8 := Lib.hid (BZ7.out.stay hb8)
      have BV8 := Lib.hid (BV7.out.stay hb8)
      clear z0 z1 z2 z3 z4 zf0 zf1 zf2 zf3 zf4 y0 y1 y2 y3 y4 yf0 yf1 yf2 yf3 yf4 m0 m1 m2 mf hb8
      obtain ⟨z0, z1, z2, z3, z4⟩ := BZ8.out.cells
      have zf0 := BZ8.out.free (i := 0); have zf1 := BZ8.out.free (i := 1); have zf2 := BZ8.out.free (i := 2); have zf3 := BZ8.out.free (i := 3); have zf4 := BZ8.out.free (i := 4)
      obtain ⟨y0, y1, y2, y3, y4⟩ := BV8.out.cells
      have yf0 := BV8.out.free (i := 0); have yf1 := BV8.out.free (i := 1); have yf2 := BV8.out.free (i := 2); have yf3 := BV8.out.free (i := 3); have yf4 := BV8.out.free (i := 4)
      have hm6 : w6.heap.size < w8.heap.size := by omega
      have hm7 : w.heap.size < w8.heap.size := by omega
      go_wp2_with fail
      refine bodyPost_ret (v := .tuple #[.agg #[.int .i64 0, .int .i64 0, .int .i64 0, .string ⟨#[]⟩, .slice none 0 0], .int .i64 (-1)]) (by simp [results, Tryd.results138, go_sem, z0, z1, z2, z3, z4]) rfl (cg_fail ((HT8.out.set5 w6.heap.size (by omega) _ _ _ _ _).set5 w.heap.size (Nat.le_refl _) _ _ _ _ _))
    | some q =>
      obtain ⟨t, j, m⟩ := q
      obtain ⟨rfl, rfl⟩ := HQ.out _ rfl
      rintro e8 w8 ⟨⟨rfl, twf, tk⟩, hb8⟩
      unfold V.agg
      have hz8 := hb8.size
      rw [hz7] at hz8
      have HR8 := Lib.hid (HR7.out.stay hb8)
      have HT8 := Lib.hid (HT7.out.trans (Touch.of_below hb8))
      have BZ8 := Lib.hid (BZ7.out.stay hb8)
      have BV8 := Lib.hid (BV7.out.stay hb8)
      clear z0 z1 z2 z3 z4 zf0 zf1 zf2 zf3 zf4 y0 y1 y2 y3 y4 yf0 yf1 yf2 yf3 yf4 m0 m1 m2 mf hb8
      obtain ⟨z0, z1, z2, z3, z4⟩ := BZ8.out.cells
      have zf0 := BZ8.out.free (i := 0); have zf1 := BZ8.out.free (i := 1); have zf2 := BZ8.out.free (i := 2); have zf3 := BZ8.out.free (i := 3); have zf4 := BZ8.out.free (i := 4)
      obtain ⟨y0, y1, y2, y3, y4⟩ := BV8.out.cells
      have yf0 := BV8.out.free (i := 0); have yf1 := BV8.out.free (i := 1); have yf2 := BV8.out.free (i := 2); have yf3 := BV8.out.free (i := 3); have yf4 := BV8.out.free (i := 4)
      have hm6 : w6.heap.size < w8.heap.size := by omega
      have hm7 : w.heap.size < w8.heap.size := by omega
      have HP := Lib.hid (fun v0 v1 v2 v3 v4 x0 x1 x2 x3 x4 => show CgRet r s true (some (t, j, m)) w (.returned (.tuple #[.agg #[.int .i64 t.k, .int .i64 t.n, .int .i64 t.e, .string t.s, .slice none 0 0], .int .i64 (j : Int)])) (set5 (set5 w8 w6.heap.size x0 x1 x2 x3 x4) w.heap.size v0 v1 v2 v3 v4) from
        ⟨⟨.slice none 0 0, rfl, twf, by rw [tk]; exact OwnS.nil _ _, (heap_set5 _ _ _ _ _ _ _ _ hr1).trans ((heap_set5 _ _ _ _ _ _ _ _ hm3).trans HR8.out)⟩, (HT8.out.set5 w6.heap.size (by omega) _ _ _ _ _).set5 w.heap.size (Nat.le_refl _) _ _ _ _ _⟩)
      clear twf tk
      go_wp2_with fail
      refine bodyPost_ret (v := .tuple #[.agg #[.int .i64 t.k, .int .i64 t.n, .int .i64 t.e, .string t.s, .slice none 0 0], .int .i64 (j : Int)]) (by simp [results, Tryd.results138, go_sem, z0, z1, z2, z3, z4]) rfl (HP.out _ _ _ _ _ _ _ _ _ _)
set_option maxHeartbeats 8000000 in
theorem lget_num1 (r : Nat) (s : ByteArray) (hs : s.size ≤ 1048576) (lo : Bool) (g : Nat → Nat → MG) (hg : ∀ i l, CGood s i l (g i l)) (deep : Int) (hdp : 0 ≤ deep ∧ deep ≤ 14)
    (hG : ∀ (i l : Nat) (W : World), i ≤ s.size → l ≤ 1204 → RC W r s lo l → Calls Tryd.prog 138 #[.pointer (some ⟨r, 0, none⟩), .int .i64 i, .int .i64 (deep + 1)] W (CgRet r s lo (g i l) W))
    (i l : Nat) (hi : i < s.size) (hl : l + 1 ≤ 1204) (w : World) (hR : RC w r s lo ((l + 1 : Nat) : Int)) (hno : lo = false ∨ s[i].toNat % 32 ≠ 31) (a n x : Nat) (hh : hdR lo s i = some (a, n, x)) (ha : a = 1) :
    Calls Tryd.prog 138 #[.pointer (some ⟨r, 0, none⟩), .int .i64 i, .int .i64 deep] w (CgRet r s lo (if 9223372036854775807 < n then none else mgLeaf 3 (if a = 1 then -1 - (n : Int) else n) 0 x l) w) := by
  have hrw := hR.lt
  have HR := Lib.hid hR
  obtain ⟨m0, m1, m2, mf⟩ := hR.cells
  obtain ⟨hdp0, hdp1⟩ := hdp
  have t14 : decide (14 < deep) = false := decide_eq_false (by omega)
  have hbl : ((s[i].toNat : Nat) : Int) < 256 := by have := s[i].toNat_lt; omega
  have hr1 : r ≠ w.heap.size := by omega
  have hr2 : w.heap.size ≠ r := by omega
  have HR5 := Lib.hid (show RC ((w.setCell ⟨r, 2, none⟩ (.int .i64 (l : Int))).alloc (.cells #[.int .i64 0, .int .i64 0, .int .i64 0, .string ⟨#[]⟩, .slice none 0 0] 26)) r s lo (l : Int) from (HR.out.set l).stay ((Below.refl _ _).alloc (Nat.le_refl _) _))
  have HT5 := Lib.hid (show Touch (fun x => x = r) (fun x => x = r) w ((w.setCell ⟨r, 2, none⟩ (.int .i64 (l : Int))).alloc (.cells #[.int .i64 0, .int .i64 0, .int .i64 0, .string ⟨#[]⟩, .slice none 0 0] 26)) from ((Touch.refl _ w).cellD _).trans (Touch.of_below ((Below.refl _ _).alloc (Nat.le_refl _) _)))
  have BZ5 := Lib.hid (show Box ((w.setCell ⟨r, 2, none⟩ (.int .i64 (l : Int))).alloc (.cells #[.int .i64 0, .int .i64 0, .int .i64 0, .string ⟨#[]⟩, .slice none 0 0] 26)) w.heap.size 0 0 0 ⟨#[]⟩ (.slice none 0 0) 26 from heap_alloc_here _ (by simp))
  have hz5 : ((w.setCell ⟨r, 2, none⟩ (.int .i64 (l : Int))).alloc (.cells #[.int .i64 0, .int .i64 0, .int .i64 0, .string ⟨#[]⟩, .slice none 0 0] 26)).heap.size = w.heap.size + 1 := by simp
  have BZ := Lib.hid (Box.new w 0 0 0 ⟨#[]⟩ (.slice none 0 0) 26)
  obtain ⟨z0, z1, z2, z3, z4⟩ := BZ.out.cells
  have zf0 := BZ.out.free (i := 0); have zf1 := BZ.out.free (i := 1); have zf2 := BZ.out.free (i := 2); have zf3 := BZ.out.free (i := 3); have zf4 := BZ.out.free (i := 4)
  have HD := Lib.hid (fun W (h : RC W r s lo (l : Int)) => show Calls Tryd.prog 212 #[.pointer (some ⟨r, 0, none⟩), .int .i64 i] W fun e w' => HdRet (some (a, n, x)) e ∧ Below W.heap.size W w' from by
    have := l05Head_any r s hs lo i (by omega) l W h
    rw [hh] at this; exact this)
  have hx := hdR_some hh
  obtain ⟨hx1, hx2, hx3, hx4, hx5⟩ := hx
  clear hx5
  subst ha
  have LF := Lib.hid (fun W (h : RC W r s lo (l : Int)) => l05Whole_any 1 n x l (by omega) hx3 W)
  have HQ := Lib.hid (fun (q : V × Nat × Nat) (e : (if 9223372036854775807 < n then none else mgLeaf 3 (if 1 = 1 then -1 - (n : Int) else n) 0 x l) = some q) => show q.2.1 = x ∧ q.2.2 = l from by split at e <;> cases e; exact ⟨rfl, rfl⟩)
  clear hh hG hg hR
  generalize (if 9223372036854775807 < n then none else mgLeaf 3 (if 1 = 1 then -1 - (n : Int) else n) 0 x l) = o at *
  obtain ⟨q31, hr31⟩ : ∃ q, q = ((s[i].toNat : Nat) : Int) % 32 := ⟨_, rfl⟩
  have hrr : ((s[i].toNat : Nat) : Int) % 32 = q31 := hr31.symm
  have tno : lo = false ∨ (q31 == 31) = false := hno.imp id (fun h => by rw [hr31]; simp; omega)
  clear hno hr31
  cases lo
  · clear hrr tno
    go_enter Tryd.func138, Tryd.ntmps138
    go_wp2_with fail
    refine (HD.out _ HR5.out).mono ?_
    rintro e6 w6 ⟨he, hb6⟩
    obtain rfl := he
    have hz6 := hb6.size
    rw [hz5] at hz6
    have HR6 := Lib.hid (HR5.out.stay hb6)
    have HT6 := Lib.hid (HT5.out.trans (Touch.of_below hb6))
    have BZ6 := Lib.hid (BZ5.out.stay hb6)
    have hlt6 : w.heap.size < w6.heap.size := by omega
    clear z0 z1 z2 z3 z4 zf0 zf1 zf2 zf3 zf4 m0 m1 m2 mf hb6
    obtain ⟨m0, m1, m2, mf⟩ := HR6.out.cells
    obtain ⟨z0, z1, z2, z3, z4⟩ := BZ6.out.cells
    have zf0 := BZ6.out.free (i := 0); have zf1 := BZ6.out.free (i := 1); have zf2 := BZ6.out.free (i := 2); have zf3 := BZ6.out.free (i := 3); have zf4 := BZ6.out.free (i := 4)
    have hm1 : w.heap.size ≠ w6.heap.size := by omega
    have hm2 : w6.heap.size ≠ w.heap.size := by omega
    have hm3 : r ≠ w6.heap.size := by omega
    have hm4 : w6.heap.size ≠ r := by omega
    have hm5 : r < w6.heap.size := by omega
    have HR7 := Lib.hid (HR6.out.stay ((Below.refl _ _).alloc (Nat.le_refl _) (.cells #[.int .i64 0, .int .i64 0, .int .i64 0, .string ⟨#[]⟩, .slice none 0 0] 26)))
    have HT7 := Lib.hid (HT6.out.trans (Touch.of_below ((Below.refl _ _).alloc (Nat.le_refl _) (.cells #[.int .i64 0, .int .i64 0, .int .i64 0, .string ⟨#[]⟩, .slice none 0 0] 26))))
    have BZ7 := Lib.hid (BZ6.out.alloc (.cells #[.int .i64 0, .int .i64 0, .int .i64 0, .string ⟨#[]⟩, .slice none 0 0] 26))
    have BV7 := Lib.hid (Box.new w6 0 0 0 ⟨#[]⟩ (.slice none 0 0) 26)
    have hz7 : (w6.alloc (.cells #[.int .i64 0, .int .i64 0, .int .i64 0, .string ⟨#[]⟩, .slice none 0 0] 26)).heap.size = w6.heap.size + 1 := by simp
    obtain ⟨y0, y1, y2, y3, y4⟩ := BV7.out.cells
    have yf0 := BV7.out.free (i := 0); have yf1 := BV7.out.free (i := 1); have yf2 := BV7.out.free (i := 2); have yf3 := BV7.out.free (i := 3); have yf4 := BV7.out.free (i := 4)
    go_wp2_with fail
    refine (LF.out _ HR7.out).mono ?_
    cases o with
    | none =>
      rintro e8 w8 ⟨rfl, hb8⟩
      have hz8 := hb8.size
      rw [hz7] at hz8
      have HR8 := Lib.hid (HR7.out.stay hb8)
      have HT8 := Lib.hid (HT7.out.trans (Touch.of_below hb8))
      have BZ8 := Lib.hid (BZ7.out.stay hb8)
      have BV8 := Lib.hid (BV7.out.stay hb8)
      clear z0 z1 z2 z3 z4 zf0 zf1 zf2 zf3 zf4 y0 y1 y2 y3 y4 yf0 yf1 yf2 yf3 yf4 m0 m1 m2 mf hb8
      obtain ⟨z0, z1, z2, z3, z4⟩ := BZ8.out.cells
      have zf0 := BZ8.out.free (i := 0); have zf1 := BZ8.out.free (i := 1); have zf2 := BZ8.out.free (i := 2); have zf3 := BZ8.out.free (i := 3); have zf4 := BZ8.out.free (i := 4)
      obtain ⟨y0, y1, y2, y3, y4⟩ := BV8.out.cells
      have yf0 := BV8.out.free (i := 0); have yf1 := BV8.out.free (i := 1); have yf2 := BV8.out.free (i := 2); have yf3 := BV8.out.free (i := 3); have yf4 := BV8.out.free (i := 4)
      have hm6 : w6.heap.size < w8.heap.size := by omega
      have hm7 : w.heap.size < w8.heap.size := by omega
      go_wp2_with fail
      refine bodyPost_ret (v := .tuple #[.agg #[.int .i64 0, .int .i64 0, .int .i64 0, .string ⟨#[]⟩, .slice none 0 0], .int .i64 (-1)]) (by simp [results, Tryd.results138, go_sem, z0, z1, z2, z3, z4]) rfl (cg_fail ((HT8.out.set5 w6.heap.size (by omega) _ _ _ _ _).set5 w.heap.size (Nat.le_refl _) _ _ _ _ _))
    | some q =>
      obtain ⟨t, j, m⟩ := q
      obtain ⟨rfl, rfl⟩ := HQ.out _ rfl
      rintro e8 w8 ⟨⟨rfl, twf, tk⟩, hb8⟩
      unfold V.agg
      have hz8 := hb8.size
      rw [hz7] at hz8
      have HR8 := Lib.hid (HR7.out.stay hb8)
      have HT8 := Lib.hid (HT7.out.trans (Touch.of_below hb8))
      have BZ8 := Lib.hid (BZ7.out.stay hb8)
      have BV8 := Lib.hid (BV7.out.stay hb8)
      clear z0 z1 z2 z3 z4 zf0 zf1 zf2 zf3 zf4 y0 y1 y2 y3 y4 yf0 yf1 yf2 yf3 yf4 m0 m1 m2 mf hb8
      obtain ⟨z0, z1, z2, z3, z4⟩ := BZ8.out.cells
      have zf0 := BZ8.out.free (i := 0); have zf1 := BZ8.out.free (i := 1); have zf2 := BZ8.out.free (i := 2); have zf3 := BZ8.out.free (i := 3); have zf4 := BZ8.out.free (i := 4)
      obtain ⟨y0, y1, y2, y3, y4⟩ := BV8.out.cells
      have yf0 := BV8.out.free (i := 0); have yf1 := BV8.out.free (i := 1); have yf2 := BV8.out.free (i := 2); have yf3 := BV8.out.free (i := 3); have yf4 := BV8.out.free (i := 4)
      have hm6 : w6.heap.size < w8.heap.size := by omega
      have hm7 : w.heap.size < w8.heap.size := by omega
      have HP := Lib.hid (fun v0 v1 v2 v3 v4 x0 x1 x2 x3 x4 => show CgRet r s false (some (t, j, m)) w (.returned (.tuple #[.agg #[.int .i64 t.k, .int .i64 t.n, .int .i64 t.e, .string t.s, .slice none 0 0], .int .i64 (j : Int)])) (set5 (set5 w8 w6.heap.size x0 x1 x2 x3 x4) w.heap.size v0 v1 v2 v3 v4) from
        ⟨⟨.slice none 0 0, rfl, twf, by rw [tk]; exact OwnS.nil _ _, (heap_set5 _ _ _ _ _ _ _ _ hr1).trans ((heap_set5 _ _ _ _ _ _ _ _ hm3).trans HR8.out)⟩, (HT8.out.set5 w6.heap.size (by omega) _ _ _ _ _).set5 w.heap.size (Nat.le_refl _) _ _ _ _ _⟩)
      clear twf tk
      go_wp2_with fail
      refine bodyPost_ret (v := .tuple #[.agg #[.int .i64 t.k, .int .i64 t.n, .int .i64 t.e, .string t.s, .slice none 0 0], .int .i64 (j : Int)]) (by simp [results, Tryd.results138, go_sem, z0, z1, z2, z3, z4]) rfl (HP.out _ _ _ _ _ _ _ _ _ _)
  · have t31 : (q31 == 31) = false := tno.resolve_left (by simp)
    clear tno
    go_enter Tryd.func138, Tryd.ntmps138
    go_wp2_with fail
    refine (HD.out _ HR5.out).mono ?_
    rintro e6 w6 ⟨he, hb6⟩
    obtain rfl := he
    have hz6 := hb6.size
    rw [hz5] at hz6
    have HR6 := Lib.hid (HR5.out.stay hb6)
    have HT6 := Lib.hid (HT5.out.trans (Touch.of_below hb6))
    have BZ6 := Lib.hid (BZ5.out.stay hb6)
    have hlt6 : w.heap.size < w6.heap.size := by omega
    clear z0 z1 z2 z3 z4 zf0 zf1 zf2 zf3 zf4 m0 m1 m2 mf hb6
    obtain ⟨m0, m1, m2, mf⟩ := HR6.out.cells
    obtain ⟨z0, z1, z2, z3, z4⟩ := BZ6.out.cells
    have zf0 := BZ6.out.free (i := 0); have zf1 := BZ6.out.free (i := 1); have zf2 := BZ6.out.free (i := 2); have zf3 := BZ6.out.free (i := 3); have zf4 := BZ6.out.free (i := 4)
    have hm1 : w.heap.size ≠ w6.heap.size := by omega
    have hm2 : w6.heap.size ≠ w.heap.size := by omega
    have hm3 : r ≠ w6.heap.size := by omega
    have hm4 : w6.heap.size ≠ r := by omega
    have hm5 : r < w6.heap.size := by omega
    have HR7 := Lib.hid (HR6.out.stay ((Below.refl _ _).alloc (Nat.le_refl _) (.cells #[.int .i64 0, .int .i64 0, .int .i64 0, .string ⟨#[]⟩, .slice none 0 0] 26)))
    have HT7 := Lib.hid (HT6.out.trans (Touch.of_below ((Below.refl _ _).alloc (Nat.le_refl _) (.cells #[.int .i64 0, .int .i64 0, .int .i64 0, .string ⟨#[]⟩, .slice none 0 0] 26))))
    have BZ7 := Lib.hid (BZ6.out.alloc (.cells #[.int .i64 0, .int .i64 0, .int .i64 0, .string ⟨#[]⟩, .slice none 0 0] 26))
    have BV7 := Lib.hid (Box.new w6 0 0 0 ⟨#[]⟩ (.slice none 0 0) 26)
    have hz7 : (w6.alloc (.cells #[.int .i64 0, .int .i64 0, .int .i64 0, .string ⟨#[]⟩, .slice none 0 0] 26)).heap.size = w6.heap.size + 1 := by simp
    obtain ⟨y0, y1, y2, y3, y4⟩ := BV7.out.cells
    have yf0 := BV7.out.free (i := 0); have yf1 := BV7.out.free (i := 1); have yf2 := BV7.out.free (i := 2); have yf3 := BV7.out.free (i := 3); have yf4 := BV7.out.free (i := 4)
    go_wp2_with fail
    refine (LF.out _ HR7.out).mono ?_
    cases o with
    | none =>
      rintro e8 w8 ⟨rfl, hb8⟩
      have hz8 := hb8.size
      rw [hz7] at hz8
      have HR8 := Lib.hid (HR7.out.stay hb8)
      have HT8 := Lib.hid (HT7.out.trans (Touch.of_below hb8))
      have BZ8 := Lib.hid (BZ7.out.stay hb8)
      have BV8 := Lib.hid (BV7.out.stay hb8)
      clear z0 z1 z2 z3 z4 zf0 zf1 zf2 zf3 zf4 y0 y1 y2 y3 y4 yf0 yf1 yf2 yf3 yf4 m0 m1 m2 mf hb8
      obtain ⟨z0, z1, z2, z3, z4⟩ := BZ8.out.cells
      have zf0 := BZ8.out.free (i := 0); have zf1 := BZ8.out.free (i := 1); have zf2 := BZ8.out.free (i := 2); have zf3 := BZ8.out.free (i := 3); have zf4 := BZ8.out.free (i := 4)
      obtain ⟨y0, y1, y2, y3, y4⟩ := BV8.out.cells
      have yf0 := BV8.out.free (i := 0); have yf1 := BV8.out.free (i := 1); have yf2 := BV8.out.free (i := 2); have yf3 := BV8.out.free (i := 3); have yf4 := BV8.out.free (i := 4)
      have hm6 : w6.heap.size < w8.heap.size := by omega
      have hm7 : w.heap.size < w8.heap.size := by omega
      go_wp2_with fail
      refine bodyPost_ret (v := .tuple #[.agg #[.int .i64 0, .int .i64 0, .int .i64 0, .string ⟨#[]⟩, .slice none 0 0], .int .i64 (-1)]) (by simp [results, Tryd.results138, go_sem, z0, z1, z2, z3, z4]) rfl (cg_fail ((HT8.out.set5 w6.heap.size (by omega) _ _ _ _ _).set5 w.heap.size (Nat.le_refl _) _ _ _ _ _))
    | some q =>
      obtain ⟨t, j, m⟩ := q
      obtain ⟨rfl, rfl⟩ := HQ.out _ rfl
      rintro e8 w8 ⟨⟨rfl, twf, tk⟩, hb8⟩
      unfold V.agg
      have hz8 := hb8.size
      rw [hz7] at hz8
      have HR8 := Lib.hid (HR7.out.stay hb8)
      have HT8 := Lib.hid (HT7.out.trans (Touch.of_below hb8))
      have BZ8 := Lib.hid (BZ7.out.stay hb8)
      have BV8 := Lib.hid (BV7.out.stay hb8)
      clear z0 z1 z2 z3 z4 zf0 zf1 zf2 zf3 zf4 y0 y1 y2 y3 y4 yf0 yf1 yf2 yf3 yf4 m0 m1 m2 mf hb8
      obtain ⟨z0, z1, z2, z3, z4⟩ := BZ8.out.cells
      have zf0 := BZ8.out.free (i := 0); have zf1 := BZ8.out.free (i := 1); have zf2 := BZ8.out.free (i := 2); have zf3 := BZ8.out.free (i := 3); have zf4 := BZ8.out.free (i := 4)
      obtain ⟨y0, y1, y2, y3, y4⟩ := BV8.out.cells
      have yf0 := BV8.out.free (i := 0); have yf1 := BV8.out.free (i := 1); have yf2 := BV8.out.free (i := 2); have yf3 := BV8.out.free (i := 3); have yf4 := BV8.out.free (i := 4)
      have hm6 : w6.heap.size < w8.heap.size := by omega
      have hm7 : w.heap.size < w8.heap.size := by omega
      have HP := Lib.hid (fun v0 v1 v2 v3 v4 x0 x1 x2 x3 x4 => show CgRet r s true (some (t, j, m)) w (.returned (.tuple #[.agg #[.int .i64 t.k, .int .i64 t.n, .int .i64 t.e, .string t.s, .slice none 0 0], .int .i64 (j : Int)])) (set5 (set5 w8 w6.heap.size x0 x1 x2 x3 x4) w.heap.size v0 v1 v2 v3 v4) from
        ⟨⟨.slice none 0 0, rfl, twf, by rw [tk]; exact OwnS.nil _ _, (heap_set5 _ _ _ _ _ _ _ _ hr1).trans ((heap_set5 _ _ _ _ _ _ _ _ hm3).trans HR8.out)⟩, (HT8.out.set5 w6.heap.size (by omega) _ _ _ _ _).set5 w.heap.size (Nat.le_refl _) _ _ _ _ _⟩)
      clear twf tk
      go_wp2_with fail
      refine bodyPost_ret (v := .tuple #[.agg #[.int .i64 t.k, .int .i64 t.n, .int .i64 t.e, .string t.s, .slice none 0 0], .int .i64 (j : Int)]) (by simp [results, Tryd.results138, go_sem, z0, z1, z2, z3, z4]) rfl (HP.out _ _ _ _ _ _ _ _ _ _)
set_option maxHeartbeats 8000000 in
theorem lget_simple (r : Nat) (s : ByteArray) (hs : s.size ≤ 1048576) (lo : Bool) (g : Nat → Nat → MG) (hg : ∀ i l, CGood s i l (g i l)) (deep : Int) (hdp : 0 ≤ deep ∧ deep ≤ 14)
    (hG : ∀ (i l : Nat) (W : World), i ≤ s.size → l ≤ 1204 → RC W r s lo l → Calls Tryd.prog 138 #[.pointer (some ⟨r, 0, none⟩), .int .i64 i, .int .i64 (deep + 1)] W (CgRet r s lo (g i l) W))
    (i l : Nat) (hi : i < s.size) (hl : l + 1 ≤ 1204) (w : World) (hR : RC w r s lo ((l + 1 : Nat) : Int)) (hno : lo = false ∨ s[i].toNat % 32 ≠ 31) (a n x : Nat) (hh : hdR lo s i = some (a, n, x)) (ha : a = 7) :
    Calls Tryd.prog 138 #[.pointer (some ⟨r, 0, none⟩), .int .i64 i, .int .i64 deep] w (CgRet r s lo (simR lo n x l) w) := by
  have hrw := hR.lt
  have HR := Lib.hid hR
  obtain ⟨m0, m1, m2, mf⟩ := hR.cells
  obtain ⟨hdp0, hdp1⟩ := hdp
  have t14 : decide (14 < deep) = false := decide_eq_false (by omega)
  have hbl : ((s[i].toNat : Nat) : Int) < 256 := by have := s[i].toNat_lt; omega
  have hr1 : r ≠ w.heap.size := by omega
  have hr2 : w.heap.size ≠ r := by omega
  have HR5 := Lib.hid (show RC ((w.setCell ⟨r, 2, none⟩ (.int .i64 (l : Int))).alloc (.cells #[.int .i64 0, .int .i64 0, .int .i64 0, .string ⟨#[]⟩, .slice none 0 0] 26)) r s lo (l : Int) from (HR.out.set l).stay ((Below.refl _ _).alloc (Nat.le_refl _) _))
  have HT5 := Lib.hid (show Touch (fun x => x = r) (fun x => x = r) w ((w.setCell ⟨r, 2, none⟩ (.int .i64 (l : Int))).alloc (.cells #[.int .i64 0, .int .i64 0, .int .i64 0, .string ⟨#[]⟩, .slice none 0 0] 26)) from ((Touch.refl _ w).cellD _).trans (Touch.of_below ((Below.refl _ _).alloc (Nat.le_refl _) _)))
  have BZ5 := Lib.hid (show Box ((w.setCell ⟨r, 2, none⟩ (.int .i64 (l : Int))).alloc (.cells #[.int .i64 0, .int .i64 0, .int .i64 0, .string ⟨#[]⟩, .slice none 0 0] 26)) w.heap.size 0 0 0 ⟨#[]⟩ (.slice none 0 0) 26 from heap_alloc_here _ (by simp))
  have hz5 : ((w.setCell ⟨r, 2, none⟩ (.int .i64 (l : Int))).alloc (.cells #[.int .i64 0, .int .i64 0, .int .i64 0, .string ⟨#[]⟩, .slice none 0 0] 26)).heap.size = w.heap.size + 1 := by simp
  have BZ := Lib.hid (Box.new w 0 0 0 ⟨#[]⟩ (.slice none 0 0) 26)
  obtain ⟨z0, z1, z2, z3, z4⟩ := BZ.out.cells
  have zf0 := BZ.out.free (i := 0); have zf1 := BZ.out.free (i := 1); have zf2 := BZ.out.free (i := 2); have zf3 := BZ.out.free (i := 3); have zf4 := BZ.out.free (i := 4)
  have HD := Lib.hid (fun W (h : RC W r s lo (l : Int)) => show Calls Tryd.prog 212 #[.pointer (some ⟨r, 0, none⟩), .int .i64 i] W fun e w' => HdRet (some (a, n, x)) e ∧ Below W.heap.size W w' from by
    have := l05Head_any r s hs lo i (by omega) l W h
    rw [hh] at this; exact this)
  have hx := hdR_some hh
  obtain ⟨hx1, hx2, hx3, hx4, hx5⟩ := hx
  clear hx5
  subst ha
  have LF := Lib.hid (fun W (h : RC W r s lo (l : Int)) => l05Simple_any r s lo n x l hx3 l W h)
  have HQ := Lib.hid (fun (q : V × Nat × Nat) (e : simR lo n x l = some q) => show q.2.1 = x ∧ q.2.2 = l from by
    unfold simR mgLeaf at e
    repeat' split at e
    all_goals cases e
    all_goals exact ⟨rfl, rfl⟩)
  clear hh hG hg hR
  generalize simR lo n x l = o at *
  obtain ⟨q31, hr31⟩ : ∃ q, q = ((s[i].toNat : Nat) : Int) % 32 := ⟨_, rfl⟩
  have hrr : ((s[i].toNat : Nat) : Int) % 32 = q31 := hr31.symm
  have tno : lo = false ∨ (q31 == 31) = false := hno.imp id (fun h => by rw [hr31]; simp; omega)
  clear hno hr31
  cases lo
  · clear hrr tno
    go_enter Tryd.func138, Tryd.ntmps138
    go_wp2_with fail
    refine (HD.out _ HR5.out).mono ?_
    rintro e6 w6 ⟨he, hb6⟩
    obtain rfl := he
    have hz6 := hb6.size
    rw [hz5] at hz6
    have HR6 := Lib.hid (HR5.out.stay hb6)
    have HT6 := Lib.hid (HT5.out.trans (Touch.of_below hb6))
    have BZ6 := Lib.hid (BZ5.out.stay hb6)
    have hlt6 : w.heap.size < w6.heap.size := by omega
    clear z0 z1 z2 z3 z4 zf0 zf1 zf2 zf3 zf4 m0 m1 m2 mf hb6
    obtain ⟨m0, m1, m2, mf⟩ := HR6.out.cells
    obtain ⟨z0, z1, z2, z3, z4⟩ := BZ6.out.cells
    have zf0 := BZ6.out.free (i := 0); have zf1 := BZ6.out.free (i := 1); have zf2 := BZ6.out.free (i := 2); have zf3 := BZ6.out.free (i := 3); have zf4 := BZ6.out.free (i := 4)
    have hm1 : w.heap.size ≠ w6.heap.size := by omega
    have hm2 : w6.heap.size ≠ w.heap.size := by omega
    have hm3 : r ≠ w6.heap.size := by omega
    have hm4 : w6.heap.size ≠ r := by omega
    have hm5 : r < w6.heap.size := by omega
    have HR7 := Lib.hid (HR6.out.stay ((Below.refl _ _).alloc (Nat.le_refl _) (.cells #[.int .i64 0, .int .i64 0, .int .i64 0, .string ⟨#[]⟩, .slice none 0 0] 26)))
    have HT7 := Lib.hid (HT6.out.trans (Touch.of_below ((Below.refl _ _).alloc (Nat.le_refl _) (.cells #[.int .i64 0, .int .i64 0, .int .i64 0, .string ⟨#[]⟩, .slice none 0 0] 26))))
    have BZ7 := Lib.hid (BZ6.out.alloc (.cells #[.int .i64 0, .int .i64 0, .int .i64 0, .string ⟨#[]⟩, .slice none 0 0] 26))
    have BV7 := Lib.hid (Box.new w6 0 0 0 ⟨#[]⟩ (.slice none 0 0) 26)
    have hz7 : (w6.alloc (.cells #[.int .i64 0, .int .i64 0, .int .i64 0, .string ⟨#[]⟩, .slice none 0 0] 26)).heap.size = w6.heap.size + 1 := by simp
    obtain ⟨y0, y1, y2, y3, y4⟩ := BV7.out.cells
    have yf0 := BV7.out.free (i := 0); have yf1 := BV7.out.free (i := 1); have yf2 := BV7.out.free (i := 2); have yf3 := BV7.out.free (i := 3); have yf4 := BV7.out.free (i := 4)
    go_wp2_with fail
    refine (LF.out _ HR7.out).mono ?_
    cases o with
    | none =>
      rintro e8 w8 ⟨rfl, hb8⟩
      have hz8 := hb8.size
      rw [hz7] at hz8
      have HR8 := Lib.hid (HR7.out.stay hb8)
      have HT8 := Lib.hid (HT7.out.trans (Touch.of_below hb8))
      have BZ8 := Lib.hid (BZ7.out.stay hb8)
      have BV8 := Lib.hid (BV7.out.stay hb8)
      clear z0 z1 z2 z3 z4 zf0 zf1 zf2 zf3 zf4 y0 y1 y2 y3 y4 yf0 yf1 yf2 yf3 yf4 m0 m1 m2 mf hb8
      obtain ⟨z0, z1, z2, z3, z4⟩ := BZ8.out.cells
      have zf0 := BZ8.out.free (i := 0); have zf1 := BZ8.out.free (i := 1); have zf2 := BZ8.out.free (i := 2); have zf3 := BZ8.out.free (i := 3); have zf4 := BZ8.out.free (i := 4)
      obtain ⟨y0, y1, y2, y3, y4⟩ := BV8.out.cells
      have yf0 := BV8.out.free (i := 0); have yf1 := BV8.out.free (i := 1); have yf2 := BV8.out.free (i := 2); have yf3 := BV8.out.free (i := 3); have yf4 := BV8.out.free (i := 4)
      have hm6 : w6.heap.size < w8.heap.size := by omega
      have hm7 : w.heap.size < w8.heap.size := by omega
      go_wp2_with fail
      refine bodyPost_ret (v := .tuple #[.agg #[.int .i64 0, .int .i64 0, .int .i64 0, .string ⟨#[]⟩, .slice none 0 0], .int .i64 (-1)]) (by simp [results, Tryd.results138, go_sem, z0, z1, z2, z3, z4]) rfl (cg_fail ((HT8.out.set5 w6.heap.size (by omega) _ _ _ _ _).set5 w.heap.size (Nat.le_refl _) _ _ _ _ _))
    | some q =>
      obtain ⟨t, j, m⟩ := q
      obtain ⟨rfl, rfl⟩ := HQ.out _ rfl
      rintro e8 w8 ⟨⟨rfl, twf, tk⟩, hb8⟩
      unfold V.agg
      have hz8 := hb8.size
      rw [hz7] at hz8
      have HR8 := Lib.hid (HR7.out.stay hb8)
      have HT8 := Lib.hid (HT7.out.trans (Touch.of_below hb8))
      have BZ8 := Lib.hid (BZ7.out.stay hb8)
      have BV8 := Lib.hid (BV7.out.stay hb8)
      clear z0 z1 z2 z3 z4 zf0 zf1 zf2 zf3 zf4 y0 y1 y2 y3 y4 yf0 yf1 yf2 yf3 yf4 m0 m1 m2 mf hb8
      obtain ⟨z0, z1, z2, z3, z4⟩ := BZ8.out.cells
      have zf0 := BZ8.out.free (i := 0); have zf1 := BZ8.out.free (i := 1); have zf2 := BZ8.out.free (i := 2); have zf3 := BZ8.out.free (i := 3); have zf4 := BZ8.out.free (i := 4)
      obtain ⟨y0, y1, y2, y3, y4⟩ := BV8.out.cells
      have yf0 := BV8.out.free (i := 0); have yf1 := BV8.out.free (i := 1); have yf2 := BV8.out.free (i := 2); have yf3 := BV8.out.free (i := 3); have yf4 := BV8.out.free (i := 4)
      have hm6 : w6.heap.size < w8.heap.size := by omega
      have hm7 : w.heap.size < w8.heap.size := by omega
      have HP := Lib.hid (fun v0 v1 v2 v3 v4 x0 x1 x2 x3 x4 => show CgRet r s false (some (t, j, m)) w (.returned (.tuple #[.agg #[.int .i64 t.k, .int .i64 t.n, .int .i64 t.e, .string t.s, .slice none 0 0], .int .i64 (j : Int)])) (set5 (set5 w8 w6.heap.size x0 x1 x2 x3 x4) w.heap.size v0 v1 v2 v3 v4) from
        ⟨⟨.slice none 0 0, rfl, twf, by rw [tk]; exact OwnS.nil _ _, (heap_set5 _ _ _ _ _ _ _ _ hr1).trans ((heap_set5 _ _ _ _ _ _ _ _ hm3).trans HR8.out)⟩, (HT8.out.set5 w6.heap.size (by omega) _ _ _ _ _).set5 w.heap.size (Nat.le_refl _) _ _ _ _ _⟩)
      clear twf tk
      go_wp2_with fail
      refine bodyPost_ret (v := .tuple #[.agg #[.int .i64 t.k, .int .i64 t.n, .int .i64 t.e, .string t.s, .slice none 0 0], .int .i64 (j : Int)]) (by simp [results, Tryd.results138, go_sem, z0, z1, z2, z3, z4]) rfl (HP.out _ _ _ _ _ _ _ _ _ _)
  · have t31 : (q31 == 31) = false := tno.resolve_left (by simp)
    clear tno
    go_enter Tryd.func138, Tryd.ntmps138
    go_wp2_with fail
    refine (HD.out _ HR5.out).mono ?_
    rintro e6 w6 ⟨he, hb6⟩
    obtain rfl := he
    have hz6 := hb6.size
    rw [hz5] at hz6
    have HR6 := Lib.hid (HR5.out.stay hb6)
    have HT6 := Lib.hid (HT5.out.trans (Touch.of_below hb6))
    have BZ6 := Lib.hid (BZ5.out.stay hb6)
    have hlt6 : w.heap.size < w6.heap.size := by omega
    clear z0 z1 z2 z3 z4 zf0 zf1 zf2 zf3 zf4 m0 m1 m2 mf hb6
    obtain ⟨m0, m1, m2, mf⟩ := HR6.out.cells
    obtain ⟨z0, z1, z2, z3, z4⟩ := BZ6.out.cells
    have zf0 := BZ6.out.free (i := 0); have zf1 := BZ6.out.free (i := 1); have zf2 := BZ6.out.free (i := 2); have zf3 := BZ6.out.free (i := 3); have zf4 := BZ6.out.free (i := 4)
    have hm1 : w.heap.size ≠ w6.heap.size := by omega
    have hm2 : w6.heap.size ≠ w.heap.size := by omega
    have hm3 : r ≠ w6.heap.size := by omega
    have hm4 : w6.heap.size ≠ r := by omega
    have hm5 : r < w6.heap.size := by omega
    have HR7 := Lib.hid (HR6.out.stay ((Below.refl _ _).alloc (Nat.le_refl _) (.cells #[.int .i64 0, .int .i64 0, .int .i64 0, .string ⟨#[]⟩, .slice none 0 0] 26)))
    have HT7 := Lib.hid (HT6.out.trans (Touch.of_below ((Below.refl _ _).alloc (Nat.le_refl _) (.cells #[.int .i64 0, .int .i64 0, .int .i64 0, .string ⟨#[]⟩, .slice none 0 0] 26))))
    have BZ7 := Lib.hid (BZ6.out.alloc (.cells #[.int .i64 0, .int .i64 0, .int .i64 0, .string ⟨#[]⟩, .slice none 0 0] 26))
    have BV7 := Lib.hid (Box.new w6 0 0 0 ⟨#[]⟩ (.slice none 0 0) 26)
    have hz7 : (w6.alloc (.cells #[.int .i64 0, .int .i64 0, .int .i64 0, .string ⟨#[]⟩, .slice none 0 0] 26)).heap.size = w6.heap.size + 1 := by simp
    obtain ⟨y0, y1, y2, y3, y4⟩ := BV7.out.cells
    have yf0 := BV7.out.free (i := 0); have yf1 := BV7.out.free (i := 1); have yf2 := BV7.out.free (i := 2); have yf3 := BV7.out.free (i := 3); have yf4 := BV7.out.free (i := 4)
    go_wp2_with fail
    refine (LF.out _ HR7.out).mono ?_
    cases o with
    | none =>
      rintro e8 w8 ⟨rfl, hb8⟩
      have hz8 := hb8.size
      rw [hz7] at hz8
      have HR8 := Lib.hid (HR7.out.stay hb8)
      have HT8 := Lib.hid (HT7.out.trans (Touch.of_below hb8))
      have BZ8 := Lib.hid (BZ7.out.stay hb8)
      have BV8 := Lib.hid (BV7.out.stay hb8)
      clear z0 z1 z2 z3 z4 zf0 zf1 zf2 zf3 zf4 y0 y1 y2 y3 y4 yf0 yf1 yf2 yf3 yf4 m0 m1 m2 mf hb8
      obtain ⟨z0, z1, z2, z3, z4⟩ := BZ8.out.cells
      have zf0 := BZ8.out.free (i := 0); have zf1 := BZ8.out.free (i := 1); have zf2 := BZ8.out.free (i := 2); have zf3 := BZ8.out.free (i := 3); have zf4 := BZ8.out.free (i := 4)
      obtain ⟨y0, y1, y2, y3, y4⟩ := BV8.out.cells
      have yf0 := BV8.out.free (i := 0); have yf1 := BV8.out.free (i := 1); have yf2 := BV8.out.free (i := 2); have yf3 := BV8.out.free (i := 3); have yf4 := BV8.out.free (i := 4)
      have hm6 : w6.heap.size < w8.heap.size := by omega
      have hm7 : w.heap.size < w8.heap.size := by omega
      go_wp2_with fail
      refine bodyPost_ret (v := .tuple #[.agg #[.int .i64 0, .int .i64 0, .int .i64 0, .string ⟨#[]⟩, .slice none 0 0], .int .i64 (-1)]) (by simp [results, Tryd.results138, go_sem, z0, z1, z2, z3, z4]) rfl (cg_fail ((HT8.out.set5 w6.heap.size (by omega) _ _ _ _ _).set5 w.heap.size (Nat.le_refl _) _ _ _ _ _))
    | some q =>
      obtain ⟨t, j, m⟩ := q
      obtain ⟨rfl, rfl⟩ := HQ.out _ rfl
      rintro e8 w8 ⟨⟨rfl, twf, tk⟩, hb8⟩
      unfold V.agg
      have hz8 := hb8.size
      rw [hz7] at hz8
      have HR8 := Lib.hid (HR7.out.stay hb8)
      have HT8 := Lib.hid (HT7.out.trans (Touch.of_below hb8))
      have BZ8 := Lib.hid (BZ7.out.stay hb8)
      have BV8 := Lib.hid (BV7.out.stay hb8)
      clear z0 z1 z2 z3 z4 zf0 zf1 zf2 zf3 zf4 y0 y1 y2 y3 y4 yf0 yf1 yf2 yf3 yf4 m0 m1 m2 mf hb8
      obtain ⟨z0, z1, z2, z3, z4⟩ := BZ8.out.cells
      have zf0 := BZ8.out.free (i := 0); have zf1 := BZ8.out.free (i := 1); have zf2 := BZ8.out.free (i := 2); have zf3 := BZ8.out.free (i := 3); have zf4 := BZ8.out.free (i := 4)
      obtain ⟨y0, y1, y2, y3, y4⟩ := BV8.out.cells
      have yf0 := BV8.out.free (i := 0); have yf1 := BV8.out.free (i := 1); have yf2 := BV8.out.free (i := 2); have yf3 := BV8.out.free (i := 3); have yf4 := BV8.out.free (i := 4)
      have hm6 : w6.heap.size < w8.heap.size := by omega
      have hm7 : w.heap.size < w8.heap.size := by omega
      have HP := Lib.hid (fun v0 v1 v2 v3 v4 x0 x1 x2 x3 x4 => show CgRet r s true (some (t, j, m)) w (.returned (.tuple #[.agg #[.int .i64 t.k, .int .i64 t.n, .int .i64 t.e, .string t.s, .slice none 0 0], .int .i64 (j : Int)])) (set5 (set5 w8 w6.heap.size x0 x1 x2 x3 x4) w.heap.size v0 v1 v2 v3 v4) from
        ⟨⟨.slice none 0 0, rfl, twf, by rw [tk]; exact OwnS.nil _ _, (heap_set5 _ _ _ _ _ _ _ _ hr1).trans ((heap_set5 _ _ _ _ _ _ _ _ hm3).trans HR8.out)⟩, (HT8.out.set5 w6.heap.size (by omega) _ _ _ _ _).set5 w.heap.size (Nat.le_refl _) _ _ _ _ _⟩)
      clear twf tk
      go_wp2_with fail
      refine bodyPost_ret (v := .tuple #[.agg #[.int .i64 t.k, .int .i64 t.n, .int .i64 t.e, .string t.s, .slice none 0 0], .int .i64 (j : Int)]) (by simp [results, Tryd.results138, go_sem, z0, z1, z2, z3, z4]) rfl (HP.out _ _ _ _ _ _ _ _ _ _)
set_option maxHeartbeats 8000000 in
theorem lget_str2 (r : Nat) (s : ByteArray) (hs : s.size ≤ 1048576) (lo : Bool) (g : Nat → Nat → MG) (hg : ∀ i l, CGood s i l (g i l)) (deep : Int) (hdp : 0 ≤ deep ∧ deep ≤ 14)
    (hG : ∀ (i l : Nat) (W : World), i ≤ s.size → l ≤ 1204 → RC W r s lo l → Calls Tryd.prog 138 #[.pointer (some ⟨r, 0, none⟩), .int .i64 i, .int .i64 (deep + 1)] W (CgRet r s lo (g i l) W))
    (i l : Nat) (hi : i < s.size) (hl : l + 1 ≤ 1204) (w : World) (hR : RC w r s lo ((l + 1 : Nat) : Int)) (hno : lo = false ∨ s[i].toNat % 32 ≠ 31) (a n x : Nat) (hh : hdR lo s i = some (a, n, x)) (ha : a = 2) :
    Calls Tryd.prog 138 #[.pointer (some ⟨r, 0, none⟩), .int .i64 i, .int .i64 deep] w (CgRet r s lo (mgStr s 6 x n l) w) := by
  have hrw := hR.lt
  have HR := Lib.hid hR
  obtain ⟨m0, m1, m2, mf⟩ := hR.cells
  obtain ⟨hdp0, hdp1⟩ := hdp
  have t14 : decide (14 < deep) = false := decide_eq_false (by omega)
  have hbl : ((s[i].toNat : Nat) : Int) < 256 := by have := s[i].toNat_lt; omega
  have hr1 : r ≠ w.heap.size := by omega
  have hr2 : w.heap.size ≠ r := by omega
  have HR5 := Lib.hid (show RC ((w.setCell ⟨r, 2, none⟩ (.int .i64 (l : Int))).alloc (.cells #[.int .i64 0, .int .i64 0, .int .i64 0, .string ⟨#[]⟩, .slice none 0 0] 26)) r s lo (l : Int) from (HR.out.set l).stay ((Below.refl _ _).alloc (Nat.le_refl _) _))
  have HT5 := Lib.hid (show Touch (fun x => x = r) (fun x => x = r) w ((w.setCell ⟨r, 2, none⟩ (.int .i64 (l : Int))).alloc (.cells #[.int .i64 0, .int .i64 0, .int .i64 0, .string ⟨#[]⟩, .slice none 0 0] 26)) from ((Touch.refl _ w).cellD _).trans (Touch.of_below ((Below.refl _ _).alloc (Nat.le_refl _) _)))
  have BZ5 := Lib.hid (show Box ((w.setCell ⟨r, 2, none⟩ (.int .i64 (l : Int))).alloc (.cells #[.int .i64 0, .int .i64 0, .int .i64 0, .string ⟨#[]⟩, .slice none 0 0] 26)) w.heap.size 0 0 0 ⟨#[]⟩ (.slice none 0 0) 26 from heap_alloc_here _ (by simp))
  have hz5 : ((w.setCell ⟨r, 2, none⟩ (.int .i64 (l : Int))).alloc (.cells #[.int .i64 0, .int .i64 0, .int .i64 0, .string ⟨#[]⟩, .slice none 0 0] 26)).heap.size = w.heap.size + 1 := by simp
  have BZ := Lib.hid (Box.new w 0 0 0 ⟨#[]⟩ (.slice none 0 0) 26)
  obtain ⟨z0, z1, z2, z3, z4⟩ := BZ.out.cells
  have zf0 := BZ.out.free (i := 0); have zf1 := BZ.out.free (i := 1); have zf2 := BZ.out.free (i := 2); have zf3 := BZ.out.free (i := 3); have zf4 := BZ.out.free (i := 4)
  have HD := Lib.hid (fun W (h : RC W r s lo (l : Int)) => show Calls Tryd.prog 212 #[.pointer (some ⟨r, 0, none⟩), .int .i64 i] W fun e w' => HdRet (some (a, n, x)) e ∧ Below W.heap.size W w' from by
    have := l05Head_any r s hs lo i (by omega) l W h
    rw [hh] at this; exact this)
  have hx := hdR_some hh
  obtain ⟨hx1, hx2, hx3, hx4, hx5⟩ := hx
  clear hx5
  subst ha
  clear hh hG hg hR
  by_cases hn : x + n ≤ s.size
  · rw [show mgStr s 6 x n l = some (.mk 6 0 0 (s.extract x (x + n)) [], x + n, l) by unfold mgStr; rw [if_pos hn]]
    have hd : decide (((s.size : Int) - (x : Int)) < (n : Int)) = false := decide_eq_false (by omega)
    have hxs : (s.extract x (x + n)).size ≤ 9223372036854775807 := by rw [ByteArray.size_extract]; omega
    obtain ⟨q31, hr31⟩ : ∃ q, q = ((s[i].toNat : Nat) : Int) % 32 := ⟨_, rfl⟩
    have hrr : ((s[i].toNat : Nat) : Int) % 32 = q31 := hr31.symm
    have tno : lo = false ∨ (q31 == 31) = false := hno.imp id (fun h => by rw [hr31]; simp; omega)
    clear hno hr31
    cases lo
    · clear hrr tno
      go_enter Tryd.func138, Tryd.ntmps138
      go_wp2_with fail
      refine (HD.out _ HR5.out).mono ?_
      rintro e6 w6 ⟨he, hb6⟩
      obtain rfl := he
      have hz6 := hb6.size
      rw [hz5] at hz6
      have HR6 := Lib.hid (HR5.out.stay hb6)
      have HT6 := Lib.hid (HT5.out.trans (Touch.of_below hb6))
      have BZ6 := Lib.hid (BZ5.out.stay hb6)
      have hlt6 : w.heap.size < w6.heap.size := by omega
      clear z0 z1 z2 z3 z4 zf0 zf1 zf2 zf3 zf4 m0 m1 m2 mf hb6
      obtain ⟨m0, m1, m2, mf⟩ := HR6.out.cells
      obtain ⟨z0, z1, z2, z3, z4⟩ := BZ6.out.cells
      have zf0 := BZ6.out.free (i := 0); have zf1 := BZ6.out.free (i := 1); have zf2 := BZ6.out.free (i := 2); have zf3 := BZ6.out.free (i := 3); have zf4 := BZ6.out.free (i := 4)
      have hm1 : w.heap.size ≠ w6.heap.size := by omega
      have hm2 : w6.heap.size ≠ w.heap.size := by omega
      have hm3 : r ≠ w6.heap.size := by omega
      have hm4 : w6.heap.size ≠ r := by omega
      have hm5 : r < w6.heap.size := by omega
      have HR7 := Lib.hid (HR6.out.stay ((Below.refl _ _).alloc (Nat.le_refl _) (.cells #[.int .i64 0, .int .i64 0, .int .i64 0, .string ⟨#[]⟩, .slice none 0 0] 26)))
      have HT7 := Lib.hid (HT6.out.trans (Touch.of_below ((Below.refl _ _).alloc (Nat.le_refl _) (.cells #[.int .i64 0, .int .i64 0, .int .i64 0, .string ⟨#[]⟩, .slice none 0 0] 26))))
      have BZ7 := Lib.hid (BZ6.out.alloc (.cells #[.int .i64 0, .int .i64 0, .int .i64 0, .string ⟨#[]⟩, .slice none 0 0] 26))
      have BV7 := Lib.hid (Box.new w6 0 0 0 ⟨#[]⟩ (.slice none 0 0) 26)
      have hz7 : (w6.alloc (.cells #[.int .i64 0, .int .i64 0, .int .i64 0, .string ⟨#[]⟩, .slice none 0 0] 26)).heap.size = w6.heap.size + 1 := by simp
      obtain ⟨y0, y1, y2, y3, y4⟩ := BV7.out.cells
      have yf0 := BV7.out.free (i := 0); have yf1 := BV7.out.free (i := 1); have yf2 := BV7.out.free (i := 2); have yf3 := BV7.out.free (i := 3); have yf4 := BV7.out.free (i := 4)
      go_wp2_with fail
      go_region
      all_goals go_wp2_with fail
      all_goals refine bodyPost_ret (v := .tuple #[.agg #[.int .i64 6, .int .i64 0, .int .i64 0, .string (s.extract x (x + n)), .slice none 0 0], .int .i64 ((x + n : Nat) : Int)]) (by simp [results, Tryd.results138, go_sem, z0, z1, z2, z3, z4, hlt6]) rfl ?_
      all_goals refine ⟨⟨.slice none 0 0, rfl, ⟨k64 6 (by omega) (by omega), in0, in0, hxs⟩, OwnS.nil _ _, ?_⟩, ?_⟩
      · exact (show RC (set5 w6 w.heap.size _ _ _ _ _) r s false l from (heap_set5 _ _ _ _ _ _ _ _ hr1).trans HR6.out).stay ((below22 _ _ _).drew)
      · exact (HT6.out.set5 w.heap.size (Nat.le_refl _) _ _ _ _ _).trans (Touch.of_below ((below22 _ _ _).drew))
    · have t31 : (q31 == 31) = false := tno.resolve_left (by simp)
      clear tno
      go_enter Tryd.func138, Tryd.ntmps138
      go_wp2_with fail
      refine (HD.out _ HR5.out).mono ?_
      rintro e6 w6 ⟨he, hb6⟩
      obtain rfl := he
      have hz6 := hb6.size
      rw [hz5] at hz6
      have HR6 := Lib.hid (HR5.out.stay hb6)
      have HT6 := Lib.hid (HT5.out.trans (Touch.of_below hb6))
      have BZ6 := Lib.hid (BZ5.out.stay hb6)
      have hlt6 : w.heap.size < w6.heap.size := by omega
      clear z0 z1 z2 z3 z4 zf0 zf1 zf2 zf3 zf4 m0 m1 m2 mf hb6
      obtain ⟨m0, m1, m2, mf⟩ := HR6.out.cells
      obtain ⟨z0, z1, z2, z3, z4⟩ := BZ6.out.cells
      have zf0 := BZ6.out.free (i := 0); have zf1 := BZ6.out.free (i := 1); have zf2 := BZ6.out.free (i := 2); have zf3 := BZ6.out.free (i := 3); have zf4 := BZ6.out.free (i := 4)
      have hm1 : w.heap.size ≠ w6.heap.size := by omega
      have hm2 : w6.heap.size ≠ w.heap.size := by omega
      have hm3 : r ≠ w6.heap.size := by omega
      have hm4 : w6.heap.size ≠ r := by omega
      have hm5 : r < w6.heap.size := by omega
      have HR7 := Lib.hid (HR6.out.stay ((Below.refl _ _).alloc (Nat.le_refl _) (.cells #[.int .i64 0, .int .i64 0, .int .i64 0, .string ⟨#[]⟩, .slice none 0 0] 26)))
      have HT7 := Lib.hid (HT6.out.trans (Touch.of_below ((Below.refl _ _).alloc (Nat.le_refl _) (.cells #[.int .i64 0, .int .i64 0, .int .i64 0, .string ⟨#[]⟩, .slice none 0 0] 26))))
      have BZ7 := Lib.hid (BZ6.out.alloc (.cells #[.int .i64 0, .int .i64 0, .int .i64 0, .string ⟨#[]⟩, .slice none 0 0] 26))
      have BV7 := Lib.hid (Box.new w6 0 0 0 ⟨#[]⟩ (.slice none 0 0) 26)
      have hz7 : (w6.alloc (.cells #[.int .i64 0, .int .i64 0, .int .i64 0, .string ⟨#[]⟩, .slice none 0 0] 26)).heap.size = w6.heap.size + 1 := by simp
      obtain ⟨y0, y1, y2, y3, y4⟩ := BV7.out.cells
      have yf0 := BV7.out.free (i := 0); have yf1 := BV7.out.free (i := 1); have yf2 := BV7.out.free (i := 2); have yf3 := BV7.out.free (i := 3); have yf4 := BV7.out.free (i := 4)
      go_wp2_with fail
      go_region
      all_goals go_wp2_with fail
      all_goals refine bodyPost_ret (v := .tuple #[.agg #[.int .i64 6, .int .i64 0, .int .i64 0, .string (s.extract x (x + n)), .slice none 0 0], .int .i64 ((x + n : Nat) : Int)]) (by simp [results, Tryd.results138, go_sem, z0, z1, z2, z3, z4, hlt6]) rfl ?_
      all_goals refine ⟨⟨.slice none 0 0, rfl, ⟨k64 6 (by omega) (by omega), in0, in0, hxs⟩, OwnS.nil _ _, ?_⟩, ?_⟩
      · exact (show RC (set5 w6 w.heap.size _ _ _ _ _) r s true l from (heap_set5 _ _ _ _ _ _ _ _ hr1).trans HR6.out).stay ((below22 _ _ _).drew)
      · exact (HT6.out.set5 w.heap.size (Nat.le_refl _) _ _ _ _ _).trans (Touch.of_below ((below22 _ _ _).drew))
  · rw [show mgStr s 6 x n l = none by unfold mgStr; rw [if_neg hn]]
    have hd : decide (((s.size : Int) - (x : Int)) < (n : Int)) = true := decide_eq_true (by omega)
    obtain ⟨q31, hr31⟩ : ∃ q, q = ((s[i].toNat : Nat) : Int) % 32 := ⟨_, rfl⟩
    have hrr : ((s[i].toNat : Nat) : Int) % 32 = q31 := hr31.symm
    have tno : lo = false ∨ (q31 == 31) = false := hno.imp id (fun h => by rw [hr31]; simp; omega)
    clear hno hr31
    cases lo
    · clear hrr tno
      go_enter Tryd.func138, Tryd.ntmps138
      go_wp2_with fail
      refine (HD.out _ HR5.out).mono ?_
      rintro e6 w6 ⟨he, hb6⟩
      obtain rfl := he
      have hz6 := hb6.size
      rw [hz5] at hz6
      have HR6 := Lib.hid (HR5.out.stay hb6)
      have HT6 := Lib.hid (HT5.out.trans (Touch.of_below hb6))
      have BZ6 := Lib.hid (BZ5.out.stay hb6)
      have hlt6 : w.heap.size < w6.heap.size := by omega
      clear z0 z1 z2 z3 z4 zf0 zf1 zf2 zf3 zf4 m0 m1 m2 mf hb6
      obtain ⟨m0, m1, m2, mf⟩ := HR6.out.cells
      obtain ⟨z0, z1, z2, z3, z4⟩ := BZ6.out.cells
      have zf0 := BZ6.out.free (i := 0); have zf1 := BZ6.out.free (i := 1); have zf2 := BZ6.out.free (i := 2); have zf3 := BZ6.out.free (i := 3); have zf4 := BZ6.out.free (i := 4)
      have hm1 : w.heap.size ≠ w6.heap.size := by omega
      have hm2 : w6.heap.size ≠ w.heap.size := by omega
      have hm3 : r ≠ w6.heap.size := by omega
      have hm4 : w6.heap.size ≠ r := by omega
      have hm5 : r < w6.heap.size := by omega
      have HR7 := Lib.hid (HR6.out.stay ((Below.refl _ _).alloc (Nat.le_refl _) (.cells #[.int .i64 0, .int .i64 0, .int .i64 0, .string ⟨#[]⟩, .slice none 0 0] 26)))
      have HT7 := Lib.hid (HT6.out.trans (Touch.of_below ((Below.refl _ _).alloc (Nat.le_refl _) (.cells #[.int .i64 0, .int .i64 0, .int .i64 0, .string ⟨#[]⟩, .slice none 0 0] 26))))
      have BZ7 := Lib.hid (BZ6.out.alloc (.cells #[.int .i64 0, .int .i64 0, .int .i64 0, .string ⟨#[]⟩, .slice none 0 0] 26))
      have BV7 := Lib.hid (Box.new w6 0 0 0 ⟨#[]⟩ (.slice none 0 0) 26)
      have hz7 : (w6.alloc (.cells #[.int .i64 0, .int .i64 0, .int .i64 0, .string ⟨#[]⟩, .slice none 0 0] 26)).heap.size = w6.heap.size + 1 := by simp
      obtain ⟨y0, y1, y2, y3, y4⟩ := BV7.out.cells
      have yf0 := BV7.out.free (i := 0); have yf1 := BV7.out.free (i := 1); have yf2 := BV7.out.free (i := 2); have yf3 := BV7.out.free (i := 3); have yf4 := BV7.out.free (i := 4)
      go_wp2_with fail
      refine bodyPost_ret (v := .tuple #[.agg #[.int .i64 0, .int .i64 0, .int .i64 0, .string ⟨#[]⟩, .slice none 0 0], .int .i64 (-1)]) (by simp [results, Tryd.results138, go_sem, z0, z1, z2, z3, z4, hlt6]) rfl (cg_fail ((HT6.out.set5 w.heap.size (Nat.le_refl _) _ _ _ _ _).trans (Touch.of_below ((Below.refl _ _).alloc (Nat.le_refl _) _))))
    · have t31 : (q31 == 31) = false := tno.resolve_left (by simp)
      clear tno
      go_enter Tryd.func138, Tryd.ntmps138
      go_wp2_with fail
      refine (HD.out _ HR5.out).mono ?_
      rintro e6 w6 ⟨he, hb6⟩
      obtain rfl := he
      have hz6 := hb6.size
      rw [hz5] at hz6
      have HR6 := Lib.hid (HR5.out.stay hb6)
      have HT6 := Lib.hid (HT5.out.trans (Touch.of_below hb6))
      have BZ6 := Lib.hid (BZ5.out.stay hb6)
      have hlt6 : w.heap.size < w6.heap.size := by omega
      clear z0 z1 z2 z3 z4 zf0 zf1 zf2 zf3 zf4 m0 m1 m2 mf hb6
      obtain ⟨m0, m1, m2, mf⟩ := HR6.out.cells
      obtain ⟨z0, z1, z2, z3, z4⟩ := BZ6.out.cells
      have zf0 := BZ6.out.free (i := 0); have zf1 := BZ6.out.free (i := 1); have zf2 := BZ6.out.free (i := 2); have zf3 := BZ6.out.free (i := 3); have zf4 := BZ6.out.free (i := 4)
      have hm1 : w.heap.size ≠ w6.heap.size := by omega
      have hm2 : w6.heap.size ≠ w.heap.size := by omega
      have hm3 : r ≠ w6.heap.size := by omega
      have hm4 : w6.heap.size ≠ r := by omega
      have hm5 : r < w6.heap.size := by omega
      have HR7 := Lib.hid (HR6.out.stay ((Below.refl _ _).alloc (Nat.le_refl _) (.cells #[.int .i64 0, .int .i64 0, .int .i64 0, .string ⟨#[]⟩, .slice none 0 0] 26)))
      have HT7 := Lib.hid (HT6.out.trans (Touch.of_below ((Below.refl _ _).alloc (Nat.le_refl _) (.cells #[.int .i64 0, .int .i64 0, .int .i64 0, .string ⟨#[]⟩, .slice none 0 0] 26))))
      have BZ7 := Lib.hid (BZ6.out.alloc (.cells #[.int .i64 0, .int .i64 0, .int .i64 0, .string ⟨#[]⟩, .slice none 0 0] 26))
      have BV7 := Lib.hid (Box.new w6 0 0 0 ⟨#[]⟩ (.slice none 0 0) 26)
      have hz7 : (w6.alloc (.cells #[.int .i64 0, .int .i64 0, .int .i64 0, .string ⟨#[]⟩, .slice none 0 0] 26)).heap.size = w6.heap.size + 1 := by simp
      obtain ⟨y0, y1, y2, y3, y4⟩ := BV7.out.cells
      have yf0 := BV7.out.free (i := 0); have yf1 := BV7.out.free (i := 1); have yf2 := BV7.out.free (i := 2); have yf3 := BV7.out.free (i := 3); have yf4 := BV7.out.free (i := 4)
      go_wp2_with fail
      refine bodyPost_ret (v := .tuple #[.agg #[.int .i64 0, .int .i64 0, .int .i64 0, .string ⟨#[]⟩, .slice none 0 0], .int .i64 (-1)]) (by simp [results, Tryd.results138, go_sem, z0, z1, z2, z3, z4, hlt6]) rfl (cg_fail ((HT6.out.set5 w.heap.size (Nat.le_refl _) _ _ _ _ _).trans (Touch.of_below ((Below.refl _ _).alloc (Nat.le_refl _) _))))
set_option maxHeartbeats 8000000 in
theorem lget_str3 (r : Nat) (s : ByteArray) (hs : s.size ≤ 1048576) (lo : Bool) (g : Nat → Nat → MG) (hg : ∀ i l, CGood s i l (g i l)) (deep : Int) (hdp : 0 ≤ deep ∧ deep ≤ 14)
    (hG : ∀ (i l : Nat) (W : World), i ≤ s.size → l ≤ 1204 → RC W r s lo l → Calls Tryd.prog 138 #[.pointer (some ⟨r, 0, none⟩), .int .i64 i, .int .i64 (deep + 1)] W (CgRet r s lo (g i l) W))
    (i l : Nat) (hi : i < s.size) (hl : l + 1 ≤ 1204) (w : World) (hR : RC w r s lo ((l + 1 : Nat) : Int)) (hno : lo = false ∨ s[i].toNat % 32 ≠ 31) (a n x : Nat) (hh : hdR lo s i = some (a, n, x)) (ha : a = 3) :
    Calls Tryd.prog 138 #[.pointer (some ⟨r, 0, none⟩), .int .i64 i, .int .i64 deep] w (CgRet r s lo (mgStr s 5 x n l) w) := by
  have hrw := hR.lt
  have HR := Lib.hid hR
  obtain ⟨m0, m1, m2, mf⟩ := hR.cells
  obtain ⟨hdp0, hdp1⟩ := hdp
  have t14 : decide (14 < deep) = false := decide_eq_false (by omega)
  have hbl : ((s[i].toNat : Nat) : Int) < 256 := by have := s[i].toNat_lt; omega
  have hr1 : r ≠ w.heap.size := by omega
  have hr2 : w.heap.size ≠ r := by omega
  have HR5 := Lib.hid (show RC ((w.setCell ⟨r, 2, none⟩ (.int .i64 (l : Int))).alloc (.cells #[.int .i64 0, .int .i64 0, .int .i64 0, .string ⟨#[]⟩, .slice none 0 0] 26)) r s lo (l : Int) from (HR.out.set l).stay ((Below.refl _ _).alloc (Nat.le_refl _) _))
  have HT5 := Lib.hid (show Touch (fun x => x = r) (fun x => x = r) w ((w.setCell ⟨r, 2, none⟩ (.int .i64 (l : Int))).alloc (.cells #[.int .i64 0, .int .i64 0, .int .i64 0, .string ⟨#[]⟩, .slice none 0 0] 26)) from ((Touch.refl _ w).cellD _).trans (Touch.of_below ((Below.refl _ _).alloc (Nat.le_refl _) _)))
  have BZ5 := Lib.hid (show Box ((w.setCell ⟨r, 2, none⟩ (.int .i64 (l : Int))).alloc (.cells #[.int .i64 0, .int .i64 0, .int .i64 0, .string ⟨#[]⟩, .slice none 0 0] 26)) w.heap.size 0 0 0 ⟨#[]⟩ (.slice none 0 0) 26 from heap_alloc_here _ (by simp))
  have hz5 : ((w.setCell ⟨r, 2, none⟩ (.int .i64 (l : Int))).alloc (.cells #[.int .i64 0, .int .i64 0, .int .i64 0, .string ⟨#[]⟩, .slice none 0 0] 26)).heap.size = w.heap.size + 1 := by simp
  have BZ := Lib.hid (Box.new w 0 0 0 ⟨#[]⟩ (.slice none 0 0) 26)
  obtain ⟨z0, z1, z2, z3, z4⟩ := BZ.out.cells
  have zf0 := BZ.out.free (i := 0); have zf1 := BZ.out.free (i := 1); have zf2 := BZ.out.free (i := 2); have zf3 := BZ.out.free (i := 3); have zf4 := BZ.out.free (i := 4)
  have HD := Lib.hid (fun W (h : RC W r s lo (l : Int)) => show Calls Tryd.prog 212 #[.pointer (some ⟨r, 0, none⟩), .int .i64 i] W fun e w' => HdRet (some (a, n, x)) e ∧ Below W.heap.size W w' from by
    have := l05Head_any r s hs lo i (by omega) l W h
    rw [hh] at this; exact this)
  have hx := hdR_some hh
  obtain ⟨hx1, hx2, hx3, hx4, hx5⟩ := hx
  clear hx5
  subst ha
  clear hh hG hg hR
  by_cases hn : x + n ≤ s.size
  · rw [show mgStr s 5 x n l = some (.mk 5 0 0 (s.extract x (x + n)) [], x + n, l) by unfold mgStr; rw [if_pos hn]]
    have hd : decide (((s.size : Int) - (x : Int)) < (n : Int)) = false := decide_eq_false (by omega)
    have hxs : (s.extract x (x + n)).size ≤ 9223372036854775807 := by rw [ByteArray.size_extract]; omega
    obtain ⟨q31, hr31⟩ : ∃ q, q = ((s[i].toNat : Nat) : Int) % 32 := ⟨_, rfl⟩
    have hrr : ((s[i].toNat : Nat) : Int) % 32 = q31 := hr31.symm
    have tno : lo = false ∨ (q31 == 31) = false := hno.imp id (fun h => by rw [hr31]; simp; omega)
    clear hno hr31
    cases lo
    · clear hrr tno
      go_enter Tryd.func138, Tryd.ntmps138
      go_wp2_with fail
      refine (HD.out _ HR5.out).mono ?_
      rintro e6 w6 ⟨he, hb6⟩
      obtain rfl := he
      have hz6 := hb6.size
      rw [hz5] at hz6
      have HR6 := Lib.hid (HR5.out.stay hb6)
      have HT6 := Lib.hid (HT5.out.trans (Touch.of_below hb6))
      have BZ6 := Lib.hid (BZ5.out.stay hb6)
      have hlt6 : w.heap.size < w6.heap.size := by omega
      clear z0 z1 z2 z3 z4 zf0 zf1 zf2 zf3 zf4 m0 m1 m2 mf hb6
      obtain ⟨m0, m1, m2, mf⟩ := HR6.out.cells
      obtain ⟨z0, z1, z2, z3, z4⟩ := BZ6.out.cells
      have zf0 := BZ6.out.free (i := 0); have zf1 := BZ6.out.free (i := 1); have zf2 := BZ6.out.free (i := 2); have zf3 := BZ6.out.free (i := 3); have zf4 := BZ6.out.free (i := 4)
      have hm1 : w.heap.size ≠ w6.heap.size := by omega
      have hm2 : w6.heap.size ≠ w.heap.size := by omega
      have hm3 : r ≠ w6.heap.size := by omega
      have hm4 : w6.heap.size ≠ r := by omega
      have hm5 : r < w6.heap.size := by omega
      have HR7 := Lib.hid (HR6.out.stay ((Below.refl _ _).alloc (Nat.le_refl _) (.cells #[.int .i64 0, .int .i64 0, .int .i64 0, .string ⟨#[]⟩, .slice none 0 0] 26)))
      have HT7 := Lib.hid (HT6.out.trans (Touch.of_below ((Below.refl _ _).alloc (Nat.le_refl _) (.cells #[.int .i64 0, .int .i64 0, .int .i64 0, .string ⟨#[]⟩, .slice none 0 0] 26))))
      have BZ7 := Lib.hid (BZ6.out.alloc (.cells #[.int .i64 0, .int .i64 0, .int .i64 0, .string ⟨#[]⟩, .slice none 0 0] 26))
      have BV7 := Lib.hid (Box.new w6 0 0 0 ⟨#[]⟩ (.slice none 0 0) 26)
      have hz7 : (w6.alloc (.cells #[.int .i64 0, .int .i64 0, .int .i64 0, .string ⟨#[]⟩, .slice none 0 0] 26)).heap.size = w6.heap.size + 1 := by simp
      obtain ⟨y0, y1, y2, y3, y4⟩ := BV7.out.cells
      have yf0 := BV7.out.free (i := 0); have yf1 := BV7.out.free (i := 1); have yf2 := BV7.out.free (i := 2); have yf3 := BV7.out.free (i := 3); have yf4 := BV7.out.free (i := 4)
      go_wp2_with fail
      go_region
      all_goals go_wp2_with fail
      all_goals refine bodyPost_ret (v := .tuple #[.agg #[.int .i64 5, .int .i64 0, .int .i64 0, .string (s.extract x (x + n)), .slice none 0 0], .int .i64 ((x + n : Nat) : Int)]) (by simp [results, Tryd.results138, go_sem, z0, z1, z2, z3, z4, hlt6]) rfl ?_
      all_goals refine ⟨⟨.slice none 0 0, rfl, ⟨k64 5 (by omega) (by omega), in0, in0, hxs⟩, OwnS.nil _ _, ?_⟩, ?_⟩
      · exact (show RC (set5 w6 w.heap.size _ _ _ _ _) r s false l from (heap_set5 _ _ _ _ _ _ _ _ hr1).trans HR6.out).stay ((below22 _ _ _).drew)
      · exact (HT6.out.set5 w.heap.size (Nat.le_refl _) _ _ _ _ _).trans (Touch.of_below ((below22 _ _ _).drew))
    · have t31 : (q31 == 31) = false := tno.resolve_left (by simp)
      clear tno
      go_enter Tryd.func138, Tryd.ntmps138
      go_wp2_with fail
      refine (HD.out _ HR5.out).mono ?_
      rintro e6 w6 ⟨he, hb6⟩
      obtain rfl := he
      have hz6 := hb6.size
      rw [hz5] at hz6
      have HR6 := Lib.hid (HR5.out.stay hb6)
      have HT6 := Lib.hid (HT5.out.trans (Touch.of_below hb6))
      have BZ6 := Lib.hid (BZ5.out.stay hb6)
      have hlt6 : w.heap.size < w6.heap.size := by omega
      clear z0 z1 z2 z3 z4 zf0 zf1 zf2 zf3 zf4 m0 m1 m2 mf hb6
      obtain ⟨m0, m1, m2, mf⟩ := HR6.out.cells
      obtain ⟨z0, z1, z2, z3, z4⟩ := BZ6.out.cells
      have zf0 := BZ6.out.free (i := 0); have zf1 := BZ6.out.free (i := 1); have zf2 := BZ6.out.free (i := 2); have zf3 := BZ6.out.free (i := 3); have zf4 := BZ6.out.free (i := 4)
      have hm1 : w.heap.size ≠ w6.heap.size := by omega
      have hm2 : w6.heap.size ≠ w.heap.size := by omega
      have hm3 : r ≠ w6.heap.size := by omega
      have hm4 : w6.heap.size ≠ r := by omega
      have hm5 : r < w6.heap.size := by omega
      have HR7 := Lib.hid (HR6.out.stay ((Below.refl _ _).alloc (Nat.le_refl _) (.cells #[.int .i64 0, .int .i64 0, .int .i64 0, .string ⟨#[]⟩, .slice none 0 0] 26)))
      have HT7 := Lib.hid (HT6.out.trans (Touch.of_below ((Below.refl _ _).alloc (Nat.le_refl _) (.cells #[.int .i64 0, .int .i64 0, .int .i64 0, .string ⟨#[]⟩, .slice none 0 0] 26))))
      have BZ7 := Lib.hid (BZ6.out.alloc (.cells #[.int .i64 0, .int .i64 0, .int .i64 0, .string ⟨#[]⟩, .slice none 0 0] 26))
      have BV7 := Lib.hid (Box.new w6 0 0 0 ⟨#[]⟩ (.slice none 0 0) 26)
      have hz7 : (w6.alloc (.cells #[.int .i64 0, .int .i64 0, .int .i64 0, .string ⟨#[]⟩, .slice none 0 0] 26)).heap.size = w6.heap.size + 1 := by simp
      obtain ⟨y0, y1, y2, y3, y4⟩ := BV7.out.cells
      have yf0 := BV7.out.free (i := 0); have yf1 := BV7.out.free (i := 1); have yf2 := BV7.out.free (i := 2); have yf3 := BV7.out.free (i := 3); have yf4 := BV7.out.free (i := 4)
      go_wp2_with fail
      go_region
      all_goals go_wp2_with fail
      all_goals refine bodyPost_ret (v := .tuple #[.agg #[.int .i64 5, .int .i64 0, .int .i64 0, .string (s.extract x (x + n)), .slice none 0 0], .int .i64 ((x + n : Nat) : Int)]) (by simp [results, Tryd.results138, go_sem, z0, z1, z2, z3, z4, hlt6]) rfl ?_
      all_goals refine ⟨⟨.slice none 0 0, rfl, ⟨k64 5 (by omega) (by omega), in0, in0, hxs⟩, OwnS.nil _ _, ?_⟩, ?_⟩
      · exact (show RC (set5 w6 w.heap.size _ _ _ _ _) r s true l from (heap_set5 _ _ _ _ _ _ _ _ hr1).trans HR6.out).stay ((below22 _ _ _).drew)
      · exact (HT6.out.set5 w.heap.size (Nat.le_refl _) _ _ _ _ _).trans (Touch.of_below ((below22 _ _ _).drew))
  · rw [show mgStr s 5 x n l = none by unfold mgStr; rw [if_neg hn]]
    have hd : decide (((s.size : Int) - (x : Int)) < (n : Int)) = true := decide_eq_true (by omega)
    obtain ⟨q31, hr31⟩ : ∃ q, q = ((s[i].toNat : Nat) : Int) % 32 := ⟨_, rfl⟩
    have hrr : ((s[i].toNat : Nat) : Int) % 32 = q31 := hr31.symm
    have tno : lo = false ∨ (q31 == 31) = false := hno.imp id (fun h => by rw [hr31]; simp; omega)
    clear hno hr31
    cases lo
    · clear hrr tno
      go_enter Tryd.func138, Tryd.ntmps138
      go_wp2_with fail
      refine (HD.out _ HR5.out).mono ?_
      rintro e6 w6 ⟨he, hb6⟩
      obtain rfl := he
      have hz6 := hb6.size
      rw [hz5] at hz6
      have HR6 := Lib.hid (HR5.out.stay hb6)
      have HT6 := Lib.hid (HT5.out.trans (Touch.of_below hb6))
      have BZ6 := Lib.hid (BZ5.out.stay hb6)
      have hlt6 : w.heap.size < w6.heap.size := by omega
      clear z0 z1 z2 z3 z4 zf0 zf1 zf2 zf3 zf4 m0 m1 m2 mf hb6
      obtain ⟨m0, m1, m2, mf⟩ := HR6.out.cells
      obtain ⟨z0, z1, z2, z3, z4⟩ := BZ6.out.cells
      have zf0 := BZ6.out.free (i := 0); have zf1 := BZ6.out.free (i := 1); have zf2 := BZ6.out.free (i := 2); have zf3 := BZ6.out.free (i := 3); have zf4 := BZ6.out.free (i := 4)
      have hm1 : w.heap.size ≠ w6.heap.size := by omega
      have hm2 : w6.heap.size ≠ w.heap.size := by omega
      have hm3 : r ≠ w6.heap.size := by omega
      have hm4 : w6.heap.size ≠ r := by omega
      have hm5 : r < w6.heap.size := by omega
      have HR7 := Lib.hid (HR6.out.stay ((Below.refl _ _).alloc (Nat.le_refl _) (.cells #[.int .i64 0, .int .i64 0, .int .i64 0, .string ⟨#[]⟩, .slice none 0 0] 26)))
      have HT7 := Lib.hid (HT6.out.trans (Touch.of_below ((Below.refl _ _).alloc (Nat.le_refl _) (.cells #[.int .i64 0, .int .i64 0, .int .i64 0, .string ⟨#[]⟩, .slice none 0 0] 26))))
      have BZ7 := Lib.hid (BZ6.out.alloc (.cells #[.int .i64 0, .int .i64 0, .int .i64 0, .string ⟨#[]⟩, .slice none 0 0] 26))
      have BV7 := Lib.hid (Box.new w6 0 0 0 ⟨#[]⟩ (.slice none 0 0) 26)
      have hz7 : (w6.alloc (.cells #[.int .i64 0, .int .i64 0, .int .i64 0, .string ⟨#[]⟩, .slice none 0 0] 26)).heap.size = w6.heap.size + 1 := by simp
      obtain ⟨y0, y1, y2, y3, y4⟩ := BV7.out.cells
      have yf0 := BV7.out.free (i := 0); have yf1 := BV7.out.free (i := 1); have yf2 := BV7.out.free (i := 2); have yf3 := BV7.out.free (i := 3); have yf4 := BV7.out.free (i := 4)
      go_wp2_with fail
      refine bodyPost_ret (v := .tuple #[.agg #[.int .i64 0, .int .i64 0, .int .i64 0, .string ⟨#[]⟩, .slice none 0 0], .int .i64 (-1)]) (by simp [results, Tryd.results138, go_sem, z0, z1, z2, z3, z4, hlt6]) rfl (cg_fail ((HT6.out.set5 w.heap.size (Nat.le_refl _) _ _ _ _ _).trans (Touch.of_below ((Below.refl _ _).alloc (Nat.le_refl _) _))))
    · have t31 : (q31 == 31) = false := tno.resolve_left (by simp)
      clear tno
      go_enter Tryd.func138, Tryd.ntmps138
      go_wp2_with fail
      refine (HD.out _ HR5.out).mono ?_
      rintro e6 w6 ⟨he, hb6⟩
      obtain rfl := he
      have hz6 := hb6.size
      rw [hz5] at hz6
      have HR6 := Lib.hid (HR5.out.stay hb6)
      have HT6 := Lib.hid (HT5.out.trans (Touch.of_below hb6))
      have BZ6 := Lib.hid (BZ5.out.stay hb6)
      have hlt6 : w.heap.size < w6.heap.size := by omega
      clear z0 z1 z2 z3 z4 zf0 zf1 zf2 zf3 zf4 m0 m1 m2 mf hb6
      obtain ⟨m0, m1, m2, mf⟩ := HR6.out.cells
      obtain ⟨z0, z1, z2, z3, z4⟩ := BZ6.out.cells
      have zf0 := BZ6.out.free (i := 0); have zf1 := BZ6.out.free (i := 1); have zf2 := BZ6.out.free (i := 2); have zf3 := BZ6.out.free (i := 3); have zf4 := BZ6.out.free (i := 4)
      have hm1 : w.heap.size ≠ w6.heap.size := by omega
      have hm2 : w6.heap.size ≠ w.heap.size := by omega
      have hm3 : r ≠ w6.heap.size := by omega
      have hm4 : w6.heap.size ≠ r := by omega
      have hm5 : r < w6.heap.size := by omega
      have HR7 := Lib.hid (HR6.out.stay ((Below.refl _ _).alloc (Nat.le_refl _) (.cells #[.int .i64 0, .int .i64 0, .int .i64 0, .string ⟨#[]⟩, .slice none 0 0] 26)))
      have HT7 := Lib.hid (HT6.out.trans (Touch.of_below ((Below.refl _ _).alloc (Nat.le_refl _) (.cells #[.int .i64 0, .int .i64 0, .int .i64 0, .string ⟨#[]⟩, .slice none 0 0] 26))))
      have BZ7 := Lib.hid (BZ6.out.alloc (.cells #[.int .i64 0, .int .i64 0, .int .i64 0, .string ⟨#[]⟩, .slice none 0 0] 26))
      have BV7 := Lib.hid (Box.new w6 0 0 0 ⟨#[]⟩ (.slice none 0 0) 26)
      have hz7 : (w6.alloc (.cells #[.int .i64 0, .int .i64 0, .int .i64 0, .string ⟨#[]⟩, .slice none 0 0] 26)).heap.size = w6.heap.size + 1 := by simp
      obtain ⟨y0, y1, y2, y3, y4⟩ := BV7.out.cells
      have yf0 := BV7.out.free (i := 0); have yf1 := BV7.out.free (i := 1); have yf2 := BV7.out.free (i := 2); have yf3 := BV7.out.free (i := 3); have yf4 := BV7.out.free (i := 4)
      go_wp2_with fail
      refine bodyPost_ret (v := .tuple #[.agg #[.int .i64 0, .int .i64 0, .int .i64 0, .string ⟨#[]⟩, .slice none 0 0], .int .i64 (-1)]) (by simp [results, Tryd.results138, go_sem, z0, z1, z2, z3, z4, hlt6]) rfl (cg_fail ((HT6.out.set5 w.heap.size (Nat.le_refl _) _ _ _ _ _).trans (Touch.of_below ((Below.refl _ _).alloc (Nat.le_refl _) _))))
set_option maxHeartbeats 8000000 in
theorem lget_kids4 (r : Nat) (s : ByteArray) (hs : s.size ≤ 1048576) (lo : Bool) (g : Nat → Nat → MG) (hg : ∀ i l, CGood s i l (g i l)) (deep : Int) (hdp : 0 ≤ deep ∧ deep ≤ 14)
    (hG : ∀ (i l : Nat) (W : World), i ≤ s.size → l ≤ 1204 → RC W r s lo l → Calls Tryd.prog 138 #[.pointer (some ⟨r, 0, none⟩), .int .i64 i, .int .i64 (deep + 1)] W (CgRet r s lo (g i l) W))
    (i l : Nat) (hi : i < s.size) (hl : l + 1 ≤ 1204) (w : World) (hR : RC w r s lo ((l + 1 : Nat) : Int)) (hno : lo = false ∨ s[i].toNat % 32 ≠ 31) (a n x : Nat) (hh : hdR lo s i = some (a, n, x)) (ha : a = 4) :
    Calls Tryd.prog 138 #[.pointer (some ⟨r, 0, none⟩), .int .i64 i, .int .i64 deep] w (CgRet r s lo (if 300 < n then none else mgNode 7 0 (mgKids g n x l)) w) := by
  have hrw := hR.lt
  have HR := Lib.hid hR
  obtain ⟨m0, m1, m2, mf⟩ := hR.cells
  obtain ⟨hdp0, hdp1⟩ := hdp
  have t14 : decide (14 < deep) = false := decide_eq_false (by omega)
  have hbl : ((s[i].toNat : Nat) : Int) < 256 := by have := s[i].toNat_lt; omega
  have hr1 : r ≠ w.heap.size := by omega
  have hr2 : w.heap.size ≠ r := by omega
  have HR5 := Lib.hid (show RC ((w.setCell ⟨r, 2, none⟩ (.int .i64 (l : Int))).alloc (.cells #[.int .i64 0, .int .i64 0, .int .i64 0, .string ⟨#[]⟩, .slice none 0 0] 26)) r s lo (l : Int) from (HR.out.set l).stay ((Below.refl _ _).alloc (Nat.le_refl _) _))
  have HT5 := Lib.hid (show Touch (fun x => x = r) (fun x => x = r) w ((w.setCell ⟨r, 2, none⟩ (.int .i64 (l : Int))).alloc (.cells #[.int .i64 0, .int .i64 0, .int .i64 0, .string ⟨#[]⟩, .slice none 0 0] 26)) from ((Touch.refl _ w).cellD _).trans (Touch.of_below ((Below.refl _ _).alloc (Nat.le_refl _) _)))
  have BZ5 := Lib.hid (show Box ((w.setCell ⟨r, 2, none⟩ (.int .i64 (l : Int))).alloc (.cells #[.int .i64 0, .int .i64 0, .int .i64 0, .string ⟨#[]⟩, .slice none 0 0] 26)) w.heap.size 0 0 0 ⟨#[]⟩ (.slice none 0 0) 26 from heap_alloc_here _ (by simp))
  have hz5 : ((w.setCell ⟨r, 2, none⟩ (.int .i64 (l : Int))).alloc (.cells #[.int .i64 0, .int .i64 0, .int .i64 0, .string ⟨#[]⟩, .slice none 0 0] 26)).heap.size = w.heap.size + 1 := by simp
  have BZ := Lib.hid (Box.new w 0 0 0 ⟨#[]⟩ (.slice none 0 0) 26)
  obtain ⟨z0, z1, z2, z3, z4⟩ := BZ.out.cells
  have zf0 := BZ.out.free (i := 0); have zf1 := BZ.out.free (i := 1); have zf2 := BZ.out.free (i := 2); have zf3 := BZ.out.free (i := 3); have zf4 := BZ.out.free (i := 4)
  have HD := Lib.hid (fun W (h : RC W r s lo (l : Int)) => show Calls Tryd.prog 212 #[.pointer (some ⟨r, 0, none⟩), .int .i64 i] W fun e w' => HdRet (some (a, n, x)) e ∧ Below W.heap.size W w' from by
    have := l05Head_any r s hs lo i (by omega) l W h
    rw [hh] at this; exact this)
  have hx := hdR_some hh
  obtain ⟨hx1, hx2, hx3, hx4, hx5⟩ := hx
  clear hx5
  subst ha
  have KC := Lib.hid (fun (hn : n ≤ 300) W (h : RC W r s lo (l : Int)) => show Calls Tryd.prog 214 #[.pointer (some ⟨r, 0, none⟩), .int .i64 x, .int .i64 (n : Int), .int .i64 deep] W (CkRet r s lo (mgKids g n x l) W) from by
    have := l05Kids_any r s hs lo g hg deep (by omega) hG n x l hx2 (by omega) W h (by omega)
    exact this)
  clear hh hG hg hR
  by_cases hn : 300 < n
  · rw [if_pos hn]
    have hd : decide ((300 : Int) < (n : Int)) = true := decide_eq_true (by omega)
    obtain ⟨q31, hr31⟩ : ∃ q, q = ((s[i].toNat : Nat) : Int) % 32 := ⟨_, rfl⟩
    have hrr : ((s[i].toNat : Nat) : Int) % 32 = q31 := hr31.symm
    have tno : lo = false ∨ (q31 == 31) = false := hno.imp id (fun h => by rw [hr31]; simp; omega)
    clear hno hr31
    cases lo
    · clear hrr tno
      go_enter Tryd.func138, Tryd.ntmps138
      go_wp2_with fail
      refine (HD.out _ HR5.out).mono ?_
      rintro e6 w6 ⟨he, hb6⟩
      obtain rfl := he
      have hz6 := hb6.size
      rw [hz5] at hz6
      have HR6 := Lib.hid (HR5.out.stay hb6)
      have HT6 := Lib.hid (HT5.out.trans (Touch.of_below hb6))
      have BZ6 := Lib.hid (BZ5.out.stay hb6)
      have hlt6 : w.heap.size < w6.heap.size := by omega
      clear z0 z1 z2 z3 z4 zf0 zf1 zf2 zf3 zf4 m0 m1 m2 mf hb6
      obtain ⟨m0, m1, m2, mf⟩ := HR6.out.cells
      obtain ⟨z0, z1, z2, z3, z4⟩ := BZ6.out.cells
      have zf0 := BZ6.out.free (i := 0); have zf1 := BZ6.out.free (i := 1); have zf2 := BZ6.out.free (i := 2); have zf3 := BZ6.out.free (i := 3); have zf4 := BZ6.out.free (i := 4)
      have hm1 : w.heap.size ≠ w6.heap.size := by omega
      have hm2 : w6.heap.size ≠ w.heap.size := by omega
      have hm3 : r ≠ w6.heap.size := by omega
      have hm4 : w6.heap.size ≠ r := by omega
      have hm5 : r < w6.heap.size := by omega
      have HR7 := Lib.hid (HR6.out.stay ((Below.refl _ _).alloc (Nat.le_refl _) (.cells #[.int .i64 0, .int .i64 0, .int .i64 0, .string ⟨#[]⟩, .slice none 0 0] 26)))
      have HT7 := Lib.hid (HT6.out.trans (Touch.of_below ((Below.refl _ _).alloc (Nat.le_refl _) (.cells #[.int .i64 0, .int .i64 0, .int .i64 0, .string ⟨#[]⟩, .slice none 0 0] 26))))
      have BZ7 := Lib.hid (BZ6.out.alloc (.cells #[.int .i64 0, .int .i64 0, .int .i64 0, .string ⟨#[]⟩, .slice none 0 0] 26))
      have BV7 := Lib.hid (Box.new w6 0 0 0 ⟨#[]⟩ (.slice none 0 0) 26)
      have hz7 : (w6.alloc (.cells #[.int .i64 0, .int .i64 0, .int .i64 0, .string ⟨#[]⟩, .slice none 0 0] 26)).heap.size = w6.heap.size + 1 := by simp
      obtain ⟨y0, y1, y2, y3, y4⟩ := BV7.out.cells
      have yf0 := BV7.out.free (i := 0); have yf1 := BV7.out.free (i := 1); have yf2 := BV7.out.free (i := 2); have yf3 := BV7.out.free (i := 3); have yf4 := BV7.out.free (i := 4)
      go_wp2_with fail
      refine bodyPost_ret (v := .tuple #[.agg #[.int .i64 0, .int .i64 0, .int .i64 0, .string ⟨#[]⟩, .slice none 0 0], .int .i64 (-1)]) (by simp [results, Tryd.results138, go_sem, z0, z1, z2, z3, z4, hlt6]) rfl (cg_fail ((HT6.out.set5 w.heap.size (Nat.le_refl _) _ _ _ _ _).trans (Touch.of_below ((Below.refl _ _).alloc (Nat.le_refl _) _))))
    · have t31 : (q31 == 31) = false := tno.resolve_left (by simp)
      clear tno
      go_enter Tryd.func138, Tryd.ntmps138
      go_wp2_with fail
      refine (HD.out _ HR5.out).mono ?_
      rintro e6 w6 ⟨he, hb6⟩
      obtain rfl := he
      have hz6 := hb6.size
      rw [hz5] at hz6
      have HR6 := Lib.hid (HR5.out.stay hb6)
      have HT6 := Lib.hid (HT5.out.trans (Touch.of_below hb6))
      have BZ6 := Lib.hid (BZ5.out.stay hb6)
      have hlt6 : w.heap.size < w6.heap.size := by omega
      clear z0 z1 z2 z3 z4 zf0 zf1 zf2 zf3 zf4 m0 m1 m2 mf hb6
      obtain ⟨m0, m1, m2, mf⟩ := HR6.out.cells
      obtain ⟨z0, z1, z2, z3, z4⟩ := BZ6.out.cells
      have zf0 := BZ6.out.free (i := 0); have zf1 := BZ6.out.free (i := 1); have zf2 := BZ6.out.free (i := 2); have zf3 := BZ6.out.free (i := 3); have zf4 := BZ6.out.free (i := 4)
      have hm1 : w.heap.size ≠ w6.heap.size := by omega
      have hm2 : w6.heap.size ≠ w.heap.size := by omega
      have hm3 : r ≠ w6.heap.size := by omega
      have hm4 : w6.heap.size ≠ r := by omega
      have hm5 : r < w6.heap.size := by omega
      have HR7 := Lib.hid (HR6.out.stay ((Below.refl _ _).alloc (Nat.le_refl _) (.cells #[.int .i64 0, .int .i64 0, .int .i64 0, .string ⟨#[]⟩, .slice none 0 0] 26)))
      have HT7 := Lib.hid (HT6.out.trans (Touch.of_below ((Below.refl _ _).alloc (Nat.le_refl _) (.cells #[.int .i64 0, .int .i64 0, .int .i64 0, .string ⟨#[]⟩, .slice none 0 0] 26))))
      have BZ7 := Lib.hid (BZ6.out.alloc (.cells #[.int .i64 0, .int .i64 0, .int .i64 0, .string ⟨#[]⟩, .slice none 0 0] 26))
      have BV7 := Lib.hid (Box.new w6 0 0 0 ⟨#[]⟩ (.slice none 0 0) 26)
      have hz7 : (w6.alloc (.cells #[.int .i64 0, .int .i64 0, .int .i64 0, .string ⟨#[]⟩, .slice none 0 0] 26)).heap.size = w6.heap.size + 1 := by simp
      obtain ⟨y0, y1, y2, y3, y4⟩ := BV7.out.cells
      have yf0 := BV7.out.free (i := 0); have yf1 := BV7.out.free (i := 1); have yf2 := BV7.out.free (i := 2); have yf3 := BV7.out.free (i := 3); have yf4 := BV7.out.free (i := 4)
      go_wp2_with fail
      refine bodyPost_ret (v := .tuple #[.agg #[.int .i64 0, .int .i64 0, .int .i64 0, .string ⟨#[]⟩, .slice none 0 0], .int .i64 (-1)]) (by simp [results, Tryd.results138, go_sem, z0, z1, z2, z3, z4, hlt6]) rfl (cg_fail ((HT6.out.set5 w.heap.size (Nat.le_refl _) _ _ _ _ _).trans (Touch.of_below ((Below.refl _ _).alloc (Nat.le_refl _) _))))
  · rw [if_neg hn]
    have hd : decide ((300 : Int) < (n : Int)) = false := decide_eq_false (by omega)
    have KC := Lib.hid (KC.out (by omega))
    generalize mgKids g n x l = o at *
    obtain ⟨q31, hr31⟩ : ∃ q, q = ((s[i].toNat : Nat) : Int) % 32 := ⟨_, rfl⟩
    have hrr : ((s[i].toNat : Nat) : Int) % 32 = q31 := hr31.symm
    have tno : lo = false ∨ (q31 == 31) = false := hno.imp id (fun h => by rw [hr31]; simp; omega)
    clear hno hr31
    cases lo
    · clear hrr tno
      go_enter Tryd.func138, Tryd.ntmps138
      go_wp2_with fail
      refine (HD.out _ HR5.out).mono ?_
      rintro e6 w6 ⟨he, hb6⟩
      obtain rfl := he
      have hz6 := hb6.size
      rw [hz5] at hz6
      have HR6 := Lib.hid (HR5.out.stay hb6)
      have HT6 := Lib.hid (HT5.out.trans (Touch.of_below hb6))
      have BZ6 := Lib.hid (BZ5.out.stay hb6)
      have hlt6 : w.heap.size < w6.heap.size := by omega
      clear z0 z1 z2 z3 z4 zf0 zf1 zf2 zf3 zf4 m0 m1 m2 mf hb6
      obtain ⟨m0, m1, m2, mf⟩ := HR6.out.cells
      obtain ⟨z0, z1, z2, z3, z4⟩ := BZ6.out.cells
      have zf0 := BZ6.out.free (i := 0); have zf1 := BZ6.out.free (i := 1); have zf2 := BZ6.out.free (i := 2); have zf3 := BZ6.out.free (i := 3); have zf4 := BZ6.out.free (i := 4)
      have hm1 : w.heap.size ≠ w6.heap.size := by omega
      have hm2 : w6.heap.size ≠ w.heap.size := by omega
      have hm3 : r ≠ w6.heap.size := by omega
      have hm4 : w6.heap.size ≠ r := by omega
      have hm5 : r < w6.heap.size := by omega
      have HW7 := Lib.hid (show Below w6.heap.size w6 ((w6.alloc (.cells #[.int .i64 7, .int .i64 0, .int .i64 0, .string ⟨#[]⟩, .slice none 0 0] 26)).alloc (.cells #[.int .i64 7, .int .i64 8] 3)) from below22 _ _ _)
      have HR7 := Lib.hid (HR6.out.stay HW7.out)
      have HT7 := Lib.hid (HT6.out.trans (Touch.of_below HW7.out))
      have BZ7 := Lib.hid ((BZ6.out.alloc (.cells #[.int .i64 7, .int .i64 0, .int .i64 0, .string ⟨#[]⟩, .slice none 0 0] 26)).alloc (.cells #[.int .i64 7, .int .i64 8] 3))
      have BV7 := Lib.hid ((Box.new w6 7 0 0 ⟨#[]⟩ (.slice none 0 0) 26).alloc (.cells #[.int .i64 7, .int .i64 8] 3))
      have hz7 : ((w6.alloc (.cells #[.int .i64 7, .int .i64 0, .int .i64 0, .string ⟨#[]⟩, .slice none 0 0] 26)).alloc (.cells #[.int .i64 7, .int .i64 8] 3)).heap.size = w6.heap.size + 1 + 1 := by simp
      go_wp2_with fail
      refine (KC.out _ HR7.out).mono ?_
      cases o with
      | none =>
        rintro e8 w8 ⟨⟨ua, un, uc, rfl⟩, ht8⟩
        have hz8 := ht8.size
        rw [hz7] at hz8
        have HT8 := Lib.hid (HT7.out.trans ht8)
        have BZ8 := Lib.hid (show Box w8 w.heap.size 0 0 0 ⟨#[]⟩ (.slice none 0 0) 26 from (ht8.block w.heap.size (by rw [hz7]; omega) hr2).trans BZ7.out)
        have BV8 := Lib.hid (show Box w8 w6.heap.size 7 0 0 ⟨#[]⟩ (.slice none 0 0) 26 from (ht8.block w6.heap.size (by rw [hz7]; omega) hm4).trans BV7.out)
        clear z0 z1 z2 z3 z4 zf0 zf1 zf2 zf3 zf4 m0 m1 m2 mf
        obtain ⟨z0, z1, z2, z3, z4⟩ := BZ8.out.cells
        have zf0 := BZ8.out.free (i := 0); have zf1 := BZ8.out.free (i := 1); have zf2 := BZ8.out.free (i := 2); have zf3 := BZ8.out.free (i := 3); have zf4 := BZ8.out.free (i := 4)
        obtain ⟨y0, y1, y2, y3, y4⟩ := BV8.out.cells
        have yf0 := BV8.out.free (i := 0); have yf1 := BV8.out.free (i := 1); have yf2 := BV8.out.free (i := 2); have yf3 := BV8.out.free (i := 3); have yf4 := BV8.out.free (i := 4)
        have hm6 : w6.heap.size < w8.heap.size := by omega
        have hm7 : w.heap.size < w8.heap.size := by omega
        have HP := Lib.hid (fun v0 v1 v2 v3 v4 => show CgRet r s false none w (.returned (.tuple #[.agg #[.int .i64 7, .int .i64 0, .int .i64 0, .string ⟨#[]⟩, .slice ua un uc], .int .i64 (-1)])) (set5 (w8.setCell ⟨w6.heap.size, 4, none⟩ (.slice ua un uc)) w.heap.size v0 v1 v2 v3 v4) from
          ⟨⟨.mk 7 0 0 ⟨#[]⟩ [], ua, un, uc, rfl⟩, (touch_new HT8.out w6.heap.size 4 (by omega) _).set5 w.heap.size (Nat.le_refl _) _ _ _ _ _⟩)
        clear ht8
        go_wp2_with fail
        refine bodyPost_ret (v := .tuple #[.agg #[.int .i64 7, .int .i64 0, .int .i64 0, .string ⟨#[]⟩, .slice ua un uc], .int .i64 (-1)]) (by simp [results, Tryd.results138, go_sem, z0, z1, z2, z3, z4]) rfl (HP.out _ _ _ _ _)
      | some q =>
        obtain ⟨us, j, m⟩ := q
        rintro e8 w8 ⟨⟨sl, rfl, ow, hrc⟩, ht8⟩
        obtain ⟨ua, un, uc, rfl⟩ : ∃ sa sn sc, sl = .slice sa sn sc := by obtain ⟨p, q, e⟩ := ow.slice; exact ⟨p, _, q, e⟩
        have hz8 := ht8.size
        rw [hz7] at hz8
        have HT8 := Lib.hid (HT7.out.trans ht8)
        have BZ8 := Lib.hid (show Box w8 w.heap.size 0 0 0 ⟨#[]⟩ (.slice none 0 0) 26 from (ht8.block w.heap.size (by rw [hz7]; omega) hr2).trans BZ7.out)
        have BV8 := Lib.hid (show Box w8 w6.heap.size 7 0 0 ⟨#[]⟩ (.slice none 0 0) 26 from (ht8.block w6.heap.size (by rw [hz7]; omega) hm4).trans BV7.out)
        clear z0 z1 z2 z3 z4 zf0 zf1 zf2 zf3 zf4 m0 m1 m2 mf
        obtain ⟨z0, z1, z2, z3, z4⟩ := BZ8.out.cells
        have zf0 := BZ8.out.free (i := 0); have zf1 := BZ8.out.free (i := 1); have zf2 := BZ8.out.free (i := 2); have zf3 := BZ8.out.free (i := 3); have zf4 := BZ8.out.free (i := 4)
        obtain ⟨y0, y1, y2, y3, y4⟩ := BV8.out.cells
        have yf0 := BV8.out.free (i := 0); have yf1 := BV8.out.free (i := 1); have yf2 := BV8.out.free (i := 2); have yf3 := BV8.out.free (i := 3); have yf4 := BV8.out.free (i := 4)
        have hm6 : w6.heap.size < w8.heap.size := by omega
        have hm7 : w.heap.size < w8.heap.size := by omega
        have HP := Lib.hid (fun v0 v1 v2 v3 v4 => show CgRet r s false (some (V.mk 7 0 0 ⟨#[]⟩ us, j, m)) w (.returned (.tuple #[.agg #[.int .i64 7, .int .i64 0, .int .i64 0, .string ⟨#[]⟩, .slice ua un uc], .int .i64 (j : Int)])) (set5 (w8.setCell ⟨w6.heap.size, 4, none⟩ (.slice ua un uc)) w.heap.size v0 v1 v2 v3 v4) from
          ⟨⟨.slice ua un uc, rfl, ⟨k64 7 (by omega) (by omega), in0, in0, by show ByteArray.size ⟨#[]⟩ ≤ _; simp [ByteArray.size]⟩, OwnS.mono (OwnS.set5 (OwnS.keep ow (w' := w8.setCell ⟨w6.heap.size, 4, none⟩ (.slice ua un uc)) (fun x hx _ => heap_setCell_other _ _ _ _ (fun e => by have e' : x = w6.heap.size := e; rw [hz7] at hx; omega))) w.heap.size (fun hx => by rw [hz7] at hx; omega) v0 v1 v2 v3 v4) (fun x hx => by rw [hz7] at hx; omega), (heap_set5 _ _ _ _ _ _ _ _ hr1).trans ((heap_setCell_other _ _ _ _ hm3).trans hrc)⟩, (touch_new HT8.out w6.heap.size 4 (by omega) _).set5 w.heap.size (Nat.le_refl _) _ _ _ _ _⟩)
        clear ht8 ow hrc
        go_wp2_with fail
        refine bodyPost_ret (v := .tuple #[.agg #[.int .i64 7, .int .i64 0, .int .i64 0, .string ⟨#[]⟩, .slice ua un uc], .int .i64 (j : Int)]) (by simp [results, Tryd.results138, go_sem, z0, z1, z2, z3, z4]) rfl (HP.out _ _ _ _ _)
    · have t31 : (q31 == 31) = false := tno.resolve_left (by simp)
      clear tno
      go_enter Tryd.func138, Tryd.ntmps138
      go_wp2_with fail
      refine (HD.out _ HR5.out).mono ?_
      rintro e6 w6 ⟨he, hb6⟩
      obtain rfl := he
      have hz6 := hb6.size
      rw [hz5] at hz6
      have HR6 := Lib.hid (HR5.out.stay hb6)
      have HT6 := Lib.hid (HT5.out.trans (Touch.of_below hb6))
      have BZ6 := Lib.hid (BZ5.out.stay hb6)
      have hlt6 : w.heap.size < w6.heap.size := by omega
      clear z0 z1 z2 z3 z4 zf0 zf1 zf2 zf3 zf4 m0 m1 m2 mf hb6
      obtain ⟨m0, m1, m2, mf⟩ := HR6.out.cells
      obtain ⟨z0, z1, z2, z3, z4⟩ := BZ6.out.cells
      have zf0 := BZ6.out.free (i := 0); have zf1 := BZ6.out.free (i := 1); have zf2 := BZ6.out.free (i := 2); have zf3 := BZ6.out.free (i := 3); have zf4 := BZ6.out.free (i := 4)
      have hm1 : w.heap.size ≠ w6.heap.size := by omega
      have hm2 : w6.heap.size ≠ w.heap.size := by omega
      have hm3 : r ≠ w6.heap.size := by omega
      have hm4 : w6.heap.size ≠ r := by omega
      have hm5 : r < w6.heap.size := by omega
      have HW7 := Lib.hid (show Below w6.heap.size w6 ((w6.alloc (.cells #[.int .i64 7, .int .i64 0, .int .i64 0, .string ⟨#[]⟩, .slice none 0 0] 26)).alloc (.cells #[.int .i64 7, .int .i64 8] 3)) from below22 _ _ _)
      have HR7 := Lib.hid (HR6.out.stay HW7.out)
      have HT7 := Lib.hid (HT6.out.trans (Touch.of_below HW7.out))
      have BZ7 := Lib.hid ((BZ6.out.alloc (.cells #[.int .i64 7, .int .i64 0, .int .i64 0, .string ⟨#[]⟩, .slice none 0 0] 26)).alloc (.cells #[.int .i64 7, .int .i64 8] 3))
      have BV7 := Lib.hid ((Box.new w6 7 0 0 ⟨#[]⟩ (.slice none 0 0) 26).alloc (.cells #[.int .i64 7, .int .i64 8] 3))
      have hz7 : ((w6.alloc (.cells #[.int .i64 7, .int .i64 0, .int .i64 0, .string ⟨#[]⟩, .slice none 0 0] 26)).alloc (.cells #[.int .i64 7, .int .i64 8] 3)).heap.size = w6.heap.size + 1 + 1 := by simp
      go_wp2_with fail
      refine (KC.out _ HR7.out).mono ?_
      cases o with
      | none =>
        rintro e8 w8 ⟨⟨ua, un, uc, rfl⟩, ht8⟩
        have hz8 := ht8.size
        rw [hz7] at hz8
        have HT8 := Lib.hid (HT7.out.trans ht8)
        have BZ8 := Lib.hid (show Box w8 w.heap.size 0 0 0 ⟨#[]⟩ (.slice none 0 0) 26 from (ht8.block w.heap.size (by rw [hz7]; omega) hr2).trans BZ7.out)
        have BV8 := Lib.hid (show Box w8 w6.heap.size 7 0 0 ⟨#[]⟩ (.slice none 0 0) 26 from (ht8.block w6.heap.size (by rw [hz7]; omega) hm4).trans BV7.out)
        clear z0 z1 z2 z3 z4 zf0 zf1 zf2 zf3 zf4 m0 m1 m2 mf
        obtain ⟨z0, z1, z2, z3, z4⟩ := BZ8.out.cells
        have zf0 := BZ8.out.free (i := 0); have zf1 := BZ8.out.free (i := 1); have zf2 := BZ8.out.free (i := 2); have zf3 := BZ8.out.free (i := 3); have zf4 := BZ8.out.free (i := 4)
        obtain ⟨y0, y1, y2, y3, y4⟩ := BV8.out.cells
        have yf0 := BV8.out.free (i := 0); have yf1 := BV8.out.free (i := 1); have yf2 := BV8.out.free (i := 2); have yf3 := BV8.out.free (i := 3); have yf4 := BV8.out.free (i := 4)
        have hm6 : w6.heap.size < w8.heap.size := by omega
        have hm7 : w.heap.size < w8.heap.size := by omega
        have HP := Lib.hid (fun v0 v1 v2 v3 v4 => show CgRet r s true none w (.returned (.tuple #[.agg #[.int .i64 7, .int .i64 0, .int .i64 0, .string ⟨#[]⟩, .slice ua un uc], .int .i64 (-1)])) (set5 (w8.setCell ⟨w6.heap.size, 4, none⟩ (.slice ua un uc)) w.heap.size v0 v1 v2 v3 v4) from
          ⟨⟨.mk 7 0 0 ⟨#[]⟩ [], ua, un, uc, rfl⟩, (touch_new HT8.out w6.heap.size 4 (by omega) _).set5 w.heap.size (Nat.le_refl _) _ _ _ _ _⟩)
        clear ht8
        go_wp2_with fail
        refine bodyPost_ret (v := .tuple #[.agg #[.int .i64 7, .int .i64 0, .int .i64 0, .string ⟨#[]⟩, .slice ua un uc], .int .i64 (-1)]) (by simp [results, Tryd.results138, go_sem, z0, z1, z2, z3, z4]) rfl (HP.out _ _ _ _ _)
      | some q =>
        obtain ⟨us, j, m⟩ := q
        rintro e8 w8 ⟨⟨sl, rfl, ow, hrc⟩, ht8⟩
        obtain ⟨ua, un, uc, rfl⟩ : ∃ sa sn sc, sl = .slice sa sn sc := by obtain ⟨p, q, e⟩ := ow.slice; exact ⟨p, _, q, e⟩
        have hz8 := ht8.size
        rw [hz7] at hz8
        have HT8 := Lib.hid (HT7.out.trans ht8)
        have BZ8 := Lib.hid (show Box w8 w.heap.size 0 0 0 ⟨#[]⟩ (.slice none 0 0) 26 from (ht8.block w.heap.size (by rw [hz7]; omega) hr2).trans BZ7.out)
        have BV8 := Lib.hid (show Box w8 w6.heap.size 7 0 0 ⟨#[]⟩ (.slice none 0 0) 26 from (ht8.block w6.heap.size (by rw [hz7]; omega) hm4).trans BV7.out)
        clear z0 z1 z2 z3 z4 zf0 zf1 zf2 zf3 zf4 m0 m1 m2 mf
        obtain ⟨z0, z1, z2, z3, z4⟩ := BZ8.out.cells
        have zf0 := BZ8.out.free (i := 0); have zf1 := BZ8.out.free (i := 1); have zf2 := BZ8.out.free (i := 2); have zf3 := BZ8.out.free (i := 3); have zf4 := BZ8.out.free (i := 4)
        obtain ⟨y0, y1, y2, y3, y4⟩ := BV8.out.cells
        have yf0 := BV8.out.free (i := 0); have yf1 := BV8.out.free (i := 1); have yf2 := BV8.out.free (i := 2); have yf3 := BV8.out.free (i := 3); have yf4 := BV8.out.free (i := 4)
        have hm6 : w6.heap.size < w8.heap.size := by omega
        have hm7 : w.heap.size < w8.heap.size := by omega
        have HP := Lib.hid (fun v0 v1 v2 v3 v4 => show CgRet r s true (some (V.mk 7 0 0 ⟨#[]⟩ us, j, m)) w (.returned (.tuple #[.agg #[.int .i64 7, .int .i64 0, .int .i64 0, .string ⟨#[]⟩, .slice ua un uc], .int .i64 (j : Int)])) (set5 (w8.setCell ⟨w6.heap.size, 4, none⟩ (.slice ua un uc)) w.heap.size v0 v1 v2 v3 v4) from
          ⟨⟨.slice ua un uc, rfl, ⟨k64 7 (by omega) (by omega), in0, in0, by show ByteArray.size ⟨#[]⟩ ≤ _; simp [ByteArray.size]⟩, OwnS.mono (OwnS.set5 (OwnS.keep ow (w' := w8.setCell ⟨w6.heap.size, 4, none⟩ (.slice ua un uc)) (fun x hx _ => heap_setCell_other _ _ _ _ (fun e => by have e' : x = w6.heap.size := e; rw [hz7] at hx; omega))) w.heap.size (fun hx => by rw [hz7] at hx; omega) v0 v1 v2 v3 v4) (fun x hx => by rw [hz7] at hx; omega), (heap_set5 _ _ _ _ _ _ _ _ hr1).trans ((heap_setCell_other _ _ _ _ hm3).trans hrc)⟩, (touch_new HT8.out w6.heap.size 4 (by omega) _).set5 w.heap.size (Nat.le_refl _) _ _ _ _ _⟩)
        clear ht8 ow hrc
        go_wp2_with fail
        refine bodyPost_ret (v := .tuple #[.agg #[.int .i64 7, .int .i64 0, .int .i64 0, .string ⟨#[]⟩, .slice ua un uc], .int .i64 (j : Int)]) (by simp [results, Tryd.results138, go_sem, z0, z1, z2, z3, z4]) rfl (HP.out _ _ _ _ _)
set_option maxHeartbeats 8000000 in
theorem lget_kids5 (r : Nat) (s : ByteArray) (hs : s.size ≤ 1048576) (lo : Bool) (g : Nat → Nat → MG) (hg : ∀ i l, CGood s i l (g i l)) (deep : Int) (hdp : 0 ≤ deep ∧ deep ≤ 14)
    (hG : ∀ (i l : Nat) (W : World), i ≤ s.size → l ≤ 1204 → RC W r s lo l → Calls Tryd.prog 138 #[.pointer (some ⟨r, 0, none⟩), .int .i64 i, .int .i64 (deep + 1)] W (CgRet r s lo (g i l) W))
    (i l : Nat) (hi : i < s.size) (hl : l + 1 ≤ 1204) (w : World) (hR : RC w r s lo ((l + 1 : Nat) : Int)) (hno : lo = false ∨ s[i].toNat % 32 ≠ 31) (a n x : Nat) (hh : hdR lo s i = some (a, n, x)) (ha : a = 5) :
    Calls Tryd.prog 138 #[.pointer (some ⟨r, 0, none⟩), .int .i64 i, .int .i64 deep] w (CgRet r s lo (if 300 < n then none else mgNode 8 0 (mgKids g (2 * n) x l)) w) := by
  have hrw := hR.lt
  have HR := Lib.hid hR
  obtain ⟨m0, m1, m2, mf⟩ := hR.cells
  obtain ⟨hdp0, hdp1⟩ := hdp
  have t14 : decide (14 < deep) = false := decide_eq_false (by omega)
  have hbl : ((s[i].toNat : Nat) : Int) < 256 := by have := s[i].toNat_lt; omega
  have hr1 : r ≠ w.heap.size := by omega
  have hr2 : w.heap.size ≠ r := by omega
  have HR5 := Lib.hid (show RC ((w.setCell ⟨r, 2, none⟩ (.int .i64 (l : Int))).alloc (.cells #[.int .i64 0, .int .i64 0, .int .i64 0, .string ⟨#[]⟩, .slice none 0 0] 26)) r s lo (l : Int) from (HR.out.set l).stay ((Below.refl _ _).alloc (Nat.le_refl _) _))
  have HT5 := Lib.hid (show Touch (fun x => x = r) (fun x => x = r) w ((w.setCell ⟨r, 2, none⟩ (.int .i64 (l : Int))).alloc (.cells #[.int .i64 0, .int .i64 0, .int .i64 0, .string ⟨#[]⟩, .slice none 0 0] 26)) from ((Touch.refl _ w).cellD _).trans (Touch.of_below ((Below.refl _ _).alloc (Nat.le_refl _) _)))
  have BZ5 := Lib.hid (show Box ((w.setCell ⟨r, 2, none⟩ (.int .i64 (l : Int))).alloc (.cells #[.int .i64 0, .int .i64 0, .int .i64 0, .string ⟨#[]⟩, .slice none 0 0] 26)) w.heap.size 0 0 0 ⟨#[]⟩ (.slice none 0 0) 26 from heap_alloc_here _ (by simp))
  have hz5 : ((w.setCell ⟨r, 2, none⟩ (.int .i64 (l : Int))).alloc (.cells #[.int .i64 0, .int .i64 0, .int .i64 0, .string ⟨#[]⟩, .slice none 0 0] 26)).heap.size = w.heap.size + 1 := by simp
  have BZ := Lib.hid (Box.new w 0 0 0 ⟨#[]⟩ (.slice none 0 0) 26)
  obtain ⟨z0, z1, z2, z3, z4⟩ := BZ.out.cells
  have zf0 := BZ.out.free (i := 0); have zf1 := BZ.out.free (i := 1); have zf2 := BZ.out.free (i := 2); have zf3 := BZ.out.free (i := 3); have zf4 := BZ.out.free (i := 4)
  have HD := Lib.hid (fun W (h : RC W r s lo (l : Int)) => show Calls Tryd.prog 212 #[.pointer (some ⟨r, 0, none⟩), .int .i64 i] W fun e w' => HdRet (some (a, n, x)) e ∧ Below W.heap.size W w' from by
    have := l05Head_any r s hs lo i (by omega) l W h
    rw [hh] at this; exact this)
  have hx := hdR_some hh
  obtain ⟨hx1, hx2, hx3, hx4, hx5⟩ := hx
  clear hx5
  subst ha
  have KC := Lib.hid (fun (hn : n ≤ 300) W (h : RC W r s lo (l : Int)) => show Calls Tryd.prog 214 #[.pointer (some ⟨r, 0, none⟩), .int .i64 x, .int .i64 ((n : Int) * 2), .int .i64 deep] W (CkRet r s lo (mgKids g (2 * n) x l) W) from by
    have := l05Kids_any r s hs lo g hg deep (by omega) hG (2 * n) x l hx2 (by omega) W h (by omega)
    rw [show ((2 * n : Nat) : Int) = (n : Int) * 2 by omega] at this; exact this)
  clear hh hG hg hR
  by_cases hn : 300 < n
  · rw [if_pos hn]
    have hd : decide ((300 : Int) < (n : Int)) = true := decide_eq_true (by omega)
    obtain ⟨q31, hr31⟩ : ∃ q, q = ((s[i].toNat : Nat) : Int) % 32 := ⟨_, rfl⟩
    have hrr : ((s[i].toNat : Nat) : Int) % 32 = q31 := hr31.symm
    have tno : lo = false ∨ (q31 == 31) = false := hno.imp id (fun h => by rw [hr31]; simp; omega)
    clear hno hr31
    cases lo
    · clear hrr tno
      go_enter Tryd.func138, Tryd.ntmps138
      go_wp2_with fail
      refine (HD.out _ HR5.out).mono ?_
      rintro e6 w6 ⟨he, hb6⟩
      obtain rfl := he
      have hz6 := hb6.size
      rw [hz5] at hz6
      have HR6 := Lib.hid (HR5.out.stay hb6)
      have HT6 := Lib.hid (HT5.out.trans (Touch.of_below hb6))
      have BZ6 := Lib.hid (BZ5.out.stay hb6)
      have hlt6 : w.heap.size < w6.heap.size := by omega
      clear z0 z1 z2 z3 z4 zf0 zf1 zf2 zf3 zf4 m0 m1 m2 mf hb6
      obtain ⟨m0, m1, m2, mf⟩ := HR6.out.cells
      obtain ⟨z0, z1, z2, z3, z4⟩ := BZ6.out.cells
      have zf0 := BZ6.out.free (i := 0); have zf1 := BZ6.out.free (i := 1); have zf2 := BZ6.out.free (i := 2); have zf3 := BZ6.out.free (i := 3); have zf4 := BZ6.out.free (i := 4)
      have hm1 : w.heap.size ≠ w6.heap.size := by omega
      have hm2 : w6.heap.size ≠ w.heap.size := by omega
      have hm3 : r ≠ w6.heap.size := by omega
      have hm4 : w6.heap.size ≠ r := by omega
      have hm5 : r < w6.heap.size := by omega
      have HR7 := Lib.hid (HR6.out.stay ((Below.refl _ _).alloc (Nat.le_refl _) (.cells #[.int .i64 0, .int .i64 0, .int .i64 0, .string ⟨#[]⟩, .slice none 0 0] 26)))
      have HT7 := Lib.hid (HT6.out.trans (Touch.of_below ((Below.refl _ _).alloc (Nat.le_refl _) (.cells #[.int .i64 0, .int .i64 0, .int .i64 0, .string ⟨#[]⟩, .slice none 0 0] 26))))
      have BZ7 := Lib.hid (BZ6.out.alloc (.cells #[.int .i64 0, .int .i64 0, .int .i64 0, .string ⟨#[]⟩, .slice none 0 0] 26))
      have BV7 := Lib.hid (Box.new w6 0 0 0 ⟨#[]⟩ (.slice none 0 0) 26)
      have hz7 : (w6.alloc (.cells #[.int .i64 0, .int .i64 0, .int .i64 0, .string ⟨#[]⟩, .slice none 0 0] 26)).heap.size = w6.heap.size + 1 := by simp
      obtain ⟨y0, y1, y2, y3, y4⟩ := BV7.out.cells
      have yf0 := BV7.out.free (i := 0); have yf1 := BV7.out.free (i := 1); have yf2 := BV7.out.free (i := 2); have yf3 := BV7.out.free (i := 3); have yf4 := BV7.out.free (i := 4)
      go_wp2_with fail
      refine bodyPost_ret (v := .tuple #[.agg #[.int .i64 0, .int .i64 0, .int .i64 0, .string ⟨#[]⟩, .slice none 0 0], .int .i64 (-1)]) (by simp [results, Tryd.results138, go_sem, z0, z1, z2, z3, z4, hlt6]) rfl (cg_fail ((HT6.out.set5 w.heap.size (Nat.le_refl _) _ _ _ _ _).trans (Touch.of_below ((Below.refl _ _).alloc (Nat.le_refl _) _))))
    · have t31 : (q31 == 31) = false := tno.resolve_left (by simp)
      clear tno
      go_enter Tryd.func138, Tryd.ntmps138
      go_wp2_with fail
      refine (HD.out _ HR5.out).mono ?_
      rintro e6 w6 ⟨he, hb6⟩
      obtain rfl := he
      have hz6 := hb6.size
      rw [hz5] at hz6
      have HR6 := Lib.hid (HR5.out.stay hb6)
      have HT6 := Lib.hid (HT5.out.trans (Touch.of_below hb6))
      have BZ6 := Lib.hid (BZ5.out.stay hb6)
      have hlt6 : w.heap.size < w6.heap.size := by omega
      clear z0 z1 z2 z3 z4 zf0 zf1 zf2 zf3 zf4 m0 m1 m2 mf hb6
      obtain ⟨m0, m1, m2, mf⟩ := HR6.out.cells
      obtain ⟨z0, z1, z2, z3, z4⟩ := BZ6.out.cells
      have zf0 := BZ6.out.free (i := 0); have zf1 := BZ6.out.free (i := 1); have zf2 := BZ6.out.free (i := 2); have zf3 := BZ6.out.free (i := 3); have zf4 := BZ6.out.free (i := 4)
      have hm1 : w.heap.size ≠ w6.heap.size := by omega
      have hm2 : w6.heap.size ≠ w.heap.size := by omega
      have hm3 : r ≠ w6.heap.size := by omega
      have hm4 : w6.heap.size ≠ r := by omega
      have hm5 : r < w6.heap.size := by omega
      have HR7 := Lib.hid (HR6.out.stay ((Below.refl _ _).alloc (Nat.le_refl _) (.cells #[.int .i64 0, .int .i64 0, .int .i64 0, .string ⟨#[]⟩, .slice none 0 0] 26)))
      have HT7 := Lib.hid (HT6.out.trans (Touch.of_below ((Below.refl _ _).alloc (Nat.le_refl _) (.cells #[.int .i64 0, .int .i64 0, .int .i64 0, .string ⟨#[]⟩, .slice none 0 0] 26))))
      have BZ7 := Lib.hid (BZ6.out.alloc (.cells #[.int .i64 0, .int .i64 0, .int .i64 0, .string ⟨#[]⟩, .slice none 0 0] 26))
      have BV7 := Lib.hid (Box.new w6 0 0 0 ⟨#[]⟩ (.slice none 0 0) 26)
      have hz7 : (w6.alloc (.cells #[.int .i64 0, .int .i64 0, .int .i64 0, .string ⟨#[]⟩, .slice none 0 0] 26)).heap.size = w6.heap.size + 1 := by simp
      obtain ⟨y0, y1, y2, y3, y4⟩ := BV7.out.cells
      have yf0 := BV7.out.free (i := 0); have yf1 := BV7.out.free (i := 1); have yf2 := BV7.out.free (i := 2); have yf3 := BV7.out.free (i := 3); have yf4 := BV7.out.free (i := 4)
      go_wp2_with fail
      refine bodyPost_ret (v := .tuple #[.agg #[.int .i64 0, .int .i64 0, .int .i64 0, .string ⟨#[]⟩, .slice none 0 0], .int .i64 (-1)]) (by simp [results, Tryd.results138, go_sem, z0, z1, z2, z3, z4, hlt6]) rfl (cg_fail ((HT6.out.set5 w.heap.size (Nat.le_refl _) _ _ _ _ _).trans (Touch.of_below ((Below.refl _ _).alloc (Nat.le_refl _) _))))
  · rw [if_neg hn]
    have hd : decide ((300 : Int) < (n : Int)) = false := decide_eq_false (by omega)
    have KC := Lib.hid (KC.out (by omega))
    generalize mgKids g (2 * n) x l = o at *
    obtain ⟨q31, hr31⟩ : ∃ q, q = ((s[i].toNat : Nat) : Int) % 32 := ⟨_, rfl⟩
    have hrr : ((s[i].toNat : Nat) : Int) % 32 = q31 := hr31.symm
    have tno : lo = false ∨ (q31 == 31) = false := hno.imp id (fun h => by rw [hr31]; simp; omega)
    clear hno hr31
    cases lo
    · clear hrr tno
      go_enter Tryd.func138, Tryd.ntmps138
      go_wp2_with fail
      refine (HD.out _ HR5.out).mono ?_
      rintro e6 w6 ⟨he, hb6⟩
      obtain rfl := he
      have hz6 := hb6.size
      rw [hz5] at hz6
      have HR6 := Lib.hid (HR5.out.stay hb6)
      have HT6 := Lib.hid (HT5.out.trans (Touch.of_below hb6))
      have BZ6 := Lib.hid (BZ5.out.stay hb6)
      have hlt6 : w.heap.size < w6.heap.size := by omega
      clear z0 z1 z2 z3 z4 zf0 zf1 zf2 zf3 zf4 m0 m1 m2 mf hb6
      obtain ⟨m0, m1, m2, mf⟩ := HR6.out.cells
      obtain ⟨z0, z1, z2, z3, z4⟩ := BZ6.out.cells
      have zf0 := BZ6.out.free (i := 0); have zf1 := BZ6.out.free (i := 1); have zf2 := BZ6.out.free (i := 2); have zf3 := BZ6.out.free (i := 3); have zf4 := BZ6.out.free (i := 4)
      have hm1 : w.heap.size ≠ w6.heap.size := by omega
      have hm2 : w6.heap.size ≠ w.heap.size := by omega
      have hm3 : r ≠ w6.heap.size := by omega
      have hm4 : w6.heap.size ≠ r := by omega
      have hm5 : r < w6.heap.size := by omega
      have HW7 := Lib.hid (show Below w6.heap.size w6 ((w6.alloc (.cells #[.int .i64 8, .int .i64 0, .int .i64 0, .string ⟨#[]⟩, .slice none 0 0] 26)).alloc (.cells #[.int .i64 7, .int .i64 8] 3)) from below22 _ _ _)
      have HR7 := Lib.hid (HR6.out.stay HW7.out)
      have HT7 := Lib.hid (HT6.out.trans (Touch.of_below HW7.out))
      have BZ7 := Lib.hid ((BZ6.out.alloc (.cells #[.int .i64 8, .int .i64 0, .int .i64 0, .string ⟨#[]⟩, .slice none 0 0] 26)).alloc (.cells #[.int .i64 7, .int .i64 8] 3))
      have BV7 := Lib.hid ((Box.new w6 8 0 0 ⟨#[]⟩ (.slice none 0 0) 26).alloc (.cells #[.int .i64 7, .int .i64 8] 3))
      have hz7 : ((w6.alloc (.cells #[.int .i64 8, .int .i64 0, .int .i64 0, .string ⟨#[]⟩, .slice none 0 0] 26)).alloc (.cells #[.int .i64 7, .int .i64 8] 3)).heap.size = w6.heap.size + 1 + 1 := by simp
      go_wp2_with fail
      refine (KC.out _ HR7.out).mono ?_
      cases o with
      | none =>
        rintro e8 w8 ⟨⟨ua, un, uc, rfl⟩, ht8⟩
        have hz8 := ht8.size
        rw [hz7] at hz8
        have HT8 := Lib.hid (HT7.out.trans ht8)
        have BZ8 := Lib.hid (show Box w8 w.heap.size 0 0 0 ⟨#[]⟩ (.slice none 0 0) 26 from (ht8.block w.heap.size (by rw [hz7]; omega) hr2).trans BZ7.out)
        have BV8 := Lib.hid (show Box w8 w6.heap.size 8 0 0 ⟨#[]⟩ (.slice none 0 0) 26 from (ht8.block w6.heap.size (by rw [hz7]; omega) hm4).trans BV7.out)
        clear z0 z1 z2 z3 z4 zf0 zf1 zf2 zf3 zf4 m0 m1 m2 mf
        obtain ⟨z0, z1, z2, z3, z4⟩ := BZ8.out.cells
        have zf0 := BZ8.out.free (i := 0); have zf1 := BZ8.out.free (i := 1); have zf2 := BZ8.out.free (i := 2); have zf3 := BZ8.out.free (i := 3); have zf4 := BZ8.out.free (i := 4)
        obtain ⟨y0, y1, y2, y3, y4⟩ := BV8.out.cells
        have yf0 := BV8.out.free (i := 0); have yf1 := BV8.out.free (i := 1); have yf2 := BV8.out.free (i := 2); have yf3 := BV8.out.free (i := 3); have yf4 := BV8.out.free (i := 4)
        have hm6 : w6.heap.size < w8.heap.size := by omega
        have hm7 : w.heap.size < w8.heap.size := by omega
        have HP := Lib.hid (fun v0 v1 v2 v3 v4 => show CgRet r s false none w (.returned (.tuple #[.agg #[.int .i64 8, .int .i64 0, .int .i64 0, .string ⟨#[]⟩, .slice ua un uc], .int .i64 (-1)])) (set5 (w8.setCell ⟨w6.heap.size, 4, none⟩ (.slice ua un uc)) w.heap.size v0 v1 v2 v3 v4) from
          ⟨⟨.mk 8 0 0 ⟨#[]⟩ [], ua, un, uc, rfl⟩, (touch_new HT8.out w6.heap.size 4 (by omega) _).set5 w.heap.size (Nat.le_refl _) _ _ _ _ _⟩)
        clear ht8
        go_wp2_with fail
        refine bodyPost_ret (v := .tuple #[.agg #[.int .i64 8, .int .i64 0, .int .i64 0, .string ⟨#[]⟩, .slice ua un uc], .int .i64 (-1)]) (by simp [results, Tryd.results138, go_sem, z0, z1, z2, z3, z4]) rfl (HP.out _ _ _ _ _)
      | some q =>
        obtain ⟨us, j, m⟩ := q
        rintro e8 w8 ⟨⟨sl, rfl, ow, hrc⟩, ht8⟩
        obtain ⟨ua, un, uc, rfl⟩ : ∃ sa sn sc, sl = .slice sa sn sc := by obtain ⟨p, q, e⟩ := ow.slice; exact ⟨p, _, q, e⟩
        have hz8 := ht8.size
        rw [hz7] at hz8
        have HT8 := Lib.hid (HT7.out.trans ht8)
        have BZ8 := Lib.hid (show Box w8 w.heap.size 0 0 0 ⟨#[]⟩ (.slice none 0 0) 26 from (ht8.block w.heap.size (by rw [hz7]; omega) hr2).trans BZ7.out)
        have BV8 := Lib.hid (show Box w8 w6.heap.size 8 0 0 ⟨#[]⟩ (.slice none 0 0) 26 from (ht8.block w6.heap.size (by rw [hz7]; omega) hm4).trans BV7.out)
        clear z0 z1 z2 z3 z4 zf0 zf1 zf2 zf3 zf4 m0 m1 m2 mf
        obtain ⟨z0, z1, z2, z3, z4⟩ := BZ8.out.cells
        have zf0 := BZ8.out.free (i := 0); have zf1 := BZ8.out.free (i := 1); have zf2 := BZ8.out.free (i := 2); have zf3 := BZ8.out.free (i := 3); have zf4 := BZ8.out.free (i := 4)
        obtain ⟨y0, y1, y2, y3, y4⟩ := BV8.out.cells
        have yf0 := BV8.out.free (i := 0); have yf1 := BV8.out.free (i := 1); have yf2 := BV8.out.free (i := 2); have yf3 := BV8.out.free (i := 3); have yf4 := BV8.out.free (i := 4)
        have hm6 : w6.heap.size < w8.heap.size := by omega
        have hm7 : w.heap.size < w8.heap.size := by omega
        have HP := Lib.hid (fun v0 v1 v2 v3 v4 => show CgRet r s false (some (V.mk 8 0 0 ⟨#[]⟩ us, j, m)) w (.returned (.tuple #[.agg #[.int .i64 8, .int .i64 0, .int .i64 0, .string ⟨#[]⟩, .slice ua un uc], .int .i64 (j : Int)])) (set5 (w8.setCell ⟨w6.heap.size, 4, none⟩ (.slice ua un uc)) w.heap.size v0 v1 v2 v3 v4) from
          ⟨⟨.slice ua un uc, rfl, ⟨k64 8 (by omega) (by omega), in0, in0, by show ByteArray.size ⟨#[]⟩ ≤ _; simp [ByteArray.size]⟩, OwnS.mono (OwnS.set5 (OwnS.keep ow (w' := w8.setCell ⟨w6.heap.size, 4, none⟩ (.slice ua un uc)) (fun x hx _ => heap_setCell_other _ _ _ _ (fun e => by have e' : x = w6.heap.size := e; rw [hz7] at hx; omega))) w.heap.size (fun hx => by rw [hz7] at hx; omega) v0 v1 v2 v3 v4) (fun x hx => by rw [hz7] at hx; omega), (heap_set5 _ _ _ _ _ _ _ _ hr1).trans ((heap_setCell_other _ _ _ _ hm3).trans hrc)⟩, (touch_new HT8.out w6.heap.size 4 (by omega) _).set5 w.heap.size (Nat.le_refl _) _ _ _ _ _⟩)
        clear ht8 ow hrc
        go_wp2_with fail
        refine bodyPost_ret (v := .tuple #[.agg #[.int .i64 8, .int .i64 0, .int .i64 0, .string ⟨#[]⟩, .slice ua un uc], .int .i64 (j : Int)]) (by simp [results, Tryd.results138, go_sem, z0, z1, z2, z3, z4]) rfl (HP.out _ _ _ _ _)
    · have t31 : (q31 == 31) = false := tno.resolve_left (by simp)
      clear tno
      go_enter Tryd.func138, Tryd.ntmps138
      go_wp2_with fail
      refine (HD.out _ HR5.out).mono ?_
      rintro e6 w6 ⟨he, hb6⟩
      obtain rfl := he
      have hz6 := hb6.size
      rw [hz5] at hz6
      have HR6 := Lib.hid (HR5.out.stay hb6)
      have HT6 := Lib.hid (HT5.out.trans (Touch.of_below hb6))
      have BZ6 := Lib.hid (BZ5.out.stay hb6)
      have hlt6 : w.heap.size < w6.heap.size := by omega
      clear z0 z1 z2 z3 z4 zf0 zf1 zf2 zf3 zf4 m0 m1 m2 mf hb6
      obtain ⟨m0, m1, m2, mf⟩ := HR6.out.cells
      obtain ⟨z0, z1, z2, z3, z4⟩ := BZ6.out.cells
      have zf0 := BZ6.out.free (i := 0); have zf1 := BZ6.out.free (i := 1); have zf2 := BZ6.out.free (i := 2); have zf3 := BZ6.out.free (i := 3); have zf4 := BZ6.out.free (i := 4)
      have hm1 : w.heap.size ≠ w6.heap.size := by omega
      have hm2 : w6.heap.size ≠ w.heap.size := by omega
      have hm3 : r ≠ w6.heap.size := by omega
      have hm4 : w6.heap.size ≠ r := by omega
      have hm5 : r < w6.heap.size := by omega
      have HW7 := Lib.hid (show Below w6.heap.size w6 ((w6.alloc (.cells #[.int .i64 8, .int .i64 0, .int .i64 0, .string ⟨#[]⟩, .slice none 0 0] 26)).alloc (.cells #[.int .i64 7, .int .i64 8] 3)) from below22 _ _ _)
      have HR7 := Lib.hid (HR6.out.stay HW7.out)
      have HT7 := Lib.hid (HT6.out.trans (Touch.of_below HW7.out))
      have BZ7 := Lib.hid ((BZ6.out.alloc (.cells #[.int .i64 8, .int .i64 0, .int .i64 0, .string ⟨#[]⟩, .slice none 0 0] 26)).alloc (.cells #[.int .i64 7, .int .i64 8] 3))
      have BV7 := Lib.hid ((Box.new w6 8 0 0 ⟨#[]⟩ (.slice none 0 0) 26).alloc (.cells #[.int .i64 7, .int .i64 8] 3))
      have hz7 : ((w6.alloc (.cells #[.int .i64 8, .int .i64 0, .int .i64 0, .string ⟨#[]⟩, .slice none 0 0] 26)).alloc (.cells #[.int .i64 7, .int .i64 8] 3)).heap.size = w6.heap.size + 1 + 1 := by simp
      go_wp2_with fail
      refine (KC.out _ HR7.out).mono ?_
      cases o with
      | none =>
        rintro e8 w8 ⟨⟨ua, un, uc, rfl⟩, ht8⟩
        have hz8 := ht8.size
        rw [hz7] at hz8
        have HT8 := Lib.hid (HT7.out.trans ht8)
        have BZ8 := Lib.hid (show Box w8 w.heap.size 0 0 0 ⟨#[]⟩ (.slice none 0 0) 26 from (ht8.block w.heap.size (by rw [hz7]; omega) hr2).trans BZ7.out)
        have BV8 := Lib.hid (show Box w8 w6.heap.size 8 0 0 ⟨#[]⟩ (.slice none 0 0) 26 from (ht8.block w6.heap.size (by rw [hz7]; omega) hm4).trans BV7.out)
        clear z0 z1 z2 z3 z4 zf0 zf1 zf2 zf3 zf4 m0 m1 m2 mf
        obtain ⟨z0, z1, z2, z3, z4⟩ := BZ8.out.cells
        have zf0 := BZ8.out.free (i := 0); have zf1 := BZ8.out.free (i := 1); have zf2 := BZ8.out.free (i := 2); have zf3 := BZ8.out.free (i := 3); have zf4 := BZ8.out.free (i := 4)
        obtain ⟨y0, y1, y2, y3, y4⟩ := BV8.out.cells
        have yf0 := BV8.out.free (i := 0); have yf1 := BV8.out.free (i := 1); have yf2 := BV8.out.free (i := 2); have yf3 := BV8.out.free (i := 3); have yf4 := BV8.out.free (i := 4)
        have hm6 : w6.heap.size < w8.heap.size := by omega
        have hm7 : w.heap.size < w8.heap.size := by omega
        have HP := Lib.hid (fun v0 v1 v2 v3 v4 => show CgRet r s true none w (.returned (.tuple #[.agg #[.int .i64 8, .int .i64 0, .int .i64 0, .string ⟨#[]⟩, .slice ua un uc], .int .i64 (-1)])) (set5 (w8.setCell ⟨w6.heap.size, 4, none⟩ (.slice ua un uc)) w.heap.size v0 v1 v2 v3 v4) from
          ⟨⟨.mk 8 0 0 ⟨#[]⟩ [], ua, un, uc, rfl⟩, (touch_new HT8.out w6.heap.size 4 (by omega) _).set5 w.heap.size (Nat.le_refl _) _ _ _ _ _⟩)
        clear ht8
        go_wp2_with fail
        refine bodyPost_ret (v := .tuple #[.agg #[.int .i64 8, .int .i64 0, .int .i64 0, .string ⟨#[]⟩, .slice ua un uc], .int .i64 (-1)]) (by simp [results, Tryd.results138, go_sem, z0, z1, z2, z3, z4]) rfl (HP.out _ _ _ _ _)
      | some q =>
        obtain ⟨us, j, m⟩ := q
        rintro e8 w8 ⟨⟨sl, rfl, ow, hrc⟩, ht8⟩
        obtain ⟨ua, un, uc, rfl⟩ : ∃ sa sn sc, sl = .slice sa sn sc := by obtain ⟨p, q, e⟩ := ow.slice; exact ⟨p, _, q, e⟩
        have hz8 := ht8.size
        rw [hz7] at hz8
        have HT8 := Lib.hid (HT7.out.trans ht8)
        have BZ8 := Lib.hid (show Box w8 w.heap.size 0 0 0 ⟨#[]⟩ (.slice none 0 0) 26 from (ht8.block w.heap.size (by rw [hz7]; omega) hr2).trans BZ7.out)
        have BV8 := Lib.hid (show Box w8 w6.heap.size 8 0 0 ⟨#[]⟩ (.slice none 0 0) 26 from (ht8.block w6.heap.size (by rw [hz7]; omega) hm4).trans BV7.out)
        clear z0 z1 z2 z3 z4 zf0 zf1 zf2 zf3 zf4 m0 m1 m2 mf
        obtain ⟨z0, z1, z2, z3, z4⟩ := BZ8.out.cells
        have zf0 := BZ8.out.free (i := 0); have zf1 := BZ8.out.free (i := 1); have zf2 := BZ8.out.free (i := 2); have zf3 := BZ8.out.free (i := 3); have zf4 := BZ8.out.free (i := 4)
        obtain ⟨y0, y1, y2, y3, y4⟩ := BV8.out.cells
        have yf0 := BV8.out.free (i := 0); have yf1 := BV8.out.free (i := 1); have yf2 := BV8.out.free (i := 2); have yf3 := BV8.out.free (i := 3); have yf4 := BV8.out.free (i := 4)
        have hm6 : w6.heap.size < w8.heap.size := by omega
        have hm7 : w.heap.size < w8.heap.size := by omega
        have HP := Lib.hid (fun v0 v1 v2 v3 v4 => show CgRet r s true (some (V.mk 8 0 0 ⟨#[]⟩ us, j, m)) w (.returned (.tuple #[.agg #[.int .i64 8, .int .i64 0, .int .i64 0, .string ⟨#[]⟩, .slice ua un uc], .int .i64 (j : Int)])) (set5 (w8.setCell ⟨w6.heap.size, 4, none⟩ (.slice ua un uc)) w.heap.size v0 v1 v2 v3 v4) from
          ⟨⟨.slice ua un uc, rfl, ⟨k64 8 (by omega) (by omega), in0, in0, by show ByteArray.size ⟨#[]⟩ ≤ _; simp [ByteArray.size]⟩, OwnS.mono (OwnS.set5 (OwnS.keep ow (w' := w8.setCell ⟨w6.heap.size, 4, none⟩ (.slice ua un uc)) (fun x hx _ => heap_setCell_other _ _ _ _ (fun e => by have e' : x = w6.heap.size := e; rw [hz7] at hx; omega))) w.heap.size (fun hx => by rw [hz7] at hx; omega) v0 v1 v2 v3 v4) (fun x hx => by rw [hz7] at hx; omega), (heap_set5 _ _ _ _ _ _ _ _ hr1).trans ((heap_setCell_other _ _ _ _ hm3).trans hrc)⟩, (touch_new HT8.out w6.heap.size 4 (by omega) _).set5 w.heap.size (Nat.le_refl _) _ _ _ _ _⟩)
        clear ht8 ow hrc
        go_wp2_with fail
        refine bodyPost_ret (v := .tuple #[.agg #[.int .i64 8, .int .i64 0, .int .i64 0, .string ⟨#[]⟩, .slice ua un uc], .int .i64 (j : Int)]) (by simp [results, Tryd.results138, go_sem, z0, z1, z2, z3, z4]) rfl (HP.out _ _ _ _ _)
set_option maxHeartbeats 8000000 in
theorem lget_tag (r : Nat) (s : ByteArray) (hs : s.size ≤ 1048576) (lo : Bool) (g : Nat → Nat → MG) (hg : ∀ i l, CGood s i l (g i l)) (deep : Int) (hdp : 0 ≤ deep ∧ deep ≤ 14)
    (hG : ∀ (i l : Nat) (W : World), i ≤ s.size → l ≤ 1204 → RC W r s lo l → Calls Tryd.prog 138 #[.pointer (some ⟨r, 0, none⟩), .int .i64 i, .int .i64 (deep + 1)] W (CgRet r s lo (g i l) W))
    (i l : Nat) (hi : i < s.size) (hl : l + 1 ≤ 1204) (w : World) (hR : RC w r s lo ((l + 1 : Nat) : Int)) (hno : lo = false ∨ s[i].toNat % 32 ≠ 31) (a n x : Nat) (hh : hdR lo s i = some (a, n, x)) (ha : a = 6) :
    Calls Tryd.prog 138 #[.pointer (some ⟨r, 0, none⟩), .int .i64 i, .int .i64 deep] w (CgRet r s lo (if 1000000 < n then none else (g x l).bind (cgTag n)) w) := by
  have hrw := hR.lt
  have HR := Lib.hid hR
  obtain ⟨m0, m1, m2, mf⟩ := hR.cells
  obtain ⟨hdp0, hdp1⟩ := hdp
  have t14 : decide (14 < deep) = false := decide_eq_false (by omega)
  have hbl : ((s[i].toNat : Nat) : Int) < 256 := by have := s[i].toNat_lt; omega
  have hr1 : r ≠ w.heap.size := by omega
  have hr2 : w.heap.size ≠ r := by omega
  have HR5 := Lib.hid (show RC ((w.setCell ⟨r, 2, none⟩ (.int .i64 (l : Int))).alloc (.cells #[.int .i64 0, .int .i64 0, .int .i64 0, .string ⟨#[]⟩, .slice none 0 0] 26)) r s lo (l : Int) from (HR.out.set l).stay ((Below.refl _ _).alloc (Nat.le_refl _) _))
  have HT5 := Lib.hid (show Touch (fun x => x = r) (fun x => x = r) w ((w.setCell ⟨r, 2, none⟩ (.int .i64 (l : Int))).alloc (.cells #[.int .i64 0, .int .i64 0, .int .i64 0, .string ⟨#[]⟩, .slice none 0 0] 26)) from ((Touch.refl _ w).cellD _).trans (Touch.of_below ((Below.refl _ _).alloc (Nat.le_refl _) _)))
  have BZ5 := Lib.hid (show Box ((w.setCell ⟨r, 2, none⟩ (.int .i64 (l : Int))).alloc (.cells #[.int .i64 0, .int .i64 0, .int .i64 0, .string ⟨#[]⟩, .slice none 0 0] 26)) w.heap.size 0 0 0 ⟨#[]⟩ (.slice none 0 0) 26 from heap_alloc_here _ (by simp))
  have hz5 : ((w.setCell ⟨r, 2, none⟩ (.int .i64 (l : Int))).alloc (.cells #[.int .i64 0, .int .i64 0, .int .i64 0, .string ⟨#[]⟩, .slice none 0 0] 26)).heap.size = w.heap.size + 1 := by simp
  have BZ := Lib.hid (Box.new w 0 0 0 ⟨#[]⟩ (.slice none 0 0) 26)
  obtain ⟨z0, z1, z2, z3, z4⟩ := BZ.out.cells
  have zf0 := BZ.out.free (i := 0); have zf1 := BZ.out.free (i := 1); have zf2 := BZ.out.free (i := 2); have zf3 := BZ.out.free (i := 3); have zf4 := BZ.out.free (i := 4)
  have HD := Lib.hid (fun W (h : RC W r s lo (l : Int)) => show Calls Tryd.prog 212 #[.pointer (some ⟨r, 0, none⟩), .int .i64 i] W fun e w' => HdRet (some (a, n, x)) e ∧ Below W.heap.size W w' from by
    have := l05Head_any r s hs lo i (by omega) l W h
    rw [hh] at this; exact this)
  have hx := hdR_some hh
  obtain ⟨hx1, hx2, hx3, hx4, hx5⟩ := hx
  clear hx5
  subst ha
  have TC := Lib.hid (fun W (h : RC W r s lo (l : Int)) => show Calls Tryd.prog 215 #[.pointer (some ⟨r, 0, none⟩), .int .i64 x, .int .u64 n, .int .i64 deep] W (CgRet r s lo (if 1000000 < n then none else (g x l).bind (cgTag n)) W) from by
    by_cases hf : 1000000 < n
    · rw [if_pos hf]; exact l05Tagged_far r s lo x n deep hf W
    · rw [if_neg hf]
      by_cases h4 : n = 4
      · subst h4; exact l05Tagged_four r s lo x l deep (by omega) (g x l) W h (fun W hW => hG x l W hx2 (by omega) hW)
      · exact l05Tagged_plain r s lo x n l deep (by omega) (by omega) h4 (g x l) W h (fun W hW => hG x l W hx2 (by omega) hW))
  clear hh hG hg hR
  generalize (if 1000000 < n then none else (g x l).bind (cgTag n)) = o at *
  obtain ⟨q31, hr31⟩ : ∃ q, q = ((s[i].toNat : Nat) : Int) % 32 := ⟨_, rfl⟩
  have hrr : ((s[i].toNat : Nat) : Int) % 32 = q31 := hr31.symm
  have tno : lo = false ∨ (q31 == 31) = false := hno.imp id (fun h => by rw [hr31]; simp; omega)
  clear hno hr31
  cases lo
  · clear hrr tno
    go_enter Tryd.func138, Tryd.ntmps138
    go_wp2_with fail
    refine (HD.out _ HR5.out).mono ?_
    rintro e6 w6 ⟨he, hb6⟩
    obtain rfl := he
    have hz6 := hb6.size
    rw [hz5] at hz6
    have HR6 := Lib.hid (HR5.out.stay hb6)
    have HT6 := Lib.hid (HT5.out.trans (Touch.of_below hb6))
    have BZ6 := Lib.hid (BZ5.out.stay hb6)
    have hlt6 : w.heap.size < w6.heap.size := by omega
    clear z0 z1 z2 z3 z4 zf0 zf1 zf2 zf3 zf4 m0 m1 m2 mf hb6
    obtain ⟨m0, m1, m2, mf⟩ := HR6.out.cells
    obtain ⟨z0, z1, z2, z3, z4⟩ := BZ6.out.cells
    have zf0 := BZ6.out.free (i := 0); have zf1 := BZ6.out.free (i := 1); have zf2 := BZ6.out.free (i := 2); have zf3 := BZ6.out.free (i := 3); have zf4 := BZ6.out.free (i := 4)
    have hm1 : w.heap.size ≠ w6.heap.size := by omega
    have hm2 : w6.heap.size ≠ w.heap.size := by omega
    have hm3 : r ≠ w6.heap.size := by omega
    have hm4 : w6.heap.size ≠ r := by omega
    have hm5 : r < w6.heap.size := by omega
    have HR7 := Lib.hid (HR6.out.stay ((Below.refl _ _).alloc (Nat.le_refl _) (.cells #[.int .i64 0, .int .i64 0, .int .i64 0, .string ⟨#[]⟩, .slice none 0 0] 26)))
    have HT7 := Lib.hid (HT6.out.trans (Touch.of_below ((Below.refl _ _).alloc (Nat.le_refl _) (.cells #[.int .i64 0, .int .i64 0, .int .i64 0, .string ⟨#[]⟩, .slice none 0 0] 26))))
    have BZ7 := Lib.hid (BZ6.out.alloc (.cells #[.int .i64 0, .int .i64 0, .int .i64 0, .string ⟨#[]⟩, .slice none 0 0] 26))
    have BV7 := Lib.hid (Box.new w6 0 0 0 ⟨#[]⟩ (.slice none 0 0) 26)
    have hz7 : (w6.alloc (.cells #[.int .i64 0, .int .i64 0, .int .i64 0, .string ⟨#[]⟩, .slice none 0 0] 26)).heap.size = w6.heap.size + 1 := by simp
    obtain ⟨y0, y1, y2, y3, y4⟩ := BV7.out.cells
    have yf0 := BV7.out.free (i := 0); have yf1 := BV7.out.free (i := 1); have yf2 := BV7.out.free (i := 2); have yf3 := BV7.out.free (i := 3); have yf4 := BV7.out.free (i := 4)
    go_wp2_with fail
    refine (TC.out _ HR7.out).mono ?_
    cases o with
    | none =>
      rintro e8 w8 ⟨⟨t, ua, un, uc, rfl⟩, ht8⟩
      unfold V.agg
      have hz8 := ht8.size
      rw [hz7] at hz8
      have HT8 := Lib.hid (HT7.out.trans ht8)
      have BZ8 := Lib.hid (show Box w8 w.heap.size 0 0 0 ⟨#[]⟩ (.slice none 0 0) 26 from (ht8.block w.heap.size (by rw [hz7]; omega) hr2).trans BZ7.out)
      have BV8 := Lib.hid (show Box w8 w6.heap.size 0 0 0 ⟨#[]⟩ (.slice none 0 0) 26 from (ht8.block w6.heap.size (by rw [hz7]; omega) hm4).trans BV7.out)
      clear z0 z1 z2 z3 z4 zf0 zf1 zf2 zf3 zf4 y0 y1 y2 y3 y4 yf0 yf1 yf2 yf3 yf4 m0 m1 m2 mf
      obtain ⟨z0, z1, z2, z3, z4⟩ := BZ8.out.cells
      have zf0 := BZ8.out.free (i := 0); have zf1 := BZ8.out.free (i := 1); have zf2 := BZ8.out.free (i := 2); have zf3 := BZ8.out.free (i := 3); have zf4 := BZ8.out.free (i := 4)
      obtain ⟨y0, y1, y2, y3, y4⟩ := BV8.out.cells
      have yf0 := BV8.out.free (i := 0); have yf1 := BV8.out.free (i := 1); have yf2 := BV8.out.free (i := 2); have yf3 := BV8.out.free (i := 3); have yf4 := BV8.out.free (i := 4)
      have hm6 : w6.heap.size < w8.heap.size := by omega
      have hm7 : w.heap.size < w8.heap.size := by omega
      have HP := Lib.hid (fun v0 v1 v2 v3 v4 x0 x1 x2 x3 x4 => show CgRet r s false none w (.returned (.tuple #[.agg #[.int .i64 t.k, .int .i64 t.n, .int .i64 t.e, .string t.s, .slice ua un uc], .int .i64 (-1)])) (set5 (set5 w8 w6.heap.size x0 x1 x2 x3 x4) w.heap.size v0 v1 v2 v3 v4) from
        ⟨⟨t, ua, un, uc, rfl⟩, (HT8.out.set5 w6.heap.size (by omega) _ _ _ _ _).set5 w.heap.size (Nat.le_refl _) _ _ _ _ _⟩)
      clear ht8
      go_wp2_with fail
      refine bodyPost_ret (v := .tuple #[.agg #[.int .i64 t.k, .int .i64 t.n, .int .i64 t.e, .string t.s, .slice ua un uc], .int .i64 (-1)]) (by simp [results, Tryd.results138, go_sem, z0, z1, z2, z3, z4]) rfl (HP.out _ _ _ _ _ _ _ _ _ _)
    | some q =>
      obtain ⟨t, j, m⟩ := q
      rintro e8 w8 ⟨⟨sl, rfl, twf, tow, hrc⟩, ht8⟩
      obtain ⟨ua, un, uc, rfl⟩ : ∃ sa sn sc, sl = .slice sa sn sc := by obtain ⟨p, q, e⟩ := tow.slice; exact ⟨p, _, q, e⟩
      unfold V.agg
      have hz8 := ht8.size
      rw [hz7] at hz8
      have HT8 := Lib.hid (HT7.out.trans ht8)
      have BZ8 := Lib.hid (show Box w8 w.heap.size 0 0 0 ⟨#[]⟩ (.slice none 0 0) 26 from (ht8.block w.heap.size (by rw [hz7]; omega) hr2).trans BZ7.out)
      have BV8 := Lib.hid (show Box w8 w6.heap.size 0 0 0 ⟨#[]⟩ (.slice none 0 0) 26 from (ht8.block w6.heap.size (by rw [hz7]; omega) hm4).trans BV7.out)
      clear z0 z1 z2 z3 z4 zf0 zf1 zf2 zf3 zf4 y0 y1 y2 y3 y4 yf0 yf1 yf2 yf3 yf4 m0 m1 m2 mf
      obtain ⟨z0, z1, z2, z3, z4⟩ := BZ8.out.cells
      have zf0 := BZ8.out.free (i := 0); have zf1 := BZ8.out.free (i := 1); have zf2 := BZ8.out.free (i := 2); have zf3 := BZ8.out.free (i := 3); have zf4 := BZ8.out.free (i := 4)
      obtain ⟨y0, y1, y2, y3, y4⟩ := BV8.out.cells
      have yf0 := BV8.out.free (i := 0); have yf1 := BV8.out.free (i := 1); have yf2 := BV8.out.free (i := 2); have yf3 := BV8.out.free (i := 3); have yf4 := BV8.out.free (i := 4)
      have hm6 : w6.heap.size < w8.heap.size := by omega
      have hm7 : w.heap.size < w8.heap.size := by omega
      have HP := Lib.hid (fun v0 v1 v2 v3 v4 x0 x1 x2 x3 x4 => show CgRet r s false (some (t, j, m)) w (.returned (.tuple #[.agg #[.int .i64 t.k, .int .i64 t.n, .int .i64 t.e, .string t.s, .slice ua un uc], .int .i64 (j : Int)])) (set5 (set5 w8 w6.heap.size x0 x1 x2 x3 x4) w.heap.size v0 v1 v2 v3 v4) from
        ⟨⟨.slice ua un uc, rfl, twf, OwnS.mono (OwnS.set5 (OwnS.set5 tow w6.heap.size (fun hx => by rw [hz7] at hx; omega) x0 x1 x2 x3 x4) w.heap.size (fun hx => by rw [hz7] at hx; omega) v0 v1 v2 v3 v4) (fun x hx => by rw [hz7] at hx; omega), (heap_set5 _ _ _ _ _ _ _ _ hr1).trans ((heap_set5 _ _ _ _ _ _ _ _ hm3).trans hrc)⟩, (HT8.out.set5 w6.heap.size (by omega) _ _ _ _ _).set5 w.heap.size (Nat.le_refl _) _ _ _ _ _⟩)
      clear ht8 tow hrc twf
      go_wp2_with fail
      refine bodyPost_ret (v := .tuple #[.agg #[.int .i64 t.k, .int .i64 t.n, .int .i64 t.e, .string t.s, .slice ua un uc], .int .i64 (j : Int)]) (by simp [results, Tryd.results138, go_sem, z0, z1, z2, z3, z4]) rfl (HP.out _ _ _ _ _ _ _ _ _ _)
  · have t31 : (q31 == 31) = false := tno.resolve_left (by simp)
    clear tno
    go_enter Tryd.func138, Tryd.ntmps138
    go_wp2_with fail
    refine (HD.out _ HR5.out).mono ?_
    rintro e6 w6 ⟨he, hb6⟩
    obtain rfl := he
    have hz6 := hb6.size
    rw [hz5] at hz6
    have HR6 := Lib.hid (HR5.out.stay hb6)
    have HT6 := Lib.hid (HT5.out.trans (Touch.of_below hb6))
    have BZ6 := Lib.hid (BZ5.out.stay hb6)
    have hlt6 : w.heap.size < w6.heap.size := by omega
    clear z0 z1 z2 z3 z4 zf0 zf1 zf2 zf3 zf4 m0 m1 m2 mf hb6
    obtain ⟨m0, m1, m2, mf⟩ := HR6.out.cells
    obtain ⟨z0, z1, z2, z3, z4⟩ := BZ6.out.cells
    have zf0 := BZ6.out.free (i := 0); have zf1 := BZ6.out.free (i := 1); have zf2 := BZ6.out.free (i := 2); have zf3 := BZ6.out.free (i := 3); have zf4 := BZ6.out.free (i := 4)
    have hm1 : w.heap.size ≠ w6.heap.size := by omega
    have hm2 : w6.heap.size ≠ w.heap.size := by omega
    have hm3 : r ≠ w6.heap.size := by omega
    have hm4 : w6.heap.size ≠ r := by omega
    have hm5 : r < w6.heap.size := by omega
    have HR7 := Lib.hid (HR6.out.stay ((Below.refl _ _).alloc (Nat.le_refl _) (.cells #[.int .i64 0, .int .i64 0, .int .i64 0, .string ⟨#[]⟩, .slice none 0 0] 26)))
    have HT7 := Lib.hid (HT6.out.trans (Touch.of_below ((Below.refl _ _).alloc (Nat.le_refl _) (.cells #[.int .i64 0, .int .i64 0, .int .i64 0, .string ⟨#[]⟩, .slice none 0 0] 26))))
    have BZ7 := Lib.hid (BZ6.out.alloc (.cells #[.int .i64 0, .int .i64 0, .int .i64 0, .string ⟨#[]⟩, .slice none 0 0] 26))
    have BV7 := Lib.hid (Box.new w6 0 0 0 ⟨#[]⟩ (.slice none 0 0) 26)
    have hz7 : (w6.alloc (.cells #[.int .i64 0, .int .i64 0, .int .i64 0, .string ⟨#[]⟩, .slice none 0 0] 26)).heap.size = w6.heap.size + 1 := by simp
    obtain ⟨y0, y1, y2, y3, y4⟩ := BV7.out.cells
    have yf0 := BV7.out.free (i := 0); have yf1 := BV7.out.free (i := 1); have yf2 := BV7.out.free (i := 2); have yf3 := BV7.out.free (i := 3); have yf4 := BV7.out.free (i := 4)
    go_wp2_with fail
    refine (TC.out _ HR7.out).mono ?_
    cases o with
    | none =>
      rintro e8 w8 ⟨⟨t, ua, un, uc, rfl⟩, ht8⟩
      unfold V.agg
      have hz8 := ht8.size
      rw [hz7] at hz8
      have HT8 := Lib.hid (HT7.out.trans ht8)
      have BZ8 := Lib.hid (show Box w8 w.heap.size 0 0 0 ⟨#[]⟩ (.slice none 0 0) 26 from (ht8.block w.heap.size (by rw [hz7]; omega) hr2).trans BZ7.out)
      have BV8 := Lib.hid (show Box w8 w6.heap.size 0 0 0 ⟨#[]⟩ (.slice none 0 0) 26 from (ht8.block w6.heap.size (by rw [hz7]; omega) hm4).trans BV7.out)
      clear z0 z1 z2 z3 z4 zf0 zf1 zf2 zf3 zf4 y0 y1 y2 y3 y4 yf0 yf1 yf2 yf3 yf4 m0 m1 m2 mf
      obtain ⟨z0, z1, z2, z3, z4⟩ := BZ8.out.cells
      have zf0 := BZ8.out.free (i := 0); have zf1 := BZ8.out.free (i := 1); have zf2 := BZ8.out.free (i := 2); have zf3 := BZ8.out.free (i := 3); have zf4 := BZ8.out.free (i := 4)
      obtain ⟨y0, y1, y2, y3, y4⟩ := BV8.out.cells
      have yf0 := BV8.out.free (i := 0); have yf1 := BV8.out.free (i := 1); have yf2 := BV8.out.free (i := 2); have yf3 := BV8.out.free (i := 3); have yf4 := BV8.out.free (i := 4)
      have hm6 : w6.heap.size < w8.heap.size := by omega
      have hm7 : w.heap.size < w8.heap.size := by omega
      have HP := Lib.hid (fun v0 v1 v2 v3 v4 x0 x1 x2 x3 x4 => show CgRet r s true none w (.returned (.tuple #[.agg #[.int .i64 t.k, .int .i64 t.n, .int .i64 t.e, .string t.s, .slice ua un uc], .int .i64 (-1)])) (set5 (set5 w8 w6.heap.size x0 x1 x2 x3 x4) w.heap.size v0 v1 v2 v3 v4) from
        ⟨⟨t, ua, un, uc, rfl⟩, (HT8.out.set5 w6.heap.size (by omega) _ _ _ _ _).set5 w.heap.size (Nat.le_refl _) _ _ _ _ _⟩)
      clear ht8
      go_wp2_with fail
      refine bodyPost_ret (v := .tuple #[.agg #[.int .i64 t.k, .int .i64 t.n, .int .i64 t.e, .string t.s, .slice ua un uc], .int .i64 (-1)]) (by simp [results, Tryd.results138, go_sem, z0, z1, z2, z3, z4]) rfl (HP.out _ _ _ _ _ _ _ _ _ _)
    | some q =>
      obtain ⟨t, j, m⟩ := q
      rintro e8 w8 ⟨⟨sl, rfl, twf, tow, hrc⟩, ht8⟩
      obtain ⟨ua, un, uc, rfl⟩ : ∃ sa sn sc, sl = .slice sa sn sc := by obtain ⟨p, q, e⟩ := tow.slice; exact ⟨p, _, q, e⟩
      unfold V.agg
      have hz8 := ht8.size
      rw [hz7] at hz8
      have HT8 := Lib.hid (HT7.out.trans ht8)
      have BZ8 := Lib.hid (show Box w8 w.heap.size 0 0 0 ⟨#[]⟩ (.slice none 0 0) 26 from (ht8.block w.heap.size (by rw [hz7]; omega) hr2).trans BZ7.out)
      have BV8 := Lib.hid (show Box w8 w6.heap.size 0 0 0 ⟨#[]⟩ (.slice none 0 0) 26 from (ht8.block w6.heap.size (by rw [hz7]; omega) hm4).trans BV7.out)
      clear z0 z1 z2 z3 z4 zf0 zf1 zf2 zf3 zf4 y0 y1 y2 y3 y4 yf0 yf1 yf2 yf3 yf4 m0 m1 m2 mf
      obtain ⟨z0, z1, z2, z3, z4⟩ := BZ8.out.cells
      have zf0 := BZ8.out.free (i := 0); have zf1 := BZ8.out.free (i := 1); have zf2 := BZ8.out.free (i := 2); have zf3 := BZ8.out.free (i := 3); have zf4 := BZ8.out.free (i := 4)
      obtain ⟨y0, y1, y2, y3, y4⟩ := BV8.out.cells
      have yf0 := BV8.out.free (i := 0); have yf1 := BV8.out.free (i := 1); have yf2 := BV8.out.free (i := 2); have yf3 := BV8.out.free (i := 3); have yf4 := BV8.out.free (i := 4)
      have hm6 : w6.heap.size < w8.heap.size := by omega
      have hm7 : w.heap.size < w8.heap.size := by omega
      have HP := Lib.hid (fun v0 v1 v2 v3 v4 x0 x1 x2 x3 x4 => show CgRet r s true (some (t, j, m)) w (.returned (.tuple #[.agg #[.int .i64 t.k, .int .i64 t.n, .int .i64 t.e, .string t.s, .slice ua un uc], .int .i64 (j : Int)])) (set5 (set5 w8 w6.heap.size x0 x1 x2 x3 x4) w.heap.size v0 v1 v2 v3 v4) from
        ⟨⟨.slice ua un uc, rfl, twf, OwnS.mono (OwnS.set5 (OwnS.set5 tow w6.heap.size (fun hx => by rw [hz7] at hx; omega) x0 x1 x2 x3 x4) w.heap.size (fun hx => by rw [hz7] at hx; omega) v0 v1 v2 v3 v4) (fun x hx => by rw [hz7] at hx; omega), (heap_set5 _ _ _ _ _ _ _ _ hr1).trans ((heap_set5 _ _ _ _ _ _ _ _ hm3).trans hrc)⟩, (HT8.out.set5 w6.heap.size (by omega) _ _ _ _ _).set5 w.heap.size (Nat.le_refl _) _ _ _ _ _⟩)
      clear ht8 tow hrc twf
      go_wp2_with fail
      refine bodyPost_ret (v := .tuple #[.agg #[.int .i64 t.k, .int .i64 t.n, .int .i64 t.e, .string t.s, .slice ua un uc], .int .i64 (j : Int)]) (by simp [results, Tryd.results138, go_sem, z0, z1, z2, z3, z4]) rfl (HP.out _ _ _ _ _ _ _ _ _ _)
end Go.Proofs.YtgbgeocmjdgmoaaDoor
namespace Go.Proofs.YtgbgeocmjdgmoaaDoor
set_option linter.unusedSimpArgs false
set_option linter.unusedVariables false
set_option maxRecDepth 100000
open Go.RowKit
theorem hdR_low {lo : Bool} {s : ByteArray} {i a n x : Nat} (h : hdR lo s i = some (a, n, x)) (hi : i < s.size) : s[i].toNat % 32 ≠ 31 := by
  intro h31
  obtain ⟨hx, -, -, -, he⟩ := hdR_some h
  have hb : byteAt s (i : Int) = ((s[i].toNat : Nat) : Int) := by
    have := byteAt_eq s (i : Int) (by simpa using hi)
    simpa using this
  have e : anyH s (i : Int) = (-1, 0, -1) := by
    unfold anyH
    rw [if_neg (by omega), if_neg (by rw [hb]; omega), if_pos (by rw [hb]; omega)]
  cases lo
  · rw [if_neg (by simp)] at he
    unfold getH at he
    rw [e] at he
    simp only at he
    rw [if_pos (.inl (by omega))] at he
    simp only [Prod.mk.injEq] at he
    omega
  · rw [if_pos rfl, e] at he
    simp only [Prod.mk.injEq] at he
    omega
theorem hdR_end {lo : Bool} {s : ByteArray} {i : Nat} (h : ¬ i < s.size) : hdR lo s i = none := by
  cases hh : hdR lo s i with
  | none => rfl
  | some q =>
    obtain ⟨a, n, x⟩ := q
    have := hdR_some hh
    omega
theorem evenK_false (o : Option (List V × Nat × Nat)) : evenK false o = o := by cases o <;> simp [evenK]
theorem l05Get_any (r : Nat) (s : ByteArray) (hs : s.size ≤ 1048576) (lo : Bool) : ∀ (f : Nat) (deep : Int), deep = 15 - (f : Int) → f ≤ 15 → ∀ (i l : Nat) (w : World), i ≤ s.size → l ≤ 1204 → RC w r s lo l →
    Calls Tryd.prog 138 #[.pointer (some ⟨r, 0, none⟩), .int .i64 i, .int .i64 deep] w (CgRet r s lo (cg true lo s f i l) w)
  | 0, deep, hd, hf, i, l, w, hi, hl, h => l05Get_stop r s hs lo deep (by omega) i l hi hl w h (.inr (.inl (by omega)))
  | f + 1, deep, hd, hf, i, l, w, hi, hl, h => by
    have ih := fun (i l : Nat) (W : World) (hi : i ≤ s.size) (hl : l ≤ 1204) (h : RC W r s lo l) => l05Get_any r s hs lo f (deep + 1) (by omega) (by omega) i l W hi hl h
    by_cases hin : i < s.size
    · by_cases h0 : l = 0
      · rw [show cg true lo s (f + 1) i l = none by rw [cg, dif_pos hin, if_pos h0]]
        exact l05Get_stop r s hs lo deep (by omega) i l hi hl w h (.inl h0)
      · obtain ⟨l', rfl⟩ : ∃ l', l = l' + 1 := ⟨l - 1, by omega⟩
        rw [cg, dif_pos hin, if_neg (by omega), show l' + 1 - 1 = l' by omega]
        have hg := cg_good (sp := true) (lo := lo) hs f
        have hdp : 0 ≤ deep ∧ deep ≤ 14 := by omega
        unfold cgVal
        by_cases ho : isOpen lo s[i].toNat
        · rw [if_pos ho]
          obtain ⟨rfl, hb, ha1, ha2⟩ := ho
          unfold cgOpen
          by_cases h2 : s[i].toNat / 32 = 2
          · rw [if_pos h2]
            exact lget_open r s hs _ hg deep hdp ih i l' hin hl w h 2 (by omega) ⟨hb, h2⟩ _ (fun W hW => l05Open_2 r s hs true i l' deep hin h2 W hW)
          rw [if_neg h2]
          by_cases h3 : s[i].toNat / 32 = 3
          · rw [if_pos h3]
            exact lget_open r s hs _ hg deep hdp ih i l' hin hl w h 3 (by omega) ⟨hb, h3⟩ _ (fun W hW => l05Open_3 r s hs true i l' deep hin h3 W hW)
          rw [if_neg h3]
          by_cases h4 : s[i].toNat / 32 = 4
          · rw [if_pos h4]
            exact lget_open r s hs _ hg deep hdp ih i l' hin hl w h 4 (by omega) ⟨hb, h4⟩ _ (fun W hW => l05Open_4 r s hs true _ hg deep (by omega) ih i l' hin h4 (by omega) W hW)
          rw [if_neg h4]
          have h5 : s[i].toNat / 32 = 5 := by omega
          exact lget_open r s hs _ hg deep hdp ih i l' hin hl w h 5 (by omega) ⟨hb, h5⟩ _ (fun W hW => l05Open_5 r s hs true _ hg deep (by omega) ih i l' hin h5 (by omega) W hW)
        · rw [if_neg ho]
          cases hh : hdR lo s i with
          | none =>
            refine lget_nohead r s hs lo _ hg deep hdp ih i l' hin hl w h ?_ hh
            unfold isOpen at ho
            cases lo
            · exact .inl rfl
            · simp only [true_and] at ho
              exact .inr (by omega)
          | some q =>
            obtain ⟨a, n, x⟩ := q
            have hno : lo = false ∨ s[i].toNat % 32 ≠ 31 := .inr (hdR_low hh hin)
            have ha7 := (hdR_some hh).2.2.2.1
            show Calls _ _ _ _ (CgRet r s lo (cgHead true lo s (cg true lo s f) a n x l') w)
            unfold cgHead
            by_cases a0 : a = 0
            · rw [if_pos (by omega)]; exact lget_num0 r s hs lo _ hg deep hdp ih i l' hin hl w h hno a n x hh a0
            by_cases a1 : a = 1
            · rw [if_pos (by omega)]; exact lget_num1 r s hs lo _ hg deep hdp ih i l' hin hl w h hno a n x hh a1
            rw [if_neg (by omega)]
            by_cases a2 : a = 2
            · rw [if_pos a2]; exact lget_str2 r s hs lo _ hg deep hdp ih i l' hin hl w h hno a n x hh a2
            rw [if_neg a2]
            by_cases a3 : a = 3
            · rw [if_pos a3]; exact lget_str3 r s hs lo _ hg deep hdp ih i l' hin hl w h hno a n x hh a3
            rw [if_neg a3]
            by_cases a4 : a = 4
            · rw [if_pos a4]
              have := lget_kids4 r s hs lo _ hg deep hdp ih i l' hin hl w h hno a n x hh a4
              simpa only [true_and] using this
            rw [if_neg a4]
            by_cases a5 : a = 5
            · rw [if_pos a5]
              by_cases hn : 300 < n
              · have := lget_kids5 r s hs lo _ hg deep hdp ih i l' hin hl w h hno a n x hh a5
                rw [if_pos hn] at this
                rw [if_pos ⟨rfl, hn⟩]; exact this
              · have := lget_kids5 r s hs lo _ hg deep hdp ih i l' hin hl w h hno a n x hh a5
                rw [if_neg hn] at this
                rw [if_neg (fun hc => hn hc.2), show min n 4294967296 = n by omega]; exact this
            rw [if_neg a5]
            by_cases a6 : a = 6
            · rw [if_pos a6]
              have := lget_tag r s hs lo _ hg deep hdp ih i l' hin hl w h hno a n x hh a6
              simpa only [true_and] using this
            rw [if_neg a6]
            exact lget_simple r s hs lo _ hg deep hdp ih i l' hin hl w h hno a n x hh (by omega)
    · rw [show cg true lo s (f + 1) i l = none by rw [cg, dif_neg hin]]
      exact l05Get_stop r s hs lo deep (by omega) i l hi hl w h (.inr (.inr (by omega)))
end Go.Proofs.YtgbgeocmjdgmoaaDoor
namespace Go.Proofs.YtgbgeocmjdgmoaaDoor
set_option linter.unusedSimpArgs false
set_option linter.unusedVariables false
set_option maxRecDepth 100000
open Go.RowKit
def CRet (w : World) (r : V × Int) (e : Ending) (w' : World) : Prop := ∃ sl, e = .returned (.tuple #[r.1.agg sl, .int .i64 r.2]) ∧ r.1.wf ∧ OwnS w' (fun x => w.heap.size ≤ x) sl r.1.kids ∧ Below w.heap.size w w'
theorem VZ.wf : VZ.wf := ⟨in0, in0, in0, by show ByteArray.size ⟨#[]⟩ ≤ _; simp [ByteArray.size]⟩
def cbR2 (s : ByteArray) (i : Int) : V × Int := if 0 ≤ i ∧ i ≤ s.size then cborR (cg true false s 15 i.toNat 1204) s i.toNat else (VZ, -1)
theorem c_zero {w w' : World} (hb : Below w.heap.size w w') : CRet w (VZ, -1) (.returned (.tuple #[.agg #[.int .i64 0, .int .i64 0, .int .i64 0, .string ⟨#[]⟩, .slice none 0 0], .int .i64 (-1)])) w' :=
  ⟨.slice none 0 0, rfl, VZ.wf, OwnS.nil _ _, hb⟩
theorem cbR2_out {s : ByteArray} {i : Int} (h : i < 0 ∨ s.size ≤ i) : cbR2 s i = (VZ, -1) := by
  unfold cbR2
  split
  · rw [cg, dif_neg (by omega)]; rfl
  · rfl
theorem cbne_no {a b : ByteArray} (h : a = b) : (a.toList != b.toList) = false := by simp [bne, ba_yes h]
theorem cbne_yes {a b : ByteArray} (h : ¬ a = b) : (a.toList != b.toList) = true := by simp [bne, ba_no h]
theorem vb_set5c {B : Nat} {w w' : World} (h : Below B w w') (c : Nat) (hc : B ≤ c) (v0 v1 v2 v3 v4 : Value) : Below B w (set5 w' c v0 v1 v2 v3 v4) := by
  unfold Go.Proofs.YtgbgeocmjdgmoaaDoor.set5
  exact ((((h.setCell (p := ⟨c, _, none⟩) hc _).setCell (p := ⟨c, _, none⟩) hc _).setCell (p := ⟨c, _, none⟩) hc _).setCell (p := ⟨c, _, none⟩) hc _).setCell (p := ⟨c, _, none⟩) hc _
theorem ckeep6 {w W w2 : World} {b : Nat} {x0 x1 x2 x3 x4 : Value} (hb : Below W.heap.size W w2) (h : W.cell? ⟨b, 0, none⟩ = some x0 ∧ W.cell? ⟨b, 1, none⟩ = some x1 ∧ W.cell? ⟨b, 2, none⟩ = some x2 ∧ W.cell? ⟨b, 3, none⟩ = some x3 ∧ W.cell? ⟨b, 4, none⟩ = some x4 ∧ Below w.heap.size w W) :
    w2.cell? ⟨b, 0, none⟩ = some x0 ∧ w2.cell? ⟨b, 1, none⟩ = some x1 ∧ w2.cell? ⟨b, 2, none⟩ = some x2 ∧ w2.cell? ⟨b, 3, none⟩ = some x3 ∧ w2.cell? ⟨b, 4, none⟩ = some x4 ∧ Below w.heap.size w w2 :=
  ⟨keep1 hb h.1, keep1 hb h.2.1, keep1 hb h.2.2.1, keep1 hb h.2.2.2.1, keep1 hb h.2.2.2.2.1, h.2.2.2.2.2.trans (hb.mono h.2.2.2.2.2.size)⟩
def BRet2 (w : World) (r : V × Bool) (e : Ending) (w' : World) : Prop := ∃ sl, e = .returned (.tuple #[r.1.agg sl, .bool r.2]) ∧ r.1.wf ∧ OwnS w' (fun x => w.heap.size ≤ x) sl r.1.kids ∧ Below w.heap.size w w'
def looseR2 (s : ByteArray) : V × Bool := if s.size ≤ 4000 then looseR (cg true true s 15 0 1204) s else (VZ, false)
theorem b_zero {w w' : World} (hb : Below w.heap.size w w') : BRet2 w (VZ, false) (.returned (.tuple #[.agg #[.int .i64 0, .int .i64 0, .int .i64 0, .string ⟨#[]⟩, .slice none 0 0], .bool false])) w' :=
  ⟨.slice none 0 0, rfl, VZ.wf, OwnS.nil _ _, hb⟩
theorem fits_iff (t : V) : (okT t && !hasT 4 4 t) = decide (cborB t ≠ []) := by
  cases h : (okT t && !hasT 4 4 t) with
  | true => rw [(cborB_yes h).1]; exact (decide_eq_true (cborL_ne t)).symm
  | false => rw [cborB_no h]; rfl
set_option maxHeartbeats 2000000 in
theorem GetCbor_spec0 (w0 : World) (s : ByteArray) (hs : s.size ≤ 1048576) (i : Int) (hi : In64 i) (w : World) (hw : Below w0.heap.size w0 w) :
    Calls Tryd.prog 77 #[.string s, .int .i64 i] w (CRet w (cbR2 s i)) := by
  obtain ⟨hi0, hi1⟩ := hi
  have BZ := Lib.hid (Box.new w 0 0 0 ⟨#[]⟩ (.slice none 0 0) 26)
  obtain ⟨z0, z1, z2, z3, z4⟩ := BZ.out.cells
  have zf0 := BZ.out.free (i := 0); have zf1 := BZ.out.free (i := 1); have zf2 := BZ.out.free (i := 2); have zf3 := BZ.out.free (i := 3); have zf4 := BZ.out.free (i := 4)
  by_cases h1 : i < 0
  · rw [cbR2_out (.inl h1)]
    go_enter Tryd.func77, Tryd.ntmps77
    go_wp2_with fail
    refine bodyPost_ret (v := .tuple #[.agg #[.int .i64 0, .int .i64 0, .int .i64 0, .string ⟨#[]⟩, .slice none 0 0], .int .i64 (-1)]) (by simp [results, Tryd.results77, go_sem, z0, z1, z2, z3, z4]) rfl (c_zero ((by (with_reducible (repeat' (first | exact Below.refl _ _ | refine below_alloc ?_ _ ?_ | refine Below.setCell ?_ ?_ _ | refine Below.drew ?_ | refine below_drewN ?_ _ | refine below_step ?_ (by assumption) ?_ | refine below_mark ?_ (by assumption) ?_))); all_goals (first | omega | (simp; done) | (simp; omega)))))
  by_cases h2 : (s.size : Int) ≤ i
  · rw [cbR2_out (.inr h2)]
    go_enter Tryd.func77, Tryd.ntmps77
    go_wp2_with fail
    refine bodyPost_ret (v := .tuple #[.agg #[.int .i64 0, .int .i64 0, .int .i64 0, .string ⟨#[]⟩, .slice none 0 0], .int .i64 (-1)]) (by simp [results, Tryd.results77, go_sem, z0, z1, z2, z3, z4]) rfl (c_zero ((by (with_reducible (repeat' (first | exact Below.refl _ _ | refine below_alloc ?_ _ ?_ | refine Below.setCell ?_ ?_ _ | refine Below.drew ?_ | refine below_drewN ?_ _ | refine below_step ?_ (by assumption) ?_ | refine below_mark ?_ (by assumption) ?_))); all_goals (first | omega | (simp; done) | (simp; omega)))))
  obtain ⟨k, rfl⟩ : ∃ k : Nat, i = (k : Int) := ⟨i.toNat, by omega⟩
  have hk : k < s.size := by omega
  have HE := Lib.hid (show cbR2 s (k : Int) = cborR (cg true false s 15 k 1204) s k by unfold cbR2; rw [if_pos (by omega), Int.toNat_natCast])
  have HG := Lib.hid (fun v j m (h : cg true false s 15 k 1204 = some (v, j, m)) => cg_good hs 15 k 1204 v j m h)
  have CL := Lib.hid (fun (r : Nat) (W : World) (h : RC W r s false ((1204 : Nat) : Int)) => show Calls Tryd.prog 138 #[.pointer (some ⟨r, 0, none⟩), .int .i64 (k : Int), .int .i64 0] W (CgRet r s false (cg true false s 15 k 1204) W) from
    l05Get_any r s hs false 15 0 (by omega) (by omega) k 1204 W (by omega) (by omega) h)
  rw [HE.out]
  generalize cg true false s 15 k 1204 = o at *
  clear HE h1 h2 hi0 hi1
  have RC5 := Lib.hid (show RC ((w.alloc (.cells #[.int .i64 0, .int .i64 0, .int .i64 0, .string ⟨#[]⟩, .slice none 0 0] 26)).alloc (.cells #[.string s, .bool false, .int .i64 1204] 134)) (w.heap.size + 1) s false ((1204 : Nat) : Int) from heap_alloc_here _ (by simp))
  have hz5 : ((w.alloc (.cells #[.int .i64 0, .int .i64 0, .int .i64 0, .string ⟨#[]⟩, .slice none 0 0] 26)).alloc (.cells #[.string s, .bool false, .int .i64 1204] 134)).heap.size = w.heap.size + 1 + 1 := by simp
  have HB5 := Lib.hid (show Below w.heap.size w ((w.alloc (.cells #[.int .i64 0, .int .i64 0, .int .i64 0, .string ⟨#[]⟩, .slice none 0 0] 26)).alloc (.cells #[.string s, .bool false, .int .i64 1204] 134)) from (by (with_reducible (repeat' (first | exact Below.refl _ _ | refine below_alloc ?_ _ ?_ | refine Below.setCell ?_ ?_ _ | refine Below.drew ?_ | refine below_drewN ?_ _ | refine below_step ?_ (by assumption) ?_ | refine below_mark ?_ (by assumption) ?_))); all_goals (first | omega | (simp; done) | (simp; omega))))
  have BZ5 := Lib.hid (show Box ((w.alloc (.cells #[.int .i64 0, .int .i64 0, .int .i64 0, .string ⟨#[]⟩, .slice none 0 0] 26)).alloc (.cells #[.string s, .bool false, .int .i64 1204] 134)) w.heap.size 0 0 0 ⟨#[]⟩ (.slice none 0 0) 26 from (BZ.out).alloc _)
  cases o with
  | none =>
    go_enter Tryd.func77, Tryd.ntmps77
    go_wp2_with fail
    refine (CL.out _ _ RC5.out).mono ?_
    rintro e w6 ⟨⟨t', sa, sn, sc, rfl⟩, ht6⟩
    unfold V.agg
    have hz6 := ht6.size
    rw [hz5] at hz6
    have BZ6 := Lib.hid (show Box w6 w.heap.size 0 0 0 ⟨#[]⟩ (.slice none 0 0) 26 from (ht6.block w.heap.size (by omega) (by omega)).trans BZ5.out)
    have HB6 := Lib.hid (show Below w.heap.size w w6 from HB5.out.trans (ht6.below (fun x hx => by omega) (by omega)))
    clear z0 z1 z2 z3 z4 zf0 zf1 zf2 zf3 zf4
    obtain ⟨z0, z1, z2, z3, z4⟩ := BZ6.out.cells
    have zf0 := BZ6.out.free (i := 0); have zf1 := BZ6.out.free (i := 1); have zf2 := BZ6.out.free (i := 2); have zf3 := BZ6.out.free (i := 3); have zf4 := BZ6.out.free (i := 4)
    have hm1 : w.heap.size ≠ w6.heap.size := by omega
    have hm2 : w6.heap.size ≠ w.heap.size := by omega
    have hm3 : w.heap.size < w6.heap.size := by omega
    clear CL HG RC5 BZ BZ5 BZ6 ht6
    have HBT := Lib.hid HB6.out
    go_wp2_with fail
    go_quiet (fail)
    go_wp2_with fail
    refine bodyPost_ret (v := .tuple #[.agg #[.int .i64 0, .int .i64 0, .int .i64 0, .string ⟨#[]⟩, .slice none 0 0], .int .i64 (-1)]) (by simp [results, Tryd.results77, go_sem, z0, z1, z2, z3, z4, hm3]) rfl (c_zero ?_)
    have hb6 := HBT.out
    exact (by (with_reducible (repeat' (first | exact Below.refl _ _ | refine below_alloc ?_ _ ?_ | refine Below.setCell ?_ ?_ _ | refine Below.drew ?_ | refine below_drewN ?_ _ | refine below_step ?_ (by assumption) ?_ | refine below_mark ?_ (by assumption) ?_))); all_goals (first | omega | (simp; done) | (simp; omega)))
  | some q =>
    obtain ⟨v, j, m⟩ := q
    obtain ⟨hg1, hg2, hg3, hg4, hg5, hg6⟩ := HG.out v j m rfl
    have HQ := Lib.hid (show cborR (some (v, j, m)) s k = if cborB v = (s.extract k j).data.toList then (v, (j : Int)) else (VZ, -1) from rfl)
    go_enter Tryd.func77, Tryd.ntmps77
    go_wp2_with fail
    refine (CL.out _ _ RC5.out).mono ?_
    rintro e w6 ⟨⟨sl, rfl, uwf, uo, hrb6⟩, ht6⟩
    obtain ⟨ua, un, uc, rfl⟩ : ∃ sa sn sc, sl = .slice sa sn sc := by obtain ⟨p, q, e⟩ := uo.slice; exact ⟨p, _, q, e⟩
    have hz6 := ht6.size
    rw [hz5] at hz6
    have BZ6 := Lib.hid (show Box w6 w.heap.size 0 0 0 ⟨#[]⟩ (.slice none 0 0) 26 from (ht6.block w.heap.size (by omega) (by omega)).trans BZ5.out)
    have HB6 := Lib.hid (show Below w.heap.size w w6 from HB5.out.trans (ht6.below (fun x hx => by omega) (by omega)))
    clear z0 z1 z2 z3 z4 zf0 zf1 zf2 zf3 zf4
    obtain ⟨z0, z1, z2, z3, z4⟩ := BZ6.out.cells
    have zf0 := BZ6.out.free (i := 0); have zf1 := BZ6.out.free (i := 1); have zf2 := BZ6.out.free (i := 2); have zf3 := BZ6.out.free (i := 3); have zf4 := BZ6.out.free (i := 4)
    have hm1 : w.heap.size ≠ w6.heap.size := by omega
    have hm2 : w6.heap.size ≠ w.heap.size := by omega
    have hm3 : w.heap.size < w6.heap.size := by omega
    have PM := Lib.hid (fun (W : World) (hW : W.cell? ⟨w6.heap.size, 0, none⟩ = some (.int .i64 v.k) ∧ W.cell? ⟨w6.heap.size, 1, none⟩ = some (.int .i64 v.n) ∧ W.cell? ⟨w6.heap.size, 2, none⟩ = some (.int .i64 v.e) ∧ W.cell? ⟨w6.heap.size, 3, none⟩ = some (.string v.s) ∧ W.cell? ⟨w6.heap.size, 4, none⟩ = some (.slice ua un uc) ∧ Below w6.heap.size w6 W) => PutCbor_spec w6 (v.agg (.slice ua un uc)) v ⟨_, rfl, uwf, uo.rep⟩ (by omega) W hW.2.2.2.2.2)
    have hkj : (k : Int) ≤ (j : Int) := by omega
    have hj0 : (0 : Int) ≤ (j : Int) := by omega
    have tj : decide ((j : Int) < 0) = false := decide_eq_false (by omega)
    have hjs : (j : Int) ≤ (s.size : Int) := by omega
    have HVI := Lib.hid (show ∀ w', Below w.heap.size w w' → OwnS w' (fun x => w.heap.size ≤ x) (.slice ua un uc) v.kids → CRet w (v, (j : Int)) (.returned (.tuple #[v.agg (.slice ua un uc), .int .i64 (j : Int)])) w' from fun w' h1 h2 => ⟨_, rfl, uwf, h2, h1⟩)
    have HO6 := Lib.hid (show OwnS w6 (fun x => w.heap.size + 1 + 1 ≤ x) (.slice ua un uc) v.kids from OwnS.mono uo (fun x hx => by rw [hz5] at hx; exact hx))
    have HM8 := Lib.hid (show w.heap.size + 1 + 1 ≤ w.heap.size → False by omega)
    have HM9 := Lib.hid (show ∀ x, w.heap.size + 1 + 1 ≤ x → w.heap.size ≤ x by intro x hx; omega)
    have BV := Lib.hid (Box.new w6 v.k v.n v.e v.s (.slice ua un uc) 26)
    clear CL HG RC5 BZ BZ5 ht6 uo hrb6 uwf hg1 hg3 hg4 hg5 hg6
    unfold V.agg at PM HVI ⊢
    obtain ⟨v0, v1, v2, v3, v4⟩ := BV.out.cells
    by_cases hc : (⟨(cborB v).toArray⟩ : ByteArray) = s.extract k j
    · have t1 := cbne_no hc
      have t2 := ba_yes hc
      have hlist : cborB v = (s.extract k j).data.toList := by rw [← hc]
      have HE2 := Lib.hid (show cborR (some (v, j, m)) s k = (v, (j : Int)) from by rw [HQ.out, if_pos hlist])
      clear hlist HQ hc
      unfold TxtRet bstr at PM
      generalize (⟨(cborB v).toArray⟩ : ByteArray) = C at *
      have hb7 : Below w6.heap.size w6 (w6.alloc (.cells #[.int .i64 v.k, .int .i64 v.n, .int .i64 v.e, .string v.s, .slice ua un uc] 26)) := (Below.refl _ _).alloc (Nat.le_refl _) _
      go_wp2_with fail
      go_region_held3 (fun w' => w'.cell? ⟨w6.heap.size, 0, none⟩ = some (.int .i64 v.k) ∧ w'.cell? ⟨w6.heap.size, 1, none⟩ = some (.int .i64 v.n) ∧ w'.cell? ⟨w6.heap.size, 2, none⟩ = some (.int .i64 v.e) ∧ w'.cell? ⟨w6.heap.size, 3, none⟩ = some (.string v.s) ∧ w'.cell? ⟨w6.heap.size, 4, none⟩ = some (.slice ua un uc) ∧ Below w6.heap.size w6 w') (first | with_reducible exact ⟨by assumption, by assumption, by assumption, by assumption, by assumption, by assumption⟩ | with_reducible assumption | exact ⟨v0, v1, v2, v3, v4, hb7.drew⟩ | go_keep) (((with_reducible refine (PM.out _ (by with_reducible assumption)).mono ?_); rintro e8 w8 ⟨rfl, hb8⟩; have hS := ckeep6 hb8 (by with_reducible assumption); obtain ⟨hS0, hS1, hS2, hS3, hS4, hS5⟩ := hS))
      clear v0 v1 v2 v3 v4
      have hz8 := hS5.size
      have BZ8 := Lib.hid (show Box w8 w.heap.size 0 0 0 ⟨#[]⟩ (.slice none 0 0) 26 from BZ6.out.stay hS5)
      clear z0 z1 z2 z3 z4 zf0 zf1 zf2 zf3 zf4
      obtain ⟨z0, z1, z2, z3, z4⟩ := BZ8.out.cells
      have zf0 := BZ8.out.free (i := 0); have zf1 := BZ8.out.free (i := 1); have zf2 := BZ8.out.free (i := 2); have zf3 := BZ8.out.free (i := 3); have zf4 := BZ8.out.free (i := 4)
      have HS5 := Lib.hid hS5
      clear hS5 hb8
      go_wp2_with fail
      refine bodyPost_ret (v := .tuple #[.agg #[.int .i64 v.k, .int .i64 v.n, .int .i64 v.e, .string v.s, .slice ua un uc], .int .i64 (j : Int)]) (by simp [results, Tryd.results77, go_sem, z0, z1, z2, z3, z4]) rfl (by rw [HE2.out]; exact HVI.out _ (vb_set5c (HB6.out.trans (HS5.out.mono HB6.out.size)) _ (Nat.le_refl _) _ _ _ _ _) (OwnS.mono (OwnS.set5 (HO6.out.stay HS5.out) w.heap.size HM8.out _ _ _ _ _) HM9.out))
    · have t1 := cbne_yes hc
      have t2 := ba_no hc
      have hlist : ¬ cborB v = (s.extract k j).data.toList := fun e => hc (by rw [e])
      have HE2 := Lib.hid (show cborR (some (v, j, m)) s k = (VZ, -1) from by rw [HQ.out, if_neg hlist])
      clear hlist HQ hc
      unfold TxtRet bstr at PM
      generalize (⟨(cborB v).toArray⟩ : ByteArray) = C at *
      have hb7 : Below w6.heap.size w6 (w6.alloc (.cells #[.int .i64 v.k, .int .i64 v.n, .int .i64 v.e, .string v.s, .slice ua un uc] 26)) := (Below.refl _ _).alloc (Nat.le_refl _) _
      go_wp2_with fail
      go_region_held3 (fun w' => w'.cell? ⟨w6.heap.size, 0, none⟩ = some (.int .i64 v.k) ∧ w'.cell? ⟨w6.heap.size, 1, none⟩ = some (.int .i64 v.n) ∧ w'.cell? ⟨w6.heap.size, 2, none⟩ = some (.int .i64 v.e) ∧ w'.cell? ⟨w6.heap.size, 3, none⟩ = some (.string v.s) ∧ w'.cell? ⟨w6.heap.size, 4, none⟩ = some (.slice ua un uc) ∧ Below w6.heap.size w6 w') (first | with_reducible exact ⟨by assumption, by assumption, by assumption, by assumption, by assumption, by assumption⟩ | with_reducible assumption | exact ⟨v0, v1, v2, v3, v4, hb7.drew⟩ | go_keep) (((with_reducible refine (PM.out _ (by with_reducible assumption)).mono ?_); rintro e8 w8 ⟨rfl, hb8⟩; have hS := ckeep6 hb8 (by with_reducible assumption); obtain ⟨hS0, hS1, hS2, hS3, hS4, hS5⟩ := hS))
      clear v0 v1 v2 v3 v4
      have hz8 := hS5.size
      have BZ8 := Lib.hid (show Box w8 w.heap.size 0 0 0 ⟨#[]⟩ (.slice none 0 0) 26 from BZ6.out.stay hS5)
      clear z0 z1 z2 z3 z4 zf0 zf1 zf2 zf3 zf4
      obtain ⟨z0, z1, z2, z3, z4⟩ := BZ8.out.cells
      have zf0 := BZ8.out.free (i := 0); have zf1 := BZ8.out.free (i := 1); have zf2 := BZ8.out.free (i := 2); have zf3 := BZ8.out.free (i := 3); have zf4 := BZ8.out.free (i := 4)
      have HS5 := Lib.hid hS5
      clear hS5 hb8
      go_wp2_with fail
      refine bodyPost_ret (v := .tuple #[.agg #[.int .i64 0, .int .i64 0, .int .i64 0, .string ⟨#[]⟩, .slice none 0 0], .int .i64 (-1)]) (by simp [results, Tryd.results77, go_sem, z0, z1, z2, z3, z4]) rfl (by rw [HE2.out]; exact c_zero (vb_set5c (HB6.out.trans (HS5.out.mono HB6.out.size)) _ (Nat.le_refl _) _ _ _ _ _))
set_option maxHeartbeats 2000000 in
theorem Loose_spec0 (w0 : World) (s : ByteArray) (hs : s.size ≤ 1048576) (w : World) (hw : Below w0.heap.size w0 w) :
    Calls Tryd.prog 87 #[.string s] w (BRet2 w (looseR2 s)) := by
  have BZ := Lib.hid (Box.new w 0 0 0 ⟨#[]⟩ (.slice none 0 0) 26)
  obtain ⟨z0, z1, z2, z3, z4⟩ := BZ.out.cells
  have zf0 := BZ.out.free (i := 0); have zf1 := BZ.out.free (i := 1); have zf2 := BZ.out.free (i := 2); have zf3 := BZ.out.free (i := 3); have zf4 := BZ.out.free (i := 4)
  by_cases h1 : 4000 < s.size
  · rw [show looseR2 s = (VZ, false) by unfold looseR2; rw [if_neg (by omega)]]
    have t1 : decide ((4000 : Int) < (s.size : Int)) = true := decide_eq_true (by omega)
    go_enter Tryd.func87, Tryd.ntmps87
    go_wp2_with fail
    refine bodyPost_ret (v := .tuple #[.agg #[.int .i64 0, .int .i64 0, .int .i64 0, .string ⟨#[]⟩, .slice none 0 0], .bool false]) (by simp [results, Tryd.results87, go_sem, z0, z1, z2, z3, z4]) rfl (b_zero ((by (with_reducible (repeat' (first | exact Below.refl _ _ | refine below_alloc ?_ _ ?_ | refine Below.setCell ?_ ?_ _ | refine Below.drew ?_ | refine below_drewN ?_ _ | refine below_step ?_ (by assumption) ?_ | refine below_mark ?_ (by assumption) ?_))); all_goals (first | omega | (simp; done) | (simp; omega)))))
  have t1 : decide ((4000 : Int) < (s.size : Int)) = false := decide_eq_false (by omega)
  have HE := Lib.hid (show looseR2 s = looseR (cg true true s 15 0 1204) s by unfold looseR2; rw [if_pos (by omega)])
  by_cases h2 : s = ⟨#[]⟩
  · subst h2
    rw [HE.out, show cg true true (⟨#[]⟩ : ByteArray) 15 0 1204 = none by rw [cg, dif_neg (by simp [ByteArray.size])]]
    clear HE h1 t1 hs
    go_enter Tryd.func87, Tryd.ntmps87
    go_wp2_with fail
    refine bodyPost_ret (v := .tuple #[.agg #[.int .i64 0, .int .i64 0, .int .i64 0, .string ⟨#[]⟩, .slice none 0 0], .bool false]) (by simp [results, Tryd.results87, go_sem, z0, z1, z2, z3, z4]) rfl (b_zero ((by (with_reducible (repeat' (first | exact Below.refl _ _ | refine below_alloc ?_ _ ?_ | refine Below.setCell ?_ ?_ _ | refine Below.drew ?_ | refine below_drewN ?_ _ | refine below_step ?_ (by assumption) ?_ | refine below_mark ?_ (by assumption) ?_))); all_goals (first | omega | (simp; done) | (simp; omega)))))
  have t2 : s.toList.isEmpty = false := by
    cases hl : s.toList with
    | nil => rw [ByteArray.toList_eq] at hl; exact absurd (ba_ext (b := ⟨#[]⟩) (by rw [hl])) h2
    | cons a l => rfl
  have HG := Lib.hid (fun v j m (h : cg true true s 15 0 1204 = some (v, j, m)) => cg_good hs 15 0 1204 v j m h)
  have CL := Lib.hid (fun (r : Nat) (W : World) (h : RC W r s true ((1204 : Nat) : Int)) => show Calls Tryd.prog 138 #[.pointer (some ⟨r, 0, none⟩), .int .i64 0, .int .i64 0] W (CgRet r s true (cg true true s 15 0 1204) W) from
    l05Get_any r s hs true 15 0 (by omega) (by omega) 0 1204 W (by omega) (by omega) h)
  rw [HE.out]
  generalize cg true true s 15 0 1204 = o at *
  clear HE h2
  have RC5 := Lib.hid (show RC ((w.alloc (.cells #[.int .i64 0, .int .i64 0, .int .i64 0, .string ⟨#[]⟩, .slice none 0 0] 26)).alloc (.cells #[.string s, .bool true, .int .i64 1204] 134)) (w.heap.size + 1) s true ((1204 : Nat) : Int) from heap_alloc_here _ (by simp))
  have hz5 : ((w.alloc (.cells #[.int .i64 0, .int .i64 0, .int .i64 0, .string ⟨#[]⟩, .slice none 0 0] 26)).alloc (.cells #[.string s, .bool true, .int .i64 1204] 134)).heap.size = w.heap.size + 1 + 1 := by simp
  have HB5 := Lib.hid (show Below w.heap.size w ((w.alloc (.cells #[.int .i64 0, .int .i64 0, .int .i64 0, .string ⟨#[]⟩, .slice none 0 0] 26)).alloc (.cells #[.string s, .bool true, .int .i64 1204] 134)) from (by (with_reducible (repeat' (first | exact Below.refl _ _ | refine below_alloc ?_ _ ?_ | refine Below.setCell ?_ ?_ _ | refine Below.drew ?_ | refine below_drewN ?_ _ | refine below_step ?_ (by assumption) ?_ | refine below_mark ?_ (by assumption) ?_))); all_goals (first | omega | (simp; done) | (simp; omega))))
  have BZ5 := Lib.hid (show Box ((w.alloc (.cells #[.int .i64 0, .int .i64 0, .int .i64 0, .string ⟨#[]⟩, .slice none 0 0] 26)).alloc (.cells #[.string s, .bool true, .int .i64 1204] 134)) w.heap.size 0 0 0 ⟨#[]⟩ (.slice none 0 0) 26 from (BZ.out).alloc _)
  cases o with
  | none =>
    go_enter Tryd.func87, Tryd.ntmps87
    go_wp2_with fail
    refine (CL.out _ _ RC5.out).mono ?_
    rintro e w6 ⟨⟨t', sa, sn, sc, rfl⟩, ht6⟩
    unfold V.agg
    have hz6 := ht6.size
    rw [hz5] at hz6
    have BZ6 := Lib.hid (show Box w6 w.heap.size 0 0 0 ⟨#[]⟩ (.slice none 0 0) 26 from (ht6.block w.heap.size (by omega) (by omega)).trans BZ5.out)
    have HB6 := Lib.hid (show Below w.heap.size w w6 from HB5.out.trans (ht6.below (fun x hx => by omega) (by omega)))
    clear z0 z1 z2 z3 z4 zf0 zf1 zf2 zf3 zf4
    obtain ⟨z0, z1, z2, z3, z4⟩ := BZ6.out.cells
    have zf0 := BZ6.out.free (i := 0); have zf1 := BZ6.out.free (i := 1); have zf2 := BZ6.out.free (i := 2); have zf3 := BZ6.out.free (i := 3); have zf4 := BZ6.out.free (i := 4)
    have hm1 : w.heap.size ≠ w6.heap.size := by omega
    have hm2 : w6.heap.size ≠ w.heap.size := by omega
    have hm3 : w.heap.size < w6.heap.size := by omega
    have tn : ¬ ((-1 : Int) = (s.size : Int)) := by omega
    clear CL HG RC5 BZ BZ5 BZ6 ht6
    have HBT := Lib.hid HB6.out
    go_wp2_with fail
    refine bodyPost_ret (v := .tuple #[.agg #[.int .i64 0, .int .i64 0, .int .i64 0, .string ⟨#[]⟩, .slice none 0 0], .bool false]) (by simp [results, Tryd.results87, go_sem, z0, z1, z2, z3, z4, hm3]) rfl (b_zero ?_)
    have hb6 := HBT.out
    exact (by (with_reducible (repeat' (first | exact Below.refl _ _ | refine below_alloc ?_ _ ?_ | refine Below.setCell ?_ ?_ _ | refine Below.drew ?_ | refine below_drewN ?_ _ | refine below_step ?_ (by assumption) ?_ | refine below_mark ?_ (by assumption) ?_))); all_goals (first | omega | (simp; done) | (simp; omega)))
  | some q =>
    obtain ⟨v, j, m⟩ := q
    obtain ⟨hg1, hg2, hg3, hg4, hg5, hg6⟩ := HG.out v j m rfl
    have HQ := Lib.hid (show looseR (some (v, j, m)) s = if j = s.size ∧ cborB v ≠ [] then (v, true) else (VZ, false) from rfl)
    go_enter Tryd.func87, Tryd.ntmps87
    go_wp2_with fail
    refine (CL.out _ _ RC5.out).mono ?_
    rintro e w6 ⟨⟨sl, rfl, uwf, uo, hrb6⟩, ht6⟩
    obtain ⟨ua, un, uc, rfl⟩ : ∃ sa sn sc, sl = .slice sa sn sc := by obtain ⟨p, q, e⟩ := uo.slice; exact ⟨p, _, q, e⟩
    have hz6 := ht6.size
    rw [hz5] at hz6
    have BZ6 := Lib.hid (show Box w6 w.heap.size 0 0 0 ⟨#[]⟩ (.slice none 0 0) 26 from (ht6.block w.heap.size (by omega) (by omega)).trans BZ5.out)
    have HB6 := Lib.hid (show Below w.heap.size w w6 from HB5.out.trans (ht6.below (fun x hx => by omega) (by omega)))
    clear z0 z1 z2 z3 z4 zf0 zf1 zf2 zf3 zf4
    obtain ⟨z0, z1, z2, z3, z4⟩ := BZ6.out.cells
    have zf0 := BZ6.out.free (i := 0); have zf1 := BZ6.out.free (i := 1); have zf2 := BZ6.out.free (i := 2); have zf3 := BZ6.out.free (i := 3); have zf4 := BZ6.out.free (i := 4)
    have hm1 : w.heap.size ≠ w6.heap.size := by omega
    have hm2 : w6.heap.size ≠ w.heap.size := by omega
    have hm3 : w.heap.size < w6.heap.size := by omega
    have PM := Lib.hid (fun (W : World) (hW : Below w6.heap.size w6 W) => CborFits_spec w6 (v.agg (.slice ua un uc)) v ⟨_, rfl, uwf, uo.rep⟩ (by omega) W hW)
    have HVI := Lib.hid (show ∀ w', Below w.heap.size w w' → OwnS w' (fun x => w.heap.size ≤ x) (.slice ua un uc) v.kids → BRet2 w (v, true) (.returned (.tuple #[v.agg (.slice ua un uc), .bool true])) w' from fun w' h1 h2 => ⟨_, rfl, uwf, h2, h1⟩)
    have HO6 := Lib.hid (show OwnS w6 (fun x => w.heap.size + 1 + 1 ≤ x) (.slice ua un uc) v.kids from OwnS.mono uo (fun x hx => by rw [hz5] at hx; exact hx))
    have HM8 := Lib.hid (show w.heap.size + 1 + 1 ≤ w.heap.size → False by omega)
    have HM9 := Lib.hid (show ∀ x, w.heap.size + 1 + 1 ≤ x → w.heap.size ≤ x by intro x hx; omega)
    have BV := Lib.hid (Box.new w6 v.k v.n v.e v.s (.slice ua un uc) 26)
    clear CL HG RC5 BZ BZ5 ht6 uo hrb6 uwf hg1 hg3 hg4 hg5 hg6
    rw [fits_iff] at PM
    unfold V.agg at PM HVI ⊢
    obtain ⟨v0, v1, v2, v3, v4⟩ := BV.out.cells
    by_cases hj : j = s.size
    · by_cases hc : cborB v ≠ []
      · have HE2 := Lib.hid (show looseR (some (v, j, m)) s = (v, true) from by rw [HQ.out, if_pos ⟨hj, hc⟩])
        rw [decide_eq_true hc] at PM
        clear HQ hc
        subst hj
        go_wp2_with fail
        refine (PM.out _ ((by (with_reducible (repeat' (first | exact Below.refl _ _ | refine below_alloc ?_ _ ?_ | refine Below.setCell ?_ ?_ _ | refine Below.drew ?_ | refine below_drewN ?_ _ | refine below_step ?_ (by assumption) ?_ | refine below_mark ?_ (by assumption) ?_))); all_goals (first | omega | (simp; done) | (simp; omega))))).mono ?_
        rintro e8 w8 ⟨rfl, hb8⟩
        have hb68 : Below w6.heap.size w6 w8 := (by (with_reducible (repeat' (first | exact Below.refl _ _ | refine below_alloc ?_ _ ?_ | refine Below.setCell ?_ ?_ _ | refine Below.drew ?_ | refine below_drewN ?_ _ | refine below_step ?_ (by assumption) ?_ | refine below_mark ?_ (by assumption) ?_))); all_goals (first | omega | (simp; done) | (simp; omega)))
        have hz8 := hb68.size
        have BZ8 := Lib.hid (show Box w8 w.heap.size 0 0 0 ⟨#[]⟩ (.slice none 0 0) 26 from BZ6.out.stay hb68)
        have BV8 := Lib.hid (BV.out.stay hb8)
        clear z0 z1 z2 z3 z4 zf0 zf1 zf2 zf3 zf4 v0 v1 v2 v3 v4
        obtain ⟨z0, z1, z2, z3, z4⟩ := BZ8.out.cells
        have zf0 := BZ8.out.free (i := 0); have zf1 := BZ8.out.free (i := 1); have zf2 := BZ8.out.free (i := 2); have zf3 := BZ8.out.free (i := 3); have zf4 := BZ8.out.free (i := 4)
        obtain ⟨v0, v1, v2, v3, v4⟩ := BV8.out.cells
        have HS5 := Lib.hid hb68
        clear hb68 hb8
        go_wp2_with fail
        refine bodyPost_ret (v := .tuple #[.agg #[.int .i64 v.k, .int .i64 v.n, .int .i64 v.e, .string v.s, .slice ua un uc], .bool true]) (by simp [results, Tryd.results87, go_sem, z0, z1, z2, z3, z4]) rfl (by rw [HE2.out]; exact HVI.out _ (vb_set5c (HB6.out.trans (HS5.out.mono HB6.out.size)) _ (Nat.le_refl _) _ _ _ _ _) (OwnS.mono (OwnS.set5 (HO6.out.stay HS5.out) w.heap.size HM8.out _ _ _ _ _) HM9.out))
      · have HE2 := Lib.hid (show looseR (some (v, j, m)) s = (VZ, false) from by rw [HQ.out, if_neg (fun h => hc h.2)])
        rw [decide_eq_false hc] at PM
        clear HQ hc
        subst hj
        go_wp2_with fail
        refine (PM.out _ ((by (with_reducible (repeat' (first | exact Below.refl _ _ | refine below_alloc ?_ _ ?_ | refine Below.setCell ?_ ?_ _ | refine Below.drew ?_ | refine below_drewN ?_ _ | refine below_step ?_ (by assumption) ?_ | refine below_mark ?_ (by assumption) ?_))); all_goals (first | omega | (simp; done) | (simp; omega))))).mono ?_
        rintro e8 w8 ⟨rfl, hb8⟩
        have hb68 : Below w6.heap.size w6 w8 := (by (with_reducible (repeat' (first | exact Below.refl _ _ | refine below_alloc ?_ _ ?_ | refine Below.setCell ?_ ?_ _ | refine Below.drew ?_ | refine below_drewN ?_ _ | refine below_step ?_ (by assumption) ?_ | refine below_mark ?_ (by assumption) ?_))); all_goals (first | omega | (simp; done) | (simp; omega)))
        have hz8 := hb68.size
        have BZ8 := Lib.hid (show Box w8 w.heap.size 0 0 0 ⟨#[]⟩ (.slice none 0 0) 26 from BZ6.out.stay hb68)
        clear z0 z1 z2 z3 z4 zf0 zf1 zf2 zf3 zf4 v0 v1 v2 v3 v4
        obtain ⟨z0, z1, z2, z3, z4⟩ := BZ8.out.cells
        have zf0 := BZ8.out.free (i := 0); have zf1 := BZ8.out.free (i := 1); have zf2 := BZ8.out.free (i := 2); have zf3 := BZ8.out.free (i := 3); have zf4 := BZ8.out.free (i := 4)
        have HS5 := Lib.hid hb68
        clear hb68 hb8
        go_wp2_with fail
        refine bodyPost_ret (v := .tuple #[.agg #[.int .i64 0, .int .i64 0, .int .i64 0, .string ⟨#[]⟩, .slice none 0 0], .bool false]) (by simp [results, Tryd.results87, go_sem, z0, z1, z2, z3, z4]) rfl (by rw [HE2.out]; exact b_zero (vb_set5c (HB6.out.trans (HS5.out.mono HB6.out.size)) _ (Nat.le_refl _) _ _ _ _ _))
    · have HE2 := Lib.hid (show looseR (some (v, j, m)) s = (VZ, false) from by rw [HQ.out, if_neg (fun h => hj h.1)])
      have tn : ¬ ((j : Int) = (s.size : Int)) := by omega
      clear HQ hj PM HVI
      have HBT := Lib.hid HB6.out
      go_wp2_with fail
      refine bodyPost_ret (v := .tuple #[.agg #[.int .i64 0, .int .i64 0, .int .i64 0, .string ⟨#[]⟩, .slice none 0 0], .bool false]) (by simp [results, Tryd.results87, go_sem, z0, z1, z2, z3, z4, hm3]) rfl (by rw [HE2.out]; refine b_zero ?_; have hb6 := HBT.out; exact (by (with_reducible (repeat' (first | exact Below.refl _ _ | refine below_alloc ?_ _ ?_ | refine Below.setCell ?_ ?_ _ | refine Below.drew ?_ | refine below_drewN ?_ _ | refine below_step ?_ (by assumption) ?_ | refine below_mark ?_ (by assumption) ?_))); all_goals (first | omega | (simp; done) | (simp; omega))))
end Go.Proofs.YtgbgeocmjdgmoaaDoor
