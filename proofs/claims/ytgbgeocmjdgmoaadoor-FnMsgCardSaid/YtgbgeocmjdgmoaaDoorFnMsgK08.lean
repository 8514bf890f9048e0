/- Lemmas for the statement of the last text of this claim: texts joined. -/
import Derived.Test.YtgbgeocmjdgmoaaDoorFnMsgK06
namespace Go.Proofs.YtgbgeocmjdgmoaaDoor
set_option linter.unusedSimpArgs false
set_option linter.unusedVariables false
set_option maxRecDepth 100000
open Go.RowKit
theorem um_pass {d z : Nat} {s : ByteArray} {o : MG} {t : V} {sl : Value} {w W6 : World} {Fr : Nat → Prop} (hT : Touch (fun x => x = d) (fun x => x = d) w W6) (hz : w.heap.size ≤ z) (hzd : d ≠ z) (twf : t.wf) (tow : OwnS W6 Fr sl t.kids) (hF : ∀ x, Fr x → w.heap.size ≤ x ∧ x ≠ z)
    (hq : ∀ q, o = some q → t = q.1) (hs : UmSt d s (o.map (·.2)) W6) (v0 v1 v2 v3 v4 : Value) : UmRet d s o w (.returned (t.agg sl)) (set5 W6 z v0 v1 v2 v3 v4) :=
  ⟨t, sl, rfl, twf, OwnS.mono (tow.set5 z (fun h => (hF z h).2 rfl) _ _ _ _ _) (fun x hx => (hF x hx).1), hq, hs.keep (heap_set5 _ _ _ _ _ _ _ _ hzd), hT.set5 z hz _ _ _ _ _⟩
set_option maxRecDepth 100000 in
set_option maxHeartbeats 4000000 in
theorem value_small (d : Nat) (s : ByteArray) (hs : s.size ≤ 1048576) (g : Nat → Nat → MG) (hg : ∀ i l, MGood s i l (g i l)) (deep : Int) (hd : 0 ≤ deep ∧ deep ≤ 12)
    (hV : ∀ (i l : Nat) (W : World), i ≤ s.size → l ≤ 300 → UB W d s i (300 - (l : Int)) false → Calls Tryd.prog 120 #[.pointer (some ⟨d, 0, none⟩), .int .i64 (deep + 1)] W (UmRet d s (g i l) W)) (i l : Nat) (hi : i < s.size) (hl : l + 1 ≤ 300) (w : World) (hU : UB w d s i (300 - ((l + 1 : Nat) : Int)) false) (bn : Nat) (hb : wgo s i 1 = some (bn : Int)) (h1 : bn < 128) :
    Calls Tryd.prog 120 #[.pointer (some ⟨d, 0, none⟩), .int .i64 deep] w (UmRet d s (mgLeaf 3 ((bn : Int)) 0 (i + 1) l) w) := by
  have hdw := lt_of_heap hU
  obtain ⟨c, hc⟩ : ∃ c : Int, c = 300 - ((l + 1 : Nat) : Int) := ⟨_, rfl⟩
  rw [← hc] at hU
  have HU := Lib.hid hU
  obtain ⟨u0, u1, u2, u3, f1, f2, f3⟩ := hU.cells
  have hd1 : d ≠ w.heap.size := by omega
  have hd2 : w.heap.size ≠ d := by omega
  have hc0 : 0 ≤ c := by omega
  have hc1 : c + 1 ≤ 300 := by omega
  have HCL := Lib.hid (show c + 1 = 300 - (l : Int) by omega)
  clear hc
  have HU5 := Lib.hid (show UB ((w.setCell ⟨d, 2, none⟩ (.int .i64 (c + 1))).alloc (.cells #[.int .i64 0, .int .i64 0, .int .i64 0, .string ⟨#[]⟩, .slice none 0 0] 26)) d s i (c + 1) false from (HU.out.setC (c + 1)).stay ((Below.refl _ _).alloc (Nat.le_refl _) _))
  have HT5 := Lib.hid (show Touch (fun x => x = d) (fun x => x = d) w ((w.setCell ⟨d, 2, none⟩ (.int .i64 (c + 1))).alloc (.cells #[.int .i64 0, .int .i64 0, .int .i64 0, .string ⟨#[]⟩, .slice none 0 0] 26)) from ((Touch.refl _ w).cellD _).trans (Touch.of_below ((Below.refl _ _).alloc (Nat.le_refl _) _)))
  have BZ5 := Lib.hid (show Box ((w.setCell ⟨d, 2, none⟩ (.int .i64 (c + 1))).alloc (.cells #[.int .i64 0, .int .i64 0, .int .i64 0, .string ⟨#[]⟩, .slice none 0 0] 26)) w.heap.size 0 0 0 ⟨#[]⟩ (.slice none 0 0) 26 from heap_alloc_here _ (by simp))
  have hz5 : ((w.setCell ⟨d, 2, none⟩ (.int .i64 (c + 1))).alloc (.cells #[.int .i64 0, .int .i64 0, .int .i64 0, .string ⟨#[]⟩, .slice none 0 0] 26)).heap.size = w.heap.size + 1 := by simp
  have BZ := Lib.hid (Box.new w 0 0 0 ⟨#[]⟩ (.slice none 0 0) 26)
  obtain ⟨z0, z1, z2, z3, z4⟩ := BZ.out.cells
  have zf0 := BZ.out.free (i := 0); have zf1 := BZ.out.free (i := 1); have zf2 := BZ.out.free (i := 2); have zf3 := BZ.out.free (i := 3); have zf4 := BZ.out.free (i := 4)
  have hn64 : In64 ((bn : Int)) := by unfold In64; omega
  have WD := Lib.hid (fun (W : World) (h : UB W d s i (c + 1) false) => show Calls Tryd.prog 176 #[.pointer (some ⟨d, 0, none⟩), .int .i64 1] W (WdRet d s i 1 (c + 1) (some (bn : Int)) W) from by
    have := wide_any d s hs i 1 (by omega) (by omega) (by omega) (c + 1) false W h
    rw [if_neg (by simp), hb] at this; exact this)
  clear hV hg
  go_enter Tryd.func120, Tryd.ntmps120
  go_wp2_with fail
  refine (WD.out _ HU5.out).mono ?_
  rintro e6 w6 ⟨⟨rfl, hu6⟩, ht6⟩
  have hz6 := ht6.size
  rw [hz5] at hz6
  have BZ6 := Lib.hid (show Box w6 w.heap.size 0 0 0 ⟨#[]⟩ (.slice none 0 0) 26 from (ht6.block w.heap.size (by omega) hd2).trans BZ5.out)
  have HU6 := Lib.hid hu6
  have HT6 := Lib.hid (HT5.out.trans ht6)
  clear z0 z1 z2 z3 z4 zf0 zf1 zf2 zf3 zf4 u0 u1 u2 u3 f1 f2 f3 hu6 ht6
  obtain ⟨z0, z1, z2, z3, z4⟩ := BZ6.out.cells
  have zf0 := BZ6.out.free (i := 0); have zf1 := BZ6.out.free (i := 1); have zf2 := BZ6.out.free (i := 2); have zf3 := BZ6.out.free (i := 3); have zf4 := BZ6.out.free (i := 4)
  obtain ⟨u0, u1, u2, u3, f1, f2, f3⟩ := HU6.out.cells
  have HP := Lib.hid (fun v0 v1 v2 v3 v4 => show UmRet d s (mgLeaf 3 ((bn : Int)) 0 (i + 1) l) w (.returned (.agg #[.int .i64 3, .int .i64 ((bn : Int)), .int .i64 (0), .string ⟨#[]⟩, .slice none 0 0])) (set5 w6 w.heap.size v0 v1 v2 v3 v4) from
    um_pass (s := s) (o := mgLeaf 3 ((bn : Int)) 0 (i + 1) l) (t := .mk 3 ((bn : Int)) (0) ⟨#[]⟩ []) (Fr := fun _ => False) HT6.out (Nat.le_refl _) hd1 ⟨in3, hn64, in0, by show ByteArray.size ⟨#[]⟩ ≤ _; simp [ByteArray.size]⟩ (OwnS.nil _ _) (fun _ h => h.elim) (fun q9 e9 => by have e8 : some (V.mk 3 ((bn : Int)) (0) ⟨#[]⟩ [], (i + 1, l)) = some q9 := e9; injection e8 with e8; rw [← e8]) (show UmSt d s (some (i + 1, l)) w6 from by show UB w6 d s (i + 1) (300 - (l : Int)) false; rw [← HCL.out]; exact HU6.out) v0 v1 v2 v3 v4)
  go_wp2_with fail
  refine bodyPost_ret (v := .agg #[.int .i64 3, .int .i64 ((bn : Int)), .int .i64 0, .string ⟨#[]⟩, .slice none 0 0]) (by simp [results, Tryd.results120, go_sem, z0, z1, z2, z3, z4]) rfl (HP.out _ _ _ _ _)
set_option maxRecDepth 100000 in
set_option maxHeartbeats 4000000 in
theorem value_neg (d : Nat) (s : ByteArray) (hs : s.size ≤ 1048576) (g : Nat → Nat → MG) (hg : ∀ i l, MGood s i l (g i l)) (deep : Int) (hd : 0 ≤ deep ∧ deep ≤ 12)
    (hV : ∀ (i l : Nat) (W : World), i ≤ s.size → l ≤ 300 → UB W d s i (300 - (l : Int)) false → Calls Tryd.prog 120 #[.pointer (some ⟨d, 0, none⟩), .int .i64 (deep + 1)] W (UmRet d s (g i l) W)) (i l : Nat) (hi : i < s.size) (hl : l + 1 ≤ 300) (w : World) (hU : UB w d s i (300 - ((l + 1 : Nat) : Int)) false) (bn : Nat) (hb : wgo s i 1 = some (bn : Int)) (h1 : 224 ≤ bn) (h2 : bn < 256) :
    Calls Tryd.prog 120 #[.pointer (some ⟨d, 0, none⟩), .int .i64 deep] w (UmRet d s (mgLeaf 3 ((bn : Int) - 256) 0 (i + 1) l) w) := by
  have hdw := lt_of_heap hU
  obtain ⟨c, hc⟩ : ∃ c : Int, c = 300 - ((l + 1 : Nat) : Int) := ⟨_, rfl⟩
  rw [← hc] at hU
  have HU := Lib.hid hU
  obtain ⟨u0, u1, u2, u3, f1, f2, f3⟩ := hU.cells
  have hd1 : d ≠ w.heap.size := by omega
  have hd2 : w.heap.size ≠ d := by omega
  have hc0 : 0 ≤ c := by omega
  have hc1 : c + 1 ≤ 300 := by omega
  have HCL := Lib.hid (show c + 1 = 300 - (l : Int) by omega)
  clear hc
  have HU5 := Lib.hid (show UB ((w.setCell ⟨d, 2, none⟩ (.int .i64 (c + 1))).alloc (.cells #[.int .i64 0, .int .i64 0, .int .i64 0, .string ⟨#[]⟩, .slice none 0 0] 26)) d s i (c + 1) false from (HU.out.setC (c + 1)).stay ((Below.refl _ _).alloc (Nat.le_refl _) _))
  have HT5 := Lib.hid (show Touch (fun x => x = d) (fun x => x = d) w ((w.setCell ⟨d, 2, none⟩ (.int .i64 (c + 1))).alloc (.cells #[.int .i64 0, .int .i64 0, .int .i64 0, .string ⟨#[]⟩, .slice none 0 0] 26)) from ((Touch.refl _ w).cellD _).trans (Touch.of_below ((Below.refl _ _).alloc (Nat.le_refl _) _)))
  have BZ5 := Lib.hid (show Box ((w.setCell ⟨d, 2, none⟩ (.int .i64 (c + 1))).alloc (.cells #[.int .i64 0, .int .i64 0, .int .i64 0, .string ⟨#[]⟩, .slice none 0 0] 26)) w.heap.size 0 0 0 ⟨#[]⟩ (.slice none 0 0) 26 from heap_alloc_here _ (by simp))
  have hz5 : ((w.setCell ⟨d, 2, none⟩ (.int .i64 (c + 1))).alloc (.cells #[.int .i64 0, .int .i64 0, .int .i64 0, .string ⟨#[]⟩, .slice none 0 0] 26)).heap.size = w.heap.size + 1 := by simp
  have BZ := Lib.hid (Box.new w 0 0 0 ⟨#[]⟩ (.slice none 0 0) 26)
  obtain ⟨z0, z1, z2, z3, z4⟩ := BZ.out.cells
  have zf0 := BZ.out.free (i := 0); have zf1 := BZ.out.free (i := 1); have zf2 := BZ.out.free (i := 2); have zf3 := BZ.out.free (i := 3); have zf4 := BZ.out.free (i := 4)
  have hn64 : In64 ((bn : Int) - 256) := by unfold In64; omega
  have WD := Lib.hid (fun (W : World) (h : UB W d s i (c + 1) false) => show Calls Tryd.prog 176 #[.pointer (some ⟨d, 0, none⟩), .int .i64 1] W (WdRet d s i 1 (c + 1) (some (bn : Int)) W) from by
    have := wide_any d s hs i 1 (by omega) (by omega) (by omega) (c + 1) false W h
    rw [if_neg (by simp), hb] at this; exact this)
  clear hV hg
  go_enter Tryd.func120, Tryd.ntmps120
  go_wp2_with fail
  refine (WD.out _ HU5.out).mono ?_
  rintro e6 w6 ⟨⟨rfl, hu6⟩, ht6⟩
  have hz6 := ht6.size
  rw [hz5] at hz6
  have BZ6 := Lib.hid (show Box w6 w.heap.size 0 0 0 ⟨#[]⟩ (.slice none 0 0) 26 from (ht6.block w.heap.size (by omega) hd2).trans BZ5.out)
  have HU6 := Lib.hid hu6
  have HT6 := Lib.hid (HT5.out.trans ht6)
  clear z0 z1 z2 z3 z4 zf0 zf1 zf2 zf3 zf4 u0 u1 u2 u3 f1 f2 f3 hu6 ht6
  obtain ⟨z0, z1, z2, z3, z4⟩ := BZ6.out.cells
  have zf0 := BZ6.out.free (i := 0); have zf1 := BZ6.out.free (i := 1); have zf2 := BZ6.out.free (i := 2); have zf3 := BZ6.out.free (i := 3); have zf4 := BZ6.out.free (i := 4)
  obtain ⟨u0, u1, u2, u3, f1, f2, f3⟩ := HU6.out.cells
  have HP := Lib.hid (fun v0 v1 v2 v3 v4 => show UmRet d s (mgLeaf 3 ((bn : Int) - 256) 0 (i + 1) l) w (.returned (.agg #[.int .i64 3, .int .i64 ((bn : Int) - 256), .int .i64 (0), .string ⟨#[]⟩, .slice none 0 0])) (set5 w6 w.heap.size v0 v1 v2 v3 v4) from
    um_pass (s := s) (o := mgLeaf 3 ((bn : Int) - 256) 0 (i + 1) l) (t := .mk 3 ((bn : Int) - 256) (0) ⟨#[]⟩ []) (Fr := fun _ => False) HT6.out (Nat.le_refl _) hd1 ⟨in3, hn64, in0, by show ByteArray.size ⟨#[]⟩ ≤ _; simp [ByteArray.size]⟩ (OwnS.nil _ _) (fun _ h => h.elim) (fun q9 e9 => by have e8 : some (V.mk 3 ((bn : Int) - 256) (0) ⟨#[]⟩ [], (i + 1, l)) = some q9 := e9; injection e8 with e8; rw [← e8]) (show UmSt d s (some (i + 1, l)) w6 from by show UB w6 d s (i + 1) (300 - (l : Int)) false; rw [← HCL.out]; exact HU6.out) v0 v1 v2 v3 v4)
  go_wp2_with fail
  refine bodyPost_ret (v := .agg #[.int .i64 3, .int .i64 ((bn : Int) - 256), .int .i64 0, .string ⟨#[]⟩, .slice none 0 0]) (by simp [results, Tryd.results120, go_sem, z0, z1, z2, z3, z4]) rfl (HP.out _ _ _ _ _)
set_option maxRecDepth 100000 in
set_option maxHeartbeats 4000000 in
theorem value_k192 (d : Nat) (s : ByteArray) (hs : s.size ≤ 1048576) (g : Nat → Nat → MG) (hg : ∀ i l, MGood s i l (g i l)) (deep : Int) (hd : 0 ≤ deep ∧ deep ≤ 12)
    (hV : ∀ (i l : Nat) (W : World), i ≤ s.size → l ≤ 300 → UB W d s i (300 - (l : Int)) false → Calls Tryd.prog 120 #[.pointer (some ⟨d, 0, none⟩), .int .i64 (deep + 1)] W (UmRet d s (g i l) W)) (i l : Nat) (hi : i < s.size) (hl : l + 1 ≤ 300) (w : World) (hU : UB w d s i (300 - ((l + 1 : Nat) : Int)) false) (hb : wgo s i 1 = some 192)  :
    Calls Tryd.prog 120 #[.pointer (some ⟨d, 0, none⟩), .int .i64 deep] w (UmRet d s (mgLeaf 0 0 0 (i + 1) l) w) := by
  have hdw := lt_of_heap hU
  obtain ⟨c, hc⟩ : ∃ c : Int, c = 300 - ((l + 1 : Nat) : Int) := ⟨_, rfl⟩
  rw [← hc] at hU
  have HU := Lib.hid hU
  obtain ⟨u0, u1, u2, u3, f1, f2, f3⟩ := hU.cells
  have hd1 : d ≠ w.heap.size := by omega
  have hd2 : w.heap.size ≠ d := by omega
  have hc0 : 0 ≤ c := by omega
  have hc1 : c + 1 ≤ 300 := by omega
  have HCL := Lib.hid (show c + 1 = 300 - (l : Int) by omega)
  clear hc
  have HU5 := Lib.hid (show UB ((w.setCell ⟨d, 2, none⟩ (.int .i64 (c + 1))).alloc (.cells #[.int .i64 0, .int .i64 0, .int .i64 0, .string ⟨#[]⟩, .slice none 0 0] 26)) d s i (c + 1) false from (HU.out.setC (c + 1)).stay ((Below.refl _ _).alloc (Nat.le_refl _) _))
  have HT5 := Lib.hid (show Touch (fun x => x = d) (fun x => x = d) w ((w.setCell ⟨d, 2, none⟩ (.int .i64 (c + 1))).alloc (.cells #[.int .i64 0, .int .i64 0, .int .i64 0, .string ⟨#[]⟩, .slice none 0 0] 26)) from ((Touch.refl _ w).cellD _).trans (Touch.of_below ((Below.refl _ _).alloc (Nat.le_refl _) _)))
  have BZ5 := Lib.hid (show Box ((w.setCell ⟨d, 2, none⟩ (.int .i64 (c + 1))).alloc (.cells #[.int .i64 0, .int .i64 0, .int .i64 0, .string ⟨#[]⟩, .slice none 0 0] 26)) w.heap.size 0 0 0 ⟨#[]⟩ (.slice none 0 0) 26 from heap_alloc_here _ (by simp))
  have hz5 : ((w.setCell ⟨d, 2, none⟩ (.int .i64 (c + 1))).alloc (.cells #[.int .i64 0, .int .i64 0, .int .i64 0, .string ⟨#[]⟩, .slice none 0 0] 26)).heap.size = w.heap.size + 1 := by simp
  have BZ := Lib.hid (Box.new w 0 0 0 ⟨#[]⟩ (.slice none 0 0) 26)
  obtain ⟨z0, z1, z2, z3, z4⟩ := BZ.out.cells
  have zf0 := BZ.out.free (i := 0); have zf1 := BZ.out.free (i := 1); have zf2 := BZ.out.free (i := 2); have zf3 := BZ.out.free (i := 3); have zf4 := BZ.out.free (i := 4)
  have hn64 : In64 0 := in0
  have WD := Lib.hid (fun (W : World) (h : UB W d s i (c + 1) false) => show Calls Tryd.prog 176 #[.pointer (some ⟨d, 0, none⟩), .int .i64 1] W (WdRet d s i 1 (c + 1) (some 192) W) from by
    have := wide_any d s hs i 1 (by omega) (by omega) (by omega) (c + 1) false W h
    rw [if_neg (by simp), hb] at this; exact this)
  clear hV hg
  have IA := Lib.hid (fun W => within_no 192 204 207 W (by omega))
  have IB := Lib.hid (fun W => within_no 192 208 211 W (by omega))
  go_enter Tryd.func120, Tryd.ntmps120
  go_wp2_with fail
  refine (WD.out _ HU5.out).mono ?_
  rintro e6 w6 ⟨⟨rfl, hu6⟩, ht6⟩
  have hz6 := ht6.size
  rw [hz5] at hz6
  have BZ6 := Lib.hid (show Box w6 w.heap.size 0 0 0 ⟨#[]⟩ (.slice none 0 0) 26 from (ht6.block w.heap.size (by omega) hd2).trans BZ5.out)
  have HU6 := Lib.hid hu6
  have HT6 := Lib.hid (HT5.out.trans ht6)
  clear z0 z1 z2 z3 z4 zf0 zf1 zf2 zf3 zf4 u0 u1 u2 u3 f1 f2 f3 hu6 ht6
  obtain ⟨z0, z1, z2, z3, z4⟩ := BZ6.out.cells
  have zf0 := BZ6.out.free (i := 0); have zf1 := BZ6.out.free (i := 1); have zf2 := BZ6.out.free (i := 2); have zf3 := BZ6.out.free (i := 3); have zf4 := BZ6.out.free (i := 4)
  obtain ⟨u0, u1, u2, u3, f1, f2, f3⟩ := HU6.out.cells
  have HP := Lib.hid (fun v0 v1 v2 v3 v4 => show UmRet d s (mgLeaf 0 0 0 (i + 1) l) w (.returned (.agg #[.int .i64 0, .int .i64 (0), .int .i64 (0), .string ⟨#[]⟩, .slice none 0 0])) (set5 w6 w.heap.size v0 v1 v2 v3 v4) from
    um_pass (s := s) (o := mgLeaf 0 0 0 (i + 1) l) (t := .mk 0 (0) (0) ⟨#[]⟩ []) (Fr := fun _ => False) HT6.out (Nat.le_refl _) hd1 ⟨k64 0 (by omega) (by omega), hn64, in0, by show ByteArray.size ⟨#[]⟩ ≤ _; simp [ByteArray.size]⟩ (OwnS.nil _ _) (fun _ h => h.elim) (fun q9 e9 => by have e8 : some (V.mk 0 (0) (0) ⟨#[]⟩ [], (i + 1, l)) = some q9 := e9; injection e8 with e8; rw [← e8]) (show UmSt d s (some (i + 1, l)) w6 from by show UB w6 d s (i + 1) (300 - (l : Int)) false; rw [← HCL.out]; exact HU6.out) v0 v1 v2 v3 v4)
  go_wp2_with fail
  refine (IA.out _).mono ?_
  rintro e7 w7 ⟨rfl, rfl⟩
  go_wp2_with fail
  refine (IB.out _).mono ?_
  rintro e8 w8 ⟨rfl, rfl⟩
  go_wp2_with fail
  refine bodyPost_ret (v := .agg #[.int .i64 0, .int .i64 0, .int .i64 0, .string ⟨#[]⟩, .slice none 0 0]) (by simp [results, Tryd.results120, go_sem, z0, z1, z2, z3, z4]) rfl (HP.out _ _ _ _ _)
set_option maxRecDepth 100000 in
set_option maxHeartbeats 4000000 in
theorem value_k194 (d : Nat) (s : ByteArray) (hs : s.size ≤ 1048576) (g : Nat → Nat → MG) (hg : ∀ i l, MGood s i l (g i l)) (deep : Int) (hd : 0 ≤ deep ∧ deep ≤ 12)
    (hV : ∀ (i l : Nat) (W : World), i ≤ s.size → l ≤ 300 → UB W d s i (300 - (l : Int)) false → Calls Tryd.prog 120 #[.pointer (some ⟨d, 0, none⟩), .int .i64 (deep + 1)] W (UmRet d s (g i l) W)) (i l : Nat) (hi : i < s.size) (hl : l + 1 ≤ 300) (w : World) (hU : UB w d s i (300 - ((l + 1 : Nat) : Int)) false) (hb : wgo s i 1 = some 194)  :
    Calls Tryd.prog 120 #[.pointer (some ⟨d, 0, none⟩), .int .i64 deep] w (UmRet d s (mgLeaf 1 0 0 (i + 1) l) w) := by
  have hdw := lt_of_heap hU
  obtain ⟨c, hc⟩ : ∃ c : Int, c = 300 - ((l + 1 : Nat) : Int) := ⟨_, rfl⟩
  rw [← hc] at hU
  have HU := Lib.hid hU
  obtain ⟨u0, u1, u2, u3, f1, f2, f3⟩ := hU.cells
  have hd1 : d ≠ w.heap.size := by omega
  have hd2 : w.heap.size ≠ d := by omega
  have hc0 : 0 ≤ c := by omega
  have hc1 : c + 1 ≤ 300 := by omega
  have HCL := Lib.hid (show c + 1 = 300 - (l : Int) by omega)
  clear hc
  have HU5 := Lib.hid (show UB ((w.setCell ⟨d, 2, none⟩ (.int .i64 (c + 1))).alloc (.cells #[.int .i64 0, .int .i64 0, .int .i64 0, .string ⟨#[]⟩, .slice none 0 0] 26)) d s i (c + 1) false from (HU.out.setC (c + 1)).stay ((Below.refl _ _).alloc (Nat.le_refl _) _))
  have HT5 := Lib.hid (show Touch (fun x => x = d) (fun x => x = d) w ((w.setCell ⟨d, 2, none⟩ (.int .i64 (c + 1))).alloc (.cells #[.int .i64 0, .int .i64 0, .int .i64 0, .string ⟨#[]⟩, .slice none 0 0] 26)) from ((Touch.refl _ w).cellD _).trans (Touch.of_below ((Below.refl _ _).alloc (Nat.le_refl _) _)))
  have BZ5 := Lib.hid (show Box ((w.setCell ⟨d, 2, none⟩ (.int .i64 (c + 1))).alloc (.cells #[.int .i64 0, .int .i64 0, .int .i64 0, .string ⟨#[]⟩, .slice none 0 0] 26)) w.heap.size 0 0 0 ⟨#[]⟩ (.slice none 0 0) 26 from heap_alloc_here _ (by simp))
  have hz5 : ((w.setCell ⟨d, 2, none⟩ (.int .i64 (c + 1))).alloc (.cells #[.int .i64 0, .int .i64 0, .int .i64 0, .string ⟨#[]⟩, .slice none 0 0] 26)).heap.size = w.heap.size + 1 := by simp
  have BZ := Lib.hid (Box.new w 0 0 0 ⟨#[]⟩ (.slice none 0 0) 26)
  obtain ⟨z0, z1, z2, z3, z4⟩ := BZ.out.cells
  have zf0 := BZ.out.free (i := 0); have zf1 := BZ.out.free (i := 1); have zf2 := BZ.out.free (i := 2); have zf3 := BZ.out.free (i := 3); have zf4 := BZ.out.free (i := 4)
  have hn64 : In64 0 := in0
  have WD := Lib.hid (fun (W : World) (h : UB W d s i (c + 1) false) => show Calls Tryd.prog 176 #[.pointer (some ⟨d, 0, none⟩), .int .i64 1] W (WdRet d s i 1 (c + 1) (some 194) W) from by
    have := wide_any d s hs i 1 (by omega) (by omega) (by omega) (c + 1) false W h
    rw [if_neg (by simp), hb] at this; exact this)
  clear hV hg
  have IA := Lib.hid (fun W => within_no 194 204 207 W (by omega))
  have IB := Lib.hid (fun W => within_no 194 208 211 W (by omega))
  go_enter Tryd.func120, Tryd.ntmps120
  go_wp2_with fail
  refine (WD.out _ HU5.out).mono ?_
  rintro e6 w6 ⟨⟨rfl, hu6⟩, ht6⟩
  have hz6 := ht6.size
  rw [hz5] at hz6
  have BZ6 := Lib.hid (show Box w6 w.heap.size 0 0 0 ⟨#[]⟩ (.slice none 0 0) 26 from (ht6.block w.heap.size (by omega) hd2).trans BZ5.out)
  have HU6 := Lib.hid hu6
  have HT6 := Lib.hid (HT5.out.trans ht6)
  clear z0 z1 z2 z3 z4 zf0 zf1 zf2 zf3 zf4 u0 u1 u2 u3 f1 f2 f3 hu6 ht6
  obtain ⟨z0, z1, z2, z3, z4⟩ := BZ6.out.cells
  have zf0 := BZ6.out.free (i := 0); have zf1 := BZ6.out.free (i := 1); have zf2 := BZ6.out.free (i := 2); have zf3 := BZ6.out.free (i := 3); have zf4 := BZ6.out.free (i := 4)
  obtain ⟨u0, u1, u2, u3, f1, f2, f3⟩ := HU6.out.cells
  have HP := Lib.hid (fun v0 v1 v2 v3 v4 => show UmRet d s (mgLeaf 1 0 0 (i + 1) l) w (.returned (.agg #[.int .i64 1, .int .i64 (0), .int .i64 (0), .string ⟨#[]⟩, .slice none 0 0])) (set5 w6 w.heap.size v0 v1 v2 v3 v4) from
    um_pass (s := s) (o := mgLeaf 1 0 0 (i + 1) l) (t := .mk 1 (0) (0) ⟨#[]⟩ []) (Fr := fun _ => False) HT6.out (Nat.le_refl _) hd1 ⟨k64 1 (by omega) (by omega), hn64, in0, by show ByteArray.size ⟨#[]⟩ ≤ _; simp [ByteArray.size]⟩ (OwnS.nil _ _) (fun _ h => h.elim) (fun q9 e9 => by have e8 : some (V.mk 1 (0) (0) ⟨#[]⟩ [], (i + 1, l)) = some q9 := e9; injection e8 with e8; rw [← e8]) (show UmSt d s (some (i + 1, l)) w6 from by show UB w6 d s (i + 1) (300 - (l : Int)) false; rw [← HCL.out]; exact HU6.out) v0 v1 v2 v3 v4)
  go_wp2_with fail
  refine (IA.out _).mono ?_
  rintro e7 w7 ⟨rfl, rfl⟩
  go_wp2_with fail
  refine (IB.out _).mono ?_
  rintro e8 w8 ⟨rfl, rfl⟩
  go_wp2_with fail
  refine bodyPost_ret (v := .agg #[.int .i64 1, .int .i64 0, .int .i64 0, .string ⟨#[]⟩, .slice none 0 0]) (by simp [results, Tryd.results120, go_sem, z0, z1, z2, z3, z4]) rfl (HP.out _ _ _ _ _)
set_option maxRecDepth 100000 in
set_option maxHeartbeats 4000000 in
theorem value_k195 (d : Nat) (s : ByteArray) (hs : s.size ≤ 1048576) (g : Nat → Nat → MG) (hg : ∀ i l, MGood s i l (g i l)) (deep : Int) (hd : 0 ≤ deep ∧ deep ≤ 12)
    (hV : ∀ (i l : Nat) (W : World), i ≤ s.size → l ≤ 300 → UB W d s i (300 - (l : Int)) false → Calls Tryd.prog 120 #[.pointer (some ⟨d, 0, none⟩), .int .i64 (deep + 1)] W (UmRet d s (g i l) W)) (i l : Nat) (hi : i < s.size) (hl : l + 1 ≤ 300) (w : World) (hU : UB w d s i (300 - ((l + 1 : Nat) : Int)) false) (hb : wgo s i 1 = some 195)  :
    Calls Tryd.prog 120 #[.pointer (some ⟨d, 0, none⟩), .int .i64 deep] w (UmRet d s (mgLeaf 2 0 0 (i + 1) l) w) := by
  have hdw := lt_of_heap hU
  obtain ⟨c, hc⟩ : ∃ c : Int, c = 300 - ((l + 1 : Nat) : Int) := ⟨_, rfl⟩
  rw [← hc] at hU
  have HU := Lib.hid hU
  obtain ⟨u0, u1, u2, u3, f1, f2, f3⟩ := hU.cells
  have hd1 : d ≠ w.heap.size := by omega
  have hd2 : w.heap.size ≠ d := by omega
  have hc0 : 0 ≤ c := by omega
  have hc1 : c + 1 ≤ 300 := by omega
  have HCL := Lib.hid (show c + 1 = 300 - (l : Int) by omega)
  clear hc
  have HU5 := Lib.hid (show UB ((w.setCell ⟨d, 2, none⟩ (.int .i64 (c + 1))).alloc (.cells #[.int .i64 0, .int .i64 0, .int .i64 0, .string ⟨#[]⟩, .slice none 0 0] 26)) d s i (c + 1) false from (HU.out.setC (c + 1)).stay ((Below.refl _ _).alloc (Nat.le_refl _) _))
  have HT5 := Lib.hid (show Touch (fun x => x = d) (fun x => x = d) w ((w.setCell ⟨d, 2, none⟩ (.int .i64 (c + 1))).alloc (.cells #[.int .i64 0, .int .i64 0, .int .i64 0, .string ⟨#[]⟩, .slice none 0 0] 26)) from ((Touch.refl _ w).cellD _).trans (Touch.of_below ((Below.refl _ _).alloc (Nat.le_refl _) _)))
  have BZ5 := Lib.hid (show Box ((w.setCell ⟨d, 2, none⟩ (.int .i64 (c + 1))).alloc (.cells #[.int .i64 0, .int .i64 0, .int .i64 0, .string ⟨#[]⟩, .slice none 0 0] 26)) w.heap.size 0 0 0 ⟨#[]⟩ (.slice none 0 0) 26 from heap_alloc_here _ (by simp))
  have hz5 : ((w.setCell ⟨d, 2, none⟩ (.int .i64 (c + 1))).alloc (.cells #[.int .i64 0, .int .i64 0, .int .i64 0, .string ⟨#[]⟩, .slice none 0 0] 26)).heap.size = w.heap.size + 1 := by simp
  have BZ := Lib.hid (Box.new w 0 0 0 ⟨#[]⟩ (.slice none 0 0) 26)
  obtain ⟨z0, z1, z2, z3, z4⟩ := BZ.out.cells
  have zf0 := BZ.out.free (i := 0); have zf1 := BZ.out.free (i := 1); have zf2 := BZ.out.free (i := 2); have zf3 := BZ.out.free (i := 3); have zf4 := BZ.out.free (i := 4)
  have hn64 : In64 0 := in0
  have WD := Lib.hid (fun (W : World) (h : UB W d s i (c + 1) false) => show Calls Tryd.prog 176 #[.pointer (some ⟨d, 0, none⟩), .int .i64 1] W (WdRet d s i 1 (c + 1) (some 195) W) from by
    have := wide_any d s hs i 1 (by omega) (by omega) (by omega) (c + 1) false W h
    rw [if_neg (by simp), hb] at this; exact this)
  clear hV hg
  have IA := Lib.hid (fun W => within_no 195 204 207 W (by omega))
  have IB := Lib.hid (fun W => within_no 195 208 211 W (by omega))
  go_enter Tryd.func120, Tryd.ntmps120
  go_wp2_with fail
  refine (WD.out _ HU5.out).mono ?_
  rintro e6 w6 ⟨⟨rfl, hu6⟩, ht6⟩
  have hz6 := ht6.size
  rw [hz5] at hz6
  have BZ6 := Lib.hid (show Box w6 w.heap.size 0 0 0 ⟨#[]⟩ (.slice none 0 0) 26 from (ht6.block w.heap.size (by omega) hd2).trans BZ5.out)
  have HU6 := Lib.hid hu6
  have HT6 := Lib.hid (HT5.out.trans ht6)
  clear z0 z1 z2 z3 z4 zf0 zf1 zf2 zf3 zf4 u0 u1 u2 u3 f1 f2 f3 hu6 ht6
  obtain ⟨z0, z1, z2, z3, z4⟩ := BZ6.out.cells
  have zf0 := BZ6.out.free (i := 0); have zf1 := BZ6.out.free (i := 1); have zf2 := BZ6.out.free (i := 2); have zf3 := BZ6.out.free (i := 3); have zf4 := BZ6.out.free (i := 4)
  obtain ⟨u0, u1, u2, u3, f1, f2, f3⟩ := HU6.out.cells
  have HP := Lib.hid (fun v0 v1 v2 v3 v4 => show UmRet d s (mgLeaf 2 0 0 (i + 1) l) w (.returned (.agg #[.int .i64 2, .int .i64 (0), .int .i64 (0), .string ⟨#[]⟩, .slice none 0 0])) (set5 w6 w.heap.size v0 v1 v2 v3 v4) from
    um_pass (s := s) (o := mgLeaf 2 0 0 (i + 1) l) (t := .mk 2 (0) (0) ⟨#[]⟩ []) (Fr := fun _ => False) HT6.out (Nat.le_refl _) hd1 ⟨k64 2 (by omega) (by omega), hn64, in0, by show ByteArray.size ⟨#[]⟩ ≤ _; simp [ByteArray.size]⟩ (OwnS.nil _ _) (fun _ h => h.elim) (fun q9 e9 => by have e8 : some (V.mk 2 (0) (0) ⟨#[]⟩ [], (i + 1, l)) = some q9 := e9; injection e8 with e8; rw [← e8]) (show UmSt d s (some (i + 1, l)) w6 from by show UB w6 d s (i + 1) (300 - (l : Int)) false; rw [← HCL.out]; exact HU6.out) v0 v1 v2 v3 v4)
  go_wp2_with fail
  refine (IA.out _).mono ?_
  rintro e7 w7 ⟨rfl, rfl⟩
  go_wp2_with fail
  refine (IB.out _).mono ?_
  rintro e8 w8 ⟨rfl, rfl⟩
  go_wp2_with fail
  refine bodyPost_ret (v := .agg #[.int .i64 2, .int .i64 0, .int .i64 0, .string ⟨#[]⟩, .slice none 0 0]) (by simp [results, Tryd.results120, go_sem, z0, z1, z2, z3, z4]) rfl (HP.out _ _ _ _ _)
set_option maxRecDepth 100000 in
set_option maxHeartbeats 4000000 in
theorem value_text (d : Nat) (s : ByteArray) (hs : s.size ≤ 1048576) (g : Nat → Nat → MG) (hg : ∀ i l, MGood s i l (g i l)) (deep : Int) (hd : 0 ≤ deep ∧ deep ≤ 12)
    (hV : ∀ (i l : Nat) (W : World), i ≤ s.size → l ≤ 300 → UB W d s i (300 - (l : Int)) false → Calls Tryd.prog 120 #[.pointer (some ⟨d, 0, none⟩), .int .i64 (deep + 1)] W (UmRet d s (g i l) W)) (i l : Nat) (hi : i < s.size) (hl : l + 1 ≤ 300) (w : World) (hU : UB w d s i (300 - ((l + 1 : Nat) : Int)) false) (bn : Nat) (hb : wgo s i 1 = some (bn : Int)) (h1 : 160 ≤ bn) (h2 : bn < 192) :
    Calls Tryd.prog 120 #[.pointer (some ⟨d, 0, none⟩), .int .i64 deep] w (UmRet d s (mgStr s 5 (i + 1) (bn - 160) l) w) := by
  have hdw := lt_of_heap hU
  obtain ⟨c, hc⟩ : ∃ c : Int, c = 300 - ((l + 1 : Nat) : Int) := ⟨_, rfl⟩
  rw [← hc] at hU
  have HU := Lib.hid hU
  obtain ⟨u0, u1, u2, u3, f1, f2, f3⟩ := hU.cells
  have hd1 : d ≠ w.heap.size := by omega
  have hd2 : w.heap.size ≠ d := by omega
  have hc0 : 0 ≤ c := by omega
  have hc1 : c + 1 ≤ 300 := by omega
  have HCL := Lib.hid (show c + 1 = 300 - (l : Int) by omega)
  clear hc
  have HU5 := Lib.hid (show UB ((w.setCell ⟨d, 2, none⟩ (.int .i64 (c + 1))).alloc (.cells #[.int .i64 0, .int .i64 0, .int .i64 0, .string ⟨#[]⟩, .slice none 0 0] 26)) d s i (c + 1) false from (HU.out.setC (c + 1)).stay ((Below.refl _ _).alloc (Nat.le_refl _) _))
  have HT5 := Lib.hid (show Touch (fun x => x = d) (fun x => x = d) w ((w.setCell ⟨d, 2, none⟩ (.int .i64 (c + 1))).alloc (.cells #[.int .i64 0, .int .i64 0, .int .i64 0, .string ⟨#[]⟩, .slice none 0 0] 26)) from ((Touch.refl _ w).cellD _).trans (Touch.of_below ((Below.refl _ _).alloc (Nat.le_refl _) _)))
  have BZ5 := Lib.hid (show Box ((w.setCell ⟨d, 2, none⟩ (.int .i64 (c + 1))).alloc (.cells #[.int .i64 0, .int .i64 0, .int .i64 0, .string ⟨#[]⟩, .slice none 0 0] 26)) w.heap.size 0 0 0 ⟨#[]⟩ (.slice none 0 0) 26 from heap_alloc_here _ (by simp))
  have hz5 : ((w.setCell ⟨d, 2, none⟩ (.int .i64 (c + 1))).alloc (.cells #[.int .i64 0, .int .i64 0, .int .i64 0, .string ⟨#[]⟩, .slice none 0 0] 26)).heap.size = w.heap.size + 1 := by simp
  have BZ := Lib.hid (Box.new w 0 0 0 ⟨#[]⟩ (.slice none 0 0) 26)
  obtain ⟨z0, z1, z2, z3, z4⟩ := BZ.out.cells
  have zf0 := BZ.out.free (i := 0); have zf1 := BZ.out.free (i := 1); have zf2 := BZ.out.free (i := 2); have zf3 := BZ.out.free (i := 3); have zf4 := BZ.out.free (i := 4)
  have WD := Lib.hid (fun (W : World) (h : UB W d s i (c + 1) false) => show Calls Tryd.prog 176 #[.pointer (some ⟨d, 0, none⟩), .int .i64 1] W (WdRet d s i 1 (c + 1) (some (bn : Int)) W) from by
    have := wide_any d s hs i 1 (by omega) (by omega) (by omega) (c + 1) false W h
    rw [if_neg (by simp), hb] at this; exact this)
  clear hV hg
  by_cases hf : i + 1 + (bn - 160) ≤ s.size
  · rw [show mgStr s 5 (i + 1) (bn - 160) l = some (.mk 5 0 0 (s.extract (i + 1) (i + 1 + (bn - 160))) [], i + 1 + (bn - 160), l) from if_pos hf]
    have TX := Lib.hid (fun (W : World) (h : UB W d s (i + 1) (c + 1) false) => show Calls Tryd.prog 178 #[.pointer (some ⟨d, 0, none⟩), .int .i64 ((bn : Int) - 160)] W (TxRet d s (i + 1) (bn - 160) (c + 1) true W) from by
      have := text_any d s hs (i + 1) (bn - 160) (by omega) (by omega) (c + 1) false W h
      rw [decide_eq_true hf, show ((bn - 160 : Nat) : Int) = (bn : Int) - 160 by omega] at this
      exact this)
    have hn64 : In64 0 := in0
    have hsz := Lib.hid (show (s.extract (i + 1) (i + 1 + (bn - 160))).size ≤ 9223372036854775807 by rw [ByteArray.size_extract]; omega)
    go_enter Tryd.func120, Tryd.ntmps120
    go_wp2_with fail
    refine (WD.out _ HU5.out).mono ?_
    rintro e6 w6 ⟨⟨rfl, hu6⟩, ht6⟩
    have hz6 := ht6.size
    rw [hz5] at hz6
    have BZ6 := Lib.hid (show Box w6 w.heap.size 0 0 0 ⟨#[]⟩ (.slice none 0 0) 26 from (ht6.block w.heap.size (by omega) hd2).trans BZ5.out)
    have HU6 := Lib.hid hu6
    have HT6 := Lib.hid (HT5.out.trans ht6)
    clear z0 z1 z2 z3 z4 zf0 zf1 zf2 zf3 zf4 u0 u1 u2 u3 f1 f2 f3 hu6 ht6
    obtain ⟨z0, z1, z2, z3, z4⟩ := BZ6.out.cells
    have zf0 := BZ6.out.free (i := 0); have zf1 := BZ6.out.free (i := 1); have zf2 := BZ6.out.free (i := 2); have zf3 := BZ6.out.free (i := 3); have zf4 := BZ6.out.free (i := 4)
    obtain ⟨u0, u1, u2, u3, f1, f2, f3⟩ := HU6.out.cells
    go_wp2_with fail
    refine (TX.out _ HU6.out).mono ?_
    rintro e7 w7 ⟨⟨rfl, hu7⟩, ht7⟩
    have hz7 := ht7.size
    have BZ7 := Lib.hid (show Box w7 w.heap.size 0 0 0 ⟨#[]⟩ (.slice none 0 0) 26 from (ht7.block w.heap.size (by omega) hd2).trans BZ6.out)
    have HU7 := Lib.hid hu7
    have HT7 := Lib.hid (HT6.out.trans ht7)
    clear z0 z1 z2 z3 z4 zf0 zf1 zf2 zf3 zf4 u0 u1 u2 u3 f1 f2 f3 hu7 ht7
    obtain ⟨z0, z1, z2, z3, z4⟩ := BZ7.out.cells
    have zf0 := BZ7.out.free (i := 0); have zf1 := BZ7.out.free (i := 1); have zf2 := BZ7.out.free (i := 2); have zf3 := BZ7.out.free (i := 3); have zf4 := BZ7.out.free (i := 4)
    have HP := Lib.hid (fun v0 v1 v2 v3 v4 => show UmRet d s (some (.mk 5 0 0 (s.extract (i + 1) (i + 1 + (bn - 160))) [], i + 1 + (bn - 160), l)) w (.returned (.agg #[.int .i64 5, .int .i64 (0), .int .i64 (0), .string (s.extract (i + 1) (i + 1 + (bn - 160))), .slice none 0 0])) (set5 w7 w.heap.size v0 v1 v2 v3 v4) from
      um_pass (s := s) (o := some (.mk 5 0 0 (s.extract (i + 1) (i + 1 + (bn - 160))) [], i + 1 + (bn - 160), l)) (t := .mk 5 (0) (0) (s.extract (i + 1) (i + 1 + (bn - 160))) []) (Fr := fun _ => False) HT7.out (Nat.le_refl _) hd1 ⟨k64 5 (by omega) (by omega), in0, in0, hsz.out⟩ (OwnS.nil _ _) (fun _ h => h.elim) (fun q9 e9 => by have e8 : some (V.mk 5 (0) (0) (s.extract (i + 1) (i + 1 + (bn - 160))) [], (i + 1 + (bn - 160), l)) = some q9 := e9; injection e8 with e8; rw [← e8]) (show UmSt d s (some (i + 1 + (bn - 160), l)) w7 from by show UB w7 d s (i + 1 + (bn - 160)) (300 - (l : Int)) false; rw [← HCL.out]; exact HU7.out) v0 v1 v2 v3 v4)
    go_wp2_with fail
    refine bodyPost_ret (v := .agg #[.int .i64 5, .int .i64 0, .int .i64 0, .string (s.extract (i + 1) (i + 1 + (bn - 160))), .slice none 0 0]) (by simp [results, Tryd.results120, go_sem, z0, z1, z2, z3, z4]) rfl (HP.out _ _ _ _ _)
  · rw [show mgStr s 5 (i + 1) (bn - 160) l = none from if_neg hf]
    have TX := Lib.hid (fun (W : World) (h : UB W d s (i + 1) (c + 1) false) => show Calls Tryd.prog 178 #[.pointer (some ⟨d, 0, none⟩), .int .i64 ((bn : Int) - 160)] W (TxRet d s (i + 1) (bn - 160) (c + 1) false W) from by
      have := text_any d s hs (i + 1) (bn - 160) (by omega) (by omega) (c + 1) false W h
      rw [decide_eq_false hf, show ((bn - 160 : Nat) : Int) = (bn : Int) - 160 by omega] at this
      exact this)
    have hn64 : In64 0 := in0
    go_enter Tryd.func120, Tryd.ntmps120
    go_wp2_with fail
    refine (WD.out _ HU5.out).mono ?_
    rintro e6 w6 ⟨⟨rfl, hu6⟩, ht6⟩
    have hz6 := ht6.size
    rw [hz5] at hz6
    have BZ6 := Lib.hid (show Box w6 w.heap.size 0 0 0 ⟨#[]⟩ (.slice none 0 0) 26 from (ht6.block w.heap.size (by omega) hd2).trans BZ5.out)
    have HU6 := Lib.hid hu6
    have HT6 := Lib.hid (HT5.out.trans ht6)
    clear z0 z1 z2 z3 z4 zf0 zf1 zf2 zf3 zf4 u0 u1 u2 u3 f1 f2 f3 hu6 ht6
    obtain ⟨z0, z1, z2, z3, z4⟩ := BZ6.out.cells
    have zf0 := BZ6.out.free (i := 0); have zf1 := BZ6.out.free (i := 1); have zf2 := BZ6.out.free (i := 2); have zf3 := BZ6.out.free (i := 3); have zf4 := BZ6.out.free (i := 4)
    obtain ⟨u0, u1, u2, u3, f1, f2, f3⟩ := HU6.out.cells
    go_wp2_with fail
    refine (TX.out _ HU6.out).mono ?_
    rintro e7 w7 ⟨⟨rfl, hu7⟩, ht7⟩
    have hz7 := ht7.size
    have BZ7 := Lib.hid (show Box w7 w.heap.size 0 0 0 ⟨#[]⟩ (.slice none 0 0) 26 from (ht7.block w.heap.size (by omega) hd2).trans BZ6.out)
    have HU7 := Lib.hid hu7
    have HT7 := Lib.hid (HT6.out.trans ht7)
    clear z0 z1 z2 z3 z4 zf0 zf1 zf2 zf3 zf4 u0 u1 u2 u3 f1 f2 f3 hu7 ht7
    obtain ⟨z0, z1, z2, z3, z4⟩ := BZ7.out.cells
    have zf0 := BZ7.out.free (i := 0); have zf1 := BZ7.out.free (i := 1); have zf2 := BZ7.out.free (i := 2); have zf3 := BZ7.out.free (i := 3); have zf4 := BZ7.out.free (i := 4)
    have HP := Lib.hid (fun v0 v1 v2 v3 v4 => show UmRet d s (none) w (.returned (.agg #[.int .i64 5, .int .i64 (0), .int .i64 (0), .string ⟨#[]⟩, .slice none 0 0])) (set5 w7 w.heap.size v0 v1 v2 v3 v4) from
      um_pass (s := s) (o := none) (t := .mk 5 (0) (0) ⟨#[]⟩ []) (Fr := fun _ => False) HT7.out (Nat.le_refl _) hd1 ⟨k64 5 (by omega) (by omega), hn64, in0, by show ByteArray.size ⟨#[]⟩ ≤ _; simp [ByteArray.size]⟩ (OwnS.nil _ _) (fun _ h => h.elim) (fun q e9 => by cases e9) (show UmSt d s none w7 from ⟨i + 1, _, by omega, HU7.out⟩) v0 v1 v2 v3 v4)
    go_wp2_with fail
    refine bodyPost_ret (v := .agg #[.int .i64 5, .int .i64 0, .int .i64 0, .string ⟨#[]⟩, .slice none 0 0]) (by simp [results, Tryd.results120, go_sem, z0, z1, z2, z3, z4]) rfl (HP.out _ _ _ _ _)
theorem node_q {k n : Int} {o : Option (List V × Nat × Nat)} {us : List V} (h : ∀ q, o = some q → us = q.1) : ∀ q, mgNode k n o = some q → V.mk k n 0 ⟨#[]⟩ us = q.1 := by
  intro q e
  cases o with
  | none => cases e
  | some p =>
    have e2 : some (V.mk k n 0 ⟨#[]⟩ p.1, p.2) = some q := e
    injection e2 with e2
    rw [← e2, h p rfl]
theorem node_st {k n : Int} {d : Nat} {s : ByteArray} {o : Option (List V × Nat × Nat)} {w : World} (h : UmSt d s (o.map (·.2)) w) : UmSt d s ((mgNode k n o).map (·.2)) w := by
  cases o <;> exact h
set_option maxRecDepth 100000 in
set_option maxHeartbeats 4000000 in
theorem value_map (d : Nat) (s : ByteArray) (hs : s.size ≤ 1048576) (g : Nat → Nat → MG) (hg : ∀ i l, MGood s i l (g i l)) (deep : Int) (hd : 0 ≤ deep ∧ deep ≤ 12)
    (hV : ∀ (i l : Nat) (W : World), i ≤ s.size → l ≤ 300 → UB W d s i (300 - (l : Int)) false → Calls Tryd.prog 120 #[.pointer (some ⟨d, 0, none⟩), .int .i64 (deep + 1)] W (UmRet d s (g i l) W)) (i l : Nat) (hi : i < s.size) (hl : l + 1 ≤ 300) (w : World) (hU : UB w d s i (300 - ((l + 1 : Nat) : Int)) false) (bn : Nat) (hb : wgo s i 1 = some (bn : Int)) (h1 : 128 ≤ bn) (h2 : bn < 144) :
    Calls Tryd.prog 120 #[.pointer (some ⟨d, 0, none⟩), .int .i64 deep] w (UmRet d s (mgNode 8 0 (mgKids g (2 * (bn - 128)) (i + 1) l)) w) := by
  have hdw := lt_of_heap hU
  obtain ⟨c, hc⟩ : ∃ c : Int, c = 300 - ((l + 1 : Nat) : Int) := ⟨_, rfl⟩
  rw [← hc] at hU
  have HU := Lib.hid hU
  obtain ⟨u0, u1, u2, u3, f1, f2, f3⟩ := hU.cells
  have hd1 : d ≠ w.heap.size := by omega
  have hd2 : w.heap.size ≠ d := by omega
  have hc0 : 0 ≤ c := by omega
  have hc1 : c + 1 ≤ 300 := by omega
  have HCL := Lib.hid (show c + 1 = 300 - (l : Int) by omega)
  clear hc
  have HU5 := Lib.hid (show UB ((w.setCell ⟨d, 2, none⟩ (.int .i64 (c + 1))).alloc (.cells #[.int .i64 0, .int .i64 0, .int .i64 0, .string ⟨#[]⟩, .slice none 0 0] 26)) d s i (c + 1) false from (HU.out.setC (c + 1)).stay ((Below.refl _ _).alloc (Nat.le_refl _) _))
  have HT5 := Lib.hid (show Touch (fun x => x = d) (fun x => x = d) w ((w.setCell ⟨d, 2, none⟩ (.int .i64 (c + 1))).alloc (.cells #[.int .i64 0, .int .i64 0, .int .i64 0, .string ⟨#[]⟩, .slice none 0 0] 26)) from ((Touch.refl _ w).cellD _).trans (Touch.of_below ((Below.refl _ _).alloc (Nat.le_refl _) _)))
  have BZ5 := Lib.hid (show Box ((w.setCell ⟨d, 2, none⟩ (.int .i64 (c + 1))).alloc (.cells #[.int .i64 0, .int .i64 0, .int .i64 0, .string ⟨#[]⟩, .slice none 0 0] 26)) w.heap.size 0 0 0 ⟨#[]⟩ (.slice none 0 0) 26 from heap_alloc_here _ (by simp))
  have hz5 : ((w.setCell ⟨d, 2, none⟩ (.int .i64 (c + 1))).alloc (.cells #[.int .i64 0, .int .i64 0, .int .i64 0, .string ⟨#[]⟩, .slice none 0 0] 26)).heap.size = w.heap.size + 1 := by simp
  have BZ := Lib.hid (Box.new w 0 0 0 ⟨#[]⟩ (.slice none 0 0) 26)
  obtain ⟨z0, z1, z2, z3, z4⟩ := BZ.out.cells
  have zf0 := BZ.out.free (i := 0); have zf1 := BZ.out.free (i := 1); have zf2 := BZ.out.free (i := 2); have zf3 := BZ.out.free (i := 3); have zf4 := BZ.out.free (i := 4)
  have WD := Lib.hid (fun (W : World) (h : UB W d s i (c + 1) false) => show Calls Tryd.prog 176 #[.pointer (some ⟨d, 0, none⟩), .int .i64 1] W (WdRet d s i 1 (c + 1) (some (bn : Int)) W) from by
    have := wide_any d s hs i 1 (by omega) (by omega) (by omega) (c + 1) false W h
    rw [if_neg (by simp), hb] at this; exact this)
  have MN := Lib.hid (fun (W : World) (h : UB W d s (i + 1) (c + 1) false) => show Calls Tryd.prog 177 #[.pointer (some ⟨d, 0, none⟩), .int .i64 (2 * ((bn : Int) - 128)), .int .i64 (deep + 1)] W (UkRet d s (mgKids g (2 * (bn - 128)) (i + 1) l) W) from by
    have := many_any d s hs g hg (deep + 1) hV (2 * (bn - 128)) (i + 1) l (by omega) (by omega) (by omega) W (by rw [← HCL.out]; exact h)
    rw [show ((2 * (bn - 128) : Nat) : Int) = 2 * ((bn : Int) - 128) by omega] at this
    exact this)
  clear hV hg
  generalize mgKids g (2 * (bn - 128)) (i + 1) l = o at *
  go_enter Tryd.func120, Tryd.ntmps120
  go_wp2_with fail
  refine (WD.out _ HU5.out).mono ?_
  rintro e6 w6 ⟨⟨rfl, hu6⟩, ht6⟩
  have hz6 := ht6.size
  rw [hz5] at hz6
  have BZ6 := Lib.hid (show Box w6 w.heap.size 0 0 0 ⟨#[]⟩ (.slice none 0 0) 26 from (ht6.block w.heap.size (by omega) hd2).trans BZ5.out)
  have HU6 := Lib.hid hu6
  have HT6 := Lib.hid (HT5.out.trans ht6)
  clear z0 z1 z2 z3 z4 zf0 zf1 zf2 zf3 zf4 u0 u1 u2 u3 f1 f2 f3 hu6 ht6
  obtain ⟨z0, z1, z2, z3, z4⟩ := BZ6.out.cells
  have zf0 := BZ6.out.free (i := 0); have zf1 := BZ6.out.free (i := 1); have zf2 := BZ6.out.free (i := 2); have zf3 := BZ6.out.free (i := 3); have zf4 := BZ6.out.free (i := 4)
  obtain ⟨u0, u1, u2, u3, f1, f2, f3⟩ := HU6.out.cells
  go_wp2_with fail
  refine (MN.out _ HU6.out).mono ?_
  rintro e7 w7 ⟨us, sl, rfl, ow, hq, hst, ht7⟩
  have hz7 := ht7.size
  have BZ7 := Lib.hid (show Box w7 w.heap.size 0 0 0 ⟨#[]⟩ (.slice none 0 0) 26 from (ht7.block w.heap.size (by omega) hd2).trans BZ6.out)
  have HT7 := Lib.hid (HT6.out.trans ht7)
  clear z0 z1 z2 z3 z4 zf0 zf1 zf2 zf3 zf4 u0 u1 u2 u3 f1 f2 f3 ht7
  obtain ⟨ua, un, uc, rfl⟩ : ∃ sa sn sc, sl = .slice sa sn sc := by obtain ⟨p, q, e⟩ := ow.slice; exact ⟨p, _, q, e⟩
  obtain ⟨z0, z1, z2, z3, z4⟩ := BZ7.out.cells
  have zf0 := BZ7.out.free (i := 0); have zf1 := BZ7.out.free (i := 1); have zf2 := BZ7.out.free (i := 2); have zf3 := BZ7.out.free (i := 3); have zf4 := BZ7.out.free (i := 4)
  have HP := Lib.hid (fun v0 v1 v2 v3 v4 => show UmRet d s (mgNode 8 0 (o)) w (.returned (.agg #[.int .i64 8, .int .i64 0, .int .i64 0, .string ⟨#[]⟩, .slice ua un uc])) (set5 w7 w.heap.size v0 v1 v2 v3 v4) from
    um_pass (s := s) (t := .mk 8 0 0 ⟨#[]⟩ us) HT7.out (Nat.le_refl _) hd1 ⟨k64 8 (by omega) (by omega), in0, in0, by show ByteArray.size ⟨#[]⟩ ≤ _; simp [ByteArray.size]⟩ ow (fun x hx => by have hx' : w6.heap.size ≤ x := hx; omega) (node_q hq) (node_st hst) v0 v1 v2 v3 v4)
  clear ow hq hst MN
  go_wp2_with fail
  refine bodyPost_ret (v := .agg #[.int .i64 8, .int .i64 0, .int .i64 0, .string ⟨#[]⟩, .slice ua un uc]) (by simp [results, Tryd.results120, go_sem, z0, z1, z2, z3, z4]) rfl (HP.out _ _ _ _ _)
set_option maxRecDepth 100000 in
set_option maxHeartbeats 4000000 in
theorem value_list (d : Nat) (s : ByteArray) (hs : s.size ≤ 1048576) (g : Nat → Nat → MG) (hg : ∀ i l, MGood s i l (g i l)) (deep : Int) (hd : 0 ≤ deep ∧ deep ≤ 12)
    (hV : ∀ (i l : Nat) (W : World), i ≤ s.size → l ≤ 300 → UB W d s i (300 - (l : Int)) false → Calls Tryd.prog 120 #[.pointer (some ⟨d, 0, none⟩), .int .i64 (deep + 1)] W (UmRet d s (g i l) W)) (i l : Nat) (hi : i < s.size) (hl : l + 1 ≤ 300) (w : World) (hU : UB w d s i (300 - ((l + 1 : Nat) : Int)) false) (bn : Nat) (hb : wgo s i 1 = some (bn : Int)) (h1 : 144 ≤ bn) (h2 : bn < 160) :
    Calls Tryd.prog 120 #[.pointer (some ⟨d, 0, none⟩), .int .i64 deep] w (UmRet d s (mgNode 7 0 (mgKids g ((bn - 144)) (i + 1) l)) w) := by
  have hdw := lt_of_heap hU
  obtain ⟨c, hc⟩ : ∃ c : Int, c = 300 - ((l + 1 : Nat) : Int) := ⟨_, rfl⟩
  rw [← hc] at hU
  have HU := Lib.hid hU
  obtain ⟨u0, u1, u2, u3, f1, f2, f3⟩ := hU.cells
  have hd1 : d ≠ w.heap.size := by omega
  have hd2 : w.heap.size ≠ d := by omega
  have hc0 : 0 ≤ c := by omega
  have hc1 : c + 1 ≤ 300 := by omega
  have HCL := Lib.hid (show c + 1 = 300 - (l : Int) by omega)
  clear hc
  have HU5 := Lib.hid (show UB ((w.setCell ⟨d, 2, none⟩ (.int .i64 (c + 1))).alloc (.cells #[.int .i64 0, .int .i64 0, .int .i64 0, .string ⟨#[]⟩, .slice none 0 0] 26)) d s i (c + 1) false from (HU.out.setC (c + 1)).stay ((Below.refl _ _).alloc (Nat.le_refl _) _))
  have HT5 := Lib.hid (show Touch (fun x => x = d) (fun x => x = d) w ((w.setCell ⟨d, 2, none⟩ (.int .i64 (c + 1))).alloc (.cells #[.int .i64 0, .int .i64 0, .int .i64 0, .string ⟨#[]⟩, .slice none 0 0] 26)) from ((Touch.refl _ w).cellD _).trans (Touch.of_below ((Below.refl _ _).alloc (Nat.le_refl _) _)))
  have BZ5 := Lib.hid (show Box ((w.setCell ⟨d, 2, none⟩ (.int .i64 (c + 1))).alloc (.cells #[.int .i64 0, .int .i64 0, .int .i64 0, .string ⟨#[]⟩, .slice none 0 0] 26)) w.heap.size 0 0 0 ⟨#[]⟩ (.slice none 0 0) 26 from heap_alloc_here _ (by simp))
  have hz5 : ((w.setCell ⟨d, 2, none⟩ (.int .i64 (c + 1))).alloc (.cells #[.int .i64 0, .int .i64 0, .int .i64 0, .string ⟨#[]⟩, .slice none 0 0] 26)).heap.size = w.heap.size + 1 := by simp
  have BZ := Lib.hid (Box.new w 0 0 0 ⟨#[]⟩ (.slice none 0 0) 26)
  obtain ⟨z0, z1, z2, z3, z4⟩ := BZ.out.cells
  have zf0 := BZ.out.free (i := 0); have zf1 := BZ.out.free (i := 1); have zf2 := BZ.out.free (i := 2); have zf3 := BZ.out.free (i := 3); have zf4 := BZ.out.free (i := 4)
  have WD := Lib.hid (fun (W : World) (h : UB W d s i (c + 1) false) => show Calls Tryd.prog 176 #[.pointer (some ⟨d, 0, none⟩), .int .i64 1] W (WdRet d s i 1 (c + 1) (some (bn : Int)) W) from by
    have := wide_any d s hs i 1 (by omega) (by omega) (by omega) (c + 1) false W h
    rw [if_neg (by simp), hb] at this; exact this)
  have MN := Lib.hid (fun (W : World) (h : UB W d s (i + 1) (c + 1) false) => show Calls Tryd.prog 177 #[.pointer (some ⟨d, 0, none⟩), .int .i64 (((bn : Int) - 144)), .int .i64 (deep + 1)] W (UkRet d s (mgKids g ((bn - 144)) (i + 1) l) W) from by
    have := many_any d s hs g hg (deep + 1) hV ((bn - 144)) (i + 1) l (by omega) (by omega) (by omega) W (by rw [← HCL.out]; exact h)
    rw [show (((bn - 144) : Nat) : Int) = ((bn : Int) - 144) by omega] at this
    exact this)
  clear hV hg
  generalize mgKids g ((bn - 144)) (i + 1) l = o at *
  go_enter Tryd.func120, Tryd.ntmps120
  go_wp2_with fail
  refine (WD.out _ HU5.out).mono ?_
  rintro e6 w6 ⟨⟨rfl, hu6⟩, ht6⟩
  have hz6 := ht6.size
  rw [hz5] at hz6
  have BZ6 := Lib.hid (show Box w6 w.heap.size 0 0 0 ⟨#[]⟩ (.slice none 0 0) 26 from (ht6.block w.heap.size (by omega) hd2).trans BZ5.out)
  have HU6 := Lib.hid hu6
  have HT6 := Lib.hid (HT5.out.trans ht6)
  clear z0 z1 z2 z3 z4 zf0 zf1 zf2 zf3 zf4 u0 u1 u2 u3 f1 f2 f3 hu6 ht6
  obtain ⟨z0, z1, z2, z3, z4⟩ := BZ6.out.cells
  have zf0 := BZ6.out.free (i := 0); have zf1 := BZ6.out.free (i := 1); have zf2 := BZ6.out.free (i := 2); have zf3 := BZ6.out.free (i := 3); have zf4 := BZ6.out.free (i := 4)
  obtain ⟨u0, u1, u2, u3, f1, f2, f3⟩ := HU6.out.cells
  go_wp2_with fail
  refine (MN.out _ HU6.out).mono ?_
  rintro e7 w7 ⟨us, sl, rfl, ow, hq, hst, ht7⟩
  have hz7 := ht7.size
  have BZ7 := Lib.hid (show Box w7 w.heap.size 0 0 0 ⟨#[]⟩ (.slice none 0 0) 26 from (ht7.block w.heap.size (by omega) hd2).trans BZ6.out)
  have HT7 := Lib.hid (HT6.out.trans ht7)
  clear z0 z1 z2 z3 z4 zf0 zf1 zf2 zf3 zf4 u0 u1 u2 u3 f1 f2 f3 ht7
  obtain ⟨ua, un, uc, rfl⟩ : ∃ sa sn sc, sl = .slice sa sn sc := by obtain ⟨p, q, e⟩ := ow.slice; exact ⟨p, _, q, e⟩
  obtain ⟨z0, z1, z2, z3, z4⟩ := BZ7.out.cells
  have zf0 := BZ7.out.free (i := 0); have zf1 := BZ7.out.free (i := 1); have zf2 := BZ7.out.free (i := 2); have zf3 := BZ7.out.free (i := 3); have zf4 := BZ7.out.free (i := 4)
  have HP := Lib.hid (fun v0 v1 v2 v3 v4 => show UmRet d s (mgNode 7 0 (o)) w (.returned (.agg #[.int .i64 7, .int .i64 0, .int .i64 0, .string ⟨#[]⟩, .slice ua un uc])) (set5 w7 w.heap.size v0 v1 v2 v3 v4) from
    um_pass (s := s) (t := .mk 7 0 0 ⟨#[]⟩ us) HT7.out (Nat.le_refl _) hd1 ⟨k64 7 (by omega) (by omega), in0, in0, by show ByteArray.size ⟨#[]⟩ ≤ _; simp [ByteArray.size]⟩ ow (fun x hx => by have hx' : w6.heap.size ≤ x := hx; omega) (node_q hq) (node_st hst) v0 v1 v2 v3 v4)
  clear ow hq hst MN
  go_wp2_with fail
  refine bodyPost_ret (v := .agg #[.int .i64 7, .int .i64 0, .int .i64 0, .string ⟨#[]⟩, .slice ua un uc]) (by simp [results, Tryd.results120, go_sem, z0, z1, z2, z3, z4]) rfl (HP.out _ _ _ _ _)
set_option maxRecDepth 100000 in
set_option maxHeartbeats 4000000 in
theorem value_k204 (d : Nat) (s : ByteArray) (hs : s.size ≤ 1048576) (g : Nat → Nat → MG) (hg : ∀ i l, MGood s i l (g i l)) (deep : Int) (hd : 0 ≤ deep ∧ deep ≤ 12)
    (hV : ∀ (i l : Nat) (W : World), i ≤ s.size → l ≤ 300 → UB W d s i (300 - (l : Int)) false → Calls Tryd.prog 120 #[.pointer (some ⟨d, 0, none⟩), .int .i64 (deep + 1)] W (UmRet d s (g i l) W)) (i l : Nat) (hi : i < s.size) (hl : l + 1 ≤ 300) (w : World) (hU : UB w d s i (300 - ((l + 1 : Nat) : Int)) false) (hb : wgo s i 1 = some 204)  :
    Calls Tryd.prog 120 #[.pointer (some ⟨d, 0, none⟩), .int .i64 deep] w (UmRet d s ((wgo s (i + 1) 1).bind fun n => mgLeaf 3 (n) 0 (i + 1 + 1) l) w) := by
  have hdw := lt_of_heap hU
  obtain ⟨c, hc⟩ : ∃ c : Int, c = 300 - ((l + 1 : Nat) : Int) := ⟨_, rfl⟩
  rw [← hc] at hU
  have HU := Lib.hid hU
  obtain ⟨u0, u1, u2, u3, f1, f2, f3⟩ := hU.cells
  have hd1 : d ≠ w.heap.size := by omega
  have hd2 : w.heap.size ≠ d := by omega
  have hc0 : 0 ≤ c := by omega
  have hc1 : c + 1 ≤ 300 := by omega
  have HCL := Lib.hid (show c + 1 = 300 - (l : Int) by omega)
  clear hc
  have HU5 := Lib.hid (show UB ((w.setCell ⟨d, 2, none⟩ (.int .i64 (c + 1))).alloc (.cells #[.int .i64 0, .int .i64 0, .int .i64 0, .string ⟨#[]⟩, .slice none 0 0] 26)) d s i (c + 1) false from (HU.out.setC (c + 1)).stay ((Below.refl _ _).alloc (Nat.le_refl _) _))
  have HT5 := Lib.hid (show Touch (fun x => x = d) (fun x => x = d) w ((w.setCell ⟨d, 2, none⟩ (.int .i64 (c + 1))).alloc (.cells #[.int .i64 0, .int .i64 0, .int .i64 0, .string ⟨#[]⟩, .slice none 0 0] 26)) from ((Touch.refl _ w).cellD _).trans (Touch.of_below ((Below.refl _ _).alloc (Nat.le_refl _) _)))
  have BZ5 := Lib.hid (show Box ((w.setCell ⟨d, 2, none⟩ (.int .i64 (c + 1))).alloc (.cells #[.int .i64 0, .int .i64 0, .int .i64 0, .string ⟨#[]⟩, .slice none 0 0] 26)) w.heap.size 0 0 0 ⟨#[]⟩ (.slice none 0 0) 26 from heap_alloc_here _ (by simp))
  have hz5 : ((w.setCell ⟨d, 2, none⟩ (.int .i64 (c + 1))).alloc (.cells #[.int .i64 0, .int .i64 0, .int .i64 0, .string ⟨#[]⟩, .slice none 0 0] 26)).heap.size = w.heap.size + 1 := by simp
  have BZ := Lib.hid (Box.new w 0 0 0 ⟨#[]⟩ (.slice none 0 0) 26)
  obtain ⟨z0, z1, z2, z3, z4⟩ := BZ.out.cells
  have zf0 := BZ.out.free (i := 0); have zf1 := BZ.out.free (i := 1); have zf2 := BZ.out.free (i := 2); have zf3 := BZ.out.free (i := 3); have zf4 := BZ.out.free (i := 4)
  have WD := Lib.hid (fun (W : World) (h : UB W d s i (c + 1) false) => show Calls Tryd.prog 176 #[.pointer (some ⟨d, 0, none⟩), .int .i64 1] W (WdRet d s i 1 (c + 1) (some 204) W) from by
    have := wide_any d s hs i 1 (by omega) (by omega) (by omega) (c + 1) false W h
    rw [if_neg (by simp), hb] at this; exact this)
  have WE := Lib.hid (fun (o : Option Int) (ho : wgo s (i + 1) 1 = o) (W : World) (h : UB W d s (i + 1) (c + 1) false) => show Calls Tryd.prog 176 #[.pointer (some ⟨d, 0, none⟩), .int .i64 1] W (WdRet d s (i + 1) 1 (c + 1) o W) from by
    have := wide_any d s hs (i + 1) 1 (by omega) (by omega) (by omega) (c + 1) false W h
    rw [if_neg (by simp), ho] at this; exact this)
  have IA := Lib.hid (fun W => within_yes 204 204 207 W (by omega) (by omega))
  clear hV hg
  have WI := Lib.hid (fun n (h : wgo s (i + 1) 1 = some n) => wgo_in h)
  cases ho : wgo s (i + 1) 1 with
  | none =>
    have WE2 := Lib.hid (WE.out _ ho)
    have hn64 : In64 0 := in0
    clear WI WE ho
    show Calls _ _ _ _ (UmRet d s none w)
    go_enter Tryd.func120, Tryd.ntmps120
    go_wp2_with fail
    refine (WD.out _ HU5.out).mono ?_
    rintro e6 w6 ⟨⟨rfl, hu6⟩, ht6⟩
    have hz6 := ht6.size
    rw [hz5] at hz6
    have BZ6 := Lib.hid (show Box w6 w.heap.size 0 0 0 ⟨#[]⟩ (.slice none 0 0) 26 from (ht6.block w.heap.size (by omega) hd2).trans BZ5.out)
    have HU6 := Lib.hid hu6
    have HT6 := Lib.hid (HT5.out.trans ht6)
    clear z0 z1 z2 z3 z4 zf0 zf1 zf2 zf3 zf4 u0 u1 u2 u3 f1 f2 f3 hu6 ht6
    obtain ⟨z0, z1, z2, z3, z4⟩ := BZ6.out.cells
    have zf0 := BZ6.out.free (i := 0); have zf1 := BZ6.out.free (i := 1); have zf2 := BZ6.out.free (i := 2); have zf3 := BZ6.out.free (i := 3); have zf4 := BZ6.out.free (i := 4)
    obtain ⟨u0, u1, u2, u3, f1, f2, f3⟩ := HU6.out.cells
    go_wp2_with fail
    refine (IA.out _).mono ?_
    rintro e97 w97 ⟨rfl, rfl⟩
    go_wp2_with fail
    refine (WE2.out _ HU6.out).mono ?_
    rintro e7 w7 ⟨⟨rfl, hu7⟩, ht7⟩
    have hz7 := ht7.size
    have BZ7 := Lib.hid (show Box w7 w.heap.size 0 0 0 ⟨#[]⟩ (.slice none 0 0) 26 from (ht7.block w.heap.size (by omega) hd2).trans BZ6.out)
    have HU7 := Lib.hid hu7
    have HT7 := Lib.hid (HT6.out.trans ht7)
    clear z0 z1 z2 z3 z4 zf0 zf1 zf2 zf3 zf4 u0 u1 u2 u3 f1 f2 f3 hu7 ht7
    obtain ⟨z0, z1, z2, z3, z4⟩ := BZ7.out.cells
    have zf0 := BZ7.out.free (i := 0); have zf1 := BZ7.out.free (i := 1); have zf2 := BZ7.out.free (i := 2); have zf3 := BZ7.out.free (i := 3); have zf4 := BZ7.out.free (i := 4)
    have HP := Lib.hid (fun v0 v1 v2 v3 v4 => show UmRet d s (none) w (.returned (.agg #[.int .i64 3, .int .i64 (0), .int .i64 (0), .string ⟨#[]⟩, .slice none 0 0])) (set5 w7 w.heap.size v0 v1 v2 v3 v4) from
      um_pass (s := s) (o := none) (t := .mk 3 (0) (0) ⟨#[]⟩ []) (Fr := fun _ => False) HT7.out (Nat.le_refl _) hd1 ⟨in3, hn64, in0, by show ByteArray.size ⟨#[]⟩ ≤ _; simp [ByteArray.size]⟩ (OwnS.nil _ _) (fun _ h => h.elim) (fun q e9 => by cases e9) (show UmSt d s none w7 from ⟨i + 1, _, by omega, HU7.out⟩) v0 v1 v2 v3 v4)
    go_wp2_with fail
    refine bodyPost_ret (v := .agg #[.int .i64 3, .int .i64 (0), .int .i64 0, .string ⟨#[]⟩, .slice none 0 0]) (by simp [results, Tryd.results120, go_sem, z0, z1, z2, z3, z4]) rfl (HP.out _ _ _ _ _)
  | some n =>
    have WE2 := Lib.hid (WE.out _ ho)
    obtain ⟨hn64, hfit⟩ := WI.out _ ho
    clear WI WE ho
    show Calls _ _ _ _ (UmRet d s (mgLeaf 3 (n) 0 (i + 1 + 1) l) w)
    go_enter Tryd.func120, Tryd.ntmps120
    go_wp2_with fail
    refine (WD.out _ HU5.out).mono ?_
    rintro e6 w6 ⟨⟨rfl, hu6⟩, ht6⟩
    have hz6 := ht6.size
    rw [hz5] at hz6
    have BZ6 := Lib.hid (show Box w6 w.heap.size 0 0 0 ⟨#[]⟩ (.slice none 0 0) 26 from (ht6.block w.heap.size (by omega) hd2).trans BZ5.out)
    have HU6 := Lib.hid hu6
    have HT6 := Lib.hid (HT5.out.trans ht6)
    clear z0 z1 z2 z3 z4 zf0 zf1 zf2 zf3 zf4 u0 u1 u2 u3 f1 f2 f3 hu6 ht6
    obtain ⟨z0, z1, z2, z3, z4⟩ := BZ6.out.cells
    have zf0 := BZ6.out.free (i := 0); have zf1 := BZ6.out.free (i := 1); have zf2 := BZ6.out.free (i := 2); have zf3 := BZ6.out.free (i := 3); have zf4 := BZ6.out.free (i := 4)
    obtain ⟨u0, u1, u2, u3, f1, f2, f3⟩ := HU6.out.cells
    go_wp2_with fail
    refine (IA.out _).mono ?_
    rintro e97 w97 ⟨rfl, rfl⟩
    go_wp2_with fail
    refine (WE2.out _ HU6.out).mono ?_
    rintro e7 w7 ⟨⟨rfl, hu7⟩, ht7⟩
    have hz7 := ht7.size
    have BZ7 := Lib.hid (show Box w7 w.heap.size 0 0 0 ⟨#[]⟩ (.slice none 0 0) 26 from (ht7.block w.heap.size (by omega) hd2).trans BZ6.out)
    have HU7 := Lib.hid hu7
    have HT7 := Lib.hid (HT6.out.trans ht7)
    clear z0 z1 z2 z3 z4 zf0 zf1 zf2 zf3 zf4 u0 u1 u2 u3 f1 f2 f3 hu7 ht7
    obtain ⟨z0, z1, z2, z3, z4⟩ := BZ7.out.cells
    have zf0 := BZ7.out.free (i := 0); have zf1 := BZ7.out.free (i := 1); have zf2 := BZ7.out.free (i := 2); have zf3 := BZ7.out.free (i := 3); have zf4 := BZ7.out.free (i := 4)
    have HP := Lib.hid (fun v0 v1 v2 v3 v4 => show UmRet d s (mgLeaf 3 (n) 0 (i + 1 + 1) l) w (.returned (.agg #[.int .i64 3, .int .i64 (n), .int .i64 (0), .string ⟨#[]⟩, .slice none 0 0])) (set5 w7 w.heap.size v0 v1 v2 v3 v4) from
      um_pass (s := s) (o := mgLeaf 3 (n) 0 (i + 1 + 1) l) (t := .mk 3 (n) (0) ⟨#[]⟩ []) (Fr := fun _ => False) HT7.out (Nat.le_refl _) hd1 ⟨in3, hn64, in0, by show ByteArray.size ⟨#[]⟩ ≤ _; simp [ByteArray.size]⟩ (OwnS.nil _ _) (fun _ h => h.elim) (fun q9 e9 => by have e8 : some (V.mk 3 (n) (0) ⟨#[]⟩ [], (i + 1 + 1, l)) = some q9 := e9; injection e8 with e8; rw [← e8]) (show UmSt d s (some (i + 1 + 1, l)) w7 from by show UB w7 d s (i + 1 + 1) (300 - (l : Int)) false; rw [← HCL.out]; exact HU7.out) v0 v1 v2 v3 v4)
    go_wp2_with fail
    refine bodyPost_ret (v := .agg #[.int .i64 3, .int .i64 (n), .int .i64 0, .string ⟨#[]⟩, .slice none 0 0]) (by simp [results, Tryd.results120, go_sem, z0, z1, z2, z3, z4]) rfl (HP.out _ _ _ _ _)
set_option maxRecDepth 100000 in
set_option maxHeartbeats 4000000 in
theorem value_k205 (d : Nat) (s : ByteArray) (hs : s.size ≤ 1048576) (g : Nat → Nat → MG) (hg : ∀ i l, MGood s i l (g i l)) (deep : Int) (hd : 0 ≤ deep ∧ deep ≤ 12)
    (hV : ∀ (i l : Nat) (W : World), i ≤ s.size → l ≤ 300 → UB W d s i (300 - (l : Int)) false → Calls Tryd.prog 120 #[.pointer (some ⟨d, 0, none⟩), .int .i64 (deep + 1)] W (UmRet d s (g i l) W)) (i l : Nat) (hi : i < s.size) (hl : l + 1 ≤ 300) (w : World) (hU : UB w d s i (300 - ((l + 1 : Nat) : Int)) false) (hb : wgo s i 1 = some 205)  :
    Calls Tryd.prog 120 #[.pointer (some ⟨d, 0, none⟩), .int .i64 deep] w (UmRet d s ((wgo s (i + 1) 2).bind fun n => mgLeaf 3 (n) 0 (i + 1 + 2) l) w) := by
  have hdw := lt_of_heap hU
  obtain ⟨c, hc⟩ : ∃ c : Int, c = 300 - ((l + 1 : Nat) : Int) := ⟨_, rfl⟩
  rw [← hc] at hU
  have HU := Lib.hid hU
  obtain ⟨u0, u1, u2, u3, f1, f2, f3⟩ := hU.cells
  have hd1 : d ≠ w.heap.size := by omega
  have hd2 : w.heap.size ≠ d := by omega
  have hc0 : 0 ≤ c := by omega
  have hc1 : c + 1 ≤ 300 := by omega
  have HCL := Lib.hid (show c + 1 = 300 - (l : Int) by omega)
  clear hc
  have HU5 := Lib.hid (show UB ((w.setCell ⟨d, 2, none⟩ (.int .i64 (c + 1))).alloc (.cells #[.int .i64 0, .int .i64 0, .int .i64 0, .string ⟨#[]⟩, .slice none 0 0] 26)) d s i (c + 1) false from (HU.out.setC (c + 1)).stay ((Below.refl _ _).alloc (Nat.le_refl _) _))
  have HT5 := Lib.hid (show Touch (fun x => x = d) (fun x => x = d) w ((w.setCell ⟨d, 2, none⟩ (.int .i64 (c + 1))).alloc (.cells #[.int .i64 0, .int .i64 0, .int .i64 0, .string ⟨#[]⟩, .slice none 0 0] 26)) from ((Touch.refl _ w).cellD _).trans (Touch.of_below ((Below.refl _ _).alloc (Nat.le_refl _) _)))
  have BZ5 := Lib.hid (show Box ((w.setCell ⟨d, 2, none⟩ (.int .i64 (c + 1))).alloc (.cells #[.int .i64 0, .int .i64 0, .int .i64 0, .string ⟨#[]⟩, .slice none 0 0] 26)) w.heap.size 0 0 0 ⟨#[]⟩ (.slice none 0 0) 26 from heap_alloc_here _ (by simp))
  have hz5 : ((w.setCell ⟨d, 2, none⟩ (.int .i64 (c + 1))).alloc (.cells #[.int .i64 0, .int .i64 0, .int .i64 0, .string ⟨#[]⟩, .slice none 0 0] 26)).heap.size = w.heap.size + 1 := by simp
  have BZ := Lib.hid (Box.new w 0 0 0 ⟨#[]⟩ (.slice none 0 0) 26)
  obtain ⟨z0, z1, z2, z3, z4⟩ := BZ.out.cells
  have zf0 := BZ.out.free (i := 0); have zf1 := BZ.out.free (i := 1); have zf2 := BZ.out.free (i := 2); have zf3 := BZ.out.free (i := 3); have zf4 := BZ.out.free (i := 4)
  have WD := Lib.hid (fun (W : World) (h : UB W d s i (c + 1) false) => show Calls Tryd.prog 176 #[.pointer (some ⟨d, 0, none⟩), .int .i64 1] W (WdRet d s i 1 (c + 1) (some 205) W) from by
    have := wide_any d s hs i 1 (by omega) (by omega) (by omega) (c + 1) false W h
    rw [if_neg (by simp), hb] at this; exact this)
  have WE := Lib.hid (fun (o : Option Int) (ho : wgo s (i + 1) 2 = o) (W : World) (h : UB W d s (i + 1) (c + 1) false) => show Calls Tryd.prog 176 #[.pointer (some ⟨d, 0, none⟩), .int .i64 2] W (WdRet d s (i + 1) 2 (c + 1) o W) from by
    have := wide_any d s hs (i + 1) 2 (by omega) (by omega) (by omega) (c + 1) false W h
    rw [if_neg (by simp), ho] at this; exact this)
  have IA := Lib.hid (fun W => within_yes 205 204 207 W (by omega) (by omega))
  clear hV hg
  have WI := Lib.hid (fun n (h : wgo s (i + 1) 2 = some n) => wgo_in h)
  cases ho : wgo s (i + 1) 2 with
  | none =>
    have WE2 := Lib.hid (WE.out _ ho)
    have hn64 : In64 0 := in0
    clear WI WE ho
    show Calls _ _ _ _ (UmRet d s none w)
    go_enter Tryd.func120, Tryd.ntmps120
    go_wp2_with fail
    refine (WD.out _ HU5.out).mono ?_
    rintro e6 w6 ⟨⟨rfl, hu6⟩, ht6⟩
    have hz6 := ht6.size
    rw [hz5] at hz6
    have BZ6 := Lib.hid (show Box w6 w.heap.size 0 0 0 ⟨#[]⟩ (.slice none 0 0) 26 from (ht6.block w.heap.size (by omega) hd2).trans BZ5.out)
    have HU6 := Lib.hid hu6
    have HT6 := Lib.hid (HT5.out.trans ht6)
    clear z0 z1 z2 z3 z4 zf0 zf1 zf2 zf3 zf4 u0 u1 u2 u3 f1 f2 f3 hu6 ht6
    obtain ⟨z0, z1, z2, z3, z4⟩ := BZ6.out.cells
    have zf0 := BZ6.out.free (i := 0); have zf1 := BZ6.out.free (i := 1); have zf2 := BZ6.out.free (i := 2); have zf3 := BZ6.out.free (i := 3); have zf4 := BZ6.out.free (i := 4)
    obtain ⟨u0, u1, u2, u3, f1, f2, f3⟩ := HU6.out.cells
    go_wp2_with fail
    refine (IA.out _).mono ?_
    rintro e97 w97 ⟨rfl, rfl⟩
    go_wp2_with fail
    refine (WE2.out _ HU6.out).mono ?_
    rintro e7 w7 ⟨⟨rfl, hu7⟩, ht7⟩
    have hz7 := ht7.size
    have BZ7 := Lib.hid (show Box w7 w.heap.size 0 0 0 ⟨#[]⟩ (.slice none 0 0) 26 from (ht7.block w.heap.size (by omega) hd2).trans BZ6.out)
    have HU7 := Lib.hid hu7
    have HT7 := Lib.hid (HT6.out.trans ht7)
    clear z0 z1 z2 z3 z4 zf0 zf1 zf2 zf3 zf4 u0 u1 u2 u3 f1 f2 f3 hu7 ht7
    obtain ⟨z0, z1, z2, z3, z4⟩ := BZ7.out.cells
    have zf0 := BZ7.out.free (i := 0); have zf1 := BZ7.out.free (i := 1); have zf2 := BZ7.out.free (i := 2); have zf3 := BZ7.out.free (i := 3); have zf4 := BZ7.out.free (i := 4)
    have HP := Lib.hid (fun v0 v1 v2 v3 v4 => show UmRet d s (none) w (.returned (.agg #[.int .i64 3, .int .i64 (0), .int .i64 (0), .string ⟨#[]⟩, .slice none 0 0])) (set5 w7 w.heap.size v0 v1 v2 v3 v4) from
      um_pass (s := s) (o := none) (t := .mk 3 (0) (0) ⟨#[]⟩ []) (Fr := fun _ => False) HT7.out (Nat.le_refl _) hd1 ⟨in3, hn64, in0, by show ByteArray.size ⟨#[]⟩ ≤ _; simp [ByteArray.size]⟩ (OwnS.nil _ _) (fun _ h => h.elim) (fun q e9 => by cases e9) (show UmSt d s none w7 from ⟨i + 1, _, by omega, HU7.out⟩) v0 v1 v2 v3 v4)
    go_wp2_with fail
    refine bodyPost_ret (v := .agg #[.int .i64 3, .int .i64 (0), .int .i64 0, .string ⟨#[]⟩, .slice none 0 0]) (by simp [results, Tryd.results120, go_sem, z0, z1, z2, z3, z4]) rfl (HP.out _ _ _ _ _)
  | some n =>
    have WE2 := Lib.hid (WE.out _ ho)
    obtain ⟨hn64, hfit⟩ := WI.out _ ho
    clear WI WE ho
    show Calls _ _ _ _ (UmRet d s (mgLeaf 3 (n) 0 (i + 1 + 2) l) w)
    go_enter Tryd.func120, Tryd.ntmps120
    go_wp2_with fail
    refine (WD.out _ HU5.out).mono ?_
    rintro e6 w6 ⟨⟨rfl, hu6⟩, ht6⟩
    have hz6 := ht6.size
    rw [hz5] at hz6
    have BZ6 := Lib.hid (show Box w6 w.heap.size 0 0 0 ⟨#[]⟩ (.slice none 0 0) 26 from (ht6.block w.heap.size (by omega) hd2).trans BZ5.out)
    have HU6 := Lib.hid hu6
    have HT6 := Lib.hid (HT5.out.trans ht6)
    clear z0 z1 z2 z3 z4 zf0 zf1 zf2 zf3 zf4 u0 u1 u2 u3 f1 f2 f3 hu6 ht6
    obtain ⟨z0, z1, z2, z3, z4⟩ := BZ6.out.cells
    have zf0 := BZ6.out.free (i := 0); have zf1 := BZ6.out.free (i := 1); have zf2 := BZ6.out.free (i := 2); have zf3 := BZ6.out.free (i := 3); have zf4 := BZ6.out.free (i := 4)
    obtain ⟨u0, u1, u2, u3, f1, f2, f3⟩ := HU6.out.cells
    go_wp2_with fail
    refine (IA.out _).mono ?_
    rintro e97 w97 ⟨rfl, rfl⟩
    go_wp2_with fail
    refine (WE2.out _ HU6.out).mono ?_
    rintro e7 w7 ⟨⟨rfl, hu7⟩, ht7⟩
    have hz7 := ht7.size
    have BZ7 := Lib.hid (show Box w7 w.heap.size 0 0 0 ⟨#[]⟩ (.slice none 0 0) 26 from (ht7.block w.heap.size (by omega) hd2).trans BZ6.out)
    have HU7 := Lib.hid hu7
    have HT7 := Lib.hid (HT6.out.trans ht7)
    clear z0 z1 z2 z3 z4 zf0 zf1 zf2 zf3 zf4 u0 u1 u2 u3 f1 f2 f3 hu7 ht7
    obtain ⟨z0, z1, z2, z3, z4⟩ := BZ7.out.cells
    have zf0 := BZ7.out.free (i := 0); have zf1 := BZ7.out.free (i := 1); have zf2 := BZ7.out.free (i := 2); have zf3 := BZ7.out.free (i := 3); have zf4 := BZ7.out.free (i := 4)
    have HP := Lib.hid (fun v0 v1 v2 v3 v4 => show UmRet d s (mgLeaf 3 (n) 0 (i + 1 + 2) l) w (.returned (.agg #[.int .i64 3, .int .i64 (n), .int .i64 (0), .string ⟨#[]⟩, .slice none 0 0])) (set5 w7 w.heap.size v0 v1 v2 v3 v4) from
      um_pass (s := s) (o := mgLeaf 3 (n) 0 (i + 1 + 2) l) (t := .mk 3 (n) (0) ⟨#[]⟩ []) (Fr := fun _ => False) HT7.out (Nat.le_refl _) hd1 ⟨in3, hn64, in0, by show ByteArray.size ⟨#[]⟩ ≤ _; simp [ByteArray.size]⟩ (OwnS.nil _ _) (fun _ h => h.elim) (fun q9 e9 => by have e8 : some (V.mk 3 (n) (0) ⟨#[]⟩ [], (i + 1 + 2, l)) = some q9 := e9; injection e8 with e8; rw [← e8]) (show UmSt d s (some (i + 1 + 2, l)) w7 from by show UB w7 d s (i + 1 + 2) (300 - (l : Int)) false; rw [← HCL.out]; exact HU7.out) v0 v1 v2 v3 v4)
    go_wp2_with fail
    refine bodyPost_ret (v := .agg #[.int .i64 3, .int .i64 (n), .int .i64 0, .string ⟨#[]⟩, .slice none 0 0]) (by simp [results, Tryd.results120, go_sem, z0, z1, z2, z3, z4]) rfl (HP.out _ _ _ _ _)
set_option maxRecDepth 100000 in
set_option maxHeartbeats 4000000 in
theorem value_k206 (d : Nat) (s : ByteArray) (hs : s.size ≤ 1048576) (g : Nat → Nat → MG) (hg : ∀ i l, MGood s i l (g i l)) (deep : Int) (hd : 0 ≤ deep ∧ deep ≤ 12)
    (hV : ∀ (i l : Nat) (W : World), i ≤ s.size → l ≤ 300 → UB W d s i (300 - (l : Int)) false → Calls Tryd.prog 120 #[.pointer (some ⟨d, 0, none⟩), .int .i64 (deep + 1)] W (UmRet d s (g i l) W)) (i l : Nat) (hi : i < s.size) (hl : l + 1 ≤ 300) (w : World) (hU : UB w d s i (300 - ((l + 1 : Nat) : Int)) false) (hb : wgo s i 1 = some 206)  :
    Calls Tryd.prog 120 #[.pointer (some ⟨d, 0, none⟩), .int .i64 deep] w (UmRet d s ((wgo s (i + 1) 4).bind fun n => mgLeaf 3 (n) 0 (i + 1 + 4) l) w) := by
  have hdw := lt_of_heap hU
  obtain ⟨c, hc⟩ : ∃ c : Int, c = 300 - ((l + 1 : Nat) : Int) := ⟨_, rfl⟩
  rw [← hc] at hU
  have HU := Lib.hid hU
  obtain ⟨u0, u1, u2, u3, f1, f2, f3⟩ := hU.cells
  have hd1 : d ≠ w.heap.size := by omega
  have hd2 : w.heap.size ≠ d := by omega
  have hc0 : 0 ≤ c := by omega
  have hc1 : c + 1 ≤ 300 := by omega
  have HCL := Lib.hid (show c + 1 = 300 - (l : Int) by omega)
  clear hc
  have HU5 := Lib.hid (show UB ((w.setCell ⟨d, 2, none⟩ (.int .i64 (c + 1))).alloc (.cells #[.int .i64 0, .int .i64 0, .int .i64 0, .string ⟨#[]⟩, .slice none 0 0] 26)) d s i (c + 1) false from (HU.out.setC (c + 1)).stay ((Below.refl _ _).alloc (Nat.le_refl _) _))
  have HT5 := Lib.hid (show Touch (fun x => x = d) (fun x => x = d) w ((w.setCell ⟨d, 2, none⟩ (.int .i64 (c + 1))).alloc (.cells #[.int .i64 0, .int .i64 0, .int .i64 0, .string ⟨#[]⟩, .slice none 0 0] 26)) from ((Touch.refl _ w).cellD _).trans (Touch.of_below ((Below.refl _ _).alloc (Nat.le_refl _) _)))
  have BZ5 := Lib.hid (show Box ((w.setCell ⟨d, 2, none⟩ (.int .i64 (c + 1))).alloc (.cells #[.int .i64 0, .int .i64 0, .int .i64 0, .string ⟨#[]⟩, .slice none 0 0] 26)) w.heap.size 0 0 0 ⟨#[]⟩ (.slice none 0 0) 26 from heap_alloc_here _ (by simp))
  have hz5 : ((w.setCell ⟨d, 2, none⟩ (.int .i64 (c + 1))).alloc (.cells #[.int .i64 0, .int .i64 0, .int .i64 0, .string ⟨#[]⟩, .slice none 0 0] 26)).heap.size = w.heap.size + 1 := by simp
  have BZ := Lib.hid (Box.new w 0 0 0 ⟨#[]⟩ (.slice none 0 0) 26)
  obtain ⟨z0, z1, z2, z3, z4⟩ := BZ.out.cells
  have zf0 := BZ.out.free (i := 0); have zf1 := BZ.out.free (i := 1); have zf2 := BZ.out.free (i := 2); have zf3 := BZ.out.free (i := 3); have zf4 := BZ.out.free (i := 4)
  have WD := Lib.hid (fun (W : World) (h : UB W d s i (c + 1) false) => show Calls Tryd.prog 176 #[.pointer (some ⟨d, 0, none⟩), .int .i64 1] W (WdRet d s i 1 (c + 1) (some 206) W) from by
    have := wide_any d s hs i 1 (by omega) (by omega) (by omega) (c + 1) false W h
    rw [if_neg (by simp), hb] at this; exact this)
  have WE := Lib.hid (fun (o : Option Int) (ho : wgo s (i + 1) 4 = o) (W : World) (h : UB W d s (i + 1) (c + 1) false) => show Calls Tryd.prog 176 #[.pointer (some ⟨d, 0, none⟩), .int .i64 4] W (WdRet d s (i + 1) 4 (c + 1) o W) from by
    have := wide_any d s hs (i + 1) 4 (by omega) (by omega) (by omega) (c + 1) false W h
    rw [if_neg (by simp), ho] at this; exact this)
  have IA := Lib.hid (fun W => within_yes 206 204 207 W (by omega) (by omega))
  clear hV hg
  have WI := Lib.hid (fun n (h : wgo s (i + 1) 4 = some n) => wgo_in h)
  cases ho : wgo s (i + 1) 4 with
  | none =>
    have WE2 := Lib.hid (WE.out _ ho)
    have hn64 : In64 0 := in0
    clear WI WE ho
    show Calls _ _ _ _ (UmRet d s none w)
    go_enter Tryd.func120, Tryd.ntmps120
    go_wp2_with fail
    refine (WD.out _ HU5.out).mono ?_
    rintro e6 w6 ⟨⟨rfl, hu6⟩, ht6⟩
    have hz6 := ht6.size
    rw [hz5] at hz6
    have BZ6 := Lib.hid (show Box w6 w.heap.size 0 0 0 ⟨#[]⟩ (.slice none 0 0) 26 from (ht6.block w.heap.size (by omega) hd2).trans BZ5.out)
    have HU6 := Lib.hid hu6
    have HT6 := Lib.hid (HT5.out.trans ht6)
    clear z0 z1 z2 z3 z4 zf0 zf1 zf2 zf3 zf4 u0 u1 u2 u3 f1 f2 f3 hu6 ht6
    obtain ⟨z0, z1, z2, z3, z4⟩ := BZ6.out.cells
    have zf0 := BZ6.out.free (i := 0); have zf1 := BZ6.out.free (i := 1); have zf2 := BZ6.out.free (i := 2); have zf3 := BZ6.out.free (i := 3); have zf4 := BZ6.out.free (i := 4)
    obtain ⟨u0, u1, u2, u3, f1, f2, f3⟩ := HU6.out.cells
    go_wp2_with fail
    refine (IA.out _).mono ?_
    rintro e97 w97 ⟨rfl, rfl⟩
    go_wp2_with fail
    refine (WE2.out _ HU6.out).mono ?_
    rintro e7 w7 ⟨⟨rfl, hu7⟩, ht7⟩
    have hz7 := ht7.size
    have BZ7 := Lib.hid (show Box w7 w.heap.size 0 0 0 ⟨#[]⟩ (.slice none 0 0) 26 from (ht7.block w.heap.size (by omega) hd2).trans BZ6.out)
    have HU7 := Lib.hid hu7
    have HT7 := Lib.hid (HT6.out.trans ht7)
    clear z0 z1 z2 z3 z4 zf0 zf1 zf2 zf3 zf4 u0 u1 u2 u3 f1 f2 f3 hu7 ht7
    obtain ⟨z0, z1, z2, z3, z4⟩ := BZ7.out.cells
    have zf0 := BZ7.out.free (i := 0); have zf1 := BZ7.out.free (i := 1); have zf2 := BZ7.out.free (i := 2); have zf3 := BZ7.out.free (i := 3); have zf4 := BZ7.out.free (i := 4)
    have HP := Lib.hid (fun v0 v1 v2 v3 v4 => show UmRet d s (none) w (.returned (.agg #[.int .i64 3, .int .i64 (0), .int .i64 (0), .string ⟨#[]⟩, .slice none 0 0])) (set5 w7 w.heap.size v0 v1 v2 v3 v4) from
      um_pass (s := s) (o := none) (t := .mk 3 (0) (0) ⟨#[]⟩ []) (Fr := fun _ => False) HT7.out (Nat.le_refl _) hd1 ⟨in3, hn64, in0, by show ByteArray.size ⟨#[]⟩ ≤ _; simp [ByteArray.size]⟩ (OwnS.nil _ _) (fun _ h => h.elim) (fun q e9 => by cases e9) (show UmSt d s none w7 from ⟨i + 1, _, by omega, HU7.out⟩) v0 v1 v2 v3 v4)
    go_wp2_with fail
    refine bodyPost_ret (v := .agg #[.int .i64 3, .int .i64 (0), .int .i64 0, .string ⟨#[]⟩, .slice none 0 0]) (by simp [results, Tryd.results120, go_sem, z0, z1, z2, z3, z4]) rfl (HP.out _ _ _ _ _)
  | some n =>
    have WE2 := Lib.hid (WE.out _ ho)
    obtain ⟨hn64, hfit⟩ := WI.out _ ho
    clear WI WE ho
    show Calls _ _ _ _ (UmRet d s (mgLeaf 3 (n) 0 (i + 1 + 4) l) w)
    go_enter Tryd.func120, Tryd.ntmps120
    go_wp2_with fail
    refine (WD.out _ HU5.out).mono ?_
    rintro e6 w6 ⟨⟨rfl, hu6⟩, ht6⟩
    have hz6 := ht6.size
    rw [hz5] at hz6
    have BZ6 := Lib.hid (show Box w6 w.heap.size 0 0 0 ⟨#[]⟩ (.slice none 0 0) 26 from (ht6.block w.heap.size (by omega) hd2).trans BZ5.out)
    have HU6 := Lib.hid hu6
    have HT6 := Lib.hid (HT5.out.trans ht6)
    clear z0 z1 z2 z3 z4 zf0 zf1 zf2 zf3 zf4 u0 u1 u2 u3 f1 f2 f3 hu6 ht6
    obtain ⟨z0, z1, z2, z3, z4⟩ := BZ6.out.cells
    have zf0 := BZ6.out.free (i := 0); have zf1 := BZ6.out.free (i := 1); have zf2 := BZ6.out.free (i := 2); have zf3 := BZ6.out.free (i := 3); have zf4 := BZ6.out.free (i := 4)
    obtain ⟨u0, u1, u2, u3, f1, f2, f3⟩ := HU6.out.cells
    go_wp2_with fail
    refine (IA.out _).mono ?_
    rintro e97 w97 ⟨rfl, rfl⟩
    go_wp2_with fail
    refine (WE2.out _ HU6.out).mono ?_
    rintro e7 w7 ⟨⟨rfl, hu7⟩, ht7⟩
    have hz7 := ht7.size
    have BZ7 := Lib.hid (show Box w7 w.heap.size 0 0 0 ⟨#[]⟩ (.slice none 0 0) 26 from (ht7.block w.heap.size (by omega) hd2).trans BZ6.out)
    have HU7 := Lib.hid hu7
    have HT7 := Lib.hid (HT6.out.trans ht7)
    clear z0 z1 z2 z3 z4 zf0 zf1 zf2 zf3 zf4 u0 u1 u2 u3 f1 f2 f3 hu7 ht7
    obtain ⟨z0, z1, z2, z3, z4⟩ := BZ7.out.cells
    have zf0 := BZ7.out.free (i := 0); have zf1 := BZ7.out.free (i := 1); have zf2 := BZ7.out.free (i := 2); have zf3 := BZ7.out.free (i := 3); have zf4 := BZ7.out.free (i := 4)
    have HP := Lib.hid (fun v0 v1 v2 v3 v4 => show UmRet d s (mgLeaf 3 (n) 0 (i + 1 + 4) l) w (.returned (.agg #[.int .i64 3, .int .i64 (n), .int .i64 (0), .string ⟨#[]⟩, .slice none 0 0])) (set5 w7 w.heap.size v0 v1 v2 v3 v4) from
      um_pass (s := s) (o := mgLeaf 3 (n) 0 (i + 1 + 4) l) (t := .mk 3 (n) (0) ⟨#[]⟩ []) (Fr := fun _ => False) HT7.out (Nat.le_refl _) hd1 ⟨in3, hn64, in0, by show ByteArray.size ⟨#[]⟩ ≤ _; simp [ByteArray.size]⟩ (OwnS.nil _ _) (fun _ h => h.elim) (fun q9 e9 => by have e8 : some (V.mk 3 (n) (0) ⟨#[]⟩ [], (i + 1 + 4, l)) = some q9 := e9; injection e8 with e8; rw [← e8]) (show UmSt d s (some (i + 1 + 4, l)) w7 from by show UB w7 d s (i + 1 + 4) (300 - (l : Int)) false; rw [← HCL.out]; exact HU7.out) v0 v1 v2 v3 v4)
    go_wp2_with fail
    refine bodyPost_ret (v := .agg #[.int .i64 3, .int .i64 (n), .int .i64 0, .string ⟨#[]⟩, .slice none 0 0]) (by simp [results, Tryd.results120, go_sem, z0, z1, z2, z3, z4]) rfl (HP.out _ _ _ _ _)
set_option maxRecDepth 100000 in
set_option maxHeartbeats 4000000 in
theorem value_k207 (d : Nat) (s : ByteArray) (hs : s.size ≤ 1048576) (g : Nat → Nat → MG) (hg : ∀ i l, MGood s i l (g i l)) (deep : Int) (hd : 0 ≤ deep ∧ deep ≤ 12)
    (hV : ∀ (i l : Nat) (W : World), i ≤ s.size → l ≤ 300 → UB W d s i (300 - (l : Int)) false → Calls Tryd.prog 120 #[.pointer (some ⟨d, 0, none⟩), .int .i64 (deep + 1)] W (UmRet d s (g i l) W)) (i l : Nat) (hi : i < s.size) (hl : l + 1 ≤ 300) (w : World) (hU : UB w d s i (300 - ((l + 1 : Nat) : Int)) false) (hb : wgo s i 1 = some 207)  :
    Calls Tryd.prog 120 #[.pointer (some ⟨d, 0, none⟩), .int .i64 deep] w (UmRet d s ((wgo s (i + 1) 8).bind fun n => mgLeaf 3 (n) 0 (i + 1 + 8) l) w) := by
  have hdw := lt_of_heap hU
  obtain ⟨c, hc⟩ : ∃ c : Int, c = 300 - ((l + 1 : Nat) : Int) := ⟨_, rfl⟩
  rw [← hc] at hU
  have HU := Lib.hid hU
  obtain ⟨u0, u1, u2, u3, f1, f2, f3⟩ := hU.cells
  have hd1 : d ≠ w.heap.size := by omega
  have hd2 : w.heap.size ≠ d := by omega
  have hc0 : 0 ≤ c := by omega
  have hc1 : c + 1 ≤ 300 := by omega
  have HCL := Lib.hid (show c + 1 = 300 - (l : Int) by omega)
  clear hc
  have HU5 := Lib.hid (show UB ((w.setCell ⟨d, 2, none⟩ (.int .i64 (c + 1))).alloc (.cells #[.int .i64 0, .int .i64 0, .int .i64 0, .string ⟨#[]⟩, .slice none 0 0] 26)) d s i (c + 1) false from (HU.out.setC (c + 1)).stay ((Below.refl _ _).alloc (Nat.le_refl _) _))
  have HT5 := Lib.hid (show Touch (fun x => x = d) (fun x => x = d) w ((w.setCell ⟨d, 2, none⟩ (.int .i64 (c + 1))).alloc (.cells #[.int .i64 0, .int .i64 0, .int .i64 0, .string ⟨#[]⟩, .slice none 0 0] 26)) from ((Touch.refl _ w).cellD _).trans (Touch.of_below ((Below.refl _ _).alloc (Nat.le_refl _) _)))
  have BZ5 := Lib.hid (show Box ((w.setCell ⟨d, 2, none⟩ (.int .i64 (c + 1))).alloc (.cells #[.int .i64 0, .int .i64 0, .int .i64 0, .string ⟨#[]⟩, .slice none 0 0] 26)) w.heap.size 0 0 0 ⟨#[]⟩ (.slice none 0 0) 26 from heap_alloc_here _ (by simp))
  have hz5 : ((w.setCell ⟨d, 2, none⟩ (.int .i64 (c + 1))).alloc (.cells #[.int .i64 0, .int .i64 0, .int .i64 0, .string ⟨#[]⟩, .slice none 0 0] 26)).heap.size = w.heap.size + 1 := by simp
  have BZ := Lib.hid (Box.new w 0 0 0 ⟨#[]⟩ (.slice none 0 0) 26)
  obtain ⟨z0, z1, z2, z3, z4⟩ := BZ.out.cells
  have zf0 := BZ.out.free (i := 0); have zf1 := BZ.out.free (i := 1); have zf2 := BZ.out.free (i := 2); have zf3 := BZ.out.free (i := 3); have zf4 := BZ.out.free (i := 4)
  have WD := Lib.hid (fun (W : World) (h : UB W d s i (c + 1) false) => show Calls Tryd.prog 176 #[.pointer (some ⟨d, 0, none⟩), .int .i64 1] W (WdRet d s i 1 (c + 1) (some 207) W) from by
    have := wide_any d s hs i 1 (by omega) (by omega) (by omega) (c + 1) false W h
    rw [if_neg (by simp), hb] at this; exact this)
  have WE := Lib.hid (fun (o : Option Int) (ho : wgo s (i + 1) 8 = o) (W : World) (h : UB W d s (i + 1) (c + 1) false) => show Calls Tryd.prog 176 #[.pointer (some ⟨d, 0, none⟩), .int .i64 8] W (WdRet d s (i + 1) 8 (c + 1) o W) from by
    have := wide_any d s hs (i + 1) 8 (by omega) (by omega) (by omega) (c + 1) false W h
    rw [if_neg (by simp), ho] at this; exact this)
  have IA := Lib.hid (fun W => within_yes 207 204 207 W (by omega) (by omega))
  clear hV hg
  have WI := Lib.hid (fun n (h : wgo s (i + 1) 8 = some n) => wgo_in h)
  cases ho : wgo s (i + 1) 8 with
  | none =>
    have WE2 := Lib.hid (WE.out _ ho)
    have hn64 : In64 0 := in0
    clear WI WE ho
    show Calls _ _ _ _ (UmRet d s none w)
    go_enter Tryd.func120, Tryd.ntmps120
    go_wp2_with fail
    refine (WD.out _ HU5.out).mono ?_
    rintro e6 w6 ⟨⟨rfl, hu6⟩, ht6⟩
    have hz6 := ht6.size
    rw [hz5] at hz6
    have BZ6 := Lib.hid (show Box w6 w.heap.size 0 0 0 ⟨#[]⟩ (.slice none 0 0) 26 from (ht6.block w.heap.size (by omega) hd2).trans BZ5.out)
    have HU6 := Lib.hid hu6
    have HT6 := Lib.hid (HT5.out.trans ht6)
    clear z0 z1 z2 z3 z4 zf0 zf1 zf2 zf3 zf4 u0 u1 u2 u3 f1 f2 f3 hu6 ht6
    obtain ⟨z0, z1, z2, z3, z4⟩ := BZ6.out.cells
    have zf0 := BZ6.out.free (i := 0); have zf1 := BZ6.out.free (i := 1); have zf2 := BZ6.out.free (i := 2); have zf3 := BZ6.out.free (i := 3); have zf4 := BZ6.out.free (i := 4)
    obtain ⟨u0, u1, u2, u3, f1, f2, f3⟩ := HU6.out.cells
    go_wp2_with fail
    refine (IA.out _).mono ?_
    rintro e97 w97 ⟨rfl, rfl⟩
    go_wp2_with fail
    refine (WE2.out _ HU6.out).mono ?_
    rintro e7 w7 ⟨⟨rfl, hu7⟩, ht7⟩
    have hz7 := ht7.size
    have BZ7 := Lib.hid (show Box w7 w.heap.size 0 0 0 ⟨#[]⟩ (.slice none 0 0) 26 from (ht7.block w.heap.size (by omega) hd2).trans BZ6.out)
    have HU7 := Lib.hid hu7
    have HT7 := Lib.hid (HT6.out.trans ht7)
    clear z0 z1 z2 z3 z4 zf0 zf1 zf2 zf3 zf4 u0 u1 u2 u3 f1 f2 f3 hu7 ht7
    obtain ⟨z0, z1, z2, z3, z4⟩ := BZ7.out.cells
    have zf0 := BZ7.out.free (i := 0); have zf1 := BZ7.out.free (i := 1); have zf2 := BZ7.out.free (i := 2); have zf3 := BZ7.out.free (i := 3); have zf4 := BZ7.out.free (i := 4)
    have HP := Lib.hid (fun v0 v1 v2 v3 v4 => show UmRet d s (none) w (.returned (.agg #[.int .i64 3, .int .i64 (0), .int .i64 (0), .string ⟨#[]⟩, .slice none 0 0])) (set5 w7 w.heap.size v0 v1 v2 v3 v4) from
      um_pass (s := s) (o := none) (t := .mk 3 (0) (0) ⟨#[]⟩ []) (Fr := fun _ => False) HT7.out (Nat.le_refl _) hd1 ⟨in3, hn64, in0, by show ByteArray.size ⟨#[]⟩ ≤ _; simp [ByteArray.size]⟩ (OwnS.nil _ _) (fun _ h => h.elim) (fun q e9 => by cases e9) (show UmSt d s none w7 from ⟨i + 1, _, by omega, HU7.out⟩) v0 v1 v2 v3 v4)
    go_wp2_with fail
    refine bodyPost_ret (v := .agg #[.int .i64 3, .int .i64 (0), .int .i64 0, .string ⟨#[]⟩, .slice none 0 0]) (by simp [results, Tryd.results120, go_sem, z0, z1, z2, z3, z4]) rfl (HP.out _ _ _ _ _)
  | some n =>
    have WE2 := Lib.hid (WE.out _ ho)
    obtain ⟨hn64, hfit⟩ := WI.out _ ho
    clear WI WE ho
    show Calls _ _ _ _ (UmRet d s (mgLeaf 3 (n) 0 (i + 1 + 8) l) w)
    go_enter Tryd.func120, Tryd.ntmps120
    go_wp2_with fail
    refine (WD.out _ HU5.out).mono ?_
    rintro e6 w6 ⟨⟨rfl, hu6⟩, ht6⟩
    have hz6 := ht6.size
    rw [hz5] at hz6
    have BZ6 := Lib.hid (show Box w6 w.heap.size 0 0 0 ⟨#[]⟩ (.slice none 0 0) 26 from (ht6.block w.heap.size (by omega) hd2).trans BZ5.out)
    have HU6 := Lib.hid hu6
    have HT6 := Lib.hid (HT5.out.trans ht6)
    clear z0 z1 z2 z3 z4 zf0 zf1 zf2 zf3 zf4 u0 u1 u2 u3 f1 f2 f3 hu6 ht6
    obtain ⟨z0, z1, z2, z3, z4⟩ := BZ6.out.cells
    have zf0 := BZ6.out.free (i := 0); have zf1 := BZ6.out.free (i := 1); have zf2 := BZ6.out.free (i := 2); have zf3 := BZ6.out.free (i := 3); have zf4 := BZ6.out.free (i := 4)
    obtain ⟨u0, u1, u2, u3, f1, f2, f3⟩ := HU6.out.cells
    go_wp2_with fail
    refine (IA.out _).mono ?_
    rintro e97 w97 ⟨rfl, rfl⟩
    go_wp2_with fail
    refine (WE2.out _ HU6.out).mono ?_
    rintro e7 w7 ⟨⟨rfl, hu7⟩, ht7⟩
    have hz7 := ht7.size
    have BZ7 := Lib.hid (show Box w7 w.heap.size 0 0 0 ⟨#[]⟩ (.slice none 0 0) 26 from (ht7.block w.heap.size (by omega) hd2).trans BZ6.out)
    have HU7 := Lib.hid hu7
    have HT7 := Lib.hid (HT6.out.trans ht7)
    clear z0 z1 z2 z3 z4 zf0 zf1 zf2 zf3 zf4 u0 u1 u2 u3 f1 f2 f3 hu7 ht7
    obtain ⟨z0, z1, z2, z3, z4⟩ := BZ7.out.cells
    have zf0 := BZ7.out.free (i := 0); have zf1 := BZ7.out.free (i := 1); have zf2 := BZ7.out.free (i := 2); have zf3 := BZ7.out.free (i := 3); have zf4 := BZ7.out.free (i := 4)
    have HP := Lib.hid (fun v0 v1 v2 v3 v4 => show UmRet d s (mgLeaf 3 (n) 0 (i + 1 + 8) l) w (.returned (.agg #[.int .i64 3, .int .i64 (n), .int .i64 (0), .string ⟨#[]⟩, .slice none 0 0])) (set5 w7 w.heap.size v0 v1 v2 v3 v4) from
      um_pass (s := s) (o := mgLeaf 3 (n) 0 (i + 1 + 8) l) (t := .mk 3 (n) (0) ⟨#[]⟩ []) (Fr := fun _ => False) HT7.out (Nat.le_refl _) hd1 ⟨in3, hn64, in0, by show ByteArray.size ⟨#[]⟩ ≤ _; simp [ByteArray.size]⟩ (OwnS.nil _ _) (fun _ h => h.elim) (fun q9 e9 => by have e8 : some (V.mk 3 (n) (0) ⟨#[]⟩ [], (i + 1 + 8, l)) = some q9 := e9; injection e8 with e8; rw [← e8]) (show UmSt d s (some (i + 1 + 8, l)) w7 from by show UB w7 d s (i + 1 + 8) (300 - (l : Int)) false; rw [← HCL.out]; exact HU7.out) v0 v1 v2 v3 v4)
    go_wp2_with fail
    refine bodyPost_ret (v := .agg #[.int .i64 3, .int .i64 (n), .int .i64 0, .string ⟨#[]⟩, .slice none 0 0]) (by simp [results, Tryd.results120, go_sem, z0, z1, z2, z3, z4]) rfl (HP.out _ _ _ _ _)
set_option maxRecDepth 100000 in
set_option maxHeartbeats 4000000 in
theorem value_k208 (d : Nat) (s : ByteArray) (hs : s.size ≤ 1048576) (g : Nat → Nat → MG) (hg : ∀ i l, MGood s i l (g i l)) (deep : Int) (hd : 0 ≤ deep ∧ deep ≤ 12)
    (hV : ∀ (i l : Nat) (W : World), i ≤ s.size → l ≤ 300 → UB W d s i (300 - (l : Int)) false → Calls Tryd.prog 120 #[.pointer (some ⟨d, 0, none⟩), .int .i64 (deep + 1)] W (UmRet d s (g i l) W)) (i l : Nat) (hi : i < s.size) (hl : l + 1 ≤ 300) (w : World) (hU : UB w d s i (300 - ((l + 1 : Nat) : Int)) false) (hb : wgo s i 1 = some 208)  :
    Calls Tryd.prog 120 #[.pointer (some ⟨d, 0, none⟩), .int .i64 deep] w (UmRet d s ((wgo s (i + 1) 1).bind fun n => mgLeaf 3 (signN n 1) 0 (i + 1 + 1) l) w) := by
  have hdw := lt_of_heap hU
  obtain ⟨c, hc⟩ : ∃ c : Int, c = 300 - ((l + 1 : Nat) : Int) := ⟨_, rfl⟩
  rw [← hc] at hU
  have HU := Lib.hid hU
  obtain ⟨u0, u1, u2, u3, f1, f2, f3⟩ := hU.cells
  have hd1 : d ≠ w.heap.size := by omega
  have hd2 : w.heap.size ≠ d := by omega
  have hc0 : 0 ≤ c := by omega
  have hc1 : c + 1 ≤ 300 := by omega
  have HCL := Lib.hid (show c + 1 = 300 - (l : Int) by omega)
  clear hc
  have HU5 := Lib.hid (show UB ((w.setCell ⟨d, 2, none⟩ (.int .i64 (c + 1))).alloc (.cells #[.int .i64 0, .int .i64 0, .int .i64 0, .string ⟨#[]⟩, .slice none 0 0] 26)) d s i (c + 1) false from (HU.out.setC (c + 1)).stay ((Below.refl _ _).alloc (Nat.le_refl _) _))
  have HT5 := Lib.hid (show Touch (fun x => x = d) (fun x => x = d) w ((w.setCell ⟨d, 2, none⟩ (.int .i64 (c + 1))).alloc (.cells #[.int .i64 0, .int .i64 0, .int .i64 0, .string ⟨#[]⟩, .slice none 0 0] 26)) from ((Touch.refl _ w).cellD _).trans (Touch.of_below ((Below.refl _ _).alloc (Nat.le_refl _) _)))
  have BZ5 := Lib.hid (show Box ((w.setCell ⟨d, 2, none⟩ (.int .i64 (c + 1))).alloc (.cells #[.int .i64 0, .int .i64 0, .int .i64 0, .string ⟨#[]⟩, .slice none 0 0] 26)) w.heap.size 0 0 0 ⟨#[]⟩ (.slice none 0 0) 26 from heap_alloc_here _ (by simp))
  have hz5 : ((w.setCell ⟨d, 2, none⟩ (.int .i64 (c + 1))).alloc (.cells #[.int .i64 0, .int .i64 0, .int .i64 0, .string ⟨#[]⟩, .slice none 0 0] 26)).heap.size = w.heap.size + 1 := by simp
  have BZ := Lib.hid (Box.new w 0 0 0 ⟨#[]⟩ (.slice none 0 0) 26)
  obtain ⟨z0, z1, z2, z3, z4⟩ := BZ.out.cells
  have zf0 := BZ.out.free (i := 0); have zf1 := BZ.out.free (i := 1); have zf2 := BZ.out.free (i := 2); have zf3 := BZ.out.free (i := 3); have zf4 := BZ.out.free (i := 4)
  have WD := Lib.hid (fun (W : World) (h : UB W d s i (c + 1) false) => show Calls Tryd.prog 176 #[.pointer (some ⟨d, 0, none⟩), .int .i64 1] W (WdRet d s i 1 (c + 1) (some 208) W) from by
    have := wide_any d s hs i 1 (by omega) (by omega) (by omega) (c + 1) false W h
    rw [if_neg (by simp), hb] at this; exact this)
  have WE := Lib.hid (fun (o : Option Int) (ho : wgo s (i + 1) 1 = o) (W : World) (h : UB W d s (i + 1) (c + 1) false) => show Calls Tryd.prog 176 #[.pointer (some ⟨d, 0, none⟩), .int .i64 1] W (WdRet d s (i + 1) 1 (c + 1) o W) from by
    have := wide_any d s hs (i + 1) 1 (by omega) (by omega) (by omega) (c + 1) false W h
    rw [if_neg (by simp), ho] at this; exact this)
  have IA := Lib.hid (fun W => within_no 208 204 207 W (by omega))
  have IB := Lib.hid (fun W => within_yes 208 208 211 W (by omega) (by omega))
  clear hV hg
  have SG := Lib.hid (fun (n : Int) (hn : In64 n) W => SignOf_impl n 1 W (by omega) (by omega) hn)
  have WI := Lib.hid (fun n (h : wgo s (i + 1) 1 = some n) => wgo_in h)
  cases ho : wgo s (i + 1) 1 with
  | none =>
    have WE2 := Lib.hid (WE.out _ ho)
    have hn64 : In64 0 := in0
    have SG2 := Lib.hid (SG.out 0 hn64)
    clear WI WE ho SG
    show Calls _ _ _ _ (UmRet d s none w)
    go_enter Tryd.func120, Tryd.ntmps120
    go_wp2_with fail
    refine (WD.out _ HU5.out).mono ?_
    rintro e6 w6 ⟨⟨rfl, hu6⟩, ht6⟩
    have hz6 := ht6.size
    rw [hz5] at hz6
    have BZ6 := Lib.hid (show Box w6 w.heap.size 0 0 0 ⟨#[]⟩ (.slice none 0 0) 26 from (ht6.block w.heap.size (by omega) hd2).trans BZ5.out)
    have HU6 := Lib.hid hu6
    have HT6 := Lib.hid (HT5.out.trans ht6)
    clear z0 z1 z2 z3 z4 zf0 zf1 zf2 zf3 zf4 u0 u1 u2 u3 f1 f2 f3 hu6 ht6
    obtain ⟨z0, z1, z2, z3, z4⟩ := BZ6.out.cells
    have zf0 := BZ6.out.free (i := 0); have zf1 := BZ6.out.free (i := 1); have zf2 := BZ6.out.free (i := 2); have zf3 := BZ6.out.free (i := 3); have zf4 := BZ6.out.free (i := 4)
    obtain ⟨u0, u1, u2, u3, f1, f2, f3⟩ := HU6.out.cells
    go_wp2_with fail
    refine (IA.out _).mono ?_
    rintro e97 w97 ⟨rfl, rfl⟩
    go_wp2_with fail
    refine (IB.out _).mono ?_
    rintro e98 w98 ⟨rfl, rfl⟩
    go_wp2_with fail
    refine (WE2.out _ HU6.out).mono ?_
    rintro e7 w7 ⟨⟨rfl, hu7⟩, ht7⟩
    have hz7 := ht7.size
    have BZ7 := Lib.hid (show Box w7 w.heap.size 0 0 0 ⟨#[]⟩ (.slice none 0 0) 26 from (ht7.block w.heap.size (by omega) hd2).trans BZ6.out)
    have HU7 := Lib.hid hu7
    have HT7 := Lib.hid (HT6.out.trans ht7)
    clear z0 z1 z2 z3 z4 zf0 zf1 zf2 zf3 zf4 u0 u1 u2 u3 f1 f2 f3 hu7 ht7
    obtain ⟨z0, z1, z2, z3, z4⟩ := BZ7.out.cells
    have zf0 := BZ7.out.free (i := 0); have zf1 := BZ7.out.free (i := 1); have zf2 := BZ7.out.free (i := 2); have zf3 := BZ7.out.free (i := 3); have zf4 := BZ7.out.free (i := 4)
    have hn64 := signN_in 1 hn64
    have HP := Lib.hid (fun v0 v1 v2 v3 v4 => show UmRet d s (none) w (.returned (.agg #[.int .i64 3, .int .i64 (signN 0 1), .int .i64 (0), .string ⟨#[]⟩, .slice none 0 0])) (set5 w7 w.heap.size v0 v1 v2 v3 v4) from
      um_pass (s := s) (o := none) (t := .mk 3 (signN 0 1) (0) ⟨#[]⟩ []) (Fr := fun _ => False) HT7.out (Nat.le_refl _) hd1 ⟨in3, hn64, in0, by show ByteArray.size ⟨#[]⟩ ≤ _; simp [ByteArray.size]⟩ (OwnS.nil _ _) (fun _ h => h.elim) (fun q e9 => by cases e9) (show UmSt d s none w7 from ⟨i + 1, _, by omega, HU7.out⟩) v0 v1 v2 v3 v4)
    go_wp2_with fail
    refine (SG2.out _).mono ?_
    rintro e96 w96 ⟨rfl, rfl⟩
    go_wp2_with fail
    refine bodyPost_ret (v := .agg #[.int .i64 3, .int .i64 (signN 0 1), .int .i64 0, .string ⟨#[]⟩, .slice none 0 0]) (by simp [results, Tryd.results120, go_sem, z0, z1, z2, z3, z4]) rfl (HP.out _ _ _ _ _)
  | some n =>
    have WE2 := Lib.hid (WE.out _ ho)
    obtain ⟨hn64, hfit⟩ := WI.out _ ho
    have SG2 := Lib.hid (SG.out n hn64)
    clear WI WE ho SG
    show Calls _ _ _ _ (UmRet d s (mgLeaf 3 (signN n 1) 0 (i + 1 + 1) l) w)
    go_enter Tryd.func120, Tryd.ntmps120
    go_wp2_with fail
    refine (WD.out _ HU5.out).mono ?_
    rintro e6 w6 ⟨⟨rfl, hu6⟩, ht6⟩
    have hz6 := ht6.size
    rw [hz5] at hz6
    have BZ6 := Lib.hid (show Box w6 w.heap.size 0 0 0 ⟨#[]⟩ (.slice none 0 0) 26 from (ht6.block w.heap.size (by omega) hd2).trans BZ5.out)
    have HU6 := Lib.hid hu6
    have HT6 := Lib.hid (HT5.out.trans ht6)
    clear z0 z1 z2 z3 z4 zf0 zf1 zf2 zf3 zf4 u0 u1 u2 u3 f1 f2 f3 hu6 ht6
    obtain ⟨z0, z1, z2, z3, z4⟩ := BZ6.out.cells
    have zf0 := BZ6.out.free (i := 0); have zf1 := BZ6.out.free (i := 1); have zf2 := BZ6.out.free (i := 2); have zf3 := BZ6.out.free (i := 3); have zf4 := BZ6.out.free (i := 4)
    obtain ⟨u0, u1, u2, u3, f1, f2, f3⟩ := HU6.out.cells
    go_wp2_with fail
    refine (IA.out _).mono ?_
    rintro e97 w97 ⟨rfl, rfl⟩
    go_wp2_with fail
    refine (IB.out _).mono ?_
    rintro e98 w98 ⟨rfl, rfl⟩
    go_wp2_with fail
    refine (WE2.out _ HU6.out).mono ?_
    rintro e7 w7 ⟨⟨rfl, hu7⟩, ht7⟩
    have hz7 := ht7.size
    have BZ7 := Lib.hid (show Box w7 w.heap.size 0 0 0 ⟨#[]⟩ (.slice none 0 0) 26 from (ht7.block w.heap.size (by omega) hd2).trans BZ6.out)
    have HU7 := Lib.hid hu7
    have HT7 := Lib.hid (HT6.out.trans ht7)
    clear z0 z1 z2 z3 z4 zf0 zf1 zf2 zf3 zf4 u0 u1 u2 u3 f1 f2 f3 hu7 ht7
    obtain ⟨z0, z1, z2, z3, z4⟩ := BZ7.out.cells
    have zf0 := BZ7.out.free (i := 0); have zf1 := BZ7.out.free (i := 1); have zf2 := BZ7.out.free (i := 2); have zf3 := BZ7.out.free (i := 3); have zf4 := BZ7.out.free (i := 4)
    have hn64 := signN_in 1 hn64
    have HP := Lib.hid (fun v0 v1 v2 v3 v4 => show UmRet d s (mgLeaf 3 (signN n 1) 0 (i + 1 + 1) l) w (.returned (.agg #[.int .i64 3, .int .i64 (signN n 1), .int .i64 (0), .string ⟨#[]⟩, .slice none 0 0])) (set5 w7 w.heap.size v0 v1 v2 v3 v4) from
      um_pass (s := s) (o := mgLeaf 3 (signN n 1) 0 (i + 1 + 1) l) (t := .mk 3 (signN n 1) (0) ⟨#[]⟩ []) (Fr := fun _ => False) HT7.out (Nat.le_refl _) hd1 ⟨in3, hn64, in0, by show ByteArray.size ⟨#[]⟩ ≤ _; simp [ByteArray.size]⟩ (OwnS.nil _ _) (fun _ h => h.elim) (fun q9 e9 => by have e8 : some (V.mk 3 (signN n 1) (0) ⟨#[]⟩ [], (i + 1 + 1, l)) = some q9 := e9; injection e8 with e8; rw [← e8]) (show UmSt d s (some (i + 1 + 1, l)) w7 from by show UB w7 d s (i + 1 + 1) (300 - (l : Int)) false; rw [← HCL.out]; exact HU7.out) v0 v1 v2 v3 v4)
    go_wp2_with fail
    refine (SG2.out _).mono ?_
    rintro e96 w96 ⟨rfl, rfl⟩
    go_wp2_with fail
    refine bodyPost_ret (v := .agg #[.int .i64 3, .int .i64 (signN n 1), .int .i64 0, .string ⟨#[]⟩, .slice none 0 0]) (by simp [results, Tryd.results120, go_sem, z0, z1, z2, z3, z4]) rfl (HP.out _ _ _ _ _)
set_option maxRecDepth 100000 in
set_option maxHeartbeats 4000000 in
theorem value_k209 (d : Nat) (s : ByteArray) (hs : s.size ≤ 1048576) (g : Nat → Nat → MG) (hg : ∀ i l, MGood s i l (g i l)) (deep : Int) (hd : 0 ≤ deep ∧ deep ≤ 12)
    (hV : ∀ (i l : Nat) (W : World), i ≤ s.size → l ≤ 300 → UB W d s i (300 - (l : Int)) false → Calls Tryd.prog 120 #[.pointer (some ⟨d, 0, none⟩), .int .i64 (deep + 1)] W (UmRet d s (g i l) W)) (i l : Nat) (hi : i < s.size) (hl : l + 1 ≤ 300) (w : World) (hU : UB w d s i (300 - ((l + 1 : Nat) : Int)) false) (hb : wgo s i 1 = some 209)  :
    Calls Tryd.prog 120 #[.pointer (some ⟨d, 0, none⟩), .int .i64 deep] w (UmRet d s ((wgo s (i + 1) 2).bind fun n => mgLeaf 3 (signN n 2) 0 (i + 1 + 2) l) w) := by
  have hdw := lt_of_heap hU
  obtain ⟨c, hc⟩ : ∃ c : Int, c = 300 - ((l + 1 : Nat) : Int) := ⟨_, rfl⟩
  rw [← hc] at hU
  have HU := Lib.hid hU
  obtain ⟨u0, u1, u2, u3, f1, f2, f3⟩ := hU.cells
  have hd1 : d ≠ w.heap.size := by omega
  have hd2 : w.heap.size ≠ d := by omega
  have hc0 : 0 ≤ c := by omega
  have hc1 : c + 1 ≤ 300 := by omega
  have HCL := Lib.hid (show c + 1 = 300 - (l : Int) by omega)
  clear hc
  have HU5 := Lib.hid (show UB ((w.setCell ⟨d, 2, none⟩ (.int .i64 (c + 1))).alloc (.cells #[.int .i64 0, .int .i64 0, .int .i64 0, .string ⟨#[]⟩, .slice none 0 0] 26)) d s i (c + 1) false from (HU.out.setC (c + 1)).stay ((Below.refl _ _).alloc (Nat.le_refl _) _))
  have HT5 := Lib.hid (show Touch (fun x => x = d) (fun x => x = d) w ((w.setCell ⟨d, 2, none⟩ (.int .i64 (c + 1))).alloc (.cells #[.int .i64 0, .int .i64 0, .int .i64 0, .string ⟨#[]⟩, .slice none 0 0] 26)) from ((Touch.refl _ w).cellD _).trans (Touch.of_below ((Below.refl _ _).alloc (Nat.le_refl _) _)))
  have BZ5 := Lib.hid (show Box ((w.setCell ⟨d, 2, none⟩ (.int .i64 (c + 1))).alloc (.cells #[.int .i64 0, .int .i64 0, .int .i64 0, .string ⟨#[]⟩, .slice none 0 0] 26)) w.heap.size 0 0 0 ⟨#[]⟩ (.slice none 0 0) 26 from heap_alloc_here _ (by simp))
  have hz5 : ((w.setCell ⟨d, 2, none⟩ (.int .i64 (c + 1))).alloc (.cells #[.int .i64 0, .int .i64 0, .int .i64 0, .string ⟨#[]⟩, .slice none 0 0] 26)).heap.size = w.heap.size + 1 := by simp
  have BZ := Lib.hid (Box.new w 0 0 0 ⟨#[]⟩ (.slice none 0 0) 26)
  obtain ⟨z0, z1, z2, z3, z4⟩ := BZ.out.cells
  have zf0 := BZ.out.free (i := 0); have zf1 := BZ.out.free (i := 1); have zf2 := BZ.out.free (i := 2); have zf3 := BZ.out.free (i := 3); have zf4 := BZ.out.free (i := 4)
  have WD := Lib.hid (fun (W : World) (h : UB W d s i (c + 1) false) => show Calls Tryd.prog 176 #[.pointer (some ⟨d, 0, none⟩), .int .i64 1] W (WdRet d s i 1 (c + 1) (some 209) W) from by
    have := wide_any d s hs i 1 (by omega) (by omega) (by omega) (c + 1) false W h
    rw [if_neg (by simp), hb] at this; exact this)
  have WE := Lib.hid (fun (o : Option Int) (ho : wgo s (i + 1) 2 = o) (W : World) (h : UB W d s (i + 1) (c + 1) false) => show Calls Tryd.prog 176 #[.pointer (some ⟨d, 0, none⟩), .int .i64 2] W (WdRet d s (i + 1) 2 (c + 1) o W) from by
    have := wide_any d s hs (i + 1) 2 (by omega) (by omega) (by omega) (c + 1) false W h
    rw [if_neg (by simp), ho] at this; exact this)
  have IA := Lib.hid (fun W => within_no 209 204 207 W (by omega))
  have IB := Lib.hid (fun W => within_yes 209 208 211 W (by omega) (by omega))
  clear hV hg
  have SG := Lib.hid (fun (n : Int) (hn : In64 n) W => SignOf_impl n 2 W (by omega) (by omega) hn)
  have WI := Lib.hid (fun n (h : wgo s (i + 1) 2 = some n) => wgo_in h)
  cases ho : wgo s (i + 1) 2 with
  | none =>
    have WE2 := Lib.hid (WE.out _ ho)
    have hn64 : In64 0 := in0
    have SG2 := Lib.hid (SG.out 0 hn64)
    clear WI WE ho SG
    show Calls _ _ _ _ (UmRet d s none w)
    go_enter Tryd.func120, Tryd.ntmps120
    go_wp2_with fail
    refine (WD.out _ HU5.out).mono ?_
    rintro e6 w6 ⟨⟨rfl, hu6⟩, ht6⟩
    have hz6 := ht6.size
    rw [hz5] at hz6
    have BZ6 := Lib.hid (show Box w6 w.heap.size 0 0 0 ⟨#[]⟩ (.slice none 0 0) 26 from (ht6.block w.heap.size (by omega) hd2).trans BZ5.out)
    have HU6 := Lib.hid hu6
    have HT6 := Lib.hid (HT5.out.trans ht6)
    clear z0 z1 z2 z3 z4 zf0 zf1 zf2 zf3 zf4 u0 u1 u2 u3 f1 f2 f3 hu6 ht6
    obtain ⟨z0, z1, z2, z3, z4⟩ := BZ6.out.cells
    have zf0 := BZ6.out.free (i := 0); have zf1 := BZ6.out.free (i := 1); have zf2 := BZ6.out.free (i := 2); have zf3 := BZ6.out.free (i := 3); have zf4 := BZ6.out.free (i := 4)
    obtain ⟨u0, u1, u2, u3, f1, f2, f3⟩ := HU6.out.cells
    go_wp2_with fail
    refine (IA.out _).mono ?_
    rintro e97 w97 ⟨rfl, rfl⟩
    go_wp2_with fail
    refine (IB.out _).mono ?_
    rintro e98 w98 ⟨rfl, rfl⟩
    go_wp2_with fail
    refine (WE2.out _ HU6.out).mono ?_
    rintro e7 w7 ⟨⟨rfl, hu7⟩, ht7⟩
    have hz7 := ht7.size
    have BZ7 := Lib.hid (show Box w7 w.heap.size 0 0 0 ⟨#[]⟩ (.slice none 0 0) 26 from (ht7.block w.heap.size (by omega) hd2).trans BZ6.out)
    have HU7 := Lib.hid hu7
    have HT7 := Lib.hid (HT6.out.trans ht7)
    clear z0 z1 z2 z3 z4 zf0 zf1 zf2 zf3 zf4 u0 u1 u2 u3 f1 f2 f3 hu7 ht7
    obtain ⟨z0, z1, z2, z3, z4⟩ := BZ7.out.cells
    have zf0 := BZ7.out.free (i := 0); have zf1 := BZ7.out.free (i := 1); have zf2 := BZ7.out.free (i := 2); have zf3 := BZ7.out.free (i := 3); have zf4 := BZ7.out.free (i := 4)
    have hn64 := signN_in 2 hn64
    have HP := Lib.hid (fun v0 v1 v2 v3 v4 => show UmRet d s (none) w (.returned (.agg #[.int .i64 3, .int .i64 (signN 0 2), .int .i64 (0), .string ⟨#[]⟩, .slice none 0 0])) (set5 w7 w.heap.size v0 v1 v2 v3 v4) from
      um_pass (s := s) (o := none) (t := .mk 3 (signN 0 2) (0) ⟨#[]⟩ []) (Fr := fun _ => False) HT7.out (Nat.le_refl _) hd1 ⟨in3, hn64, in0, by show ByteArray.size ⟨#[]⟩ ≤ _; simp [ByteArray.size]⟩ (OwnS.nil _ _) (fun _ h => h.elim) (fun q e9 => by cases e9) (show UmSt d s none w7 from ⟨i + 1, _, by omega, HU7.out⟩) v0 v1 v2 v3 v4)
    go_wp2_with fail
    refine (SG2.out _).mono ?_
    rintro e96 w96 ⟨rfl, rfl⟩
    go_wp2_with fail
    refine bodyPost_ret (v := .agg #[.int .i64 3, .int .i64 (signN 0 2), .int .i64 0, .string ⟨#[]⟩, .slice none 0 0]) (by simp [results, Tryd.results120, go_sem, z0, z1, z2, z3, z4]) rfl (HP.out _ _ _ _ _)
  | some n =>
    have WE2 := Lib.hid (WE.out _ ho)
    obtain ⟨hn64, hfit⟩ := WI.out _ ho
    have SG2 := Lib.hid (SG.out n hn64)
    clear WI WE ho SG
    show Calls _ _ _ _ (UmRet d s (mgLeaf 3 (signN n 2) 0 (i + 1 + 2) l) w)
    go_enter Tryd.func120, Tryd.ntmps120
    go_wp2_with fail
    refine (WD.out _ HU5.out).mono ?_
    rintro e6 w6 ⟨⟨rfl, hu6⟩, ht6⟩
    have hz6 := ht6.size
    rw [hz5] at hz6
    have BZ6 := Lib.hid (show Box w6 w.heap.size 0 0 0 ⟨#[]⟩ (.slice none 0 0) 26 from (ht6.block w.heap.size (by omega) hd2).trans BZ5.out)
    have HU6 := Lib.hid hu6
    have HT6 := Lib.hid (HT5.out.trans ht6)
    clear z0 z1 z2 z3 z4 zf0 zf1 zf2 zf3 zf4 u0 u1 u2 u3 f1 f2 f3 hu6 ht6
    obtain ⟨z0, z1, z2, z3, z4⟩ := BZ6.out.cells
    have zf0 := BZ6.out.free (i := 0); have zf1 := BZ6.out.free (i := 1); have zf2 := BZ6.out.free (i := 2); have zf3 := BZ6.out.free (i := 3); have zf4 := BZ6.out.free (i := 4)
    obtain ⟨u0, u1, u2, u3, f1, f2, f3⟩ := HU6.out.cells
    go_wp2_with fail
    refine (IA.out _).mono ?_
    rintro e97 w97 ⟨rfl, rfl⟩
    go_wp2_with fail
    refine (IB.out _).mono ?_
    rintro e98 w98 ⟨rfl, rfl⟩
    go_wp2_with fail
    refine (WE2.out _ HU6.out).mono ?_
    rintro e7 w7 ⟨⟨rfl, hu7⟩, ht7⟩
    have hz7 := ht7.size
    have BZ7 := Lib.hid (show Box w7 w.heap.size 0 0 0 ⟨#[]⟩ (.slice none 0 0) 26 from (ht7.block w.heap.size (by omega) hd2).trans BZ6.out)
    have HU7 := Lib.hid hu7
    have HT7 := Lib.hid (HT6.out.trans ht7)
    clear z0 z1 z2 z3 z4 zf0 zf1 zf2 zf3 zf4 u0 u1 u2 u3 f1 f2 f3 hu7 ht7
    obtain ⟨z0, z1, z2, z3, z4⟩ := BZ7.out.cells
    have zf0 := BZ7.out.free (i := 0); have zf1 := BZ7.out.free (i := 1); have zf2 := BZ7.out.free (i := 2); have zf3 := BZ7.out.free (i := 3); have zf4 := BZ7.out.free (i := 4)
    have hn64 := signN_in 2 hn64
    have HP := Lib.hid (fun v0 v1 v2 v3 v4 => show UmRet d s (mgLeaf 3 (signN n 2) 0 (i + 1 + 2) l) w (.returned (.agg #[.int .i64 3, .int .i64 (signN n 2), .int .i64 (0), .string ⟨#[]⟩, .slice none 0 0])) (set5 w7 w.heap.size v0 v1 v2 v3 v4) from
      um_pass (s := s) (o := mgLeaf 3 (signN n 2) 0 (i + 1 + 2) l) (t := .mk 3 (signN n 2) (0) ⟨#[]⟩ []) (Fr := fun _ => False) HT7.out (Nat.le_refl _) hd1 ⟨in3, hn64, in0, by show ByteArray.size ⟨#[]⟩ ≤ _; simp [ByteArray.size]⟩ (OwnS.nil _ _) (fun _ h => h.elim) (fun q9 e9 => by have e8 : some (V.mk 3 (signN n 2) (0) ⟨#[]⟩ [], (i + 1 + 2, l)) = some q9 := e9; injection e8 with e8; rw [← e8]) (show UmSt d s (some (i + 1 + 2, l)) w7 from by show UB w7 d s (i + 1 + 2) (300 - (l : Int)) false; rw [← HCL.out]; exact HU7.out) v0 v1 v2 v3 v4)
    go_wp2_with fail
    refine (SG2.out _).mono ?_
    rintro e96 w96 ⟨rfl, rfl⟩
    go_wp2_with fail
    refine bodyPost_ret (v := .agg #[.int .i64 3, .int .i64 (signN n 2), .int .i64 0, .string ⟨#[]⟩, .slice none 0 0]) (by simp [results, Tryd.results120, go_sem, z0, z1, z2, z3, z4]) rfl (HP.out _ _ _ _ _)
set_option maxRecDepth 100000 in
set_option maxHeartbeats 4000000 in
theorem value_k210 (d : Nat) (s : ByteArray) (hs : s.size ≤ 1048576) (g : Nat → Nat → MG) (hg : ∀ i l, MGood s i l (g i l)) (deep : Int) (hd : 0 ≤ deep ∧ deep ≤ 12)
    (hV : ∀ (i l : Nat) (W : World), i ≤ s.size → l ≤ 300 → UB W d s i (300 - (l : Int)) false → Calls Tryd.prog 120 #[.pointer (some ⟨d, 0, none⟩), .int .i64 (deep + 1)] W (UmRet d s (g i l) W)) (i l : Nat) (hi : i < s.size) (hl : l + 1 ≤ 300) (w : World) (hU : UB w d s i (300 - ((l + 1 : Nat) : Int)) false) (hb : wgo s i 1 = some 210)  :
    Calls Tryd.prog 120 #[.pointer (some ⟨d, 0, none⟩), .int .i64 deep] w (UmRet d s ((wgo s (i + 1) 4).bind fun n => mgLeaf 3 (signN n 4) 0 (i + 1 + 4) l) w) := by
  have hdw := lt_of_heap hU
  obtain ⟨c, hc⟩ : ∃ c : Int, c = 300 - ((l + 1 : Nat) : Int) := ⟨_, rfl⟩
  rw [← hc] at hU
  have HU := Lib.hid hU
  obtain ⟨u0, u1, u2, u3, f1, f2, f3⟩ := hU.cells
  have hd1 : d ≠ w.heap.size := by omega
  have hd2 : w.heap.size ≠ d := by omega
  have hc0 : 0 ≤ c := by omega
  have hc1 : c + 1 ≤ 300 := by omega
  have HCL := Lib.hid (show c + 1 = 300 - (l : Int) by omega)
  clear hc
  have HU5 := Lib.hid (show UB ((w.setCell ⟨d, 2, none⟩ (.int .i64 (c + 1))).alloc (.cells #[.int .i64 0, .int .i64 0, .int .i64 0, .string ⟨#[]⟩, .slice none 0 0] 26)) d s i (c + 1) false from (HU.out.setC (c + 1)).stay ((Below.refl _ _).alloc (Nat.le_refl _) _))
  have HT5 := Lib.hid (show Touch (fun x => x = d) (fun x => x = d) w ((w.setCell ⟨d, 2, none⟩ (.int .i64 (c + 1))).alloc (.cells #[.int .i64 0, .int .i64 0, .int .i64 0, .string ⟨#[]⟩, .slice none 0 0] 26)) from ((Touch.refl _ w).cellD _).trans (Touch.of_below ((Below.refl _ _).alloc (Nat.le_refl _) _)))
  have BZ5 := Lib.hid (show Box ((w.setCell ⟨d, 2, none⟩ (.int .i64 (c + 1))).alloc (.cells #[.int .i64 0, .int .i64 0, .int .i64 0, .string ⟨#[]⟩, .slice none 0 0] 26)) w.heap.size 0 0 0 ⟨#[]⟩ (.slice none 0 0) 26 from heap_alloc_here _ (by simp))
  have hz5 : ((w.setCell ⟨d, 2, none⟩ (.int .i64 (c + 1))).alloc (.cells #[.int .i64 0, .int .i64 0, .int .i64 0, .string ⟨#[]⟩, .slice none 0 0] 26)).heap.size = w.heap.size + 1 := by simp
  have BZ := Lib.hid (Box.new w 0 0 0 ⟨#[]⟩ (.slice none 0 0) 26)
  obtain ⟨z0, z1, z2, z3, z4⟩ := BZ.out.cells
  have zf0 := BZ.out.free (i := 0); have zf1 := BZ.out.free (i := 1); have zf2 := BZ.out.free (i := 2); have zf3 := BZ.out.free (i := 3); have zf4 := BZ.out.free (i := 4)
  have WD := Lib.hid (fun (W : World) (h : UB W d s i (c + 1) false) => show Calls Tryd.prog 176 #[.pointer (some ⟨d, 0, none⟩), .int .i64 1] W (WdRet d s i 1 (c + 1) (some 210) W) from by
    have := wide_any d s hs i 1 (by omega) (by omega) (by omega) (c + 1) false W h
    rw [if_neg (by simp), hb] at this; exact this)
  have WE := Lib.hid (fun (o : Option Int) (ho : wgo s (i + 1) 4 = o) (W : World) (h : UB W d s (i + 1) (c + 1) false) => show Calls Tryd.prog 176 #[.pointer (some ⟨d, 0, none⟩), .int .i64 4] W (WdRet d s (i + 1) 4 (c + 1) o W) from by
    have := wide_any d s hs (i + 1) 4 (by omega) (by omega) (by omega) (c + 1) false W h
    rw [if_neg (by simp), ho] at this; exact this)
  have IA := Lib.hid (fun W => within_no 210 204 207 W (by omega))
  have IB := Lib.hid (fun W => within_yes 210 208 211 W (by omega) (by omega))
  clear hV hg
  have SG := Lib.hid (fun (n : Int) (hn : In64 n) W => SignOf_impl n 4 W (by omega) (by omega) hn)
  have WI := Lib.hid (fun n (h : wgo s (i + 1) 4 = some n) => wgo_in h)
  cases ho : wgo s (i + 1) 4 with
  | none =>
    have WE2 := Lib.hid (WE.out _ ho)
    have hn64 : In64 0 := in0
    have SG2 := Lib.hid (SG.out 0 hn64)
    clear WI WE ho SG
    show Calls _ _ _ _ (UmRet d s none w)
    go_enter Tryd.func120, Tryd.ntmps120
    go_wp2_with fail
    refine (WD.out _ HU5.out).mono ?_
    rintro e6 w6 ⟨⟨rfl, hu6⟩, ht6⟩
    have hz6 := ht6.size
    rw [hz5] at hz6
    have BZ6 := Lib.hid (show Box w6 w.heap.size 0 0 0 ⟨#[]⟩ (.slice none 0 0) 26 from (ht6.block w.heap.size (by omega) hd2).trans BZ5.out)
    have HU6 := Lib.hid hu6
    have HT6 := Lib.hid (HT5.out.trans ht6)
    clear z0 z1 z2 z3 z4 zf0 zf1 zf2 zf3 zf4 u0 u1 u2 u3 f1 f2 f3 hu6 ht6
    obtain ⟨z0, z1, z2, z3, z4⟩ := BZ6.out.cells
    have zf0 := BZ6.out.free (i := 0); have zf1 := BZ6.out.free (i := 1); have zf2 := BZ6.out.free (i := 2); have zf3 := BZ6.out.free (i := 3); have zf4 := BZ6.out.free (i := 4)
    obtain ⟨u0, u1, u2, u3, f1, f2, f3⟩ := HU6.out.cells
    go_wp2_with fail
    refine (IA.out _).mono ?_
    rintro e97 w97 ⟨rfl, rfl⟩
    go_wp2_with fail
    refine (IB.out _).mono ?_
    rintro e98 w98 ⟨rfl, rfl⟩
    go_wp2_with fail
    refine (WE2.out _ HU6.out).mono ?_
    rintro e7 w7 ⟨⟨rfl, hu7⟩, ht7⟩
    have hz7 := ht7.size
    have BZ7 := Lib.hid (show Box w7 w.heap.size 0 0 0 ⟨#[]⟩ (.slice none 0 0) 26 from (ht7.block w.heap.size (by omega) hd2).trans BZ6.out)
    have HU7 := Lib.hid hu7
    have HT7 := Lib.hid (HT6.out.trans ht7)
    clear z0 z1 z2 z3 z4 zf0 zf1 zf2 zf3 zf4 u0 u1 u2 u3 f1 f2 f3 hu7 ht7
    obtain ⟨z0, z1, z2, z3, z4⟩ := BZ7.out.cells
    have zf0 := BZ7.out.free (i := 0); have zf1 := BZ7.out.free (i := 1); have zf2 := BZ7.out.free (i := 2); have zf3 := BZ7.out.free (i := 3); have zf4 := BZ7.out.free (i := 4)
    have hn64 := signN_in 4 hn64
    have HP := Lib.hid (fun v0 v1 v2 v3 v4 => show UmRet d s (none) w (.returned (.agg #[.int .i64 3, .int .i64 (signN 0 4), .int .i64 (0), .string ⟨#[]⟩, .slice none 0 0])) (set5 w7 w.heap.size v0 v1 v2 v3 v4) from
      um_pass (s := s) (o := none) (t := .mk 3 (signN 0 4) (0) ⟨#[]⟩ []) (Fr := fun _ => False) HT7.out (Nat.le_refl _) hd1 ⟨in3, hn64, in0, by show ByteArray.size ⟨#[]⟩ ≤ _; simp [ByteArray.size]⟩ (OwnS.nil _ _) (fun _ h => h.elim) (fun q e9 => by cases e9) (show UmSt d s none w7 from ⟨i + 1, _, by omega, HU7.out⟩) v0 v1 v2 v3 v4)
    go_wp2_with fail
    refine (SG2.out _).mono ?_
    rintro e96 w96 ⟨rfl, rfl⟩
    go_wp2_with fail
    refine bodyPost_ret (v := .agg #[.int .i64 3, .int .i64 (signN 0 4), .int .i64 0, .string ⟨#[]⟩, .slice none 0 0]) (by simp [results, Tryd.results120, go_sem, z0, z1, z2, z3, z4]) rfl (HP.out _ _ _ _ _)
  | some n =>
    have WE2 := Lib.hid (WE.out _ ho)
    obtain ⟨hn64, hfit⟩ := WI.out _ ho
    have SG2 := Lib.hid (SG.out n hn64)
    clear WI WE ho SG
    show Calls _ _ _ _ (UmRet d s (mgLeaf 3 (signN n 4) 0 (i + 1 + 4) l) w)
    go_enter Tryd.func120, Tryd.ntmps120
    go_wp2_with fail
    refine (WD.out _ HU5.out).mono ?_
    rintro e6 w6 ⟨⟨rfl, hu6⟩, ht6⟩
    have hz6 := ht6.size
    rw [hz5] at hz6
    have BZ6 := Lib.hid (show Box w6 w.heap.size 0 0 0 ⟨#[]⟩ (.slice none 0 0) 26 from (ht6.block w.heap.size (by omega) hd2).trans BZ5.out)
    have HU6 := Lib.hid hu6
    have HT6 := Lib.hid (HT5.out.trans ht6)
    clear z0 z1 z2 z3 z4 zf0 zf1 zf2 zf3 zf4 u0 u1 u2 u3 f1 f2 f3 hu6 ht6
    obtain ⟨z0, z1, z2, z3, z4⟩ := BZ6.out.cells
    have zf0 := BZ6.out.free (i := 0); have zf1 := BZ6.out.free (i := 1); have zf2 := BZ6.out.free (i := 2); have zf3 := BZ6.out.free (i := 3); have zf4 := BZ6.out.free (i := 4)
    obtain ⟨u0, u1, u2, u3, f1, f2, f3⟩ := HU6.out.cells
    go_wp2_with fail
    refine (IA.out _).mono ?_
    rintro e97 w97 ⟨rfl, rfl⟩
    go_wp2_with fail
    refine (IB.out _).mono ?_
    rintro e98 w98 ⟨rfl, rfl⟩
    go_wp2_with fail
    refine (WE2.out _ HU6.out).mono ?_
    rintro e7 w7 ⟨⟨rfl, hu7⟩, ht7⟩
    have hz7 := ht7.size
    have BZ7 := Lib.hid (show Box w7 w.heap.size 0 0 0 ⟨#[]⟩ (.slice none 0 0) 26 from (ht7.block w.heap.size (by omega) hd2).trans BZ6.out)
    have HU7 := Lib.hid hu7
    have HT7 := Lib.hid (HT6.out.trans ht7)
    clear z0 z1 z2 z3 z4 zf0 zf1 zf2 zf3 zf4 u0 u1 u2 u3 f1 f2 f3 hu7 ht7
    obtain ⟨z0, z1, z2, z3, z4⟩ := BZ7.out.cells
    have zf0 := BZ7.out.free (i := 0); have zf1 := BZ7.out.free (i := 1); have zf2 := BZ7.out.free (i := 2); have zf3 := BZ7.out.free (i := 3); have zf4 := BZ7.out.free (i := 4)
    have hn64 := signN_in 4 hn64
    have HP := Lib.hid (fun v0 v1 v2 v3 v4 => show UmRet d s (mgLeaf 3 (signN n 4) 0 (i + 1 + 4) l) w (.returned (.agg #[.int .i64 3, .int .i64 (signN n 4), .int .i64 (0), .string ⟨#[]⟩, .slice none 0 0])) (set5 w7 w.heap.size v0 v1 v2 v3 v4) from
      um_pass (s := s) (o := mgLeaf 3 (signN n 4) 0 (i + 1 + 4) l) (t := .mk 3 (signN n 4) (0) ⟨#[]⟩ []) (Fr := fun _ => False) HT7.out (Nat.le_refl _) hd1 ⟨in3, hn64, in0, by show ByteArray.size ⟨#[]⟩ ≤ _; simp [ByteArray.size]⟩ (OwnS.nil _ _) (fun _ h => h.elim) (fun q9 e9 => by have e8 : some (V.mk 3 (signN n 4) (0) ⟨#[]⟩ [], (i + 1 + 4, l)) = some q9 := e9; injection e8 with e8; rw [← e8]) (show UmSt d s (some (i + 1 + 4, l)) w7 from by show UB w7 d s (i + 1 + 4) (300 - (l : Int)) false; rw [← HCL.out]; exact HU7.out) v0 v1 v2 v3 v4)
    go_wp2_with fail
    refine (SG2.out _).mono ?_
    rintro e96 w96 ⟨rfl, rfl⟩
    go_wp2_with fail
    refine bodyPost_ret (v := .agg #[.int .i64 3, .int .i64 (signN n 4), .int .i64 0, .string ⟨#[]⟩, .slice none 0 0]) (by simp [results, Tryd.results120, go_sem, z0, z1, z2, z3, z4]) rfl (HP.out _ _ _ _ _)
set_option maxRecDepth 100000 in
set_option maxHeartbeats 4000000 in
theorem value_k211 (d : Nat) (s : ByteArray) (hs : s.size ≤ 1048576) (g : Nat → Nat → MG) (hg : ∀ i l, MGood s i l (g i l)) (deep : Int) (hd : 0 ≤ deep ∧ deep ≤ 12)
    (hV : ∀ (i l : Nat) (W : World), i ≤ s.size → l ≤ 300 → UB W d s i (300 - (l : Int)) false → Calls Tryd.prog 120 #[.pointer (some ⟨d, 0, none⟩), .int .i64 (deep + 1)] W (UmRet d s (g i l) W)) (i l : Nat) (hi : i < s.size) (hl : l + 1 ≤ 300) (w : World) (hU : UB w d s i (300 - ((l + 1 : Nat) : Int)) false) (hb : wgo s i 1 = some 211)  :
    Calls Tryd.prog 120 #[.pointer (some ⟨d, 0, none⟩), .int .i64 deep] w (UmRet d s ((wgo s (i + 1) 8).bind fun n => mgLeaf 3 (signN n 8) 0 (i + 1 + 8) l) w) := by
  have hdw := lt_of_heap hU
  obtain ⟨c, hc⟩ : ∃ c : Int, c = 300 - ((l + 1 : Nat) : Int) := ⟨_, rfl⟩
  rw [← hc] at hU
  have HU := Lib.hid hU
  obtain ⟨u0, u1, u2, u3, f1, f2, f3⟩ := hU.cells
  have hd1 : d ≠ w.heap.size := by omega
  have hd2 : w.heap.size ≠ d := by omega
  have hc0 : 0 ≤ c := by omega
  have hc1 : c + 1 ≤ 300 := by omega
  have HCL := Lib.hid (show c + 1 = 300 - (l : Int) by omega)
  clear hc
  have HU5 := Lib.hid (show UB ((w.setCell ⟨d, 2, none⟩ (.int .i64 (c + 1))).alloc (.cells #[.int .i64 0, .int .i64 0, .int .i64 0, .string ⟨#[]⟩, .slice none 0 0] 26)) d s i (c + 1) false from (HU.out.setC (c + 1)).stay ((Below.refl _ _).alloc (Nat.le_refl _) _))
  have HT5 := Lib.hid (show Touch (fun x => x = d) (fun x => x = d) w ((w.setCell ⟨d, 2, none⟩ (.int .i64 (c + 1))).alloc (.cells #[.int .i64 0, .int .i64 0, .int .i64 0, .string ⟨#[]⟩, .slice none 0 0] 26)) from ((Touch.refl _ w).cellD _).trans (Touch.of_below ((Below.refl _ _).alloc (Nat.le_refl _) _)))
  have BZ5 := Lib.hid (show Box ((w.setCell ⟨d, 2, none⟩ (.int .i64 (c + 1))).alloc (.cells #[.int .i64 0, .int .i64 0, .int .i64 0, .string ⟨#[]⟩, .slice none 0 0] 26)) w.heap.size 0 0 0 ⟨#[]⟩ (.slice none 0 0) 26 from heap_alloc_here _ (by simp))
  have hz5 : ((w.setCell ⟨d, 2, none⟩ (.int .i64 (c + 1))).alloc (.cells #[.int .i64 0, .int .i64 0, .int .i64 0, .string ⟨#[]⟩, .slice none 0 0] 26)).heap.size = w.heap.size + 1 := by simp
  have BZ := Lib.hid (Box.new w 0 0 0 ⟨#[]⟩ (.slice none 0 0) 26)
  obtain ⟨z0, z1, z2, z3, z4⟩ := BZ.out.cells
  have zf0 := BZ.out.free (i := 0); have zf1 := BZ.out.free (i := 1); have zf2 := BZ.out.free (i := 2); have zf3 := BZ.out.free (i := 3); have zf4 := BZ.out.free (i := 4)
  have WD := Lib.hid (fun (W : World) (h : UB W d s i (c + 1) false) => show Calls Tryd.prog 176 #[.pointer (some ⟨d, 0, none⟩), .int .i64 1] W (WdRet d s i 1 (c + 1) (some 211) W) from by
    have := wide_any d s hs i 1 (by omega) (by omega) (by omega) (c + 1) false W h
    rw [if_neg (by simp), hb] at this; exact this)
  have WE := Lib.hid (fun (o : Option Int) (ho : wgo s (i + 1) 8 = o) (W : World) (h : UB W d s (i + 1) (c + 1) false) => show Calls Tryd.prog 176 #[.pointer (some ⟨d, 0, none⟩), .int .i64 8] W (WdRet d s (i + 1) 8 (c + 1) o W) from by
    have := wide_any d s hs (i + 1) 8 (by omega) (by omega) (by omega) (c + 1) false W h
    rw [if_neg (by simp), ho] at this; exact this)
  have IA := Lib.hid (fun W => within_no 211 204 207 W (by omega))
  have IB := Lib.hid (fun W => within_yes 211 208 211 W (by omega) (by omega))
  clear hV hg
  have SG := Lib.hid (fun (n : Int) (hn : In64 n) W => SignOf_impl n 8 W (by omega) (by omega) hn)
  have WI := Lib.hid (fun n (h : wgo s (i + 1) 8 = some n) => wgo_in h)
  cases ho : wgo s (i + 1) 8 with
  | none =>
    have WE2 := Lib.hid (WE.out _ ho)
    have hn64 : In64 0 := in0
    have SG2 := Lib.hid (SG.out 0 hn64)
    clear WI WE ho SG
    show Calls _ _ _ _ (UmRet d s none w)
    go_enter Tryd.func120, Tryd.ntmps120
    go_wp2_with fail
    refine (WD.out _ HU5.out).mono ?_
    rintro e6 w6 ⟨⟨rfl, hu6⟩, ht6⟩
    have hz6 := ht6.size
    rw [hz5] at hz6
    have BZ6 := Lib.hid (show Box w6 w.heap.size 0 0 0 ⟨#[]⟩ (.slice none 0 0) 26 from (ht6.block w.heap.size (by omega) hd2).trans BZ5.out)
    have HU6 := Lib.hid hu6
    have HT6 := Lib.hid (HT5.out.trans ht6)
    clear z0 z1 z2 z3 z4 zf0 zf1 zf2 zf3 zf4 u0 u1 u2 u3 f1 f2 f3 hu6 ht6
    obtain ⟨z0, z1, z2, z3, z4⟩ := BZ6.out.cells
    have zf0 := BZ6.out.free (i := 0); have zf1 := BZ6.out.free (i := 1); have zf2 := BZ6.out.free (i := 2); have zf3 := BZ6.out.free (i := 3); have zf4 := BZ6.out.free (i := 4)
    obtain ⟨u0, u1, u2, u3, f1, f2, f3⟩ := HU6.out.cells
    go_wp2_with fail
    refine (IA.out _).mono ?_
    rintro e97 w97 ⟨rfl, rfl⟩
    go_wp2_with fail
    refine (IB.out _).mono ?_
    rintro e98 w98 ⟨rfl, rfl⟩
    go_wp2_with fail
    refine (WE2.out _ HU6.out).mono ?_
    rintro e7 w7 ⟨⟨rfl, hu7⟩, ht7⟩
    have hz7 := ht7.size
    have BZ7 := Lib.hid (show Box w7 w.heap.size 0 0 0 ⟨#[]⟩ (.slice none 0 0) 26 from (ht7.block w.heap.size (by omega) hd2).trans BZ6.out)
    have HU7 := Lib.hid hu7
    have HT7 := Lib.hid (HT6.out.trans ht7)
    clear z0 z1 z2 z3 z4 zf0 zf1 zf2 zf3 zf4 u0 u1 u2 u3 f1 f2 f3 hu7 ht7
    obtain ⟨z0, z1, z2, z3, z4⟩ := BZ7.out.cells
    have zf0 := BZ7.out.free (i := 0); have zf1 := BZ7.out.free (i := 1); have zf2 := BZ7.out.free (i := 2); have zf3 := BZ7.out.free (i := 3); have zf4 := BZ7.out.free (i := 4)
    have hn64 := signN_in 8 hn64
    have HP := Lib.hid (fun v0 v1 v2 v3 v4 => show UmRet d s (none) w (.returned (.agg #[.int .i64 3, .int .i64 (signN 0 8), .int .i64 (0), .string ⟨#[]⟩, .slice none 0 0])) (set5 w7 w.heap.size v0 v1 v2 v3 v4) from
      um_pass (s := s) (o := none) (t := .mk 3 (signN 0 8) (0) ⟨#[]⟩ []) (Fr := fun _ => False) HT7.out (Nat.le_refl _) hd1 ⟨in3, hn64, in0, by show ByteArray.size ⟨#[]⟩ ≤ _; simp [ByteArray.size]⟩ (OwnS.nil _ _) (fun _ h => h.elim) (fun q e9 => by cases e9) (show UmSt d s none w7 from ⟨i + 1, _, by omega, HU7.out⟩) v0 v1 v2 v3 v4)
    go_wp2_with fail
    refine (SG2.out _).mono ?_
    rintro e96 w96 ⟨rfl, rfl⟩
    go_wp2_with fail
    refine bodyPost_ret (v := .agg #[.int .i64 3, .int .i64 (signN 0 8), .int .i64 0, .string ⟨#[]⟩, .slice none 0 0]) (by simp [results, Tryd.results120, go_sem, z0, z1, z2, z3, z4]) rfl (HP.out _ _ _ _ _)
  | some n =>
    have WE2 := Lib.hid (WE.out _ ho)
    obtain ⟨hn64, hfit⟩ := WI.out _ ho
    have SG2 := Lib.hid (SG.out n hn64)
    clear WI WE ho SG
    show Calls _ _ _ _ (UmRet d s (mgLeaf 3 (signN n 8) 0 (i + 1 + 8) l) w)
    go_enter Tryd.func120, Tryd.ntmps120
    go_wp2_with fail
    refine (WD.out _ HU5.out).mono ?_
    rintro e6 w6 ⟨⟨rfl, hu6⟩, ht6⟩
    have hz6 := ht6.size
    rw [hz5] at hz6
    have BZ6 := Lib.hid (show Box w6 w.heap.size 0 0 0 ⟨#[]⟩ (.slice none 0 0) 26 from (ht6.block w.heap.size (by omega) hd2).trans BZ5.out)
    have HU6 := Lib.hid hu6
    have HT6 := Lib.hid (HT5.out.trans ht6)
    clear z0 z1 z2 z3 z4 zf0 zf1 zf2 zf3 zf4 u0 u1 u2 u3 f1 f2 f3 hu6 ht6
    obtain ⟨z0, z1, z2, z3, z4⟩ := BZ6.out.cells
    have zf0 := BZ6.out.free (i := 0); have zf1 := BZ6.out.free (i := 1); have zf2 := BZ6.out.free (i := 2); have zf3 := BZ6.out.free (i := 3); have zf4 := BZ6.out.free (i := 4)
    obtain ⟨u0, u1, u2, u3, f1, f2, f3⟩ := HU6.out.cells
    go_wp2_with fail
    refine (IA.out _).mono ?_
    rintro e97 w97 ⟨rfl, rfl⟩
    go_wp2_with fail
    refine (IB.out _).mono ?_
    rintro e98 w98 ⟨rfl, rfl⟩
    go_wp2_with fail
    refine (WE2.out _ HU6.out).mono ?_
    rintro e7 w7 ⟨⟨rfl, hu7⟩, ht7⟩
    have hz7 := ht7.size
    have BZ7 := Lib.hid (show Box w7 w.heap.size 0 0 0 ⟨#[]⟩ (.slice none 0 0) 26 from (ht7.block w.heap.size (by omega) hd2).trans BZ6.out)
    have HU7 := Lib.hid hu7
    have HT7 := Lib.hid (HT6.out.trans ht7)
    clear z0 z1 z2 z3 z4 zf0 zf1 zf2 zf3 zf4 u0 u1 u2 u3 f1 f2 f3 hu7 ht7
    obtain ⟨z0, z1, z2, z3, z4⟩ := BZ7.out.cells
    have zf0 := BZ7.out.free (i := 0); have zf1 := BZ7.out.free (i := 1); have zf2 := BZ7.out.free (i := 2); have zf3 := BZ7.out.free (i := 3); have zf4 := BZ7.out.free (i := 4)
    have hn64 := signN_in 8 hn64
    have HP := Lib.hid (fun v0 v1 v2 v3 v4 => show UmRet d s (mgLeaf 3 (signN n 8) 0 (i + 1 + 8) l) w (.returned (.agg #[.int .i64 3, .int .i64 (signN n 8), .int .i64 (0), .string ⟨#[]⟩, .slice none 0 0])) (set5 w7 w.heap.size v0 v1 v2 v3 v4) from
      um_pass (s := s) (o := mgLeaf 3 (signN n 8) 0 (i + 1 + 8) l) (t := .mk 3 (signN n 8) (0) ⟨#[]⟩ []) (Fr := fun _ => False) HT7.out (Nat.le_refl _) hd1 ⟨in3, hn64, in0, by show ByteArray.size ⟨#[]⟩ ≤ _; simp [ByteArray.size]⟩ (OwnS.nil _ _) (fun _ h => h.elim) (fun q9 e9 => by have e8 : some (V.mk 3 (signN n 8) (0) ⟨#[]⟩ [], (i + 1 + 8, l)) = some q9 := e9; injection e8 with e8; rw [← e8]) (show UmSt d s (some (i + 1 + 8, l)) w7 from by show UB w7 d s (i + 1 + 8) (300 - (l : Int)) false; rw [← HCL.out]; exact HU7.out) v0 v1 v2 v3 v4)
    go_wp2_with fail
    refine (SG2.out _).mono ?_
    rintro e96 w96 ⟨rfl, rfl⟩
    go_wp2_with fail
    refine bodyPost_ret (v := .agg #[.int .i64 3, .int .i64 (signN n 8), .int .i64 0, .string ⟨#[]⟩, .slice none 0 0]) (by simp [results, Tryd.results120, go_sem, z0, z1, z2, z3, z4]) rfl (HP.out _ _ _ _ _)
end Go.Proofs.YtgbgeocmjdgmoaaDoor
