/- Lemmas for the statement of the last text of this claim: texts joined. -/
import Derived.Test.YtgbgeocmjdgmoaaDoorFnMsgK08
namespace Go.Proofs.YtgbgeocmjdgmoaaDoor
set_option linter.unusedSimpArgs false
set_option linter.unusedVariables false
set_option maxRecDepth 100000
open Go.RowKit
set_option maxRecDepth 100000 in
set_option maxHeartbeats 4000000 in
theorem value_k196 (d : Nat) (s : ByteArray) (hs : s.size ≤ 1048576) (g : Nat → Nat → MG) (hg : ∀ i l, MGood s i l (g i l)) (deep : Int) (hd : 0 ≤ deep ∧ deep ≤ 12)
    (hV : ∀ (i l : Nat) (W : World), i ≤ s.size → l ≤ 300 → UB W d s i (300 - (l : Int)) false → Calls Tryd.prog 120 #[.pointer (some ⟨d, 0, none⟩), .int .i64 (deep + 1)] W (UmRet d s (g i l) W)) (i l : Nat) (hi : i < s.size) (hl : l + 1 ≤ 300) (w : World) (hU : UB w d s i (300 - ((l + 1 : Nat) : Int)) false) (hb : wgo s i 1 = some 196)  :
    Calls Tryd.prog 120 #[.pointer (some ⟨d, 0, none⟩), .int .i64 deep] w (UmRet d s ((wgo s (i + 1) 1).bind fun n => mgStr s 6 (i + 1 + 1) n.toNat l) w) := by
  have hdw := lt_of_heap hU
  obtain ⟨c, hc⟩ : ∃ c : Int, c = 300 - ((l + 1 : Nat) : Int) := ⟨_, rfl⟩
  rw [← hc] at hU
  have HU := Lib.hid hU
  obtain ⟨u0, u1, u2, u3, f1, f2, f3⟩ := hU.cells
  have hd1 : d ≠ w.heap.size := by omega
  have hd2 : w.heap.size ≠ d := by omega
  have hc0 : 0 ≤ c := by omega
  have hc1 : c + 1 ≤ 300 := by omega
  have HCL := Lib.hid (show c + 1 = 300 - (l : Int) by omega)
  clear hc
  have HU5 := Lib.hid (show UB ((w.setCell ⟨d, 2, none⟩ (.int .i64 (c + 1))).alloc (.cells #[.int .i64 0, .int .i64 0, .int .i64 0, .string ⟨#[]⟩, .slice none 0 0] 26)) d s i (c + 1) false from (HU.out.setC (c + 1)).stay ((Below.refl _ _).alloc (Nat.le_refl _) _))
  have HT5 := Lib.hid (show Touch (fun x => x = d) (fun x => x = d) w ((w.setCell ⟨d, 2, none⟩ (.int .i64 (c + 1))).alloc (.cells #[.int .i64 0, .int .i64 0, .int .i64 0, .string ⟨#[]⟩, .slice none 0 0] 26)) from ((Touch.refl _ w).cellD _).trans (Touch.of_below ((Below.refl _ _).alloc (Nat.le_refl _) _)))
  have BZ5 := Lib.hid (show Box ((w.setCell ⟨d, 2, none⟩ (.int .i64 (c + 1))).alloc (.cells #[.int .i64 0, .int .i64 0, .int .i64 0, .string ⟨#[]⟩, .slice none 0 0] 26)) w.heap.size 0 0 0 ⟨#[]⟩ (.slice none 0 0) 26 from heap_alloc_here _ (by simp))
  have hz5 : ((w.setCell ⟨d, 2, none⟩ (.int .i64 (c + 1))).alloc (.cells #[.int .i64 0, .int .i64 0, .int .i64 0, .string ⟨#[]⟩, .slice none 0 0] 26)).heap.size = w.heap.size + 1 := by simp
  have BZ := Lib.hid (Box.new w 0 0 0 ⟨#[]⟩ (.slice none 0 0) 26)
  obtain ⟨z0, z1, z2, z3, z4⟩ := BZ.out.cells
  have zf0 := BZ.out.free (i := 0); have zf1 := BZ.out.free (i := 1); have zf2 := BZ.out.free (i := 2); have zf3 := BZ.out.free (i := 3); have zf4 := BZ.out.free (i := 4)
  have WD := Lib.hid (fun (W : World) (h : UB W d s i (c + 1) false) => show Calls Tryd.prog 176 #[.pointer (some ⟨d, 0, none⟩), .int .i64 1] W (WdRet d s i 1 (c + 1) (some 196) W) from by
    have := wide_any d s hs i 1 (by omega) (by omega) (by omega) (c + 1) false W h
    rw [if_neg (by simp), hb] at this; exact this)
  have WE := Lib.hid (fun (o : Option Int) (ho : wgo s (i + 1) 1 = o) (W : World) (h : UB W d s (i + 1) (c + 1) false) => show Calls Tryd.prog 176 #[.pointer (some ⟨d, 0, none⟩), .int .i64 1] W (WdRet d s (i + 1) 1 (c + 1) o W) from by
    have := wide_any d s hs (i + 1) 1 (by omega) (by omega) (by omega) (c + 1) false W h
    rw [if_neg (by simp), ho] at this; exact this)
  have IA := Lib.hid (fun W => within_no 196 204 207 W (by omega))
  have IB := Lib.hid (fun W => within_no 196 208 211 W (by omega))
  clear hV hg
  have WI := Lib.hid (fun n (h : wgo s (i + 1) 1 = some n) => wgo_small h (by omega))
  cases ho : wgo s (i + 1) 1 with
  | none =>
    have WE2 := Lib.hid (WE.out _ ho)
    clear WI WE ho
    show Calls _ _ _ _ (UmRet d s none w)
    have hn64 : In64 0 := in0
    have TX := Lib.hid (fun (W : World) (h : UB W d s (i + 1) (c + 1) true) => show Calls Tryd.prog 178 #[.pointer (some ⟨d, 0, none⟩), .int .i64 (0)] W (TxRet d s (i + 1) (0) (c + 1) false W) from by
      have := text_any d s hs (i + 1) (0) (by omega) (by omega) (c + 1) true W h
      exact this)
    go_enter Tryd.func120, Tryd.ntmps120
    go_wp2_with fail
    refine (WD.out _ HU5.out).mono ?_
    rintro e6 w6 ⟨⟨rfl, hu6⟩, ht6⟩
    have hz6 := ht6.size
    rw [hz5] at hz6
    have BZ6 := Lib.hid (show Box w6 w.heap.size 0 0 0 ⟨#[]⟩ (.slice none 0 0) 26 from (ht6.block w.heap.size (by omega) hd2).trans BZ5.out)
    have HU6 := Lib.hid hu6
    have HT6 := Lib.hid (HT5.out.trans ht6)
    clear z0 z1 z2 z3 z4 zf0 zf1 zf2 zf3 zf4 u0 u1 u2 u3 f1 f2 f3 hu6 ht6
    obtain ⟨z0, z1, z2, z3, z4⟩ := BZ6.out.cells
    have zf0 := BZ6.out.free (i := 0); have zf1 := BZ6.out.free (i := 1); have zf2 := BZ6.out.free (i := 2); have zf3 := BZ6.out.free (i := 3); have zf4 := BZ6.out.free (i := 4)
    obtain ⟨u0, u1, u2, u3, f1, f2, f3⟩ := HU6.out.cells
    go_wp2_with fail
    refine (IA.out _).mono ?_
    rintro e97 w97 ⟨rfl, rfl⟩
    go_wp2_with fail
    refine (IB.out _).mono ?_
    rintro e98 w98 ⟨rfl, rfl⟩
    go_wp2_with fail
    refine (WE2.out _ HU6.out).mono ?_
    rintro e7 w7 ⟨⟨rfl, hu7⟩, ht7⟩
    have hz7 := ht7.size
    have BZ7 := Lib.hid (show Box w7 w.heap.size 0 0 0 ⟨#[]⟩ (.slice none 0 0) 26 from (ht7.block w.heap.size (by omega) hd2).trans BZ6.out)
    have HU7 := Lib.hid hu7
    have HT7 := Lib.hid (HT6.out.trans ht7)
    clear z0 z1 z2 z3 z4 zf0 zf1 zf2 zf3 zf4 u0 u1 u2 u3 f1 f2 f3 hu7 ht7
    obtain ⟨z0, z1, z2, z3, z4⟩ := BZ7.out.cells
    have zf0 := BZ7.out.free (i := 0); have zf1 := BZ7.out.free (i := 1); have zf2 := BZ7.out.free (i := 2); have zf3 := BZ7.out.free (i := 3); have zf4 := BZ7.out.free (i := 4)
    obtain ⟨u0, u1, u2, u3, f1, f2, f3⟩ := HU7.out.cells
    go_wp2_with fail
    refine (TX.out _ HU7.out).mono ?_
    rintro e8 w8 ⟨⟨rfl, hu8⟩, ht8⟩
    have hz8 := ht8.size
    have BZ8 := Lib.hid (show Box w8 w.heap.size 0 0 0 ⟨#[]⟩ (.slice none 0 0) 26 from (ht8.block w.heap.size (by omega) hd2).trans BZ7.out)
    have HU8 := Lib.hid hu8
    have HT8 := Lib.hid (HT7.out.trans ht8)
    clear z0 z1 z2 z3 z4 zf0 zf1 zf2 zf3 zf4 u0 u1 u2 u3 f1 f2 f3 hu8 ht8
    obtain ⟨z0, z1, z2, z3, z4⟩ := BZ8.out.cells
    have zf0 := BZ8.out.free (i := 0); have zf1 := BZ8.out.free (i := 1); have zf2 := BZ8.out.free (i := 2); have zf3 := BZ8.out.free (i := 3); have zf4 := BZ8.out.free (i := 4)
    have HP := Lib.hid (fun v0 v1 v2 v3 v4 => show UmRet d s (none) w (.returned (.agg #[.int .i64 6, .int .i64 (0), .int .i64 (0), .string ⟨#[]⟩, .slice none 0 0])) (set5 w8 w.heap.size v0 v1 v2 v3 v4) from
      um_pass (s := s) (o := none) (t := .mk 6 (0) (0) ⟨#[]⟩ []) (Fr := fun _ => False) HT8.out (Nat.le_refl _) hd1 ⟨k64 6 (by omega) (by omega), hn64, in0, by show ByteArray.size ⟨#[]⟩ ≤ _; simp [ByteArray.size]⟩ (OwnS.nil _ _) (fun _ h => h.elim) (fun q e9 => by cases e9) (show UmSt d s none w8 from ⟨i + 1, _, by omega, HU8.out⟩) v0 v1 v2 v3 v4)
    go_wp2_with fail
    refine bodyPost_ret (v := .agg #[.int .i64 6, .int .i64 0, .int .i64 0, .string ⟨#[]⟩, .slice none 0 0]) (by simp [results, Tryd.results120, go_sem, z0, z1, z2, z3, z4]) rfl (HP.out _ _ _ _ _)
  | some n =>
    obtain ⟨q, rfl, hq, hfit⟩ := WI.out n ho
    have WE2 := Lib.hid (WE.out _ ho)
    clear WI WE ho
    rw [Option.bind_some, Int.toNat_natCast]
    by_cases hf : i + 1 + 1 + q ≤ s.size
    · rw [show mgStr s 6 (i + 1 + 1) q l = some (.mk 6 0 0 (s.extract (i + 1 + 1) (i + 1 + 1 + q)) [], i + 1 + 1 + q, l) from if_pos hf]
      have TX := Lib.hid (fun (W : World) (h : UB W d s (i + 1 + 1) (c + 1) false) => show Calls Tryd.prog 178 #[.pointer (some ⟨d, 0, none⟩), .int .i64 ((q : Int))] W (TxRet d s (i + 1 + 1) (q) (c + 1) true W) from by
        have := text_any d s hs (i + 1 + 1) (q) (by omega) (by omega) (c + 1) false W h
        rw [decide_eq_true hf] at this
        exact this)
      have hn64 : In64 0 := in0
      have hsz := Lib.hid (show (s.extract (i + 1 + 1) (i + 1 + 1 + q)).size ≤ 9223372036854775807 by rw [ByteArray.size_extract]; omega)
      go_enter Tryd.func120, Tryd.ntmps120
      go_wp2_with fail
      refine (WD.out _ HU5.out).mono ?_
      rintro e6 w6 ⟨⟨rfl, hu6⟩, ht6⟩
      have hz6 := ht6.size
      rw [hz5] at hz6
      have BZ6 := Lib.hid (show Box w6 w.heap.size 0 0 0 ⟨#[]⟩ (.slice none 0 0) 26 from (ht6.block w.heap.size (by omega) hd2).trans BZ5.out)
      have HU6 := Lib.hid hu6
      have HT6 := Lib.hid (HT5.out.trans ht6)
      clear z0 z1 z2 z3 z4 zf0 zf1 zf2 zf3 zf4 u0 u1 u2 u3 f1 f2 f3 hu6 ht6
      obtain ⟨z0, z1, z2, z3, z4⟩ := BZ6.out.cells
      have zf0 := BZ6.out.free (i := 0); have zf1 := BZ6.out.free (i := 1); have zf2 := BZ6.out.free (i := 2); have zf3 := BZ6.out.free (i := 3); have zf4 := BZ6.out.free (i := 4)
      obtain ⟨u0, u1, u2, u3, f1, f2, f3⟩ := HU6.out.cells
      go_wp2_with fail
      refine (IA.out _).mono ?_
      rintro e97 w97 ⟨rfl, rfl⟩
      go_wp2_with fail
      refine (IB.out _).mono ?_
      rintro e98 w98 ⟨rfl, rfl⟩
      go_wp2_with fail
      refine (WE2.out _ HU6.out).mono ?_
      rintro e7 w7 ⟨⟨rfl, hu7⟩, ht7⟩
      have hz7 := ht7.size
      have BZ7 := Lib.hid (show Box w7 w.heap.size 0 0 0 ⟨#[]⟩ (.slice none 0 0) 26 from (ht7.block w.heap.size (by omega) hd2).trans BZ6.out)
      have HU7 := Lib.hid hu7
      have HT7 := Lib.hid (HT6.out.trans ht7)
      clear z0 z1 z2 z3 z4 zf0 zf1 zf2 zf3 zf4 u0 u1 u2 u3 f1 f2 f3 hu7 ht7
      obtain ⟨z0, z1, z2, z3, z4⟩ := BZ7.out.cells
      have zf0 := BZ7.out.free (i := 0); have zf1 := BZ7.out.free (i := 1); have zf2 := BZ7.out.free (i := 2); have zf3 := BZ7.out.free (i := 3); have zf4 := BZ7.out.free (i := 4)
      obtain ⟨u0, u1, u2, u3, f1, f2, f3⟩ := HU7.out.cells
      go_wp2_with fail
      refine (TX.out _ HU7.out).mono ?_
      rintro e8 w8 ⟨⟨rfl, hu8⟩, ht8⟩
      have hz8 := ht8.size
      have BZ8 := Lib.hid (show Box w8 w.heap.size 0 0 0 ⟨#[]⟩ (.slice none 0 0) 26 from (ht8.block w.heap.size (by omega) hd2).trans BZ7.out)
      have HU8 := Lib.hid hu8
      have HT8 := Lib.hid (HT7.out.trans ht8)
      clear z0 z1 z2 z3 z4 zf0 zf1 zf2 zf3 zf4 u0 u1 u2 u3 f1 f2 f3 hu8 ht8
      obtain ⟨z0, z1, z2, z3, z4⟩ := BZ8.out.cells
      have zf0 := BZ8.out.free (i := 0); have zf1 := BZ8.out.free (i := 1); have zf2 := BZ8.out.free (i := 2); have zf3 := BZ8.out.free (i := 3); have zf4 := BZ8.out.free (i := 4)
      have HP := Lib.hid (fun v0 v1 v2 v3 v4 => show UmRet d s (some (.mk 6 0 0 (s.extract (i + 1 + 1) (i + 1 + 1 + q)) [], i + 1 + 1 + q, l)) w (.returned (.agg #[.int .i64 6, .int .i64 (0), .int .i64 (0), .string (s.extract (i + 1 + 1) (i + 1 + 1 + q)), .slice none 0 0])) (set5 w8 w.heap.size v0 v1 v2 v3 v4) from
        um_pass (s := s) (o := some (.mk 6 0 0 (s.extract (i + 1 + 1) (i + 1 + 1 + q)) [], i + 1 + 1 + q, l)) (t := .mk 6 (0) (0) (s.extract (i + 1 + 1) (i + 1 + 1 + q)) []) (Fr := fun _ => False) HT8.out (Nat.le_refl _) hd1 ⟨k64 6 (by omega) (by omega), in0, in0, hsz.out⟩ (OwnS.nil _ _) (fun _ h => h.elim) (fun q9 e9 => by have e8 : some (V.mk 6 (0) (0) (s.extract (i + 1 + 1) (i + 1 + 1 + q)) [], (i + 1 + 1 + q, l)) = some q9 := e9; injection e8 with e8; rw [← e8]) (show UmSt d s (some (i + 1 + 1 + q, l)) w8 from by show UB w8 d s (i + 1 + 1 + q) (300 - (l : Int)) false; rw [← HCL.out]; exact HU8.out) v0 v1 v2 v3 v4)
      go_wp2_with fail
      refine bodyPost_ret (v := .agg #[.int .i64 6, .int .i64 0, .int .i64 0, .string (s.extract (i + 1 + 1) (i + 1 + 1 + q)), .slice none 0 0]) (by simp [results, Tryd.results120, go_sem, z0, z1, z2, z3, z4]) rfl (HP.out _ _ _ _ _)
    · rw [show mgStr s 6 (i + 1 + 1) q l = none from if_neg hf]
      have TX := Lib.hid (fun (W : World) (h : UB W d s (i + 1 + 1) (c + 1) false) => show Calls Tryd.prog 178 #[.pointer (some ⟨d, 0, none⟩), .int .i64 ((q : Int))] W (TxRet d s (i + 1 + 1) (q) (c + 1) false W) from by
        have := text_any d s hs (i + 1 + 1) (q) (by omega) (by omega) (c + 1) false W h
        rw [decide_eq_false hf] at this
        exact this)
      have hn64 : In64 0 := in0
      go_enter Tryd.func120, Tryd.ntmps120
      go_wp2_with fail
      refine (WD.out _ HU5.out).mono ?_
      rintro e6 w6 ⟨⟨rfl, hu6⟩, ht6⟩
      have hz6 := ht6.size
      rw [hz5] at hz6
      have BZ6 := Lib.hid (show Box w6 w.heap.size 0 0 0 ⟨#[]⟩ (.slice none 0 0) 26 from (ht6.block w.heap.size (by omega) hd2).trans BZ5.out)
      have HU6 := Lib.hid hu6
      have HT6 := Lib.hid (HT5.out.trans ht6)
      clear z0 z1 z2 z3 z4 zf0 zf1 zf2 zf3 zf4 u0 u1 u2 u3 f1 f2 f3 hu6 ht6
      obtain ⟨z0, z1, z2, z3, z4⟩ := BZ6.out.cells
      have zf0 := BZ6.out.free (i := 0); have zf1 := BZ6.out.free (i := 1); have zf2 := BZ6.out.free (i := 2); have zf3 := BZ6.out.free (i := 3); have zf4 := BZ6.out.free (i := 4)
      obtain ⟨u0, u1, u2, u3, f1, f2, f3⟩ := HU6.out.cells
      go_wp2_with fail
      refine (IA.out _).mono ?_
      rintro e97 w97 ⟨rfl, rfl⟩
      go_wp2_with fail
      refine (IB.out _).mono ?_
      rintro e98 w98 ⟨rfl, rfl⟩
      go_wp2_with fail
      refine (WE2.out _ HU6.out).mono ?_
      rintro e7 w7 ⟨⟨rfl, hu7⟩, ht7⟩
      have hz7 := ht7.size
      have BZ7 := Lib.hid (show Box w7 w.heap.size 0 0 0 ⟨#[]⟩ (.slice none 0 0) 26 from (ht7.block w.heap.size (by omega) hd2).trans BZ6.out)
      have HU7 := Lib.hid hu7
      have HT7 := Lib.hid (HT6.out.trans ht7)
      clear z0 z1 z2 z3 z4 zf0 zf1 zf2 zf3 zf4 u0 u1 u2 u3 f1 f2 f3 hu7 ht7
      obtain ⟨z0, z1, z2, z3, z4⟩ := BZ7.out.cells
      have zf0 := BZ7.out.free (i := 0); have zf1 := BZ7.out.free (i := 1); have zf2 := BZ7.out.free (i := 2); have zf3 := BZ7.out.free (i := 3); have zf4 := BZ7.out.free (i := 4)
      obtain ⟨u0, u1, u2, u3, f1, f2, f3⟩ := HU7.out.cells
      go_wp2_with fail
      refine (TX.out _ HU7.out).mono ?_
      rintro e8 w8 ⟨⟨rfl, hu8⟩, ht8⟩
      have hz8 := ht8.size
      have BZ8 := Lib.hid (show Box w8 w.heap.size 0 0 0 ⟨#[]⟩ (.slice none 0 0) 26 from (ht8.block w.heap.size (by omega) hd2).trans BZ7.out)
      have HU8 := Lib.hid hu8
      have HT8 := Lib.hid (HT7.out.trans ht8)
      clear z0 z1 z2 z3 z4 zf0 zf1 zf2 zf3 zf4 u0 u1 u2 u3 f1 f2 f3 hu8 ht8
      obtain ⟨z0, z1, z2, z3, z4⟩ := BZ8.out.cells
      have zf0 := BZ8.out.free (i := 0); have zf1 := BZ8.out.free (i := 1); have zf2 := BZ8.out.free (i := 2); have zf3 := BZ8.out.free (i := 3); have zf4 := BZ8.out.free (i := 4)
      have HP := Lib.hid (fun v0 v1 v2 v3 v4 => show UmRet d s (none) w (.returned (.agg #[.int .i64 6, .int .i64 (0), .int .i64 (0), .string ⟨#[]⟩, .slice none 0 0])) (set5 w8 w.heap.size v0 v1 v2 v3 v4) from
        um_pass (s := s) (o := none) (t := .mk 6 (0) (0) ⟨#[]⟩ []) (Fr := fun _ => False) HT8.out (Nat.le_refl _) hd1 ⟨k64 6 (by omega) (by omega), hn64, in0, by show ByteArray.size ⟨#[]⟩ ≤ _; simp [ByteArray.size]⟩ (OwnS.nil _ _) (fun _ h => h.elim) (fun q e9 => by cases e9) (show UmSt d s none w8 from ⟨i + 1 + 1, _, by omega, HU8.out⟩) v0 v1 v2 v3 v4)
      go_wp2_with fail
      refine bodyPost_ret (v := .agg #[.int .i64 6, .int .i64 0, .int .i64 0, .string ⟨#[]⟩, .slice none 0 0]) (by simp [results, Tryd.results120, go_sem, z0, z1, z2, z3, z4]) rfl (HP.out _ _ _ _ _)
set_option maxRecDepth 100000 in
set_option maxHeartbeats 4000000 in
theorem value_k197 (d : Nat) (s : ByteArray) (hs : s.size ≤ 1048576) (g : Nat → Nat → MG) (hg : ∀ i l, MGood s i l (g i l)) (deep : Int) (hd : 0 ≤ deep ∧ deep ≤ 12)
    (hV : ∀ (i l : Nat) (W : World), i ≤ s.size → l ≤ 300 → UB W d s i (300 - (l : Int)) false → Calls Tryd.prog 120 #[.pointer (some ⟨d, 0, none⟩), .int .i64 (deep + 1)] W (UmRet d s (g i l) W)) (i l : Nat) (hi : i < s.size) (hl : l + 1 ≤ 300) (w : World) (hU : UB w d s i (300 - ((l + 1 : Nat) : Int)) false) (hb : wgo s i 1 = some 197)  :
    Calls Tryd.prog 120 #[.pointer (some ⟨d, 0, none⟩), .int .i64 deep] w (UmRet d s ((wgo s (i + 1) 2).bind fun n => mgStr s 6 (i + 1 + 2) n.toNat l) w) := by
  have hdw := lt_of_heap hU
  obtain ⟨c, hc⟩ : ∃ c : Int, c = 300 - ((l + 1 : Nat) : Int) := ⟨_, rfl⟩
  rw [← hc] at hU
  have HU := Lib.hid hU
  obtain ⟨u0, u1, u2, u3, f1, f2, f3⟩ := hU.cells
  have hd1 : d ≠ w.heap.size := by omega
  have hd2 : w.heap.size ≠ d := by omega
  have hc0 : 0 ≤ c := by omega
  have hc1 : c + 1 ≤ 300 := by omega
  have HCL := Lib.hid (show c + 1 = 300 - (l : Int) by omega)
  clear hc
  have HU5 := Lib.hid (show UB ((w.setCell ⟨d, 2, none⟩ (.int .i64 (c + 1))).alloc (.cells #[.int .i64 0, .int .i64 0, .int .i64 0, .string ⟨#[]⟩, .slice none 0 0] 26)) d s i (c + 1) false from (HU.out.setC (c + 1)).stay ((Below.refl _ _).alloc (Nat.le_refl _) _))
  have HT5 := Lib.hid (show Touch (fun x => x = d) (fun x => x = d) w ((w.setCell ⟨d, 2, none⟩ (.int .i64 (c + 1))).alloc (.cells #[.int .i64 0, .int .i64 0, .int .i64 0, .string ⟨#[]⟩, .slice none 0 0] 26)) from ((Touch.refl _ w).cellD _).trans (Touch.of_below ((Below.refl _ _).alloc (Nat.le_refl _) _)))
  have BZ5 := Lib.hid (show Box ((w.setCell ⟨d, 2, none⟩ (.int .i64 (c + 1))).alloc (.cells #[.int .i64 0, .int .i64 0, .int .i64 0, .string ⟨#[]⟩, .slice none 0 0] 26)) w.heap.size 0 0 0 ⟨#[]⟩ (.slice none 0 0) 26 from heap_alloc_here _ (by simp))
  have hz5 : ((w.setCell ⟨d, 2, none⟩ (.int .i64 (c + 1))).alloc (.cells #[.int .i64 0, .int .i64 0, .int .i64 0, .string ⟨#[]⟩, .slice none 0 0] 26)).heap.size = w.heap.size + 1 := by simp
  have BZ := Lib.hid (Box.new w 0 0 0 ⟨#[]⟩ (.slice none 0 0) 26)
  obtain ⟨z0, z1, z2, z3, z4⟩ := BZ.out.cells
  have zf0 := BZ.out.free (i := 0); have zf1 := BZ.out.free (i := 1); have zf2 := BZ.out.free (i := 2); have zf3 := BZ.out.free (i := 3); have zf4 := BZ.out.free (i := 4)
  have WD := Lib.hid (fun (W : World) (h : UB W d s i (c + 1) false) => show Calls Tryd.prog 176 #[.pointer (some ⟨d, 0, none⟩), .int .i64 1] W (WdRet d s i 1 (c + 1) (some 197) W) from by
    have := wide_any d s hs i 1 (by omega) (by omega) (by omega) (c + 1) false W h
    rw [if_neg (by simp), hb] at this; exact this)
  have WE := Lib.hid (fun (o : Option Int) (ho : wgo s (i + 1) 2 = o) (W : World) (h : UB W d s (i + 1) (c + 1) false) => show Calls Tryd.prog 176 #[.pointer (some ⟨d, 0, none⟩), .int .i64 2] W (WdRet d s (i + 1) 2 (c + 1) o W) from by
    have := wide_any d s hs (i + 1) 2 (by omega) (by omega) (by omega) (c + 1) false W h
    rw [if_neg (by simp), ho] at this; exact this)
  have IA := Lib.hid (fun W => within_no 197 204 207 W (by omega))
  have IB := Lib.hid (fun W => within_no 197 208 211 W (by omega))
  clear hV hg
  have WI := Lib.hid (fun n (h : wgo s (i + 1) 2 = some n) => wgo_small h (by omega))
  cases ho : wgo s (i + 1) 2 with
  | none =>
    have WE2 := Lib.hid (WE.out _ ho)
    clear WI WE ho
    show Calls _ _ _ _ (UmRet d s none w)
    have hn64 : In64 0 := in0
    have TX := Lib.hid (fun (W : World) (h : UB W d s (i + 1) (c + 1) true) => show Calls Tryd.prog 178 #[.pointer (some ⟨d, 0, none⟩), .int .i64 (0)] W (TxRet d s (i + 1) (0) (c + 1) false W) from by
      have := text_any d s hs (i + 1) (0) (by omega) (by omega) (c + 1) true W h
      exact this)
    go_enter Tryd.func120, Tryd.ntmps120
    go_wp2_with fail
    refine (WD.out _ HU5.out).mono ?_
    rintro e6 w6 ⟨⟨rfl, hu6⟩, ht6⟩
    have hz6 := ht6.size
    rw [hz5] at hz6
    have BZ6 := Lib.hid (show Box w6 w.heap.size 0 0 0 ⟨#[]⟩ (.slice none 0 0) 26 from (ht6.block w.heap.size (by omega) hd2).trans BZ5.out)
    have HU6 := Lib.hid hu6
    have HT6 := Lib.hid (HT5.out.trans ht6)
    clear z0 z1 z2 z3 z4 zf0 zf1 zf2 zf3 zf4 u0 u1 u2 u3 f1 f2 f3 hu6 ht6
    obtain ⟨z0, z1, z2, z3, z4⟩ := BZ6.out.cells
    have zf0 := BZ6.out.free (i := 0); have zf1 := BZ6.out.free (i := 1); have zf2 := BZ6.out.free (i := 2); have zf3 := BZ6.out.free (i := 3); have zf4 := BZ6.out.free (i := 4)
    obtain ⟨u0, u1, u2, u3, f1, f2, f3⟩ := HU6.out.cells
    go_wp2_with fail
    refine (IA.out _).mono ?_
    rintro e97 w97 ⟨rfl, rfl⟩
    go_wp2_with fail
    refine (IB.out _).mono ?_
    rintro e98 w98 ⟨rfl, rfl⟩
    go_wp2_with fail
    refine (WE2.out _ HU6.out).mono ?_
    rintro e7 w7 ⟨⟨rfl, hu7⟩, ht7⟩
    have hz7 := ht7.size
    have BZ7 := Lib.hid (show Box w7 w.heap.size 0 0 0 ⟨#[]⟩ (.slice none 0 0) 26 from (ht7.block w.heap.size (by omega) hd2).trans BZ6.out)
    have HU7 := Lib.hid hu7
    have HT7 := Lib.hid (HT6.out.trans ht7)
    clear z0 z1 z2 z3 z4 zf0 zf1 zf2 zf3 zf4 u0 u1 u2 u3 f1 f2 f3 hu7 ht7
    obtain ⟨z0, z1, z2, z3, z4⟩ := BZ7.out.cells
    have zf0 := BZ7.out.free (i := 0); have zf1 := BZ7.out.free (i := 1); have zf2 := BZ7.out.free (i := 2); have zf3 := BZ7.out.free (i := 3); have zf4 := BZ7.out.free (i := 4)
    obtain ⟨u0, u1, u2, u3, f1, f2, f3⟩ := HU7.out.cells
    go_wp2_with fail
    refine (TX.out _ HU7.out).mono ?_
    rintro e8 w8 ⟨⟨rfl, hu8⟩, ht8⟩
    have hz8 := ht8.size
    have BZ8 := Lib.hid (show Box w8 w.heap.size 0 0 0 ⟨#[]⟩ (.slice none 0 0) 26 from (ht8.block w.heap.size (by omega) hd2).trans BZ7.out)
    have HU8 := Lib.hid hu8
    have HT8 := Lib.hid (HT7.out.trans ht8)
    clear z0 z1 z2 z3 z4 zf0 zf1 zf2 zf3 zf4 u0 u1 u2 u3 f1 f2 f3 hu8 ht8
    obtain ⟨z0, z1, z2, z3, z4⟩ := BZ8.out.cells
    have zf0 := BZ8.out.free (i := 0); have zf1 := BZ8.out.free (i := 1); have zf2 := BZ8.out.free (i := 2); have zf3 := BZ8.out.free (i := 3); have zf4 := BZ8.out.free (i := 4)
    have HP := Lib.hid (fun v0 v1 v2 v3 v4 => show UmRet d s (none) w (.returned (.agg #[.int .i64 6, .int .i64 (0), .int .i64 (0), .string ⟨#[]⟩, .slice none 0 0])) (set5 w8 w.heap.size v0 v1 v2 v3 v4) from
      um_pass (s := s) (o := none) (t := .mk 6 (0) (0) ⟨#[]⟩ []) (Fr := fun _ => False) HT8.out (Nat.le_refl _) hd1 ⟨k64 6 (by omega) (by omega), hn64, in0, by show ByteArray.size ⟨#[]⟩ ≤ _; simp [ByteArray.size]⟩ (OwnS.nil _ _) (fun _ h => h.elim) (fun q e9 => by cases e9) (show UmSt d s none w8 from ⟨i + 1, _, by omega, HU8.out⟩) v0 v1 v2 v3 v4)
    go_wp2_with fail
    refine bodyPost_ret (v := .agg #[.int .i64 6, .int .i64 0, .int .i64 0, .string ⟨#[]⟩, .slice none 0 0]) (by simp [results, Tryd.results120, go_sem, z0, z1, z2, z3, z4]) rfl (HP.out _ _ _ _ _)
  | some n =>
    obtain ⟨q, rfl, hq, hfit⟩ := WI.out n ho
    have WE2 := Lib.hid (WE.out _ ho)
    clear WI WE ho
    rw [Option.bind_some, Int.toNat_natCast]
    by_cases hf : i + 1 + 2 + q ≤ s.size
    · rw [show mgStr s 6 (i + 1 + 2) q l = some (.mk 6 0 0 (s.extract (i + 1 + 2) (i + 1 + 2 + q)) [], i + 1 + 2 + q, l) from if_pos hf]
      have TX := Lib.hid (fun (W : World) (h : UB W d s (i + 1 + 2) (c + 1) false) => show Calls Tryd.prog 178 #[.pointer (some ⟨d, 0, none⟩), .int .i64 ((q : Int))] W (TxRet d s (i + 1 + 2) (q) (c + 1) true W) from by
        have := text_any d s hs (i + 1 + 2) (q) (by omega) (by omega) (c + 1) false W h
        rw [decide_eq_true hf] at this
        exact this)
      have hn64 : In64 0 := in0
      have hsz := Lib.hid (show (s.extract (i + 1 + 2) (i + 1 + 2 + q)).size ≤ 9223372036854775807 by rw [ByteArray.size_extract]; omega)
      go_enter Tryd.func120, Tryd.ntmps120
      go_wp2_with fail
      refine (WD.out _ HU5.out).mono ?_
      rintro e6 w6 ⟨⟨rfl, hu6⟩, ht6⟩
      have hz6 := ht6.size
      rw [hz5] at hz6
      have BZ6 := Lib.hid (show Box w6 w.heap.size 0 0 0 ⟨#[]⟩ (.slice none 0 0) 26 from (ht6.block w.heap.size (by omega) hd2).trans BZ5.out)
      have HU6 := Lib.hid hu6
      have HT6 := Lib.hid (HT5.out.trans ht6)
      clear z0 z1 z2 z3 z4 zf0 zf1 zf2 zf3 zf4 u0 u1 u2 u3 f1 f2 f3 hu6 ht6
      obtain ⟨z0, z1, z2, z3, z4⟩ := BZ6.out.cells
      have zf0 := BZ6.out.free (i := 0); have zf1 := BZ6.out.free (i := 1); have zf2 := BZ6.out.free (i := 2); have zf3 := BZ6.out.free (i := 3); have zf4 := BZ6.out.free (i := 4)
      obtain ⟨u0, u1, u2, u3, f1, f2, f3⟩ := HU6.out.cells
      go_wp2_with fail
      refine (IA.out _).mono ?_
      rintro e97 w97 ⟨rfl, rfl⟩
      go_wp2_with fail
      refine (IB.out _).mono ?_
      rintro e98 w98 ⟨rfl, rfl⟩
      go_wp2_with fail
      refine (WE2.out _ HU6.out).mono ?_
      rintro e7 w7 ⟨⟨rfl, hu7⟩, ht7⟩
      have hz7 := ht7.size
      have BZ7 := Lib.hid (show Box w7 w.heap.size 0 0 0 ⟨#[]⟩ (.slice none 0 0) 26 from (ht7.block w.heap.size (by omega) hd2).trans BZ6.out)
      have HU7 := Lib.hid hu7
      have HT7 := Lib.hid (HT6.out.trans ht7)
      clear z0 z1 z2 z3 z4 zf0 zf1 zf2 zf3 zf4 u0 u1 u2 u3 f1 f2 f3 hu7 ht7
      obtain ⟨z0, z1, z2, z3, z4⟩ := BZ7.out.cells
      have zf0 := BZ7.out.free (i := 0); have zf1 := BZ7.out.free (i := 1); have zf2 := BZ7.out.free (i := 2); have zf3 := BZ7.out.free (i := 3); have zf4 := BZ7.out.free (i := 4)
      obtain ⟨u0, u1, u2, u3, f1, f2, f3⟩ := HU7.out.cells
      go_wp2_with fail
      refine (TX.out _ HU7.out).mono ?_
      rintro e8 w8 ⟨⟨rfl, hu8⟩, ht8⟩
      have hz8 := ht8.size
      have BZ8 := Lib.hid (show Box w8 w.heap.size 0 0 0 ⟨#[]⟩ (.slice none 0 0) 26 from (ht8.block w.heap.size (by omega) hd2).trans BZ7.out)
      have HU8 := Lib.hid hu8
      have HT8 := Lib.hid (HT7.out.trans ht8)
      clear z0 z1 z2 z3 z4 zf0 zf1 zf2 zf3 zf4 u0 u1 u2 u3 f1 f2 f3 hu8 ht8
      obtain ⟨z0, z1, z2, z3, z4⟩ := BZ8.out.cells
      have zf0 := BZ8.out.free (i := 0); have zf1 := BZ8.out.free (i := 1); have zf2 := BZ8.out.free (i := 2); have zf3 := BZ8.out.free (i := 3); have zf4 := BZ8.out.free (i := 4)
      have HP := Lib.hid (fun v0 v1 v2 v3 v4 => show UmRet d s (some (.mk 6 0 0 (s.extract (i + 1 + 2) (i + 1 + 2 + q)) [], i + 1 + 2 + q, l)) w (.returned (.agg #[.int .i64 6, .int .i64 (0), .int .i64 (0), .string (s.extract (i + 1 + 2) (i + 1 + 2 + q)), .slice none 0 0])) (set5 w8 w.heap.size v0 v1 v2 v3 v4) from
        um_pass (s := s) (o := some (.mk 6 0 0 (s.extract (i + 1 + 2) (i + 1 + 2 + q)) [], i + 1 + 2 + q, l)) (t := .mk 6 (0) (0) (s.extract (i + 1 + 2) (i + 1 + 2 + q)) []) (Fr := fun _ => False) HT8.out (Nat.le_refl _) hd1 ⟨k64 6 (by omega) (by omega), in0, in0, hsz.out⟩ (OwnS.nil _ _) (fun _ h => h.elim) (fun q9 e9 => by have e8 : some (V.mk 6 (0) (0) (s.extract (i + 1 + 2) (i + 1 + 2 + q)) [], (i + 1 + 2 + q, l)) = some q9 := e9; injection e8 with e8; rw [← e8]) (show UmSt d s (some (i + 1 + 2 + q, l)) w8 from by show UB w8 d s (i + 1 + 2 + q) (300 - (l : Int)) false; rw [← HCL.out]; exact HU8.out) v0 v1 v2 v3 v4)
      go_wp2_with fail
      refine bodyPost_ret (v := .agg #[.int .i64 6, .int .i64 0, .int .i64 0, .string (s.extract (i + 1 + 2) (i + 1 + 2 + q)), .slice none 0 0]) (by simp [results, Tryd.results120, go_sem, z0, z1, z2, z3, z4]) rfl (HP.out _ _ _ _ _)
    · rw [show mgStr s 6 (i + 1 + 2) q l = none from if_neg hf]
      have TX := Lib.hid (fun (W : World) (h : UB W d s (i + 1 + 2) (c + 1) false) => show Calls Tryd.prog 178 #[.pointer (some ⟨d, 0, none⟩), .int .i64 ((q : Int))] W (TxRet d s (i + 1 + 2) (q) (c + 1) false W) from by
        have := text_any d s hs (i + 1 + 2) (q) (by omega) (by omega) (c + 1) false W h
        rw [decide_eq_false hf] at this
        exact this)
      have hn64 : In64 0 := in0
      go_enter Tryd.func120, Tryd.ntmps120
      go_wp2_with fail
      refine (WD.out _ HU5.out).mono ?_
      rintro e6 w6 ⟨⟨rfl, hu6⟩, ht6⟩
      have hz6 := ht6.size
      rw [hz5] at hz6
      have BZ6 := Lib.hid (show Box w6 w.heap.size 0 0 0 ⟨#[]⟩ (.slice none 0 0) 26 from (ht6.block w.heap.size (by omega) hd2).trans BZ5.out)
      have HU6 := Lib.hid hu6
      have HT6 := Lib.hid (HT5.out.trans ht6)
      clear z0 z1 z2 z3 z4 zf0 zf1 zf2 zf3 zf4 u0 u1 u2 u3 f1 f2 f3 hu6 ht6
      obtain ⟨z0, z1, z2, z3, z4⟩ := BZ6.out.cells
      have zf0 := BZ6.out.free (i := 0); have zf1 := BZ6.out.free (i := 1); have zf2 := BZ6.out.free (i := 2); have zf3 := BZ6.out.free (i := 3); have zf4 := BZ6.out.free (i := 4)
      obtain ⟨u0, u1, u2, u3, f1, f2, f3⟩ := HU6.out.cells
      go_wp2_with fail
      refine (IA.out _).mono ?_
      rintro e97 w97 ⟨rfl, rfl⟩
      go_wp2_with fail
      refine (IB.out _).mono ?_
      rintro e98 w98 ⟨rfl, rfl⟩
      go_wp2_with fail
      refine (WE2.out _ HU6.out).mono ?_
      rintro e7 w7 ⟨⟨rfl, hu7⟩, ht7⟩
      have hz7 := ht7.size
      have BZ7 := Lib.hid (show Box w7 w.heap.size 0 0 0 ⟨#[]⟩ (.slice none 0 0) 26 from (ht7.block w.heap.size (by omega) hd2).trans BZ6.out)
      have HU7 := Lib.hid hu7
      have HT7 := Lib.hid (HT6.out.trans ht7)
      clear z0 z1 z2 z3 z4 zf0 zf1 zf2 zf3 zf4 u0 u1 u2 u3 f1 f2 f3 hu7 ht7
      obtain ⟨z0, z1, z2, z3, z4⟩ := BZ7.out.cells
      have zf0 := BZ7.out.free (i := 0); have zf1 := BZ7.out.free (i := 1); have zf2 := BZ7.out.free (i := 2); have zf3 := BZ7.out.free (i := 3); have zf4 := BZ7.out.free (i := 4)
      obtain ⟨u0, u1, u2, u3, f1, f2, f3⟩ := HU7.out.cells
      go_wp2_with fail
      refine (TX.out _ HU7.out).mono ?_
      rintro e8 w8 ⟨⟨rfl, hu8⟩, ht8⟩
      have hz8 := ht8.size
      have BZ8 := Lib.hid (show Box w8 w.heap.size 0 0 0 ⟨#[]⟩ (.slice none 0 0) 26 from (ht8.block w.heap.size (by omega) hd2).trans BZ7.out)
      have HU8 := Lib.hid hu8
      have HT8 := Lib.hid (HT7.out.trans ht8)
      clear z0 z1 z2 z3 z4 zf0 zf1 zf2 zf3 zf4 u0 u1 u2 u3 f1 f2 f3 hu8 ht8
      obtain ⟨z0, z1, z2, z3, z4⟩ := BZ8.out.cells
      have zf0 := BZ8.out.free (i := 0); have zf1 := BZ8.out.free (i := 1); have zf2 := BZ8.out.free (i := 2); have zf3 := BZ8.out.free (i := 3); have zf4 := BZ8.out.free (i := 4)
      have HP := Lib.hid (fun v0 v1 v2 v3 v4 => show UmRet d s (none) w (.returned (.agg #[.int .i64 6, .int .i64 (0), .int .i64 (0), .string ⟨#[]⟩, .slice none 0 0])) (set5 w8 w.heap.size v0 v1 v2 v3 v4) from
        um_pass (s := s) (o := none) (t := .mk 6 (0) (0) ⟨#[]⟩ []) (Fr := fun _ => False) HT8.out (Nat.le_refl _) hd1 ⟨k64 6 (by omega) (by omega), hn64, in0, by show ByteArray.size ⟨#[]⟩ ≤ _; simp [ByteArray.size]⟩ (OwnS.nil _ _) (fun _ h => h.elim) (fun q e9 => by cases e9) (show UmSt d s none w8 from ⟨i + 1 + 2, _, by omega, HU8.out⟩) v0 v1 v2 v3 v4)
      go_wp2_with fail
      refine bodyPost_ret (v := .agg #[.int .i64 6, .int .i64 0, .int .i64 0, .string ⟨#[]⟩, .slice none 0 0]) (by simp [results, Tryd.results120, go_sem, z0, z1, z2, z3, z4]) rfl (HP.out _ _ _ _ _)
set_option maxRecDepth 100000 in
set_option maxHeartbeats 4000000 in
theorem value_k217 (d : Nat) (s : ByteArray) (hs : s.size ≤ 1048576) (g : Nat → Nat → MG) (hg : ∀ i l, MGood s i l (g i l)) (deep : Int) (hd : 0 ≤ deep ∧ deep ≤ 12)
    (hV : ∀ (i l : Nat) (W : World), i ≤ s.size → l ≤ 300 → UB W d s i (300 - (l : Int)) false → Calls Tryd.prog 120 #[.pointer (some ⟨d, 0, none⟩), .int .i64 (deep + 1)] W (UmRet d s (g i l) W)) (i l : Nat) (hi : i < s.size) (hl : l + 1 ≤ 300) (w : World) (hU : UB w d s i (300 - ((l + 1 : Nat) : Int)) false) (hb : wgo s i 1 = some 217)  :
    Calls Tryd.prog 120 #[.pointer (some ⟨d, 0, none⟩), .int .i64 deep] w (UmRet d s ((wgo s (i + 1) 1).bind fun n => mgStr s 5 (i + 1 + 1) n.toNat l) w) := by
  have hdw := lt_of_heap hU
  obtain ⟨c, hc⟩ : ∃ c : Int, c = 300 - ((l + 1 : Nat) : Int) := ⟨_, rfl⟩
  rw [← hc] at hU
  have HU := Lib.hid hU
  obtain ⟨u0, u1, u2, u3, f1, f2, f3⟩ := hU.cells
  have hd1 : d ≠ w.heap.size := by omega
  have hd2 : w.heap.size ≠ d := by omega
  have hc0 : 0 ≤ c := by omega
  have hc1 : c + 1 ≤ 300 := by omega
  have HCL := Lib.hid (show c + 1 = 300 - (l : Int) by omega)
  clear hc
  have HU5 := Lib.hid (show UB ((w.setCell ⟨d, 2, none⟩ (.int .i64 (c + 1))).alloc (.cells #[.int .i64 0, .int .i64 0, .int .i64 0, .string ⟨#[]⟩, .slice none 0 0] 26)) d s i (c + 1) false from (HU.out.setC (c + 1)).stay ((Below.refl _ _).alloc (Nat.le_refl _) _))
  have HT5 := Lib.hid (show Touch (fun x => x = d) (fun x => x = d) w ((w.setCell ⟨d, 2, none⟩ (.int .i64 (c + 1))).alloc (.cells #[.int .i64 0, .int .i64 0, .int .i64 0, .string ⟨#[]⟩, .slice none 0 0] 26)) from ((Touch.refl _ w).cellD _).trans (Touch.of_below ((Below.refl _ _).alloc (Nat.le_refl _) _)))
  have BZ5 := Lib.hid (show Box ((w.setCell ⟨d, 2, none⟩ (.int .i64 (c + 1))).alloc (.cells #[.int .i64 0, .int .i64 0, .int .i64 0, .string ⟨#[]⟩, .slice none 0 0] 26)) w.heap.size 0 0 0 ⟨#[]⟩ (.slice none 0 0) 26 from heap_alloc_here _ (by simp))
  have hz5 : ((w.setCell ⟨d, 2, none⟩ (.int .i64 (c + 1))).alloc (.cells #[.int .i64 0, .int .i64 0, .int .i64 0, .string ⟨#[]⟩, .slice none 0 0] 26)).heap.size = w.heap.size + 1 := by simp
  have BZ := Lib.hid (Box.new w 0 0 0 ⟨#[]⟩ (.slice none 0 0) 26)
  obtain ⟨z0, z1, z2, z3, z4⟩ := BZ.out.cells
  have zf0 := BZ.out.free (i := 0); have zf1 := BZ.out.free (i := 1); have zf2 := BZ.out.free (i := 2); have zf3 := BZ.out.free (i := 3); have zf4 := BZ.out.free (i := 4)
  have WD := Lib.hid (fun (W : World) (h : UB W d s i (c + 1) false) => show Calls Tryd.prog 176 #[.pointer (some ⟨d, 0, none⟩), .int .i64 1] W (WdRet d s i 1 (c + 1) (some 217) W) from by
    have := wide_any d s hs i 1 (by omega) (by omega) (by omega) (c + 1) false W h
    rw [if_neg (by simp), hb] at this; exact this)
  have WE := Lib.hid (fun (o : Option Int) (ho : wgo s (i + 1) 1 = o) (W : World) (h : UB W d s (i + 1) (c + 1) false) => show Calls Tryd.prog 176 #[.pointer (some ⟨d, 0, none⟩), .int .i64 1] W (WdRet d s (i + 1) 1 (c + 1) o W) from by
    have := wide_any d s hs (i + 1) 1 (by omega) (by omega) (by omega) (c + 1) false W h
    rw [if_neg (by simp), ho] at this; exact this)
  have IA := Lib.hid (fun W => within_no 217 204 207 W (by omega))
  have IB := Lib.hid (fun W => within_no 217 208 211 W (by omega))
  clear hV hg
  have WI := Lib.hid (fun n (h : wgo s (i + 1) 1 = some n) => wgo_small h (by omega))
  cases ho : wgo s (i + 1) 1 with
  | none =>
    have WE2 := Lib.hid (WE.out _ ho)
    clear WI WE ho
    show Calls _ _ _ _ (UmRet d s none w)
    have hn64 : In64 0 := in0
    have TX := Lib.hid (fun (W : World) (h : UB W d s (i + 1) (c + 1) true) => show Calls Tryd.prog 178 #[.pointer (some ⟨d, 0, none⟩), .int .i64 (0)] W (TxRet d s (i + 1) (0) (c + 1) false W) from by
      have := text_any d s hs (i + 1) (0) (by omega) (by omega) (c + 1) true W h
      exact this)
    go_enter Tryd.func120, Tryd.ntmps120
    go_wp2_with fail
    refine (WD.out _ HU5.out).mono ?_
    rintro e6 w6 ⟨⟨rfl, hu6⟩, ht6⟩
    have hz6 := ht6.size
    rw [hz5] at hz6
    have BZ6 := Lib.hid (show Box w6 w.heap.size 0 0 0 ⟨#[]⟩ (.slice none 0 0) 26 from (ht6.block w.heap.size (by omega) hd2).trans BZ5.out)
    have HU6 := Lib.hid hu6
    have HT6 := Lib.hid (HT5.out.trans ht6)
    clear z0 z1 z2 z3 z4 zf0 zf1 zf2 zf3 zf4 u0 u1 u2 u3 f1 f2 f3 hu6 ht6
    obtain ⟨z0, z1, z2, z3, z4⟩ := BZ6.out.cells
    have zf0 := BZ6.out.free (i := 0); have zf1 := BZ6.out.free (i := 1); have zf2 := BZ6.out.free (i := 2); have zf3 := BZ6.out.free (i := 3); have zf4 := BZ6.out.free (i := 4)
    obtain ⟨u0, u1, u2, u3, f1, f2, f3⟩ := HU6.out.cells
    go_wp2_with fail
    refine (IA.out _).mono ?_
    rintro e97 w97 ⟨rfl, rfl⟩
    go_wp2_with fail
    refine (IB.out _).mono ?_
    rintro e98 w98 ⟨rfl, rfl⟩
    go_wp2_with fail
    refine (WE2.out _ HU6.out).mono ?_
    rintro e7 w7 ⟨⟨rfl, hu7⟩, ht7⟩
    have hz7 := ht7.size
    have BZ7 := Lib.hid (show Box w7 w.heap.size 0 0 0 ⟨#[]⟩ (.slice none 0 0) 26 from (ht7.block w.heap.size (by omega) hd2).trans BZ6.out)
    have HU7 := Lib.hid hu7
    have HT7 := Lib.hid (HT6.out.trans ht7)
    clear z0 z1 z2 z3 z4 zf0 zf1 zf2 zf3 zf4 u0 u1 u2 u3 f1 f2 f3 hu7 ht7
    obtain ⟨z0, z1, z2, z3, z4⟩ := BZ7.out.cells
    have zf0 := BZ7.out.free (i := 0); have zf1 := BZ7.out.free (i := 1); have zf2 := BZ7.out.free (i := 2); have zf3 := BZ7.out.free (i := 3); have zf4 := BZ7.out.free (i := 4)
    obtain ⟨u0, u1, u2, u3, f1, f2, f3⟩ := HU7.out.cells
    go_wp2_with fail
    refine (TX.out _ HU7.out).mono ?_
    rintro e8 w8 ⟨⟨rfl, hu8⟩, ht8⟩
    have hz8 := ht8.size
    have BZ8 := Lib.hid (show Box w8 w.heap.size 0 0 0 ⟨#[]⟩ (.slice none 0 0) 26 from (ht8.block w.heap.size (by omega) hd2).trans BZ7.out)
    have HU8 := Lib.hid hu8
    have HT8 := Lib.hid (HT7.out.trans ht8)
    clear z0 z1 z2 z3 z4 zf0 zf1 zf2 zf3 zf4 u0 u1 u2 u3 f1 f2 f3 hu8 ht8
    obtain ⟨z0, z1, z2, z3, z4⟩ := BZ8.out.cells
    have zf0 := BZ8.out.free (i := 0); have zf1 := BZ8.out.free (i := 1); have zf2 := BZ8.out.free (i := 2); have zf3 := BZ8.out.free (i := 3); have zf4 := BZ8.out.free (i := 4)
    have HP := Lib.hid (fun v0 v1 v2 v3 v4 => show UmRet d s (none) w (.returned (.agg #[.int .i64 5, .int .i64 (0), .int .i64 (0), .string ⟨#[]⟩, .slice none 0 0])) (set5 w8 w.heap.size v0 v1 v2 v3 v4) from
      um_pass (s := s) (o := none) (t := .mk 5 (0) (0) ⟨#[]⟩ []) (Fr := fun _ => False) HT8.out (Nat.le_refl _) hd1 ⟨k64 5 (by omega) (by omega), hn64, in0, by show ByteArray.size ⟨#[]⟩ ≤ _; simp [ByteArray.size]⟩ (OwnS.nil _ _) (fun _ h => h.elim) (fun q e9 => by cases e9) (show UmSt d s none w8 from ⟨i + 1, _, by omega, HU8.out⟩) v0 v1 v2 v3 v4)
    go_wp2_with fail
    refine bodyPost_ret (v := .agg #[.int .i64 5, .int .i64 0, .int .i64 0, .string ⟨#[]⟩, .slice none 0 0]) (by simp [results, Tryd.results120, go_sem, z0, z1, z2, z3, z4]) rfl (HP.out _ _ _ _ _)
  | some n =>
    obtain ⟨q, rfl, hq, hfit⟩ := WI.out n ho
    have WE2 := Lib.hid (WE.out _ ho)
    clear WI WE ho
    rw [Option.bind_some, Int.toNat_natCast]
    by_cases hf : i + 1 + 1 + q ≤ s.size
    · rw [show mgStr s 5 (i + 1 + 1) q l = some (.mk 5 0 0 (s.extract (i + 1 + 1) (i + 1 + 1 + q)) [], i + 1 + 1 + q, l) from if_pos hf]
      have TX := Lib.hid (fun (W : World) (h : UB W d s (i + 1 + 1) (c + 1) false) => show Calls Tryd.prog 178 #[.pointer (some ⟨d, 0, none⟩), .int .i64 ((q : Int))] W (TxRet d s (i + 1 + 1) (q) (c + 1) true W) from by
        have := text_any d s hs (i + 1 + 1) (q) (by omega) (by omega) (c + 1) false W h
        rw [decide_eq_true hf] at this
        exact this)
      have hn64 : In64 0 := in0
      have hsz := Lib.hid (show (s.extract (i + 1 + 1) (i + 1 + 1 + q)).size ≤ 9223372036854775807 by rw [ByteArray.size_extract]; omega)
      go_enter Tryd.func120, Tryd.ntmps120
      go_wp2_with fail
      refine (WD.out _ HU5.out).mono ?_
      rintro e6 w6 ⟨⟨rfl, hu6⟩, ht6⟩
      have hz6 := ht6.size
      rw [hz5] at hz6
      have BZ6 := Lib.hid (show Box w6 w.heap.size 0 0 0 ⟨#[]⟩ (.slice none 0 0) 26 from (ht6.block w.heap.size (by omega) hd2).trans BZ5.out)
      have HU6 := Lib.hid hu6
      have HT6 := Lib.hid (HT5.out.trans ht6)
      clear z0 z1 z2 z3 z4 zf0 zf1 zf2 zf3 zf4 u0 u1 u2 u3 f1 f2 f3 hu6 ht6
      obtain ⟨z0, z1, z2, z3, z4⟩ := BZ6.out.cells
      have zf0 := BZ6.out.free (i := 0); have zf1 := BZ6.out.free (i := 1); have zf2 := BZ6.out.free (i := 2); have zf3 := BZ6.out.free (i := 3); have zf4 := BZ6.out.free (i := 4)
      obtain ⟨u0, u1, u2, u3, f1, f2, f3⟩ := HU6.out.cells
      go_wp2_with fail
      refine (IA.out _).mono ?_
      rintro e97 w97 ⟨rfl, rfl⟩
      go_wp2_with fail
      refine (IB.out _).mono ?_
      rintro e98 w98 ⟨rfl, rfl⟩
      go_wp2_with fail
      refine (WE2.out _ HU6.out).mono ?_
      rintro e7 w7 ⟨⟨rfl, hu7⟩, ht7⟩
      have hz7 := ht7.size
      have BZ7 := Lib.hid (show Box w7 w.heap.size 0 0 0 ⟨#[]⟩ (.slice none 0 0) 26 from (ht7.block w.heap.size (by omega) hd2).trans BZ6.out)
      have HU7 := Lib.hid hu7
      have HT7 := Lib.hid (HT6.out.trans ht7)
      clear z0 z1 z2 z3 z4 zf0 zf1 zf2 zf3 zf4 u0 u1 u2 u3 f1 f2 f3 hu7 ht7
      obtain ⟨z0, z1, z2, z3, z4⟩ := BZ7.out.cells
      have zf0 := BZ7.out.free (i := 0); have zf1 := BZ7.out.free (i := 1); have zf2 := BZ7.out.free (i := 2); have zf3 := BZ7.out.free (i := 3); have zf4 := BZ7.out.free (i := 4)
      obtain ⟨u0, u1, u2, u3, f1, f2, f3⟩ := HU7.out.cells
      go_wp2_with fail
      refine (TX.out _ HU7.out).mono ?_
      rintro e8 w8 ⟨⟨rfl, hu8⟩, ht8⟩
      have hz8 := ht8.size
      have BZ8 := Lib.hid (show Box w8 w.heap.size 0 0 0 ⟨#[]⟩ (.slice none 0 0) 26 from (ht8.block w.heap.size (by omega) hd2).trans BZ7.out)
      have HU8 := Lib.hid hu8
      have HT8 := Lib.hid (HT7.out.trans ht8)
      clear z0 z1 z2 z3 z4 zf0 zf1 zf2 zf3 zf4 u0 u1 u2 u3 f1 f2 f3 hu8 ht8
      obtain ⟨z0, z1, z2, z3, z4⟩ := BZ8.out.cells
      have zf0 := BZ8.out.free (i := 0); have zf1 := BZ8.out.free (i := 1); have zf2 := BZ8.out.free (i := 2); have zf3 := BZ8.out.free (i := 3); have zf4 := BZ8.out.free (i := 4)
      have HP := Lib.hid (fun v0 v1 v2 v3 v4 => show UmRet d s (some (.mk 5 0 0 (s.extract (i + 1 + 1) (i + 1 + 1 + q)) [], i + 1 + 1 + q, l)) w (.returned (.agg #[.int .i64 5, .int .i64 (0), .int .i64 (0), .string (s.extract (i + 1 + 1) (i + 1 + 1 + q)), .slice none 0 0])) (set5 w8 w.heap.size v0 v1 v2 v3 v4) from
        um_pass (s := s) (o := some (.mk 5 0 0 (s.extract (i + 1 + 1) (i + 1 + 1 + q)) [], i + 1 + 1 + q, l)) (t := .mk 5 (0) (0) (s.extract (i + 1 + 1) (i + 1 + 1 + q)) []) (Fr := fun _ => False) HT8.out (Nat.le_refl _) hd1 ⟨k64 5 (by omega) (by omega), in0, in0, hsz.out⟩ (OwnS.nil _ _) (fun _ h => h.elim) (fun q9 e9 => by have e8 : some (V.mk 5 (0) (0) (s.extract (i + 1 + 1) (i + 1 + 1 + q)) [], (i + 1 + 1 + q, l)) = some q9 := e9; injection e8 with e8; rw [← e8]) (show UmSt d s (some (i + 1 + 1 + q, l)) w8 from by show UB w8 d s (i + 1 + 1 + q) (300 - (l : Int)) false; rw [← HCL.out]; exact HU8.out) v0 v1 v2 v3 v4)
      go_wp2_with fail
      refine bodyPost_ret (v := .agg #[.int .i64 5, .int .i64 0, .int .i64 0, .string (s.extract (i + 1 + 1) (i + 1 + 1 + q)), .slice none 0 0]) (by simp [results, Tryd.results120, go_sem, z0, z1, z2, z3, z4]) rfl (HP.out _ _ _ _ _)
    · rw [show mgStr s 5 (i + 1 + 1) q l = none from if_neg hf]
      have TX := Lib.hid (fun (W : World) (h : UB W d s (i + 1 + 1) (c + 1) false) => show Calls Tryd.prog 178 #[.pointer (some ⟨d, 0, none⟩), .int .i64 ((q : Int))] W (TxRet d s (i + 1 + 1) (q) (c + 1) false W) from by
        have := text_any d s hs (i + 1 + 1) (q) (by omega) (by omega) (c + 1) false W h
        rw [decide_eq_false hf] at this
        exact this)
      have hn64 : In64 0 := in0
      go_enter Tryd.func120, Tryd.ntmps120
      go_wp2_with fail
      refine (WD.out _ HU5.out).mono ?_
      rintro e6 w6 ⟨⟨rfl, hu6⟩, ht6⟩
      have hz6 := ht6.size
      rw [hz5] at hz6
      have BZ6 := Lib.hid (show Box w6 w.heap.size 0 0 0 ⟨#[]⟩ (.slice none 0 0) 26 from (ht6.block w.heap.size (by omega) hd2).trans BZ5.out)
      have HU6 := Lib.hid hu6
      have HT6 := Lib.hid (HT5.out.trans ht6)
      clear z0 z1 z2 z3 z4 zf0 zf1 zf2 zf3 zf4 u0 u1 u2 u3 f1 f2 f3 hu6 ht6
      obtain ⟨z0, z1, z2, z3, z4⟩ := BZ6.out.cells
      have zf0 := BZ6.out.free (i := 0); have zf1 := BZ6.out.free (i := 1); have zf2 := BZ6.out.free (i := 2); have zf3 := BZ6.out.free (i := 3); have zf4 := BZ6.out.free (i := 4)
      obtain ⟨u0, u1, u2, u3, f1, f2, f3⟩ := HU6.out.cells
      go_wp2_with fail
      refine (IA.out _).mono ?_
      rintro e97 w97 ⟨rfl, rfl⟩
      go_wp2_with fail
      refine (IB.out _).mono ?_
      rintro e98 w98 ⟨rfl, rfl⟩
      go_wp2_with fail
      refine (WE2.out _ HU6.out).mono ?_
      rintro e7 w7 ⟨⟨rfl, hu7⟩, ht7⟩
      have hz7 := ht7.size
      have BZ7 := Lib.hid (show Box w7 w.heap.size 0 0 0 ⟨#[]⟩ (.slice none 0 0) 26 from (ht7.block w.heap.size (by omega) hd2).trans BZ6.out)
      have HU7 := Lib.hid hu7
      have HT7 := Lib.hid (HT6.out.trans ht7)
      clear z0 z1 z2 z3 z4 zf0 zf1 zf2 zf3 zf4 u0 u1 u2 u3 f1 f2 f3 hu7 ht7
      obtain ⟨z0, z1, z2, z3, z4⟩ := BZ7.out.cells
      have zf0 := BZ7.out.free (i := 0); have zf1 := BZ7.out.free (i := 1); have zf2 := BZ7.out.free (i := 2); have zf3 := BZ7.out.free (i := 3); have zf4 := BZ7.out.free (i := 4)
      obtain ⟨u0, u1, u2, u3, f1, f2, f3⟩ := HU7.out.cells
      go_wp2_with fail
      refine (TX.out _ HU7.out).mono ?_
      rintro e8 w8 ⟨⟨rfl, hu8⟩, ht8⟩
      have hz8 := ht8.size
      have BZ8 := Lib.hid (show Box w8 w.heap.size 0 0 0 ⟨#[]⟩ (.slice none 0 0) 26 from (ht8.block w.heap.size (by omega) hd2).trans BZ7.out)
      have HU8 := Lib.hid hu8
      have HT8 := Lib.hid (HT7.out.trans ht8)
      clear z0 z1 z2 z3 z4 zf0 zf1 zf2 zf3 zf4 u0 u1 u2 u3 f1 f2 f3 hu8 ht8
      obtain ⟨z0, z1, z2, z3, z4⟩ := BZ8.out.cells
      have zf0 := BZ8.out.free (i := 0); have zf1 := BZ8.out.free (i := 1); have zf2 := BZ8.out.free (i := 2); have zf3 := BZ8.out.free (i := 3); have zf4 := BZ8.out.free (i := 4)
      have HP := Lib.hid (fun v0 v1 v2 v3 v4 => show UmRet d s (none) w (.returned (.agg #[.int .i64 5, .int .i64 (0), .int .i64 (0), .string ⟨#[]⟩, .slice none 0 0])) (set5 w8 w.heap.size v0 v1 v2 v3 v4) from
        um_pass (s := s) (o := none) (t := .mk 5 (0) (0) ⟨#[]⟩ []) (Fr := fun _ => False) HT8.out (Nat.le_refl _) hd1 ⟨k64 5 (by omega) (by omega), hn64, in0, by show ByteArray.size ⟨#[]⟩ ≤ _; simp [ByteArray.size]⟩ (OwnS.nil _ _) (fun _ h => h.elim) (fun q e9 => by cases e9) (show UmSt d s none w8 from ⟨i + 1 + 1, _, by omega, HU8.out⟩) v0 v1 v2 v3 v4)
      go_wp2_with fail
      refine bodyPost_ret (v := .agg #[.int .i64 5, .int .i64 0, .int .i64 0, .string ⟨#[]⟩, .slice none 0 0]) (by simp [results, Tryd.results120, go_sem, z0, z1, z2, z3, z4]) rfl (HP.out _ _ _ _ _)
set_option maxRecDepth 100000 in
set_option maxHeartbeats 4000000 in
theorem value_k218 (d : Nat) (s : ByteArray) (hs : s.size ≤ 1048576) (g : Nat → Nat → MG) (hg : ∀ i l, MGood s i l (g i l)) (deep : Int) (hd : 0 ≤ deep ∧ deep ≤ 12)
    (hV : ∀ (i l : Nat) (W : World), i ≤ s.size → l ≤ 300 → UB W d s i (300 - (l : Int)) false → Calls Tryd.prog 120 #[.pointer (some ⟨d, 0, none⟩), .int .i64 (deep + 1)] W (UmRet d s (g i l) W)) (i l : Nat) (hi : i < s.size) (hl : l + 1 ≤ 300) (w : World) (hU : UB w d s i (300 - ((l + 1 : Nat) : Int)) false) (hb : wgo s i 1 = some 218)  :
    Calls Tryd.prog 120 #[.pointer (some ⟨d, 0, none⟩), .int .i64 deep] w (UmRet d s ((wgo s (i + 1) 2).bind fun n => mgStr s 5 (i + 1 + 2) n.toNat l) w) := by
  have hdw := lt_of_heap hU
  obtain ⟨c, hc⟩ : ∃ c : Int, c = 300 - ((l + 1 : Nat) : Int) := ⟨_, rfl⟩
  rw [← hc] at hU
  have HU := Lib.hid hU
  obtain ⟨u0, u1, u2, u3, f1, f2, f3⟩ := hU.cells
  have hd1 : d ≠ w.heap.size := by omega
  have hd2 : w.heap.size ≠ d := by omega
  have hc0 : 0 ≤ c := by omega
  have hc1 : c + 1 ≤ 300 := by omega
  have HCL := Lib.hid (show c + 1 = 300 - (l : Int) by omega)
  clear hc
  have HU5 := Lib.hid (show UB ((w.setCell ⟨d, 2, none⟩ (.int .i64 (c + 1))).alloc (.cells #[.int .i64 0, .int .i64 0, .int .i64 0, .string ⟨#[]⟩, .slice none 0 0] 26)) d s i (c + 1) false from (HU.out.setC (c + 1)).stay ((Below.refl _ _).alloc (Nat.le_refl _) _))
  have HT5 := Lib.hid (show Touch (fun x => x = d) (fun x => x = d) w ((w.setCell ⟨d, 2, none⟩ (.int .i64 (c + 1))).alloc (.cells #[.int .i64 0, .int .i64 0, .int .i64 0, .string ⟨#[]⟩, .slice none 0 0] 26)) from ((Touch.refl _ w).cellD _).trans (Touch.of_below ((Below.refl _ _).alloc (Nat.le_refl _) _)))
  have BZ5 := Lib.hid (show Box ((w.setCell ⟨d, 2, none⟩ (.int .i64 (c + 1))).alloc (.cells #[.int .i64 0, .int .i64 0, .int .i64 0, .string ⟨#[]⟩, .slice none 0 0] 26)) w.heap.size 0 0 0 ⟨#[]⟩ (.slice none 0 0) 26 from heap_alloc_here _ (by simp))
  have hz5 : ((w.setCell ⟨d, 2, none⟩ (.int .i64 (c + 1))).alloc (.cells #[.int .i64 0, .int .i64 0, .int .i64 0, .string ⟨#[]⟩, .slice none 0 0] 26)).heap.size = w.heap.size + 1 := by simp
  have BZ := Lib.hid (Box.new w 0 0 0 ⟨#[]⟩ (.slice none 0 0) 26)
  obtain ⟨z0, z1, z2, z3, z4⟩ := BZ.out.cells
  have zf0 := BZ.out.free (i := 0); have zf1 := BZ.out.free (i := 1); have zf2 := BZ.out.free (i := 2); have zf3 := BZ.out.free (i := 3); have zf4 := BZ.out.free (i := 4)
  have WD := Lib.hid (fun (W : World) (h : UB W d s i (c + 1) false) => show Calls Tryd.prog 176 #[.pointer (some ⟨d, 0, none⟩), .int .i64 1] W (WdRet d s i 1 (c + 1) (some 218) W) from by
    have := wide_any d s hs i 1 (by omega) (by omega) (by omega) (c + 1) false W h
    rw [if_neg (by simp), hb] at this; exact this)
  have WE := Lib.hid (fun (o : Option Int) (ho : wgo s (i + 1) 2 = o) (W : World) (h : UB W d s (i + 1) (c + 1) false) => show Calls Tryd.prog 176 #[.pointer (some ⟨d, 0, none⟩), .int .i64 2] W (WdRet d s (i + 1) 2 (c + 1) o W) from by
    have := wide_any d s hs (i + 1) 2 (by omega) (by omega) (by omega) (c + 1) false W h
    rw [if_neg (by simp), ho] at this; exact this)
  have IA := Lib.hid (fun W => within_no 218 204 207 W (by omega))
  have IB := Lib.hid (fun W => within_no 218 208 211 W (by omega))
  clear hV hg
  have WI := Lib.hid (fun n (h : wgo s (i + 1) 2 = some n) => wgo_small h (by omega))
  cases ho : wgo s (i + 1) 2 with
  | none =>
    have WE2 := Lib.hid (WE.out _ ho)
    clear WI WE ho
    show Calls _ _ _ _ (UmRet d s none w)
    have hn64 : In64 0 := in0
    have TX := Lib.hid (fun (W : World) (h : UB W d s (i + 1) (c + 1) true) => show Calls Tryd.prog 178 #[.pointer (some ⟨d, 0, none⟩), .int .i64 (0)] W (TxRet d s (i + 1) (0) (c + 1) false W) from by
      have := text_any d s hs (i + 1) (0) (by omega) (by omega) (c + 1) true W h
      exact this)
    go_enter Tryd.func120, Tryd.ntmps120
    go_wp2_with fail
    refine (WD.out _ HU5.out).mono ?_
    rintro e6 w6 ⟨⟨rfl, hu6⟩, ht6⟩
    have hz6 := ht6.size
    rw [hz5] at hz6
    have BZ6 := Lib.hid (show Box w6 w.heap.size 0 0 0 ⟨#[]⟩ (.slice none 0 0) 26 from (ht6.block w.heap.size (by omega) hd2).trans BZ5.out)
    have HU6 := Lib.hid hu6
    have HT6 := Lib.hid (HT5.out.trans ht6)
    clear z0 z1 z2 z3 z4 zf0 zf1 zf2 zf3 zf4 u0 u1 u2 u3 f1 f2 f3 hu6 ht6
    obtain ⟨z0, z1, z2, z3, z4⟩ := BZ6.out.cells
    have zf0 := BZ6.out.free (i := 0); have zf1 := BZ6.out.free (i := 1); have zf2 := BZ6.out.free (i := 2); have zf3 := BZ6.out.free (i := 3); have zf4 := BZ6.out.free (i := 4)
    obtain ⟨u0, u1, u2, u3, f1, f2, f3⟩ := HU6.out.cells
    go_wp2_with fail
    refine (IA.out _).mono ?_
    rintro e97 w97 ⟨rfl, rfl⟩
    go_wp2_with fail
    refine (IB.out _).mono ?_
    rintro e98 w98 ⟨rfl, rfl⟩
    go_wp2_with fail
    refine (WE2.out _ HU6.out).mono ?_
    rintro e7 w7 ⟨⟨rfl, hu7⟩, ht7⟩
    have hz7 := ht7.size
    have BZ7 := Lib.hid (show Box w7 w.heap.size 0 0 0 ⟨#[]⟩ (.slice none 0 0) 26 from (ht7.block w.heap.size (by omega) hd2).trans BZ6.out)
    have HU7 := Lib.hid hu7
    have HT7 := Lib.hid (HT6.out.trans ht7)
    clear z0 z1 z2 z3 z4 zf0 zf1 zf2 zf3 zf4 u0 u1 u2 u3 f1 f2 f3 hu7 ht7
    obtain ⟨z0, z1, z2, z3, z4⟩ := BZ7.out.cells
    have zf0 := BZ7.out.free (i := 0); have zf1 := BZ7.out.free (i := 1); have zf2 := BZ7.out.free (i := 2); have zf3 := BZ7.out.free (i := 3); have zf4 := BZ7.out.free (i := 4)
    obtain ⟨u0, u1, u2, u3, f1, f2, f3⟩ := HU7.out.cells
    go_wp2_with fail
    refine (TX.out _ HU7.out).mono ?_
    rintro e8 w8 ⟨⟨rfl, hu8⟩, ht8⟩
    have hz8 := ht8.size
    have BZ8 := Lib.hid (show Box w8 w.heap.size 0 0 0 ⟨#[]⟩ (.slice none 0 0) 26 from (ht8.block w.heap.size (by omega) hd2).trans BZ7.out)
    have HU8 := Lib.hid hu8
    have HT8 := Lib.hid (HT7.out.trans ht8)
    clear z0 z1 z2 z3 z4 zf0 zf1 zf2 zf3 zf4 u0 u1 u2 u3 f1 f2 f3 hu8 ht8
    obtain ⟨z0, z1, z2, z3, z4⟩ := BZ8.out.cells
    have zf0 := BZ8.out.free (i := 0); have zf1 := BZ8.out.free (i := 1); have zf2 := BZ8.out.free (i := 2); have zf3 := BZ8.out.free (i := 3); have zf4 := BZ8.out.free (i := 4)
    have HP := Lib.hid (fun v0 v1 v2 v3 v4 => show UmRet d s (none) w (.returned (.agg #[.int .i64 5, .int .i64 (0), .int .i64 (0), .string ⟨#[]⟩, .slice none 0 0])) (set5 w8 w.heap.size v0 v1 v2 v3 v4) from
      um_pass (s := s) (o := none) (t := .mk 5 (0) (0) ⟨#[]⟩ []) (Fr := fun _ => False) HT8.out (Nat.le_refl _) hd1 ⟨k64 5 (by omega) (by omega), hn64, in0, by show ByteArray.size ⟨#[]⟩ ≤ _; simp [ByteArray.size]⟩ (OwnS.nil _ _) (fun _ h => h.elim) (fun q e9 => by cases e9) (show UmSt d s none w8 from ⟨i + 1, _, by omega, HU8.out⟩) v0 v1 v2 v3 v4)
    go_wp2_with fail
    refine bodyPost_ret (v := .agg #[.int .i64 5, .int .i64 0, .int .i64 0, .string ⟨#[]⟩, .slice none 0 0]) (by simp [results, Tryd.results120, go_sem, z0, z1, z2, z3, z4]) rfl (HP.out _ _ _ _ _)
  | some n =>
    obtain ⟨q, rfl, hq, hfit⟩ := WI.out n ho
    have WE2 := Lib.hid (WE.out _ ho)
    clear WI WE ho
    rw [Option.bind_some, Int.toNat_natCast]
    by_cases hf : i + 1 + 2 + q ≤ s.size
    · rw [show mgStr s 5 (i + 1 + 2) q l = some (.mk 5 0 0 (s.extract (i + 1 + 2) (i + 1 + 2 + q)) [], i + 1 + 2 + q, l) from if_pos hf]
      have TX := Lib.hid (fun (W : World) (h : UB W d s (i + 1 + 2) (c + 1) false) => show Calls Tryd.prog 178 #[.pointer (some ⟨d, 0, none⟩), .int .i64 ((q : Int))] W (TxRet d s (i + 1 + 2) (q) (c + 1) true W) from by
        have := text_any d s hs (i + 1 + 2) (q) (by omega) (by omega) (c + 1) false W h
        rw [decide_eq_true hf] at this
        exact this)
      have hn64 : In64 0 := in0
      have hsz := Lib.hid (show (s.extract (i + 1 + 2) (i + 1 + 2 + q)).size ≤ 9223372036854775807 by rw [ByteArray.size_extract]; omega)
      go_enter Tryd.func120, Tryd.ntmps120
      go_wp2_with fail
      refine (WD.out _ HU5.out).mono ?_
      rintro e6 w6 ⟨⟨rfl, hu6⟩, ht6⟩
      have hz6 := ht6.size
      rw [hz5] at hz6
      have BZ6 := Lib.hid (show Box w6 w.heap.size 0 0 0 ⟨#[]⟩ (.slice none 0 0) 26 from (ht6.block w.heap.size (by omega) hd2).trans BZ5.out)
      have HU6 := Lib.hid hu6
      have HT6 := Lib.hid (HT5.out.trans ht6)
      clear z0 z1 z2 z3 z4 zf0 zf1 zf2 zf3 zf4 u0 u1 u2 u3 f1 f2 f3 hu6 ht6
      obtain ⟨z0, z1, z2, z3, z4⟩ := BZ6.out.cells
      have zf0 := BZ6.out.free (i := 0); have zf1 := BZ6.out.free (i := 1); have zf2 := BZ6.out.free (i := 2); have zf3 := BZ6.out.free (i := 3); have zf4 := BZ6.out.free (i := 4)
      obtain ⟨u0, u1, u2, u3, f1, f2, f3⟩ := HU6.out.cells
      go_wp2_with fail
      refine (IA.out _).mono ?_
      rintro e97 w97 ⟨rfl, rfl⟩
      go_wp2_with fail
      refine (IB.out _).mono ?_
      rintro e98 w98 ⟨rfl, rfl⟩
      go_wp2_with fail
      refine (WE2.out _ HU6.out).mono ?_
      rintro e7 w7 ⟨⟨rfl, hu7⟩, ht7⟩
      have hz7 := ht7.size
      have BZ7 := Lib.hid (show Box w7 w.heap.size 0 0 0 ⟨#[]⟩ (.slice none 0 0) 26 from (ht7.block w.heap.size (by omega) hd2).trans BZ6.out)
      have HU7 := Lib.hid hu7
      have HT7 := Lib.hid (HT6.out.trans ht7)
      clear z0 z1 z2 z3 z4 zf0 zf1 zf2 zf3 zf4 u0 u1 u2 u3 f1 f2 f3 hu7 ht7
      obtain ⟨z0, z1, z2, z3, z4⟩ := BZ7.out.cells
      have zf0 := BZ7.out.free (i := 0); have zf1 := BZ7.out.free (i := 1); have zf2 := BZ7.out.free (i := 2); have zf3 := BZ7.out.free (i := 3); have zf4 := BZ7.out.free (i := 4)
      obtain ⟨u0, u1, u2, u3, f1, f2, f3⟩ := HU7.out.cells
      go_wp2_with fail
      refine (TX.out _ HU7.out).mono ?_
      rintro e8 w8 ⟨⟨rfl, hu8⟩, ht8⟩
      have hz8 := ht8.size
      have BZ8 := Lib.hid (show Box w8 w.heap.size 0 0 0 ⟨#[]⟩ (.slice none 0 0) 26 from (ht8.block w.heap.size (by omega) hd2).trans BZ7.out)
      have HU8 := Lib.hid hu8
      have HT8 := Lib.hid (HT7.out.trans ht8)
      clear z0 z1 z2 z3 z4 zf0 zf1 zf2 zf3 zf4 u0 u1 u2 u3 f1 f2 f3 hu8 ht8
      obtain ⟨z0, z1, z2, z3, z4⟩ := BZ8.out.cells
      have zf0 := BZ8.out.free (i := 0); have zf1 := BZ8.out.free (i := 1); have zf2 := BZ8.out.free (i := 2); have zf3 := BZ8.out.free (i := 3); have zf4 := BZ8.out.free (i := 4)
      have HP := Lib.hid (fun v0 v1 v2 v3 v4 => show UmRet d s (some (.mk 5 0 0 (s.extract (i + 1 + 2) (i + 1 + 2 + q)) [], i + 1 + 2 + q, l)) w (.returned (.agg #[.int .i64 5, .int .i64 (0), .int .i64 (0), .string (s.extract (i + 1 + 2) (i + 1 + 2 + q)), .slice none 0 0])) (set5 w8 w.heap.size v0 v1 v2 v3 v4) from
        um_pass (s := s) (o := some (.mk 5 0 0 (s.extract (i + 1 + 2) (i + 1 + 2 + q)) [], i + 1 + 2 + q, l)) (t := .mk 5 (0) (0) (s.extract (i + 1 + 2) (i + 1 + 2 + q)) []) (Fr := fun _ => False) HT8.out (Nat.le_refl _) hd1 ⟨k64 5 (by omega) (by omega), in0, in0, hsz.out⟩ (OwnS.nil _ _) (fun _ h => h.elim) (fun q9 e9 => by have e8 : some (V.mk 5 (0) (0) (s.extract (i + 1 + 2) (i + 1 + 2 + q)) [], (i + 1 + 2 + q, l)) = some q9 := e9; injection e8 with e8; rw [← e8]) (show UmSt d s (some (i + 1 + 2 + q, l)) w8 from by show UB w8 d s (i + 1 + 2 + q) (300 - (l : Int)) false; rw [← HCL.out]; exact HU8.out) v0 v1 v2 v3 v4)
      go_wp2_with fail
      refine bodyPost_ret (v := .agg #[.int .i64 5, .int .i64 0, .int .i64 0, .string (s.extract (i + 1 + 2) (i + 1 + 2 + q)), .slice none 0 0]) (by simp [results, Tryd.results120, go_sem, z0, z1, z2, z3, z4]) rfl (HP.out _ _ _ _ _)
    · rw [show mgStr s 5 (i + 1 + 2) q l = none from if_neg hf]
      have TX := Lib.hid (fun (W : World) (h : UB W d s (i + 1 + 2) (c + 1) false) => show Calls Tryd.prog 178 #[.pointer (some ⟨d, 0, none⟩), .int .i64 ((q : Int))] W (TxRet d s (i + 1 + 2) (q) (c + 1) false W) from by
        have := text_any d s hs (i + 1 + 2) (q) (by omega) (by omega) (c + 1) false W h
        rw [decide_eq_false hf] at this
        exact this)
      have hn64 : In64 0 := in0
      go_enter Tryd.func120, Tryd.ntmps120
      go_wp2_with fail
      refine (WD.out _ HU5.out).mono ?_
      rintro e6 w6 ⟨⟨rfl, hu6⟩, ht6⟩
      have hz6 := ht6.size
      rw [hz5] at hz6
      have BZ6 := Lib.hid (show Box w6 w.heap.size 0 0 0 ⟨#[]⟩ (.slice none 0 0) 26 from (ht6.block w.heap.size (by omega) hd2).trans BZ5.out)
      have HU6 := Lib.hid hu6
      have HT6 := Lib.hid (HT5.out.trans ht6)
      clear z0 z1 z2 z3 z4 zf0 zf1 zf2 zf3 zf4 u0 u1 u2 u3 f1 f2 f3 hu6 ht6
      obtain ⟨z0, z1, z2, z3, z4⟩ := BZ6.out.cells
      have zf0 := BZ6.out.free (i := 0); have zf1 := BZ6.out.free (i := 1); have zf2 := BZ6.out.free (i := 2); have zf3 := BZ6.out.free (i := 3); have zf4 := BZ6.out.free (i := 4)
      obtain ⟨u0, u1, u2, u3, f1, f2, f3⟩ := HU6.out.cells
      go_wp2_with fail
      refine (IA.out _).mono ?_
      rintro e97 w97 ⟨rfl, rfl⟩
      go_wp2_with fail
      refine (IB.out _).mono ?_
      rintro e98 w98 ⟨rfl, rfl⟩
      go_wp2_with fail
      refine (WE2.out _ HU6.out).mono ?_
      rintro e7 w7 ⟨⟨rfl, hu7⟩, ht7⟩
      have hz7 := ht7.size
      have BZ7 := Lib.hid (show Box w7 w.heap.size 0 0 0 ⟨#[]⟩ (.slice none 0 0) 26 from (ht7.block w.heap.size (by omega) hd2).trans BZ6.out)
      have HU7 := Lib.hid hu7
      have HT7 := Lib.hid (HT6.out.trans ht7)
      clear z0 z1 z2 z3 z4 zf0 zf1 zf2 zf3 zf4 u0 u1 u2 u3 f1 f2 f3 hu7 ht7
      obtain ⟨z0, z1, z2, z3, z4⟩ := BZ7.out.cells
      have zf0 := BZ7.out.free (i := 0); have zf1 := BZ7.out.free (i := 1); have zf2 := BZ7.out.free (i := 2); have zf3 := BZ7.out.free (i := 3); have zf4 := BZ7.out.free (i := 4)
      obtain ⟨u0, u1, u2, u3, f1, f2, f3⟩ := HU7.out.cells
      go_wp2_with fail
      refine (TX.out _ HU7.out).mono ?_
      rintro e8 w8 ⟨⟨rfl, hu8⟩, ht8⟩
      have hz8 := ht8.size
      have BZ8 := Lib.hid (show Box w8 w.heap.size 0 0 0 ⟨#[]⟩ (.slice none 0 0) 26 from (ht8.block w.heap.size (by omega) hd2).trans BZ7.out)
      have HU8 := Lib.hid hu8
      have HT8 := Lib.hid (HT7.out.trans ht8)
      clear z0 z1 z2 z3 z4 zf0 zf1 zf2 zf3 zf4 u0 u1 u2 u3 f1 f2 f3 hu8 ht8
      obtain ⟨z0, z1, z2, z3, z4⟩ := BZ8.out.cells
      have zf0 := BZ8.out.free (i := 0); have zf1 := BZ8.out.free (i := 1); have zf2 := BZ8.out.free (i := 2); have zf3 := BZ8.out.free (i := 3); have zf4 := BZ8.out.free (i := 4)
      have HP := Lib.hid (fun v0 v1 v2 v3 v4 => show UmRet d s (none) w (.returned (.agg #[.int .i64 5, .int .i64 (0), .int .i64 (0), .string ⟨#[]⟩, .slice none 0 0])) (set5 w8 w.heap.size v0 v1 v2 v3 v4) from
        um_pass (s := s) (o := none) (t := .mk 5 (0) (0) ⟨#[]⟩ []) (Fr := fun _ => False) HT8.out (Nat.le_refl _) hd1 ⟨k64 5 (by omega) (by omega), hn64, in0, by show ByteArray.size ⟨#[]⟩ ≤ _; simp [ByteArray.size]⟩ (OwnS.nil _ _) (fun _ h => h.elim) (fun q e9 => by cases e9) (show UmSt d s none w8 from ⟨i + 1 + 2, _, by omega, HU8.out⟩) v0 v1 v2 v3 v4)
      go_wp2_with fail
      refine bodyPost_ret (v := .agg #[.int .i64 5, .int .i64 0, .int .i64 0, .string ⟨#[]⟩, .slice none 0 0]) (by simp [results, Tryd.results120, go_sem, z0, z1, z2, z3, z4]) rfl (HP.out _ _ _ _ _)
set_option maxRecDepth 100000 in
set_option maxHeartbeats 4000000 in
theorem value_k220 (d : Nat) (s : ByteArray) (hs : s.size ≤ 1048576) (g : Nat → Nat → MG) (hg : ∀ i l, MGood s i l (g i l)) (deep : Int) (hd : 0 ≤ deep ∧ deep ≤ 12)
    (hV : ∀ (i l : Nat) (W : World), i ≤ s.size → l ≤ 300 → UB W d s i (300 - (l : Int)) false → Calls Tryd.prog 120 #[.pointer (some ⟨d, 0, none⟩), .int .i64 (deep + 1)] W (UmRet d s (g i l) W)) (i l : Nat) (hi : i < s.size) (hl : l + 1 ≤ 300) (w : World) (hU : UB w d s i (300 - ((l + 1 : Nat) : Int)) false) (hb : wgo s i 1 = some 220)  :
    Calls Tryd.prog 120 #[.pointer (some ⟨d, 0, none⟩), .int .i64 deep] w (UmRet d s ((wgo s (i + 1) 2).bind fun n => mgNode 7 0 (mgKids g n.toNat (i + 1 + 2) l)) w) := by
  have hdw := lt_of_heap hU
  obtain ⟨c, hc⟩ : ∃ c : Int, c = 300 - ((l + 1 : Nat) : Int) := ⟨_, rfl⟩
  rw [← hc] at hU
  have HU := Lib.hid hU
  obtain ⟨u0, u1, u2, u3, f1, f2, f3⟩ := hU.cells
  have hd1 : d ≠ w.heap.size := by omega
  have hd2 : w.heap.size ≠ d := by omega
  have hc0 : 0 ≤ c := by omega
  have hc1 : c + 1 ≤ 300 := by omega
  have HCL := Lib.hid (show c + 1 = 300 - (l : Int) by omega)
  clear hc
  have HU5 := Lib.hid (show UB ((w.setCell ⟨d, 2, none⟩ (.int .i64 (c + 1))).alloc (.cells #[.int .i64 0, .int .i64 0, .int .i64 0, .string ⟨#[]⟩, .slice none 0 0] 26)) d s i (c + 1) false from (HU.out.setC (c + 1)).stay ((Below.refl _ _).alloc (Nat.le_refl _) _))
  have HT5 := Lib.hid (show Touch (fun x => x = d) (fun x => x = d) w ((w.setCell ⟨d, 2, none⟩ (.int .i64 (c + 1))).alloc (.cells #[.int .i64 0, .int .i64 0, .int .i64 0, .string ⟨#[]⟩, .slice none 0 0] 26)) from ((Touch.refl _ w).cellD _).trans (Touch.of_below ((Below.refl _ _).alloc (Nat.le_refl _) _)))
  have BZ5 := Lib.hid (show Box ((w.setCell ⟨d, 2, none⟩ (.int .i64 (c + 1))).alloc (.cells #[.int .i64 0, .int .i64 0, .int .i64 0, .string ⟨#[]⟩, .slice none 0 0] 26)) w.heap.size 0 0 0 ⟨#[]⟩ (.slice none 0 0) 26 from heap_alloc_here _ (by simp))
  have hz5 : ((w.setCell ⟨d, 2, none⟩ (.int .i64 (c + 1))).alloc (.cells #[.int .i64 0, .int .i64 0, .int .i64 0, .string ⟨#[]⟩, .slice none 0 0] 26)).heap.size = w.heap.size + 1 := by simp
  have BZ := Lib.hid (Box.new w 0 0 0 ⟨#[]⟩ (.slice none 0 0) 26)
  obtain ⟨z0, z1, z2, z3, z4⟩ := BZ.out.cells
  have zf0 := BZ.out.free (i := 0); have zf1 := BZ.out.free (i := 1); have zf2 := BZ.out.free (i := 2); have zf3 := BZ.out.free (i := 3); have zf4 := BZ.out.free (i := 4)
  have WD := Lib.hid (fun (W : World) (h : UB W d s i (c + 1) false) => show Calls Tryd.prog 176 #[.pointer (some ⟨d, 0, none⟩), .int .i64 1] W (WdRet d s i 1 (c + 1) (some 220) W) from by
    have := wide_any d s hs i 1 (by omega) (by omega) (by omega) (c + 1) false W h
    rw [if_neg (by simp), hb] at this; exact this)
  have WE := Lib.hid (fun (o : Option Int) (ho : wgo s (i + 1) 2 = o) (W : World) (h : UB W d s (i + 1) (c + 1) false) => show Calls Tryd.prog 176 #[.pointer (some ⟨d, 0, none⟩), .int .i64 2] W (WdRet d s (i + 1) 2 (c + 1) o W) from by
    have := wide_any d s hs (i + 1) 2 (by omega) (by omega) (by omega) (c + 1) false W h
    rw [if_neg (by simp), ho] at this; exact this)
  have IA := Lib.hid (fun W => within_no 220 204 207 W (by omega))
  have IB := Lib.hid (fun W => within_no 220 208 211 W (by omega))
  have WI := Lib.hid (fun n (h : wgo s (i + 1) 2 = some n) => wgo_small h (by omega))
  cases ho : wgo s (i + 1) 2 with
  | none =>
    have WE2 := Lib.hid (WE.out _ ho)
    clear WI WE ho hV hg
    show Calls _ _ _ _ (UmRet d s none w)
    have MN := Lib.hid (fun (W : World) (h : UB W d s (i + 1) (c + 1) true) => many_bad d s 0 (deep + 1) (i + 1) (by omega) (c + 1) W h)
    go_enter Tryd.func120, Tryd.ntmps120
    go_wp2_with fail
    refine (WD.out _ HU5.out).mono ?_
    rintro e6 w6 ⟨⟨rfl, hu6⟩, ht6⟩
    have hz6 := ht6.size
    rw [hz5] at hz6
    have BZ6 := Lib.hid (show Box w6 w.heap.size 0 0 0 ⟨#[]⟩ (.slice none 0 0) 26 from (ht6.block w.heap.size (by omega) hd2).trans BZ5.out)
    have HU6 := Lib.hid hu6
    have HT6 := Lib.hid (HT5.out.trans ht6)
    clear z0 z1 z2 z3 z4 zf0 zf1 zf2 zf3 zf4 u0 u1 u2 u3 f1 f2 f3 hu6 ht6
    obtain ⟨z0, z1, z2, z3, z4⟩ := BZ6.out.cells
    have zf0 := BZ6.out.free (i := 0); have zf1 := BZ6.out.free (i := 1); have zf2 := BZ6.out.free (i := 2); have zf3 := BZ6.out.free (i := 3); have zf4 := BZ6.out.free (i := 4)
    obtain ⟨u0, u1, u2, u3, f1, f2, f3⟩ := HU6.out.cells
    go_wp2_with fail
    refine (IA.out _).mono ?_
    rintro e97 w97 ⟨rfl, rfl⟩
    go_wp2_with fail
    refine (IB.out _).mono ?_
    rintro e98 w98 ⟨rfl, rfl⟩
    go_wp2_with fail
    refine (WE2.out _ HU6.out).mono ?_
    rintro e7 w7 ⟨⟨rfl, hu7⟩, ht7⟩
    have hz7 := ht7.size
    have BZ7 := Lib.hid (show Box w7 w.heap.size 0 0 0 ⟨#[]⟩ (.slice none 0 0) 26 from (ht7.block w.heap.size (by omega) hd2).trans BZ6.out)
    have HU7 := Lib.hid hu7
    have HT7 := Lib.hid (HT6.out.trans ht7)
    clear z0 z1 z2 z3 z4 zf0 zf1 zf2 zf3 zf4 u0 u1 u2 u3 f1 f2 f3 hu7 ht7
    obtain ⟨z0, z1, z2, z3, z4⟩ := BZ7.out.cells
    have zf0 := BZ7.out.free (i := 0); have zf1 := BZ7.out.free (i := 1); have zf2 := BZ7.out.free (i := 2); have zf3 := BZ7.out.free (i := 3); have zf4 := BZ7.out.free (i := 4)
    obtain ⟨u0, u1, u2, u3, f1, f2, f3⟩ := HU7.out.cells
    go_wp2_with fail
    refine (MN.out _ HU7.out).mono ?_
    rintro e8 w8 ⟨us, sl, rfl, ow, hq, hst, ht8⟩
    have hz8 := ht8.size
    have BZ8 := Lib.hid (show Box w8 w.heap.size 0 0 0 ⟨#[]⟩ (.slice none 0 0) 26 from (ht8.block w.heap.size (by omega) hd2).trans BZ7.out)
    have HT8 := Lib.hid (HT7.out.trans ht8)
    clear z0 z1 z2 z3 z4 zf0 zf1 zf2 zf3 zf4 u0 u1 u2 u3 f1 f2 f3 ht8
    obtain ⟨ua, un, uc, rfl⟩ : ∃ sa sn sc, sl = .slice sa sn sc := by obtain ⟨p, q, e⟩ := ow.slice; exact ⟨p, _, q, e⟩
    obtain ⟨z0, z1, z2, z3, z4⟩ := BZ8.out.cells
    have zf0 := BZ8.out.free (i := 0); have zf1 := BZ8.out.free (i := 1); have zf2 := BZ8.out.free (i := 2); have zf3 := BZ8.out.free (i := 3); have zf4 := BZ8.out.free (i := 4)
    have HP := Lib.hid (fun v0 v1 v2 v3 v4 => show UmRet d s none w (.returned (.agg #[.int .i64 7, .int .i64 0, .int .i64 0, .string ⟨#[]⟩, .slice ua un uc])) (set5 w8 w.heap.size v0 v1 v2 v3 v4) from
      um_pass (s := s) (t := .mk 7 0 0 ⟨#[]⟩ us) HT8.out (Nat.le_refl _) hd1 ⟨k64 7 (by omega) (by omega), in0, in0, by show ByteArray.size ⟨#[]⟩ ≤ _; simp [ByteArray.size]⟩ ow (fun x hx => by have hx' : w7.heap.size ≤ x := hx; omega) (node_q (k := 7) (n := 0) (o := none) hq) (node_st (k := 7) (n := 0) (o := none) hst) v0 v1 v2 v3 v4)
    clear ow hq hst MN
    go_wp2_with fail
    refine bodyPost_ret (v := .agg #[.int .i64 7, .int .i64 0, .int .i64 0, .string ⟨#[]⟩, .slice ua un uc]) (by simp [results, Tryd.results120, go_sem, z0, z1, z2, z3, z4]) rfl (HP.out _ _ _ _ _)
  | some n =>
    obtain ⟨q, rfl, hq, hfit⟩ := WI.out n ho
    have WE2 := Lib.hid (WE.out _ ho)
    clear WI WE ho
    show Calls _ _ _ _ (UmRet d s (mgNode 7 0 (mgKids g q (i + 1 + 2) l)) w)
    have MN := Lib.hid (fun (W : World) (h : UB W d s (i + 1 + 2) (c + 1) false) => show Calls Tryd.prog 177 #[.pointer (some ⟨d, 0, none⟩), .int .i64 ((q : Int)), .int .i64 (deep + 1)] W (UkRet d s (mgKids g (q) (i + 1 + 2) l) W) from by
      have := many_any d s hs g hg (deep + 1) hV (q) (i + 1 + 2) l (by omega) (by omega) (by omega) W (by rw [← HCL.out]; exact h)
      exact this)
    clear hV hg
    generalize mgKids g q (i + 1 + 2) l = o at *
    go_enter Tryd.func120, Tryd.ntmps120
    go_wp2_with fail
    refine (WD.out _ HU5.out).mono ?_
    rintro e6 w6 ⟨⟨rfl, hu6⟩, ht6⟩
    have hz6 := ht6.size
    rw [hz5] at hz6
    have BZ6 := Lib.hid (show Box w6 w.heap.size 0 0 0 ⟨#[]⟩ (.slice none 0 0) 26 from (ht6.block w.heap.size (by omega) hd2).trans BZ5.out)
    have HU6 := Lib.hid hu6
    have HT6 := Lib.hid (HT5.out.trans ht6)
    clear z0 z1 z2 z3 z4 zf0 zf1 zf2 zf3 zf4 u0 u1 u2 u3 f1 f2 f3 hu6 ht6
    obtain ⟨z0, z1, z2, z3, z4⟩ := BZ6.out.cells
    have zf0 := BZ6.out.free (i := 0); have zf1 := BZ6.out.free (i := 1); have zf2 := BZ6.out.free (i := 2); have zf3 := BZ6.out.free (i := 3); have zf4 := BZ6.out.free (i := 4)
    obtain ⟨u0, u1, u2, u3, f1, f2, f3⟩ := HU6.out.cells
    go_wp2_with fail
    refine (IA.out _).mono ?_
    rintro e97 w97 ⟨rfl, rfl⟩
    go_wp2_with fail
    refine (IB.out _).mono ?_
    rintro e98 w98 ⟨rfl, rfl⟩
    go_wp2_with fail
    refine (WE2.out _ HU6.out).mono ?_
    rintro e7 w7 ⟨⟨rfl, hu7⟩, ht7⟩
    have hz7 := ht7.size
    have BZ7 := Lib.hid (show Box w7 w.heap.size 0 0 0 ⟨#[]⟩ (.slice none 0 0) 26 from (ht7.block w.heap.size (by omega) hd2).trans BZ6.out)
    have HU7 := Lib.hid hu7
    have HT7 := Lib.hid (HT6.out.trans ht7)
    clear z0 z1 z2 z3 z4 zf0 zf1 zf2 zf3 zf4 u0 u1 u2 u3 f1 f2 f3 hu7 ht7
    obtain ⟨z0, z1, z2, z3, z4⟩ := BZ7.out.cells
    have zf0 := BZ7.out.free (i := 0); have zf1 := BZ7.out.free (i := 1); have zf2 := BZ7.out.free (i := 2); have zf3 := BZ7.out.free (i := 3); have zf4 := BZ7.out.free (i := 4)
    obtain ⟨u0, u1, u2, u3, f1, f2, f3⟩ := HU7.out.cells
    go_wp2_with fail
    refine (MN.out _ HU7.out).mono ?_
    rintro e8 w8 ⟨us, sl, rfl, ow, hq, hst, ht8⟩
    have hz8 := ht8.size
    have BZ8 := Lib.hid (show Box w8 w.heap.size 0 0 0 ⟨#[]⟩ (.slice none 0 0) 26 from (ht8.block w.heap.size (by omega) hd2).trans BZ7.out)
    have HT8 := Lib.hid (HT7.out.trans ht8)
    clear z0 z1 z2 z3 z4 zf0 zf1 zf2 zf3 zf4 u0 u1 u2 u3 f1 f2 f3 ht8
    obtain ⟨ua, un, uc, rfl⟩ : ∃ sa sn sc, sl = .slice sa sn sc := by obtain ⟨p, q, e⟩ := ow.slice; exact ⟨p, _, q, e⟩
    obtain ⟨z0, z1, z2, z3, z4⟩ := BZ8.out.cells
    have zf0 := BZ8.out.free (i := 0); have zf1 := BZ8.out.free (i := 1); have zf2 := BZ8.out.free (i := 2); have zf3 := BZ8.out.free (i := 3); have zf4 := BZ8.out.free (i := 4)
    have HP := Lib.hid (fun v0 v1 v2 v3 v4 => show UmRet d s (mgNode 7 0 (o)) w (.returned (.agg #[.int .i64 7, .int .i64 0, .int .i64 0, .string ⟨#[]⟩, .slice ua un uc])) (set5 w8 w.heap.size v0 v1 v2 v3 v4) from
      um_pass (s := s) (t := .mk 7 0 0 ⟨#[]⟩ us) HT8.out (Nat.le_refl _) hd1 ⟨k64 7 (by omega) (by omega), in0, in0, by show ByteArray.size ⟨#[]⟩ ≤ _; simp [ByteArray.size]⟩ ow (fun x hx => by have hx' : w7.heap.size ≤ x := hx; omega) (node_q hq) (node_st hst) v0 v1 v2 v3 v4)
    clear ow hq hst MN
    go_wp2_with fail
    refine bodyPost_ret (v := .agg #[.int .i64 7, .int .i64 0, .int .i64 0, .string ⟨#[]⟩, .slice ua un uc]) (by simp [results, Tryd.results120, go_sem, z0, z1, z2, z3, z4]) rfl (HP.out _ _ _ _ _)
set_option maxRecDepth 100000 in
set_option maxHeartbeats 4000000 in
theorem value_k222 (d : Nat) (s : ByteArray) (hs : s.size ≤ 1048576) (g : Nat → Nat → MG) (hg : ∀ i l, MGood s i l (g i l)) (deep : Int) (hd : 0 ≤ deep ∧ deep ≤ 12)
    (hV : ∀ (i l : Nat) (W : World), i ≤ s.size → l ≤ 300 → UB W d s i (300 - (l : Int)) false → Calls Tryd.prog 120 #[.pointer (some ⟨d, 0, none⟩), .int .i64 (deep + 1)] W (UmRet d s (g i l) W)) (i l : Nat) (hi : i < s.size) (hl : l + 1 ≤ 300) (w : World) (hU : UB w d s i (300 - ((l + 1 : Nat) : Int)) false) (hb : wgo s i 1 = some 222)  :
    Calls Tryd.prog 120 #[.pointer (some ⟨d, 0, none⟩), .int .i64 deep] w (UmRet d s ((wgo s (i + 1) 2).bind fun n => mgNode 8 0 (mgKids g (2 * n.toNat) (i + 1 + 2) l)) w) := by
  have hdw := lt_of_heap hU
  obtain ⟨c, hc⟩ : ∃ c : Int, c = 300 - ((l + 1 : Nat) : Int) := ⟨_, rfl⟩
  rw [← hc] at hU
  have HU := Lib.hid hU
  obtain ⟨u0, u1, u2, u3, f1, f2, f3⟩ := hU.cells
  have hd1 : d ≠ w.heap.size := by omega
  have hd2 : w.heap.size ≠ d := by omega
  have hc0 : 0 ≤ c := by omega
  have hc1 : c + 1 ≤ 300 := by omega
  have HCL := Lib.hid (show c + 1 = 300 - (l : Int) by omega)
  clear hc
  have HU5 := Lib.hid (show UB ((w.setCell ⟨d, 2, none⟩ (.int .i64 (c + 1))).alloc (.cells #[.int .i64 0, .int .i64 0, .int .i64 0, .string ⟨#[]⟩, .slice none 0 0] 26)) d s i (c + 1) false from (HU.out.setC (c + 1)).stay ((Below.refl _ _).alloc (Nat.le_refl _) _))
  have HT5 := Lib.hid (show Touch (fun x => x = d) (fun x => x = d) w ((w.setCell ⟨d, 2, none⟩ (.int .i64 (c + 1))).alloc (.cells #[.int .i64 0, .int .i64 0, .int .i64 0, .string ⟨#[]⟩, .slice none 0 0] 26)) from ((Touch.refl _ w).cellD _).trans (Touch.of_below ((Below.refl _ _).alloc (Nat.le_refl _) _)))
  have BZ5 := Lib.hid (show Box ((w.setCell ⟨d, 2, none⟩ (.int .i64 (c + 1))).alloc (.cells #[.int .i64 0, .int .i64 0, .int .i64 0, .string ⟨#[]⟩, .slice none 0 0] 26)) w.heap.size 0 0 0 ⟨#[]⟩ (.slice none 0 0) 26 from heap_alloc_here _ (by simp))
  have hz5 : ((w.setCell ⟨d, 2, none⟩ (.int .i64 (c + 1))).alloc (.cells #[.int .i64 0, .int .i64 0, .int .i64 0, .string ⟨#[]⟩, .slice none 0 0] 26)).heap.size = w.heap.size + 1 := by simp
  have BZ := Lib.hid (Box.new w 0 0 0 ⟨#[]⟩ (.slice none 0 0) 26)
  obtain ⟨z0, z1, z2, z3, z4⟩ := BZ.out.cells
  have zf0 := BZ.out.free (i := 0); have zf1 := BZ.out.free (i := 1); have zf2 := BZ.out.free (i := 2); have zf3 := BZ.out.free (i := 3); have zf4 := BZ.out.free (i := 4)
  have WD := Lib.hid (fun (W : World) (h : UB W d s i (c + 1) false) => show Calls Tryd.prog 176 #[.pointer (some ⟨d, 0, none⟩), .int .i64 1] W (WdRet d s i 1 (c + 1) (some 222) W) from by
    have := wide_any d s hs i 1 (by omega) (by omega) (by omega) (c + 1) false W h
    rw [if_neg (by simp), hb] at this; exact this)
  have WE := Lib.hid (fun (o : Option Int) (ho : wgo s (i + 1) 2 = o) (W : World) (h : UB W d s (i + 1) (c + 1) false) => show Calls Tryd.prog 176 #[.pointer (some ⟨d, 0, none⟩), .int .i64 2] W (WdRet d s (i + 1) 2 (c + 1) o W) from by
    have := wide_any d s hs (i + 1) 2 (by omega) (by omega) (by omega) (c + 1) false W h
    rw [if_neg (by simp), ho] at this; exact this)
  have IA := Lib.hid (fun W => within_no 222 204 207 W (by omega))
  have IB := Lib.hid (fun W => within_no 222 208 211 W (by omega))
  have WI := Lib.hid (fun n (h : wgo s (i + 1) 2 = some n) => wgo_small h (by omega))
  cases ho : wgo s (i + 1) 2 with
  | none =>
    have WE2 := Lib.hid (WE.out _ ho)
    clear WI WE ho hV hg
    show Calls _ _ _ _ (UmRet d s none w)
    have MN := Lib.hid (fun (W : World) (h : UB W d s (i + 1) (c + 1) true) => many_bad d s 0 (deep + 1) (i + 1) (by omega) (c + 1) W h)
    go_enter Tryd.func120, Tryd.ntmps120
    go_wp2_with fail
    refine (WD.out _ HU5.out).mono ?_
    rintro e6 w6 ⟨⟨rfl, hu6⟩, ht6⟩
    have hz6 := ht6.size
    rw [hz5] at hz6
    have BZ6 := Lib.hid (show Box w6 w.heap.size 0 0 0 ⟨#[]⟩ (.slice none 0 0) 26 from (ht6.block w.heap.size (by omega) hd2).trans BZ5.out)
    have HU6 := Lib.hid hu6
    have HT6 := Lib.hid (HT5.out.trans ht6)
    clear z0 z1 z2 z3 z4 zf0 zf1 zf2 zf3 zf4 u0 u1 u2 u3 f1 f2 f3 hu6 ht6
    obtain ⟨z0, z1, z2, z3, z4⟩ := BZ6.out.cells
    have zf0 := BZ6.out.free (i := 0); have zf1 := BZ6.out.free (i := 1); have zf2 := BZ6.out.free (i := 2); have zf3 := BZ6.out.free (i := 3); have zf4 := BZ6.out.free (i := 4)
    obtain ⟨u0, u1, u2, u3, f1, f2, f3⟩ := HU6.out.cells
    go_wp2_with fail
    refine (IA.out _).mono ?_
    rintro e97 w97 ⟨rfl, rfl⟩
    go_wp2_with fail
    refine (IB.out _).mono ?_
    rintro e98 w98 ⟨rfl, rfl⟩
    go_wp2_with fail
    refine (WE2.out _ HU6.out).mono ?_
    rintro e7 w7 ⟨⟨rfl, hu7⟩, ht7⟩
    have hz7 := ht7.size
    have BZ7 := Lib.hid (show Box w7 w.heap.size 0 0 0 ⟨#[]⟩ (.slice none 0 0) 26 from (ht7.block w.heap.size (by omega) hd2).trans BZ6.out)
    have HU7 := Lib.hid hu7
    have HT7 := Lib.hid (HT6.out.trans ht7)
    clear z0 z1 z2 z3 z4 zf0 zf1 zf2 zf3 zf4 u0 u1 u2 u3 f1 f2 f3 hu7 ht7
    obtain ⟨z0, z1, z2, z3, z4⟩ := BZ7.out.cells
    have zf0 := BZ7.out.free (i := 0); have zf1 := BZ7.out.free (i := 1); have zf2 := BZ7.out.free (i := 2); have zf3 := BZ7.out.free (i := 3); have zf4 := BZ7.out.free (i := 4)
    obtain ⟨u0, u1, u2, u3, f1, f2, f3⟩ := HU7.out.cells
    go_wp2_with fail
    refine (MN.out _ HU7.out).mono ?_
    rintro e8 w8 ⟨us, sl, rfl, ow, hq, hst, ht8⟩
    have hz8 := ht8.size
    have BZ8 := Lib.hid (show Box w8 w.heap.size 0 0 0 ⟨#[]⟩ (.slice none 0 0) 26 from (ht8.block w.heap.size (by omega) hd2).trans BZ7.out)
    have HT8 := Lib.hid (HT7.out.trans ht8)
    clear z0 z1 z2 z3 z4 zf0 zf1 zf2 zf3 zf4 u0 u1 u2 u3 f1 f2 f3 ht8
    obtain ⟨ua, un, uc, rfl⟩ : ∃ sa sn sc, sl = .slice sa sn sc := by obtain ⟨p, q, e⟩ := ow.slice; exact ⟨p, _, q, e⟩
    obtain ⟨z0, z1, z2, z3, z4⟩ := BZ8.out.cells
    have zf0 := BZ8.out.free (i := 0); have zf1 := BZ8.out.free (i := 1); have zf2 := BZ8.out.free (i := 2); have zf3 := BZ8.out.free (i := 3); have zf4 := BZ8.out.free (i := 4)
    have HP := Lib.hid (fun v0 v1 v2 v3 v4 => show UmRet d s none w (.returned (.agg #[.int .i64 8, .int .i64 0, .int .i64 0, .string ⟨#[]⟩, .slice ua un uc])) (set5 w8 w.heap.size v0 v1 v2 v3 v4) from
      um_pass (s := s) (t := .mk 8 0 0 ⟨#[]⟩ us) HT8.out (Nat.le_refl _) hd1 ⟨k64 8 (by omega) (by omega), in0, in0, by show ByteArray.size ⟨#[]⟩ ≤ _; simp [ByteArray.size]⟩ ow (fun x hx => by have hx' : w7.heap.size ≤ x := hx; omega) (node_q (k := 8) (n := 0) (o := none) hq) (node_st (k := 8) (n := 0) (o := none) hst) v0 v1 v2 v3 v4)
    clear ow hq hst MN
    go_wp2_with fail
    refine bodyPost_ret (v := .agg #[.int .i64 8, .int .i64 0, .int .i64 0, .string ⟨#[]⟩, .slice ua un uc]) (by simp [results, Tryd.results120, go_sem, z0, z1, z2, z3, z4]) rfl (HP.out _ _ _ _ _)
  | some n =>
    obtain ⟨q, rfl, hq, hfit⟩ := WI.out n ho
    have WE2 := Lib.hid (WE.out _ ho)
    clear WI WE ho
    show Calls _ _ _ _ (UmRet d s (mgNode 8 0 (mgKids g (2 * q) (i + 1 + 2) l)) w)
    have MN := Lib.hid (fun (W : World) (h : UB W d s (i + 1 + 2) (c + 1) false) => show Calls Tryd.prog 177 #[.pointer (some ⟨d, 0, none⟩), .int .i64 (2 * (q : Int)), .int .i64 (deep + 1)] W (UkRet d s (mgKids g ((2 * q)) (i + 1 + 2) l) W) from by
      have := many_any d s hs g hg (deep + 1) hV ((2 * q)) (i + 1 + 2) l (by omega) (by omega) (by omega) W (by rw [← HCL.out]; exact h)
      rw [show (((2 * q) : Nat) : Int) = 2 * (q : Int) by omega] at this
      exact this)
    clear hV hg
    generalize mgKids g (2 * q) (i + 1 + 2) l = o at *
    go_enter Tryd.func120, Tryd.ntmps120
    go_wp2_with fail
    refine (WD.out _ HU5.out).mono ?_
    rintro e6 w6 ⟨⟨rfl, hu6⟩, ht6⟩
    have hz6 := ht6.size
    rw [hz5] at hz6
    have BZ6 := Lib.hid (show Box w6 w.heap.size 0 0 0 ⟨#[]⟩ (.slice none 0 0) 26 from (ht6.block w.heap.size (by omega) hd2).trans BZ5.out)
    have HU6 := Lib.hid hu6
    have HT6 := Lib.hid (HT5.out.trans ht6)
    clear z0 z1 z2 z3 z4 zf0 zf1 zf2 zf3 zf4 u0 u1 u2 u3 f1 f2 f3 hu6 ht6
    obtain ⟨z0, z1, z2, z3, z4⟩ := BZ6.out.cells
    have zf0 := BZ6.out.free (i := 0); have zf1 := BZ6.out.free (i := 1); have zf2 := BZ6.out.free (i := 2); have zf3 := BZ6.out.free (i := 3); have zf4 := BZ6.out.free (i := 4)
    obtain ⟨u0, u1, u2, u3, f1, f2, f3⟩ := HU6.out.cells
    go_wp2_with fail
    refine (IA.out _).mono ?_
    rintro e97 w97 ⟨rfl, rfl⟩
    go_wp2_with fail
    refine (IB.out _).mono ?_
    rintro e98 w98 ⟨rfl, rfl⟩
    go_wp2_with fail
    refine (WE2.out _ HU6.out).mono ?_
    rintro e7 w7 ⟨⟨rfl, hu7⟩, ht7⟩
    have hz7 := ht7.size
    have BZ7 := Lib.hid (show Box w7 w.heap.size 0 0 0 ⟨#[]⟩ (.slice none 0 0) 26 from (ht7.block w.heap.size (by omega) hd2).trans BZ6.out)
    have HU7 := Lib.hid hu7
    have HT7 := Lib.hid (HT6.out.trans ht7)
    clear z0 z1 z2 z3 z4 zf0 zf1 zf2 zf3 zf4 u0 u1 u2 u3 f1 f2 f3 hu7 ht7
    obtain ⟨z0, z1, z2, z3, z4⟩ := BZ7.out.cells
    have zf0 := BZ7.out.free (i := 0); have zf1 := BZ7.out.free (i := 1); have zf2 := BZ7.out.free (i := 2); have zf3 := BZ7.out.free (i := 3); have zf4 := BZ7.out.free (i := 4)
    obtain ⟨u0, u1, u2, u3, f1, f2, f3⟩ := HU7.out.cells
    go_wp2_with fail
    refine (MN.out _ HU7.out).mono ?_
    rintro e8 w8 ⟨us, sl, rfl, ow, hq, hst, ht8⟩
    have hz8 := ht8.size
    have BZ8 := Lib.hid (show Box w8 w.heap.size 0 0 0 ⟨#[]⟩ (.slice none 0 0) 26 from (ht8.block w.heap.size (by omega) hd2).trans BZ7.out)
    have HT8 := Lib.hid (HT7.out.trans ht8)
    clear z0 z1 z2 z3 z4 zf0 zf1 zf2 zf3 zf4 u0 u1 u2 u3 f1 f2 f3 ht8
    obtain ⟨ua, un, uc, rfl⟩ : ∃ sa sn sc, sl = .slice sa sn sc := by obtain ⟨p, q, e⟩ := ow.slice; exact ⟨p, _, q, e⟩
    obtain ⟨z0, z1, z2, z3, z4⟩ := BZ8.out.cells
    have zf0 := BZ8.out.free (i := 0); have zf1 := BZ8.out.free (i := 1); have zf2 := BZ8.out.free (i := 2); have zf3 := BZ8.out.free (i := 3); have zf4 := BZ8.out.free (i := 4)
    have HP := Lib.hid (fun v0 v1 v2 v3 v4 => show UmRet d s (mgNode 8 0 (o)) w (.returned (.agg #[.int .i64 8, .int .i64 0, .int .i64 0, .string ⟨#[]⟩, .slice ua un uc])) (set5 w8 w.heap.size v0 v1 v2 v3 v4) from
      um_pass (s := s) (t := .mk 8 0 0 ⟨#[]⟩ us) HT8.out (Nat.le_refl _) hd1 ⟨k64 8 (by omega) (by omega), in0, in0, by show ByteArray.size ⟨#[]⟩ ≤ _; simp [ByteArray.size]⟩ ow (fun x hx => by have hx' : w7.heap.size ≤ x := hx; omega) (node_q hq) (node_st hst) v0 v1 v2 v3 v4)
    clear ow hq hst MN
    go_wp2_with fail
    refine bodyPost_ret (v := .agg #[.int .i64 8, .int .i64 0, .int .i64 0, .string ⟨#[]⟩, .slice ua un uc]) (by simp [results, Tryd.results120, go_sem, z0, z1, z2, z3, z4]) rfl (HP.out _ _ _ _ _)
set_option maxRecDepth 100000 in
set_option maxHeartbeats 4000000 in
theorem value_other (d : Nat) (s : ByteArray) (hs : s.size ≤ 1048576) (g : Nat → Nat → MG) (hg : ∀ i l, MGood s i l (g i l)) (deep : Int) (hd : 0 ≤ deep ∧ deep ≤ 12)
    (hV : ∀ (i l : Nat) (W : World), i ≤ s.size → l ≤ 300 → UB W d s i (300 - (l : Int)) false → Calls Tryd.prog 120 #[.pointer (some ⟨d, 0, none⟩), .int .i64 (deep + 1)] W (UmRet d s (g i l) W)) (i l : Nat) (hi : i < s.size) (hl : l + 1 ≤ 300) (w : World) (hU : UB w d s i (300 - ((l + 1 : Nat) : Int)) false) (bn : Nat) (hb : wgo s i 1 = some (bn : Int)) (h1 : bn = 193 ∨ bn = 198 ∨ (200 ≤ bn ∧ bn < 204) ∨ (212 ≤ bn ∧ bn < 217) ∨ bn = 219 ∨ bn = 221 ∨ bn = 223) :
    Calls Tryd.prog 120 #[.pointer (some ⟨d, 0, none⟩), .int .i64 deep] w (UmRet d s ((none : MG)) w) := by
  have hdw := lt_of_heap hU
  obtain ⟨c, hc⟩ : ∃ c : Int, c = 300 - ((l + 1 : Nat) : Int) := ⟨_, rfl⟩
  rw [← hc] at hU
  have HU := Lib.hid hU
  obtain ⟨u0, u1, u2, u3, f1, f2, f3⟩ := hU.cells
  have hd1 : d ≠ w.heap.size := by omega
  have hd2 : w.heap.size ≠ d := by omega
  have hc0 : 0 ≤ c := by omega
  have hc1 : c + 1 ≤ 300 := by omega
  have HCL := Lib.hid (show c + 1 = 300 - (l : Int) by omega)
  clear hc
  have HU5 := Lib.hid (show UB ((w.setCell ⟨d, 2, none⟩ (.int .i64 (c + 1))).alloc (.cells #[.int .i64 0, .int .i64 0, .int .i64 0, .string ⟨#[]⟩, .slice none 0 0] 26)) d s i (c + 1) false from (HU.out.setC (c + 1)).stay ((Below.refl _ _).alloc (Nat.le_refl _) _))
  have HT5 := Lib.hid (show Touch (fun x => x = d) (fun x => x = d) w ((w.setCell ⟨d, 2, none⟩ (.int .i64 (c + 1))).alloc (.cells #[.int .i64 0, .int .i64 0, .int .i64 0, .string ⟨#[]⟩, .slice none 0 0] 26)) from ((Touch.refl _ w).cellD _).trans (Touch.of_below ((Below.refl _ _).alloc (Nat.le_refl _) _)))
  have BZ5 := Lib.hid (show Box ((w.setCell ⟨d, 2, none⟩ (.int .i64 (c + 1))).alloc (.cells #[.int .i64 0, .int .i64 0, .int .i64 0, .string ⟨#[]⟩, .slice none 0 0] 26)) w.heap.size 0 0 0 ⟨#[]⟩ (.slice none 0 0) 26 from heap_alloc_here _ (by simp))
  have hz5 : ((w.setCell ⟨d, 2, none⟩ (.int .i64 (c + 1))).alloc (.cells #[.int .i64 0, .int .i64 0, .int .i64 0, .string ⟨#[]⟩, .slice none 0 0] 26)).heap.size = w.heap.size + 1 := by simp
  have BZ := Lib.hid (Box.new w 0 0 0 ⟨#[]⟩ (.slice none 0 0) 26)
  obtain ⟨z0, z1, z2, z3, z4⟩ := BZ.out.cells
  have zf0 := BZ.out.free (i := 0); have zf1 := BZ.out.free (i := 1); have zf2 := BZ.out.free (i := 2); have zf3 := BZ.out.free (i := 3); have zf4 := BZ.out.free (i := 4)
  have WD := Lib.hid (fun (W : World) (h : UB W d s i (c + 1) false) => show Calls Tryd.prog 176 #[.pointer (some ⟨d, 0, none⟩), .int .i64 1] W (WdRet d s i 1 (c + 1) (some (bn : Int)) W) from by
    have := wide_any d s hs i 1 (by omega) (by omega) (by omega) (c + 1) false W h
    rw [if_neg (by simp), hb] at this; exact this)
  have e192 : ((bn : Int) == 192) = false := by simp; omega
  have e194 : ((bn : Int) == 194) = false := by simp; omega
  have e195 : ((bn : Int) == 195) = false := by simp; omega
  have e196 : ((bn : Int) == 196) = false := by simp; omega
  have e197 : ((bn : Int) == 197) = false := by simp; omega
  have e199 : ((bn : Int) == 199) = false := by simp; omega
  have e217 : ((bn : Int) == 217) = false := by simp; omega
  have e218 : ((bn : Int) == 218) = false := by simp; omega
  have e220 : ((bn : Int) == 220) = false := by simp; omega
  have e222 : ((bn : Int) == 222) = false := by simp; omega
  have IA := Lib.hid (fun W => within_no (bn : Int) 204 207 W (by omega))
  have IB := Lib.hid (fun W => within_no (bn : Int) 208 211 W (by omega))
  clear hV hg
  go_enter Tryd.func120, Tryd.ntmps120
  go_wp2_with fail
  refine (WD.out _ HU5.out).mono ?_
  rintro e6 w6 ⟨⟨rfl, hu6⟩, ht6⟩
  have hz6 := ht6.size
  rw [hz5] at hz6
  have BZ6 := Lib.hid (show Box w6 w.heap.size 0 0 0 ⟨#[]⟩ (.slice none 0 0) 26 from (ht6.block w.heap.size (by omega) hd2).trans BZ5.out)
  have HU6 := Lib.hid hu6
  have HT6 := Lib.hid (HT5.out.trans ht6)
  clear z0 z1 z2 z3 z4 zf0 zf1 zf2 zf3 zf4 u0 u1 u2 u3 f1 f2 f3 hu6 ht6
  obtain ⟨z0, z1, z2, z3, z4⟩ := BZ6.out.cells
  have zf0 := BZ6.out.free (i := 0); have zf1 := BZ6.out.free (i := 1); have zf2 := BZ6.out.free (i := 2); have zf3 := BZ6.out.free (i := 3); have zf4 := BZ6.out.free (i := 4)
  obtain ⟨u0, u1, u2, u3, f1, f2, f3⟩ := HU6.out.cells
  have HP := Lib.hid (fun v0 v1 v2 v3 v4 => show UmRet d s none w (.returned (.agg #[.int .i64 0, .int .i64 0, .int .i64 0, .string ⟨#[]⟩, .slice none 0 0])) (set5 (w6.setCell ⟨d, 3, none⟩ (.bool true)) w.heap.size v0 v1 v2 v3 v4) from
    um_pass (s := s) (o := none) (t := .mk 0 0 0 ⟨#[]⟩ []) (Fr := fun _ => False) (HT6.out.cellD _) (Nat.le_refl _) hd1 ⟨in0, in0, in0, by show ByteArray.size ⟨#[]⟩ ≤ _; simp [ByteArray.size]⟩ (OwnS.nil _ _) (fun _ h => h.elim) (fun q e9 => by cases e9) (show UmSt d s none _ from ⟨i + 1, _, by omega, HU6.out.setB true⟩) v0 v1 v2 v3 v4)
  go_wp2_with fail
  refine (IA.out _).mono ?_
  rintro e97 w97 ⟨rfl, rfl⟩
  go_wp2_with fail
  refine (IB.out _).mono ?_
  rintro e98 w98 ⟨rfl, rfl⟩
  go_wp2_with fail
  refine bodyPost_ret (v := .agg #[.int .i64 0, .int .i64 0, .int .i64 0, .string ⟨#[]⟩, .slice none 0 0]) (by simp [results, Tryd.results120, go_sem, z0, z1, z2, z3, z4]) rfl (HP.out _ _ _ _ _)
end Go.Proofs.YtgbgeocmjdgmoaaDoor
namespace Go.Proofs.YtgbgeocmjdgmoaaDoor
set_option linter.unusedSimpArgs false
set_option linter.unusedVariables false
set_option maxRecDepth 100000
open Go.RowKit
theorem mgKids_one (g : Nat → Nat → MG) (p l : Nat) : mgKids g 1 p l = (g p l).map fun q => ([q.1], q.2) := rfl
theorem one_q {n : Int} {o : MG} {t : V} (h : ∀ q, o = some q → t = q.1) : ∀ q, mgNode 9 n (o.map fun q => ([q.1], q.2)) = some q → V.mk 9 n 0 ⟨#[]⟩ [t] = q.1 := by
  intro q e
  cases o with
  | none => cases e
  | some p =>
    have e2 : some (V.mk 9 n 0 ⟨#[]⟩ [p.1], p.2) = some q := e
    injection e2 with e2
    rw [← e2, h p rfl]
theorem one_st {n : Int} {d : Nat} {s : ByteArray} {o : MG} {w : World} (h : UmSt d s (o.map (·.2)) w) : UmSt d s ((mgNode 9 n (o.map fun q => ([q.1], q.2))).map (·.2)) w := by
  cases o <;> exact h
theorem wgo_one {s : ByteArray} {i : Nat} (h : i < s.size) : wgo s i 1 = some ((s[i].toNat : Nat) : Int) := by
  unfold wgo
  rw [if_pos (by omega), sub_succ s i 0 (by omega)]
  have hb := s[i].toNat_lt
  congr 1
  simp [sub, wval, wrap64]
  omega
set_option maxRecDepth 100000 in
set_option maxHeartbeats 4000000 in
theorem value_bad (d : Nat) (s : ByteArray) (hs : s.size ≤ 1048576) (deep : Int) (i : Nat) (hi : i ≤ s.size) (c : Int) (w : World) (hU : UB w d s i c true) :
    Calls Tryd.prog 120 #[.pointer (some ⟨d, 0, none⟩), .int .i64 deep] w (UmRet d s none w) := by
  obtain ⟨c1, hc1⟩ : ∃ c1, c1 = wrap64 (c + 1) := ⟨_, rfl⟩
  have hw1 : wrap64 (c + 1) = c1 := hc1.symm
  clear hc1
  have hdw := lt_of_heap hU
  have HU := Lib.hid hU
  obtain ⟨u0, u1, u2, u3, f1, f2, f3⟩ := hU.cells
  have hd1 : d ≠ w.heap.size := by omega
  have hd2 : w.heap.size ≠ d := by omega
  have HU5 := Lib.hid (show UB ((w.setCell ⟨d, 2, none⟩ (.int .i64 c1)).alloc (.cells #[.int .i64 0, .int .i64 0, .int .i64 0, .string ⟨#[]⟩, .slice none 0 0] 26)) d s i c1 true from (HU.out.setC c1).stay ((Below.refl _ _).alloc (Nat.le_refl _) _))
  have HT5 := Lib.hid (show Touch (fun x => x = d) (fun x => x = d) w ((w.setCell ⟨d, 2, none⟩ (.int .i64 c1)).alloc (.cells #[.int .i64 0, .int .i64 0, .int .i64 0, .string ⟨#[]⟩, .slice none 0 0] 26)) from ((Touch.refl _ w).cellD _).trans (Touch.of_below ((Below.refl _ _).alloc (Nat.le_refl _) _)))
  have BZ5 := Lib.hid (show Box ((w.setCell ⟨d, 2, none⟩ (.int .i64 c1)).alloc (.cells #[.int .i64 0, .int .i64 0, .int .i64 0, .string ⟨#[]⟩, .slice none 0 0] 26)) w.heap.size 0 0 0 ⟨#[]⟩ (.slice none 0 0) 26 from heap_alloc_here _ (by simp))
  have hz5 : ((w.setCell ⟨d, 2, none⟩ (.int .i64 c1)).alloc (.cells #[.int .i64 0, .int .i64 0, .int .i64 0, .string ⟨#[]⟩, .slice none 0 0] 26)).heap.size = w.heap.size + 1 := by simp
  have BZ := Lib.hid (Box.new w 0 0 0 ⟨#[]⟩ (.slice none 0 0) 26)
  obtain ⟨z0, z1, z2, z3, z4⟩ := BZ.out.cells
  have zf0 := BZ.out.free (i := 0); have zf1 := BZ.out.free (i := 1); have zf2 := BZ.out.free (i := 2); have zf3 := BZ.out.free (i := 3); have zf4 := BZ.out.free (i := 4)
  have WD := Lib.hid (fun (W : World) (h : UB W d s i c1 true) => show Calls Tryd.prog 176 #[.pointer (some ⟨d, 0, none⟩), .int .i64 1] W (WdRet d s i 1 c1 none W) from by
    have := wide_any d s hs i 1 (by omega) (by omega) (by omega) c1 true W h
    rw [if_pos rfl] at this
    exact this)
  go_enter Tryd.func120, Tryd.ntmps120
  go_wp2_with fail
  refine (WD.out _ HU5.out).mono ?_
  rintro e6 w6 ⟨⟨rfl, hu6⟩, ht6⟩
  have hz6 := ht6.size
  rw [hz5] at hz6
  have BZ6 := Lib.hid (show Box w6 w.heap.size 0 0 0 ⟨#[]⟩ (.slice none 0 0) 26 from (ht6.block w.heap.size (by omega) hd2).trans BZ5.out)
  have HU6 := Lib.hid hu6
  have HT6 := Lib.hid (HT5.out.trans ht6)
  clear z0 z1 z2 z3 z4 zf0 zf1 zf2 zf3 zf4 u0 u1 u2 u3 f1 f2 f3 hu6 ht6
  obtain ⟨z0, z1, z2, z3, z4⟩ := BZ6.out.cells
  have zf0 := BZ6.out.free (i := 0); have zf1 := BZ6.out.free (i := 1); have zf2 := BZ6.out.free (i := 2); have zf3 := BZ6.out.free (i := 3); have zf4 := BZ6.out.free (i := 4)
  obtain ⟨u0, u1, u2, u3, f1, f2, f3⟩ := HU6.out.cells
  have HP := Lib.hid (fun v0 v1 v2 v3 v4 => show UmRet d s none w (.returned (.agg #[.int .i64 0, .int .i64 0, .int .i64 0, .string ⟨#[]⟩, .slice none 0 0])) (set5 (w6.setCell ⟨d, 3, none⟩ (.bool true)) w.heap.size v0 v1 v2 v3 v4) from
    um_pass (s := s) (o := none) (t := .mk 0 0 0 ⟨#[]⟩ []) (Fr := fun _ => False) (HT6.out.cellD _) (Nat.le_refl _) hd1 ⟨in0, in0, in0, by show ByteArray.size ⟨#[]⟩ ≤ _; simp [ByteArray.size]⟩ (OwnS.nil _ _) (fun _ h => h.elim) (fun q e9 => by cases e9) (show UmSt d s none _ from ⟨i, _, by omega, HU6.out.setB true⟩) v0 v1 v2 v3 v4)
  go_wp2_with fail
  refine bodyPost_ret (v := .agg #[.int .i64 0, .int .i64 0, .int .i64 0, .string ⟨#[]⟩, .slice none 0 0]) (by simp [results, Tryd.results120, go_sem, z0, z1, z2, z3, z4]) rfl (HP.out _ _ _ _ _)
set_option maxRecDepth 100000 in
set_option maxHeartbeats 4000000 in
theorem value_end (d : Nat) (s : ByteArray) (hs : s.size ≤ 1048576) (deep : Int) (i : Nat) (hi : i ≤ s.size) (c : Int) (hc : 0 ≤ c ∧ c ≤ 1000) (w : World) (hU : UB w d s i c false) (ho : wgo s i 1 = none) :
    Calls Tryd.prog 120 #[.pointer (some ⟨d, 0, none⟩), .int .i64 deep] w (UmRet d s none w) := by
  obtain ⟨hc0, hc2⟩ := hc
  obtain ⟨c1, hc1⟩ : ∃ c1, c1 = c + 1 := ⟨_, rfl⟩
  have hw1 : c + 1 = c1 := hc1.symm
  clear hc1
  have hdw := lt_of_heap hU
  have HU := Lib.hid hU
  obtain ⟨u0, u1, u2, u3, f1, f2, f3⟩ := hU.cells
  have hd1 : d ≠ w.heap.size := by omega
  have hd2 : w.heap.size ≠ d := by omega
  have HU5 := Lib.hid (show UB ((w.setCell ⟨d, 2, none⟩ (.int .i64 c1)).alloc (.cells #[.int .i64 0, .int .i64 0, .int .i64 0, .string ⟨#[]⟩, .slice none 0 0] 26)) d s i c1 false from (HU.out.setC c1).stay ((Below.refl _ _).alloc (Nat.le_refl _) _))
  have HT5 := Lib.hid (show Touch (fun x => x = d) (fun x => x = d) w ((w.setCell ⟨d, 2, none⟩ (.int .i64 c1)).alloc (.cells #[.int .i64 0, .int .i64 0, .int .i64 0, .string ⟨#[]⟩, .slice none 0 0] 26)) from ((Touch.refl _ w).cellD _).trans (Touch.of_below ((Below.refl _ _).alloc (Nat.le_refl _) _)))
  have BZ5 := Lib.hid (show Box ((w.setCell ⟨d, 2, none⟩ (.int .i64 c1)).alloc (.cells #[.int .i64 0, .int .i64 0, .int .i64 0, .string ⟨#[]⟩, .slice none 0 0] 26)) w.heap.size 0 0 0 ⟨#[]⟩ (.slice none 0 0) 26 from heap_alloc_here _ (by simp))
  have hz5 : ((w.setCell ⟨d, 2, none⟩ (.int .i64 c1)).alloc (.cells #[.int .i64 0, .int .i64 0, .int .i64 0, .string ⟨#[]⟩, .slice none 0 0] 26)).heap.size = w.heap.size + 1 := by simp
  have BZ := Lib.hid (Box.new w 0 0 0 ⟨#[]⟩ (.slice none 0 0) 26)
  obtain ⟨z0, z1, z2, z3, z4⟩ := BZ.out.cells
  have zf0 := BZ.out.free (i := 0); have zf1 := BZ.out.free (i := 1); have zf2 := BZ.out.free (i := 2); have zf3 := BZ.out.free (i := 3); have zf4 := BZ.out.free (i := 4)
  have WD := Lib.hid (fun (W : World) (h : UB W d s i c1 false) => show Calls Tryd.prog 176 #[.pointer (some ⟨d, 0, none⟩), .int .i64 1] W (WdRet d s i 1 c1 none W) from by
    have := wide_any d s hs i 1 (by omega) (by omega) (by omega) c1 false W h
    rw [if_neg (by simp), ho] at this
    exact this)
  clear ho
  go_enter Tryd.func120, Tryd.ntmps120
  go_wp2_with fail
  refine (WD.out _ HU5.out).mono ?_
  rintro e6 w6 ⟨⟨rfl, hu6⟩, ht6⟩
  have hz6 := ht6.size
  rw [hz5] at hz6
  have BZ6 := Lib.hid (show Box w6 w.heap.size 0 0 0 ⟨#[]⟩ (.slice none 0 0) 26 from (ht6.block w.heap.size (by omega) hd2).trans BZ5.out)
  have HU6 := Lib.hid hu6
  have HT6 := Lib.hid (HT5.out.trans ht6)
  clear z0 z1 z2 z3 z4 zf0 zf1 zf2 zf3 zf4 u0 u1 u2 u3 f1 f2 f3 hu6 ht6
  obtain ⟨z0, z1, z2, z3, z4⟩ := BZ6.out.cells
  have zf0 := BZ6.out.free (i := 0); have zf1 := BZ6.out.free (i := 1); have zf2 := BZ6.out.free (i := 2); have zf3 := BZ6.out.free (i := 3); have zf4 := BZ6.out.free (i := 4)
  obtain ⟨u0, u1, u2, u3, f1, f2, f3⟩ := HU6.out.cells
  have HP := Lib.hid (fun v0 v1 v2 v3 v4 => show UmRet d s none w (.returned (.agg #[.int .i64 0, .int .i64 0, .int .i64 0, .string ⟨#[]⟩, .slice none 0 0])) (set5 (w6.setCell ⟨d, 3, none⟩ (.bool true)) w.heap.size v0 v1 v2 v3 v4) from
    um_pass (s := s) (o := none) (t := .mk 0 0 0 ⟨#[]⟩ []) (Fr := fun _ => False) (HT6.out.cellD _) (Nat.le_refl _) hd1 ⟨in0, in0, in0, by show ByteArray.size ⟨#[]⟩ ≤ _; simp [ByteArray.size]⟩ (OwnS.nil _ _) (fun _ h => h.elim) (fun q e9 => by cases e9) (show UmSt d s none _ from ⟨i, _, by omega, HU6.out.setB true⟩) v0 v1 v2 v3 v4)
  go_wp2_with fail
  refine bodyPost_ret (v := .agg #[.int .i64 0, .int .i64 0, .int .i64 0, .string ⟨#[]⟩, .slice none 0 0]) (by simp [results, Tryd.results120, go_sem, z0, z1, z2, z3, z4]) rfl (HP.out _ _ _ _ _)
set_option maxRecDepth 100000 in
set_option maxHeartbeats 4000000 in
theorem value_full (d : Nat) (s : ByteArray) (hs : s.size ≤ 1048576) (deep : Int) (i : Nat) (hi : i ≤ s.size) (c : Int) (hc : 300 ≤ c ∧ c ≤ 1000) (w : World) (hU : UB w d s i c false) (n : Int) (ho : wgo s i 1 = some n) (hin : i < s.size) :
    Calls Tryd.prog 120 #[.pointer (some ⟨d, 0, none⟩), .int .i64 deep] w (UmRet d s none w) := by
  obtain ⟨hc0, hc2⟩ := hc
  obtain ⟨c1, hc1⟩ : ∃ c1, c1 = c + 1 := ⟨_, rfl⟩
  have hw1 : c + 1 = c1 := hc1.symm
  have t3 : decide (300 < c1) = true := decide_eq_true (by omega)
  clear hc1
  have hdw := lt_of_heap hU
  have HU := Lib.hid hU
  obtain ⟨u0, u1, u2, u3, f1, f2, f3⟩ := hU.cells
  have hd1 : d ≠ w.heap.size := by omega
  have hd2 : w.heap.size ≠ d := by omega
  have HU5 := Lib.hid (show UB ((w.setCell ⟨d, 2, none⟩ (.int .i64 c1)).alloc (.cells #[.int .i64 0, .int .i64 0, .int .i64 0, .string ⟨#[]⟩, .slice none 0 0] 26)) d s i c1 false from (HU.out.setC c1).stay ((Below.refl _ _).alloc (Nat.le_refl _) _))
  have HT5 := Lib.hid (show Touch (fun x => x = d) (fun x => x = d) w ((w.setCell ⟨d, 2, none⟩ (.int .i64 c1)).alloc (.cells #[.int .i64 0, .int .i64 0, .int .i64 0, .string ⟨#[]⟩, .slice none 0 0] 26)) from ((Touch.refl _ w).cellD _).trans (Touch.of_below ((Below.refl _ _).alloc (Nat.le_refl _) _)))
  have BZ5 := Lib.hid (show Box ((w.setCell ⟨d, 2, none⟩ (.int .i64 c1)).alloc (.cells #[.int .i64 0, .int .i64 0, .int .i64 0, .string ⟨#[]⟩, .slice none 0 0] 26)) w.heap.size 0 0 0 ⟨#[]⟩ (.slice none 0 0) 26 from heap_alloc_here _ (by simp))
  have hz5 : ((w.setCell ⟨d, 2, none⟩ (.int .i64 c1)).alloc (.cells #[.int .i64 0, .int .i64 0, .int .i64 0, .string ⟨#[]⟩, .slice none 0 0] 26)).heap.size = w.heap.size + 1 := by simp
  have BZ := Lib.hid (Box.new w 0 0 0 ⟨#[]⟩ (.slice none 0 0) 26)
  obtain ⟨z0, z1, z2, z3, z4⟩ := BZ.out.cells
  have zf0 := BZ.out.free (i := 0); have zf1 := BZ.out.free (i := 1); have zf2 := BZ.out.free (i := 2); have zf3 := BZ.out.free (i := 3); have zf4 := BZ.out.free (i := 4)
  have WD := Lib.hid (fun (W : World) (h : UB W d s i c1 false) => show Calls Tryd.prog 176 #[.pointer (some ⟨d, 0, none⟩), .int .i64 1] W (WdRet d s i 1 c1 (some n) W) from by
    have := wide_any d s hs i 1 (by omega) (by omega) (by omega) c1 false W h
    rw [if_neg (by simp), ho] at this
    exact this)
  clear ho
  go_enter Tryd.func120, Tryd.ntmps120
  go_wp2_with fail
  refine (WD.out _ HU5.out).mono ?_
  rintro e6 w6 ⟨⟨rfl, hu6⟩, ht6⟩
  have hz6 := ht6.size
  rw [hz5] at hz6
  have BZ6 := Lib.hid (show Box w6 w.heap.size 0 0 0 ⟨#[]⟩ (.slice none 0 0) 26 from (ht6.block w.heap.size (by omega) hd2).trans BZ5.out)
  have HU6 := Lib.hid hu6
  have HT6 := Lib.hid (HT5.out.trans ht6)
  clear z0 z1 z2 z3 z4 zf0 zf1 zf2 zf3 zf4 u0 u1 u2 u3 f1 f2 f3 hu6 ht6
  obtain ⟨z0, z1, z2, z3, z4⟩ := BZ6.out.cells
  have zf0 := BZ6.out.free (i := 0); have zf1 := BZ6.out.free (i := 1); have zf2 := BZ6.out.free (i := 2); have zf3 := BZ6.out.free (i := 3); have zf4 := BZ6.out.free (i := 4)
  obtain ⟨u0, u1, u2, u3, f1, f2, f3⟩ := HU6.out.cells
  have HP := Lib.hid (fun v0 v1 v2 v3 v4 => show UmRet d s none w (.returned (.agg #[.int .i64 0, .int .i64 0, .int .i64 0, .string ⟨#[]⟩, .slice none 0 0])) (set5 (w6.setCell ⟨d, 3, none⟩ (.bool true)) w.heap.size v0 v1 v2 v3 v4) from
    um_pass (s := s) (o := none) (t := .mk 0 0 0 ⟨#[]⟩ []) (Fr := fun _ => False) (HT6.out.cellD _) (Nat.le_refl _) hd1 ⟨in0, in0, in0, by show ByteArray.size ⟨#[]⟩ ≤ _; simp [ByteArray.size]⟩ (OwnS.nil _ _) (fun _ h => h.elim) (fun q e9 => by cases e9) (show UmSt d s none _ from ⟨(i + 1), _, by omega, HU6.out.setB true⟩) v0 v1 v2 v3 v4)
  go_wp2_with fail
  refine bodyPost_ret (v := .agg #[.int .i64 0, .int .i64 0, .int .i64 0, .string ⟨#[]⟩, .slice none 0 0]) (by simp [results, Tryd.results120, go_sem, z0, z1, z2, z3, z4]) rfl (HP.out _ _ _ _ _)
set_option maxRecDepth 100000 in
set_option maxHeartbeats 4000000 in
theorem value_deep (d : Nat) (s : ByteArray) (hs : s.size ≤ 1048576) (deep : Int) (i : Nat) (hi : i ≤ s.size) (hd : deep = 13) (c : Int) (hc : 0 ≤ c ∧ c < 300) (w : World) (hU : UB w d s i c false) (n : Int) (ho : wgo s i 1 = some n) (hin : i < s.size) :
    Calls Tryd.prog 120 #[.pointer (some ⟨d, 0, none⟩), .int .i64 deep] w (UmRet d s none w) := by
  obtain ⟨hc0, hc2⟩ := hc
  obtain ⟨c1, hc1⟩ : ∃ c1, c1 = c + 1 := ⟨_, rfl⟩
  have hw1 : c + 1 = c1 := hc1.symm
  have t3 : decide (300 < c1) = false := decide_eq_false (by omega)
  clear hc1
  subst hd
  have hdw := lt_of_heap hU
  have HU := Lib.hid hU
  obtain ⟨u0, u1, u2, u3, f1, f2, f3⟩ := hU.cells
  have hd1 : d ≠ w.heap.size := by omega
  have hd2 : w.heap.size ≠ d := by omega
  have HU5 := Lib.hid (show UB ((w.setCell ⟨d, 2, none⟩ (.int .i64 c1)).alloc (.cells #[.int .i64 0, .int .i64 0, .int .i64 0, .string ⟨#[]⟩, .slice none 0 0] 26)) d s i c1 false from (HU.out.setC c1).stay ((Below.refl _ _).alloc (Nat.le_refl _) _))
  have HT5 := Lib.hid (show Touch (fun x => x = d) (fun x => x = d) w ((w.setCell ⟨d, 2, none⟩ (.int .i64 c1)).alloc (.cells #[.int .i64 0, .int .i64 0, .int .i64 0, .string ⟨#[]⟩, .slice none 0 0] 26)) from ((Touch.refl _ w).cellD _).trans (Touch.of_below ((Below.refl _ _).alloc (Nat.le_refl _) _)))
  have BZ5 := Lib.hid (show Box ((w.setCell ⟨d, 2, none⟩ (.int .i64 c1)).alloc (.cells #[.int .i64 0, .int .i64 0, .int .i64 0, .string ⟨#[]⟩, .slice none 0 0] 26)) w.heap.size 0 0 0 ⟨#[]⟩ (.slice none 0 0) 26 from heap_alloc_here _ (by simp))
  have hz5 : ((w.setCell ⟨d, 2, none⟩ (.int .i64 c1)).alloc (.cells #[.int .i64 0, .int .i64 0, .int .i64 0, .string ⟨#[]⟩, .slice none 0 0] 26)).heap.size = w.heap.size + 1 := by simp
  have BZ := Lib.hid (Box.new w 0 0 0 ⟨#[]⟩ (.slice none 0 0) 26)
  obtain ⟨z0, z1, z2, z3, z4⟩ := BZ.out.cells
  have zf0 := BZ.out.free (i := 0); have zf1 := BZ.out.free (i := 1); have zf2 := BZ.out.free (i := 2); have zf3 := BZ.out.free (i := 3); have zf4 := BZ.out.free (i := 4)
  have WD := Lib.hid (fun (W : World) (h : UB W d s i c1 false) => show Calls Tryd.prog 176 #[.pointer (some ⟨d, 0, none⟩), .int .i64 1] W (WdRet d s i 1 c1 (some n) W) from by
    have := wide_any d s hs i 1 (by omega) (by omega) (by omega) c1 false W h
    rw [if_neg (by simp), ho] at this
    exact this)
  clear ho
  go_enter Tryd.func120, Tryd.ntmps120
  go_wp2_with fail
  refine (WD.out _ HU5.out).mono ?_
  rintro e6 w6 ⟨⟨rfl, hu6⟩, ht6⟩
  have hz6 := ht6.size
  rw [hz5] at hz6
  have BZ6 := Lib.hid (show Box w6 w.heap.size 0 0 0 ⟨#[]⟩ (.slice none 0 0) 26 from (ht6.block w.heap.size (by omega) hd2).trans BZ5.out)
  have HU6 := Lib.hid hu6
  have HT6 := Lib.hid (HT5.out.trans ht6)
  clear z0 z1 z2 z3 z4 zf0 zf1 zf2 zf3 zf4 u0 u1 u2 u3 f1 f2 f3 hu6 ht6
  obtain ⟨z0, z1, z2, z3, z4⟩ := BZ6.out.cells
  have zf0 := BZ6.out.free (i := 0); have zf1 := BZ6.out.free (i := 1); have zf2 := BZ6.out.free (i := 2); have zf3 := BZ6.out.free (i := 3); have zf4 := BZ6.out.free (i := 4)
  obtain ⟨u0, u1, u2, u3, f1, f2, f3⟩ := HU6.out.cells
  have HP := Lib.hid (fun v0 v1 v2 v3 v4 => show UmRet d s none w (.returned (.agg #[.int .i64 0, .int .i64 0, .int .i64 0, .string ⟨#[]⟩, .slice none 0 0])) (set5 (w6.setCell ⟨d, 3, none⟩ (.bool true)) w.heap.size v0 v1 v2 v3 v4) from
    um_pass (s := s) (o := none) (t := .mk 0 0 0 ⟨#[]⟩ []) (Fr := fun _ => False) (HT6.out.cellD _) (Nat.le_refl _) hd1 ⟨in0, in0, in0, by show ByteArray.size ⟨#[]⟩ ≤ _; simp [ByteArray.size]⟩ (OwnS.nil _ _) (fun _ h => h.elim) (fun q e9 => by cases e9) (show UmSt d s none _ from ⟨(i + 1), _, by omega, HU6.out.setB true⟩) v0 v1 v2 v3 v4)
  go_wp2_with fail
  refine bodyPost_ret (v := .agg #[.int .i64 0, .int .i64 0, .int .i64 0, .string ⟨#[]⟩, .slice none 0 0]) (by simp [results, Tryd.results120, go_sem, z0, z1, z2, z3, z4]) rfl (HP.out _ _ _ _ _)
set_option maxRecDepth 100000 in
set_option maxHeartbeats 4000000 in
theorem extended_no1 (d : Nat) (s : ByteArray) (hs : s.size ≤ 1048576) (g : Nat → Nat → MG) (deep : Int) (hd : 0 ≤ deep ∧ deep ≤ 12)
    (hV : ∀ (i l : Nat) (W : World), i ≤ s.size → l ≤ 300 → UB W d s i (300 - (l : Int)) false → Calls Tryd.prog 120 #[.pointer (some ⟨d, 0, none⟩), .int .i64 (deep + 1)] W (UmRet d s (g i l) W)) (i l : Nat) (hi : i ≤ s.size) (hl : l ≤ 300) (w : World) (hU : UB w d s i (300 - (l : Int)) false) (h : wgo s i 1 = none) :
    Calls Tryd.prog 179 #[.pointer (some ⟨d, 0, none⟩), .int .i64 deep] w (UmRet d s ((none : MG)) w) := by
  have hdw := lt_of_heap hU
  obtain ⟨c, hc⟩ : ∃ c : Int, c = 300 - (l : Int) := ⟨_, rfl⟩
  rw [← hc] at hU
  have HU := Lib.hid hU
  obtain ⟨u0, u1, u2, u3, f1, f2, f3⟩ := hU.cells
  have hd1 : d ≠ w.heap.size := by omega
  have hd2 : w.heap.size ≠ d := by omega
  have HCL := Lib.hid (show c = 300 - (l : Int) by omega)
  clear hc
  have HU5 := Lib.hid (show UB (w.alloc (.cells #[.int .i64 0, .int .i64 0, .int .i64 0, .string ⟨#[]⟩, .slice none 0 0] 26)) d s i c false from HU.out.stay ((Below.refl _ _).alloc (Nat.le_refl _) _))
  have HT5 := Lib.hid (show Touch (fun x => x = d) (fun x => x = d) w (w.alloc (.cells #[.int .i64 0, .int .i64 0, .int .i64 0, .string ⟨#[]⟩, .slice none 0 0] 26)) from Touch.of_below ((Below.refl _ _).alloc (Nat.le_refl _) _))
  have BZ5 := Lib.hid (show Box (w.alloc (.cells #[.int .i64 0, .int .i64 0, .int .i64 0, .string ⟨#[]⟩, .slice none 0 0] 26)) w.heap.size 0 0 0 ⟨#[]⟩ (.slice none 0 0) 26 from heap_alloc_here _ (by simp))
  have hz5 : (w.alloc (.cells #[.int .i64 0, .int .i64 0, .int .i64 0, .string ⟨#[]⟩, .slice none 0 0] 26)).heap.size = w.heap.size + 1 := by simp
  have BZ := Lib.hid (Box.new w 0 0 0 ⟨#[]⟩ (.slice none 0 0) 26)
  obtain ⟨z0, z1, z2, z3, z4⟩ := BZ.out.cells
  have zf0 := BZ.out.free (i := 0); have zf1 := BZ.out.free (i := 1); have zf2 := BZ.out.free (i := 2); have zf3 := BZ.out.free (i := 3); have zf4 := BZ.out.free (i := 4)
  have WA := Lib.hid (fun (W : World) (hub : UB W d s (i) c false) => show Calls Tryd.prog 176 #[.pointer (some ⟨d, 0, none⟩), .int .i64 1] W (WdRet d s (i) 1 c none W) from by
    have := wide_any d s hs (i) 1 (by omega) (by omega) (by omega) c false W hub
    rw [if_neg (by simp), h] at this
    exact this)
  have WB := Lib.hid (fun (W : World) (hub : UB W d s (i) c true) => show Calls Tryd.prog 176 #[.pointer (some ⟨d, 0, none⟩), .int .i64 1] W (WdRet d s (i) 1 c none W) from by
    have := wide_any d s hs (i) 1 (by omega) (by omega) (by omega) c true W hub
    rw [if_pos rfl] at this
    exact this)
  clear hV h
  go_enter Tryd.func179, Tryd.ntmps179
  go_wp2_with fail
  refine (WA.out _ HU5.out).mono ?_
  rintro e6 w6 ⟨⟨rfl, hu6⟩, ht6⟩
  have hz6 := ht6.size
  rw [hz5] at hz6
  have BZ6 := Lib.hid (show Box w6 w.heap.size 0 0 0 ⟨#[]⟩ (.slice none 0 0) 26 from (ht6.block w.heap.size (by omega) hd2).trans BZ5.out)
  have HU6 := Lib.hid hu6
  have HT6 := Lib.hid (HT5.out.trans ht6)
  clear z0 z1 z2 z3 z4 zf0 zf1 zf2 zf3 zf4 u0 u1 u2 u3 f1 f2 f3 hu6 ht6
  obtain ⟨z0, z1, z2, z3, z4⟩ := BZ6.out.cells
  have zf0 := BZ6.out.free (i := 0); have zf1 := BZ6.out.free (i := 1); have zf2 := BZ6.out.free (i := 2); have zf3 := BZ6.out.free (i := 3); have zf4 := BZ6.out.free (i := 4)
  obtain ⟨u0, u1, u2, u3, f1, f2, f3⟩ := HU6.out.cells
  go_wp2_with fail
  refine (WB.out _ HU6.out).mono ?_
  rintro e7 w7 ⟨⟨rfl, hu7⟩, ht7⟩
  have hz7 := ht7.size
  have BZ7 := Lib.hid (show Box w7 w.heap.size 0 0 0 ⟨#[]⟩ (.slice none 0 0) 26 from (ht7.block w.heap.size (by omega) hd2).trans BZ6.out)
  have HU7 := Lib.hid hu7
  have HT7 := Lib.hid (HT6.out.trans ht7)
  clear z0 z1 z2 z3 z4 zf0 zf1 zf2 zf3 zf4 u0 u1 u2 u3 f1 f2 f3 hu7 ht7
  obtain ⟨z0, z1, z2, z3, z4⟩ := BZ7.out.cells
  have zf0 := BZ7.out.free (i := 0); have zf1 := BZ7.out.free (i := 1); have zf2 := BZ7.out.free (i := 2); have zf3 := BZ7.out.free (i := 3); have zf4 := BZ7.out.free (i := 4)
  obtain ⟨u0, u1, u2, u3, f1, f2, f3⟩ := HU7.out.cells
  have HP := Lib.hid (fun v0 v1 v2 v3 v4 => show UmRet d s none w (.returned (.agg #[.int .i64 0, .int .i64 0, .int .i64 0, .string ⟨#[]⟩, .slice none 0 0])) (set5 (w7.setCell ⟨d, 3, none⟩ (.bool true)) w.heap.size v0 v1 v2 v3 v4) from
    um_pass (s := s) (o := none) (t := .mk 0 0 0 ⟨#[]⟩ []) (Fr := fun _ => False) (HT7.out.cellD _) (Nat.le_refl _) hd1 ⟨in0, in0, in0, by show ByteArray.size ⟨#[]⟩ ≤ _; simp [ByteArray.size]⟩ (OwnS.nil _ _) (fun _ h => h.elim) (fun q e9 => by cases e9) (show UmSt d s none _ from ⟨i, _, by omega, HU7.out.setB true⟩) v0 v1 v2 v3 v4)
  go_wp2_with fail
  refine bodyPost_ret (v := .agg #[.int .i64 0, .int .i64 0, .int .i64 0, .string ⟨#[]⟩, .slice none 0 0]) (by simp [results, Tryd.results179, go_sem, z0, z1, z2, z3, z4]) rfl (HP.out _ _ _ _ _)
set_option maxRecDepth 100000 in
set_option maxHeartbeats 4000000 in
theorem extended_no2 (d : Nat) (s : ByteArray) (hs : s.size ≤ 1048576) (g : Nat → Nat → MG) (deep : Int) (hd : 0 ≤ deep ∧ deep ≤ 12)
    (hV : ∀ (i l : Nat) (W : World), i ≤ s.size → l ≤ 300 → UB W d s i (300 - (l : Int)) false → Calls Tryd.prog 120 #[.pointer (some ⟨d, 0, none⟩), .int .i64 (deep + 1)] W (UmRet d s (g i l) W)) (i l : Nat) (hi : i ≤ s.size) (hl : l ≤ 300) (w : World) (hU : UB w d s i (300 - (l : Int)) false) (z : Int) (h : wgo s i 1 = some z) (h2 : wgo s (i + 1) 1 = none) :
    Calls Tryd.prog 179 #[.pointer (some ⟨d, 0, none⟩), .int .i64 deep] w (UmRet d s ((none : MG)) w) := by
  have hdw := lt_of_heap hU
  obtain ⟨c, hc⟩ : ∃ c : Int, c = 300 - (l : Int) := ⟨_, rfl⟩
  rw [← hc] at hU
  have HU := Lib.hid hU
  obtain ⟨u0, u1, u2, u3, f1, f2, f3⟩ := hU.cells
  have hd1 : d ≠ w.heap.size := by omega
  have hd2 : w.heap.size ≠ d := by omega
  have HCL := Lib.hid (show c = 300 - (l : Int) by omega)
  clear hc
  have HU5 := Lib.hid (show UB (w.alloc (.cells #[.int .i64 0, .int .i64 0, .int .i64 0, .string ⟨#[]⟩, .slice none 0 0] 26)) d s i c false from HU.out.stay ((Below.refl _ _).alloc (Nat.le_refl _) _))
  have HT5 := Lib.hid (show Touch (fun x => x = d) (fun x => x = d) w (w.alloc (.cells #[.int .i64 0, .int .i64 0, .int .i64 0, .string ⟨#[]⟩, .slice none 0 0] 26)) from Touch.of_below ((Below.refl _ _).alloc (Nat.le_refl _) _))
  have BZ5 := Lib.hid (show Box (w.alloc (.cells #[.int .i64 0, .int .i64 0, .int .i64 0, .string ⟨#[]⟩, .slice none 0 0] 26)) w.heap.size 0 0 0 ⟨#[]⟩ (.slice none 0 0) 26 from heap_alloc_here _ (by simp))
  have hz5 : (w.alloc (.cells #[.int .i64 0, .int .i64 0, .int .i64 0, .string ⟨#[]⟩, .slice none 0 0] 26)).heap.size = w.heap.size + 1 := by simp
  have BZ := Lib.hid (Box.new w 0 0 0 ⟨#[]⟩ (.slice none 0 0) 26)
  obtain ⟨z0, z1, z2, z3, z4⟩ := BZ.out.cells
  have zf0 := BZ.out.free (i := 0); have zf1 := BZ.out.free (i := 1); have zf2 := BZ.out.free (i := 2); have zf3 := BZ.out.free (i := 3); have zf4 := BZ.out.free (i := 4)
  have WI := (wgo_in h).2
  have WA := Lib.hid (fun (W : World) (hub : UB W d s (i) c false) => show Calls Tryd.prog 176 #[.pointer (some ⟨d, 0, none⟩), .int .i64 1] W (WdRet d s (i) 1 c (some z) W) from by
    have := wide_any d s hs (i) 1 (by omega) (by omega) (by omega) c false W hub
    rw [if_neg (by simp), h] at this
    exact this)
  have WB := Lib.hid (fun (W : World) (hub : UB W d s (i + 1) c false) => show Calls Tryd.prog 176 #[.pointer (some ⟨d, 0, none⟩), .int .i64 1] W (WdRet d s (i + 1) 1 c none W) from by
    have := wide_any d s hs (i + 1) 1 (by omega) (by omega) (by omega) c false W hub
    rw [if_neg (by simp), h2] at this
    exact this)
  clear hV h h2
  have hc3 : z = 9 ∨ z = 4 ∨ (z == 9) = false ∧ (z == 4) = false := by
    by_cases h9 : z = 9
    · exact .inl h9
    · by_cases h4 : z = 4
      · exact .inr (.inl h4)
      · exact .inr (.inr ⟨by simpa using h9, by simpa using h4⟩)
  rcases hc3 with rfl | rfl | ⟨t1, t2⟩
  all_goals
    go_enter Tryd.func179, Tryd.ntmps179
    go_wp2_with fail
    refine (WA.out _ HU5.out).mono ?_
    rintro e6 w6 ⟨⟨rfl, hu6⟩, ht6⟩
    have hz6 := ht6.size
    rw [hz5] at hz6
    have BZ6 := Lib.hid (show Box w6 w.heap.size 0 0 0 ⟨#[]⟩ (.slice none 0 0) 26 from (ht6.block w.heap.size (by omega) hd2).trans BZ5.out)
    have HU6 := Lib.hid hu6
    have HT6 := Lib.hid (HT5.out.trans ht6)
    clear z0 z1 z2 z3 z4 zf0 zf1 zf2 zf3 zf4 u0 u1 u2 u3 f1 f2 f3 hu6 ht6
    obtain ⟨z0, z1, z2, z3, z4⟩ := BZ6.out.cells
    have zf0 := BZ6.out.free (i := 0); have zf1 := BZ6.out.free (i := 1); have zf2 := BZ6.out.free (i := 2); have zf3 := BZ6.out.free (i := 3); have zf4 := BZ6.out.free (i := 4)
    obtain ⟨u0, u1, u2, u3, f1, f2, f3⟩ := HU6.out.cells
    go_wp2_with fail
    refine (WB.out _ HU6.out).mono ?_
    rintro e7 w7 ⟨⟨rfl, hu7⟩, ht7⟩
    have hz7 := ht7.size
    have BZ7 := Lib.hid (show Box w7 w.heap.size 0 0 0 ⟨#[]⟩ (.slice none 0 0) 26 from (ht7.block w.heap.size (by omega) hd2).trans BZ6.out)
    have HU7 := Lib.hid hu7
    have HT7 := Lib.hid (HT6.out.trans ht7)
    clear z0 z1 z2 z3 z4 zf0 zf1 zf2 zf3 zf4 u0 u1 u2 u3 f1 f2 f3 hu7 ht7
    obtain ⟨z0, z1, z2, z3, z4⟩ := BZ7.out.cells
    have zf0 := BZ7.out.free (i := 0); have zf1 := BZ7.out.free (i := 1); have zf2 := BZ7.out.free (i := 2); have zf3 := BZ7.out.free (i := 3); have zf4 := BZ7.out.free (i := 4)
    obtain ⟨u0, u1, u2, u3, f1, f2, f3⟩ := HU7.out.cells
    have HP := Lib.hid (fun v0 v1 v2 v3 v4 => show UmRet d s none w (.returned (.agg #[.int .i64 0, .int .i64 0, .int .i64 0, .string ⟨#[]⟩, .slice none 0 0])) (set5 (w7.setCell ⟨d, 3, none⟩ (.bool true)) w.heap.size v0 v1 v2 v3 v4) from
      um_pass (s := s) (o := none) (t := .mk 0 0 0 ⟨#[]⟩ []) (Fr := fun _ => False) (HT7.out.cellD _) (Nat.le_refl _) hd1 ⟨in0, in0, in0, by show ByteArray.size ⟨#[]⟩ ≤ _; simp [ByteArray.size]⟩ (OwnS.nil _ _) (fun _ h => h.elim) (fun q e9 => by cases e9) (show UmSt d s none _ from ⟨i + 1, _, by omega, HU7.out.setB true⟩) v0 v1 v2 v3 v4)
    go_wp2_with fail
    refine bodyPost_ret (v := .agg #[.int .i64 0, .int .i64 0, .int .i64 0, .string ⟨#[]⟩, .slice none 0 0]) (by simp [results, Tryd.results179, go_sem, z0, z1, z2, z3, z4]) rfl (HP.out _ _ _ _ _)
set_option maxRecDepth 100000 in
set_option maxHeartbeats 4000000 in
theorem extended_no3 (d : Nat) (s : ByteArray) (hs : s.size ≤ 1048576) (g : Nat → Nat → MG) (deep : Int) (hd : 0 ≤ deep ∧ deep ≤ 12)
    (hV : ∀ (i l : Nat) (W : World), i ≤ s.size → l ≤ 300 → UB W d s i (300 - (l : Int)) false → Calls Tryd.prog 120 #[.pointer (some ⟨d, 0, none⟩), .int .i64 (deep + 1)] W (UmRet d s (g i l) W)) (i l : Nat) (hi : i ≤ s.size) (hl : l ≤ 300) (w : World) (hU : UB w d s i (300 - (l : Int)) false) (z q : Int) (h : wgo s i 1 = some z) (h2 : wgo s (i + 1) 1 = some q) (h3 : ((z == 9) = false ∨ (z = 9 ∧ (q == 4) = false)) ∧ ((z == 4) = false ∨ (z = 4 ∧ (q == 6) = false))) :
    Calls Tryd.prog 179 #[.pointer (some ⟨d, 0, none⟩), .int .i64 deep] w (UmRet d s ((none : MG)) w) := by
  have hdw := lt_of_heap hU
  obtain ⟨c, hc⟩ : ∃ c : Int, c = 300 - (l : Int) := ⟨_, rfl⟩
  rw [← hc] at hU
  have HU := Lib.hid hU
  obtain ⟨u0, u1, u2, u3, f1, f2, f3⟩ := hU.cells
  have hd1 : d ≠ w.heap.size := by omega
  have hd2 : w.heap.size ≠ d := by omega
  have HCL := Lib.hid (show c = 300 - (l : Int) by omega)
  clear hc
  have HU5 := Lib.hid (show UB (w.alloc (.cells #[.int .i64 0, .int .i64 0, .int .i64 0, .string ⟨#[]⟩, .slice none 0 0] 26)) d s i c false from HU.out.stay ((Below.refl _ _).alloc (Nat.le_refl _) _))
  have HT5 := Lib.hid (show Touch (fun x => x = d) (fun x => x = d) w (w.alloc (.cells #[.int .i64 0, .int .i64 0, .int .i64 0, .string ⟨#[]⟩, .slice none 0 0] 26)) from Touch.of_below ((Below.refl _ _).alloc (Nat.le_refl _) _))
  have BZ5 := Lib.hid (show Box (w.alloc (.cells #[.int .i64 0, .int .i64 0, .int .i64 0, .string ⟨#[]⟩, .slice none 0 0] 26)) w.heap.size 0 0 0 ⟨#[]⟩ (.slice none 0 0) 26 from heap_alloc_here _ (by simp))
  have hz5 : (w.alloc (.cells #[.int .i64 0, .int .i64 0, .int .i64 0, .string ⟨#[]⟩, .slice none 0 0] 26)).heap.size = w.heap.size + 1 := by simp
  have BZ := Lib.hid (Box.new w 0 0 0 ⟨#[]⟩ (.slice none 0 0) 26)
  obtain ⟨z0, z1, z2, z3, z4⟩ := BZ.out.cells
  have zf0 := BZ.out.free (i := 0); have zf1 := BZ.out.free (i := 1); have zf2 := BZ.out.free (i := 2); have zf3 := BZ.out.free (i := 3); have zf4 := BZ.out.free (i := 4)
  have WI := (wgo_in h2).2
  have WA := Lib.hid (fun (W : World) (hub : UB W d s (i) c false) => show Calls Tryd.prog 176 #[.pointer (some ⟨d, 0, none⟩), .int .i64 1] W (WdRet d s (i) 1 c (some z) W) from by
    have := wide_any d s hs (i) 1 (by omega) (by omega) (by omega) c false W hub
    rw [if_neg (by simp), h] at this
    exact this)
  have WB := Lib.hid (fun (W : World) (hub : UB W d s (i + 1) c false) => show Calls Tryd.prog 176 #[.pointer (some ⟨d, 0, none⟩), .int .i64 1] W (WdRet d s (i + 1) 1 c (some q) W) from by
    have := wide_any d s hs (i + 1) 1 (by omega) (by omega) (by omega) c false W hub
    rw [if_neg (by simp), h2] at this
    exact this)
  clear hV h h2
  obtain ⟨h3, h4⟩ := h3
  rcases h3 with h3 | ⟨rfl, h3⟩
  · rcases h4 with h4 | ⟨rfl, h4⟩
    all_goals
      go_enter Tryd.func179, Tryd.ntmps179
      go_wp2_with fail
      refine (WA.out _ HU5.out).mono ?_
      rintro e6 w6 ⟨⟨rfl, hu6⟩, ht6⟩
      have hz6 := ht6.size
      rw [hz5] at hz6
      have BZ6 := Lib.hid (show Box w6 w.heap.size 0 0 0 ⟨#[]⟩ (.slice none 0 0) 26 from (ht6.block w.heap.size (by omega) hd2).trans BZ5.out)
      have HU6 := Lib.hid hu6
      have HT6 := Lib.hid (HT5.out.trans ht6)
      clear z0 z1 z2 z3 z4 zf0 zf1 zf2 zf3 zf4 u0 u1 u2 u3 f1 f2 f3 hu6 ht6
      obtain ⟨z0, z1, z2, z3, z4⟩ := BZ6.out.cells
      have zf0 := BZ6.out.free (i := 0); have zf1 := BZ6.out.free (i := 1); have zf2 := BZ6.out.free (i := 2); have zf3 := BZ6.out.free (i := 3); have zf4 := BZ6.out.free (i := 4)
      obtain ⟨u0, u1, u2, u3, f1, f2, f3⟩ := HU6.out.cells
      go_wp2_with fail
      refine (WB.out _ HU6.out).mono ?_
      rintro e7 w7 ⟨⟨rfl, hu7⟩, ht7⟩
      have hz7 := ht7.size
      have BZ7 := Lib.hid (show Box w7 w.heap.size 0 0 0 ⟨#[]⟩ (.slice none 0 0) 26 from (ht7.block w.heap.size (by omega) hd2).trans BZ6.out)
      have HU7 := Lib.hid hu7
      have HT7 := Lib.hid (HT6.out.trans ht7)
      clear z0 z1 z2 z3 z4 zf0 zf1 zf2 zf3 zf4 u0 u1 u2 u3 f1 f2 f3 hu7 ht7
      obtain ⟨z0, z1, z2, z3, z4⟩ := BZ7.out.cells
      have zf0 := BZ7.out.free (i := 0); have zf1 := BZ7.out.free (i := 1); have zf2 := BZ7.out.free (i := 2); have zf3 := BZ7.out.free (i := 3); have zf4 := BZ7.out.free (i := 4)
      obtain ⟨u0, u1, u2, u3, f1, f2, f3⟩ := HU7.out.cells
      have HP := Lib.hid (fun v0 v1 v2 v3 v4 => show UmRet d s none w (.returned (.agg #[.int .i64 0, .int .i64 0, .int .i64 0, .string ⟨#[]⟩, .slice none 0 0])) (set5 (w7.setCell ⟨d, 3, none⟩ (.bool true)) w.heap.size v0 v1 v2 v3 v4) from
        um_pass (s := s) (o := none) (t := .mk 0 0 0 ⟨#[]⟩ []) (Fr := fun _ => False) (HT7.out.cellD _) (Nat.le_refl _) hd1 ⟨in0, in0, in0, by show ByteArray.size ⟨#[]⟩ ≤ _; simp [ByteArray.size]⟩ (OwnS.nil _ _) (fun _ h => h.elim) (fun q e9 => by cases e9) (show UmSt d s none _ from ⟨i + 1 + 1, _, by omega, HU7.out.setB true⟩) v0 v1 v2 v3 v4)
      go_wp2_with fail
      refine bodyPost_ret (v := .agg #[.int .i64 0, .int .i64 0, .int .i64 0, .string ⟨#[]⟩, .slice none 0 0]) (by simp [results, Tryd.results179, go_sem, z0, z1, z2, z3, z4]) rfl (HP.out _ _ _ _ _)
  · clear h4
    go_enter Tryd.func179, Tryd.ntmps179
    go_wp2_with fail
    refine (WA.out _ HU5.out).mono ?_
    rintro e6 w6 ⟨⟨rfl, hu6⟩, ht6⟩
    have hz6 := ht6.size
    rw [hz5] at hz6
    have BZ6 := Lib.hid (show Box w6 w.heap.size 0 0 0 ⟨#[]⟩ (.slice none 0 0) 26 from (ht6.block w.heap.size (by omega) hd2).trans BZ5.out)
    have HU6 := Lib.hid hu6
    have HT6 := Lib.hid (HT5.out.trans ht6)
    clear z0 z1 z2 z3 z4 zf0 zf1 zf2 zf3 zf4 u0 u1 u2 u3 f1 f2 f3 hu6 ht6
    obtain ⟨z0, z1, z2, z3, z4⟩ := BZ6.out.cells
    have zf0 := BZ6.out.free (i := 0); have zf1 := BZ6.out.free (i := 1); have zf2 := BZ6.out.free (i := 2); have zf3 := BZ6.out.free (i := 3); have zf4 := BZ6.out.free (i := 4)
    obtain ⟨u0, u1, u2, u3, f1, f2, f3⟩ := HU6.out.cells
    go_wp2_with fail
    refine (WB.out _ HU6.out).mono ?_
    rintro e7 w7 ⟨⟨rfl, hu7⟩, ht7⟩
    have hz7 := ht7.size
    have BZ7 := Lib.hid (show Box w7 w.heap.size 0 0 0 ⟨#[]⟩ (.slice none 0 0) 26 from (ht7.block w.heap.size (by omega) hd2).trans BZ6.out)
    have HU7 := Lib.hid hu7
    have HT7 := Lib.hid (HT6.out.trans ht7)
    clear z0 z1 z2 z3 z4 zf0 zf1 zf2 zf3 zf4 u0 u1 u2 u3 f1 f2 f3 hu7 ht7
    obtain ⟨z0, z1, z2, z3, z4⟩ := BZ7.out.cells
    have zf0 := BZ7.out.free (i := 0); have zf1 := BZ7.out.free (i := 1); have zf2 := BZ7.out.free (i := 2); have zf3 := BZ7.out.free (i := 3); have zf4 := BZ7.out.free (i := 4)
    obtain ⟨u0, u1, u2, u3, f1, f2, f3⟩ := HU7.out.cells
    have HP := Lib.hid (fun v0 v1 v2 v3 v4 => show UmRet d s none w (.returned (.agg #[.int .i64 0, .int .i64 0, .int .i64 0, .string ⟨#[]⟩, .slice none 0 0])) (set5 (w7.setCell ⟨d, 3, none⟩ (.bool true)) w.heap.size v0 v1 v2 v3 v4) from
      um_pass (s := s) (o := none) (t := .mk 0 0 0 ⟨#[]⟩ []) (Fr := fun _ => False) (HT7.out.cellD _) (Nat.le_refl _) hd1 ⟨in0, in0, in0, by show ByteArray.size ⟨#[]⟩ ≤ _; simp [ByteArray.size]⟩ (OwnS.nil _ _) (fun _ h => h.elim) (fun q e9 => by cases e9) (show UmSt d s none _ from ⟨i + 1 + 1, _, by omega, HU7.out.setB true⟩) v0 v1 v2 v3 v4)
    go_wp2_with fail
    refine bodyPost_ret (v := .agg #[.int .i64 0, .int .i64 0, .int .i64 0, .string ⟨#[]⟩, .slice none 0 0]) (by simp [results, Tryd.results179, go_sem, z0, z1, z2, z3, z4]) rfl (HP.out _ _ _ _ _)
set_option maxRecDepth 100000 in
set_option maxHeartbeats 4000000 in
theorem extended_94 (d : Nat) (s : ByteArray) (hs : s.size ≤ 1048576) (g : Nat → Nat → MG) (deep : Int) (hd : 0 ≤ deep ∧ deep ≤ 12)
    (hV : ∀ (i l : Nat) (W : World), i ≤ s.size → l ≤ 300 → UB W d s i (300 - (l : Int)) false → Calls Tryd.prog 120 #[.pointer (some ⟨d, 0, none⟩), .int .i64 (deep + 1)] W (UmRet d s (g i l) W)) (i l : Nat) (hi : i ≤ s.size) (hl : l ≤ 300) (w : World) (hU : UB w d s i (300 - (l : Int)) false) (h : wgo s i 1 = some 9) (h2 : wgo s (i + 1) 1 = some 4) :
    Calls Tryd.prog 179 #[.pointer (some ⟨d, 0, none⟩), .int .i64 deep] w (UmRet d s ((wgo s (i + 2) 1).bind fun e => (wgo s (i + 3) 8).bind fun n => mgLeaf 4 n (signN e 1) (i + 11) l) w) := by
  have hdw := lt_of_heap hU
  obtain ⟨c, hc⟩ : ∃ c : Int, c = 300 - (l : Int) := ⟨_, rfl⟩
  rw [← hc] at hU
  have HU := Lib.hid hU
  obtain ⟨u0, u1, u2, u3, f1, f2, f3⟩ := hU.cells
  have hd1 : d ≠ w.heap.size := by omega
  have hd2 : w.heap.size ≠ d := by omega
  have HCL := Lib.hid (show c = 300 - (l : Int) by omega)
  clear hc
  have HU5 := Lib.hid (show UB (w.alloc (.cells #[.int .i64 0, .int .i64 0, .int .i64 0, .string ⟨#[]⟩, .slice none 0 0] 26)) d s i c false from HU.out.stay ((Below.refl _ _).alloc (Nat.le_refl _) _))
  have HT5 := Lib.hid (show Touch (fun x => x = d) (fun x => x = d) w (w.alloc (.cells #[.int .i64 0, .int .i64 0, .int .i64 0, .string ⟨#[]⟩, .slice none 0 0] 26)) from Touch.of_below ((Below.refl _ _).alloc (Nat.le_refl _) _))
  have BZ5 := Lib.hid (show Box (w.alloc (.cells #[.int .i64 0, .int .i64 0, .int .i64 0, .string ⟨#[]⟩, .slice none 0 0] 26)) w.heap.size 0 0 0 ⟨#[]⟩ (.slice none 0 0) 26 from heap_alloc_here _ (by simp))
  have hz5 : (w.alloc (.cells #[.int .i64 0, .int .i64 0, .int .i64 0, .string ⟨#[]⟩, .slice none 0 0] 26)).heap.size = w.heap.size + 1 := by simp
  have BZ := Lib.hid (Box.new w 0 0 0 ⟨#[]⟩ (.slice none 0 0) 26)
  obtain ⟨z0, z1, z2, z3, z4⟩ := BZ.out.cells
  have zf0 := BZ.out.free (i := 0); have zf1 := BZ.out.free (i := 1); have zf2 := BZ.out.free (i := 2); have zf3 := BZ.out.free (i := 3); have zf4 := BZ.out.free (i := 4)
  have WI := (wgo_in h2).2
  have WA := Lib.hid (fun (W : World) (hub : UB W d s (i) c false) => show Calls Tryd.prog 176 #[.pointer (some ⟨d, 0, none⟩), .int .i64 1] W (WdRet d s (i) 1 c (some 9) W) from by
    have := wide_any d s hs (i) 1 (by omega) (by omega) (by omega) c false W hub
    rw [if_neg (by simp), h] at this
    exact this)
  have WB := Lib.hid (fun (W : World) (hub : UB W d s (i + 1) c false) => show Calls Tryd.prog 176 #[.pointer (some ⟨d, 0, none⟩), .int .i64 1] W (WdRet d s (i + 1) 1 c (some 4) W) from by
    have := wide_any d s hs (i + 1) 1 (by omega) (by omega) (by omega) c false W hub
    rw [if_neg (by simp), h2] at this
    exact this)
  clear hV h h2
  cases h3 : wgo s (i + 2) 1 with
  | none =>
    have he64 : In64 0 := in0
    have hs64 := signN_in 1 he64
    have WC := Lib.hid (fun (W : World) (hub : UB W d s (i + 2) c false) => show Calls Tryd.prog 176 #[.pointer (some ⟨d, 0, none⟩), .int .i64 1] W (WdRet d s (i + 2) 1 c none W) from by
      have := wide_any d s hs (i + 2) 1 (by omega) (by omega) (by omega) c false W hub
      rw [if_neg (by simp), h3] at this
      exact this)
    have SG := Lib.hid (fun W => SignOf_impl 0 1 W (by omega) (by omega) he64)
    have WE := Lib.hid (fun (W : World) (hub : UB W d s (i + 2) c true) => show Calls Tryd.prog 176 #[.pointer (some ⟨d, 0, none⟩), .int .i64 8] W (WdRet d s (i + 2) 8 c none W) from by
      have := wide_any d s hs (i + 2) 8 (by omega) (by omega) (by omega) c true W hub
      rw [if_pos rfl] at this
      exact this)
    clear h3
    show Calls _ _ _ _ (UmRet d s (none) w)
    go_enter Tryd.func179, Tryd.ntmps179
    go_wp2_with fail
    refine (WA.out _ HU5.out).mono ?_
    rintro e6 w6 ⟨⟨rfl, hu6⟩, ht6⟩
    have hz6 := ht6.size
    rw [hz5] at hz6
    have BZ6 := Lib.hid (show Box w6 w.heap.size 0 0 0 ⟨#[]⟩ (.slice none 0 0) 26 from (ht6.block w.heap.size (by omega) hd2).trans BZ5.out)
    have HU6 := Lib.hid hu6
    have HT6 := Lib.hid (HT5.out.trans ht6)
    clear z0 z1 z2 z3 z4 zf0 zf1 zf2 zf3 zf4 u0 u1 u2 u3 f1 f2 f3 hu6 ht6
    obtain ⟨z0, z1, z2, z3, z4⟩ := BZ6.out.cells
    have zf0 := BZ6.out.free (i := 0); have zf1 := BZ6.out.free (i := 1); have zf2 := BZ6.out.free (i := 2); have zf3 := BZ6.out.free (i := 3); have zf4 := BZ6.out.free (i := 4)
    obtain ⟨u0, u1, u2, u3, f1, f2, f3⟩ := HU6.out.cells
    go_wp2_with fail
    refine (WB.out _ HU6.out).mono ?_
    rintro e7 w7 ⟨⟨rfl, hu7⟩, ht7⟩
    have hz7 := ht7.size
    have BZ7 := Lib.hid (show Box w7 w.heap.size 0 0 0 ⟨#[]⟩ (.slice none 0 0) 26 from (ht7.block w.heap.size (by omega) hd2).trans BZ6.out)
    have HU7 := Lib.hid hu7
    have HT7 := Lib.hid (HT6.out.trans ht7)
    clear z0 z1 z2 z3 z4 zf0 zf1 zf2 zf3 zf4 u0 u1 u2 u3 f1 f2 f3 hu7 ht7
    obtain ⟨z0, z1, z2, z3, z4⟩ := BZ7.out.cells
    have zf0 := BZ7.out.free (i := 0); have zf1 := BZ7.out.free (i := 1); have zf2 := BZ7.out.free (i := 2); have zf3 := BZ7.out.free (i := 3); have zf4 := BZ7.out.free (i := 4)
    obtain ⟨u0, u1, u2, u3, f1, f2, f3⟩ := HU7.out.cells
    go_wp2_with fail
    refine (WC.out _ HU7.out).mono ?_
    rintro e8 w8 ⟨⟨rfl, hu8⟩, ht8⟩
    have hz8 := ht8.size
    have BZ8 := Lib.hid (show Box w8 w.heap.size 0 0 0 ⟨#[]⟩ (.slice none 0 0) 26 from (ht8.block w.heap.size (by omega) hd2).trans BZ7.out)
    have HU8 := Lib.hid hu8
    have HT8 := Lib.hid (HT7.out.trans ht8)
    clear z0 z1 z2 z3 z4 zf0 zf1 zf2 zf3 zf4 u0 u1 u2 u3 f1 f2 f3 hu8 ht8
    obtain ⟨z0, z1, z2, z3, z4⟩ := BZ8.out.cells
    have zf0 := BZ8.out.free (i := 0); have zf1 := BZ8.out.free (i := 1); have zf2 := BZ8.out.free (i := 2); have zf3 := BZ8.out.free (i := 3); have zf4 := BZ8.out.free (i := 4)
    obtain ⟨u0, u1, u2, u3, f1, f2, f3⟩ := HU8.out.cells
    go_wp2_with fail
    refine (SG.out _).mono ?_
    rintro e96 w96 ⟨rfl, rfl⟩
    go_wp2_with fail
    refine (WE.out _ HU8.out).mono ?_
    rintro e9 w9 ⟨⟨rfl, hu9⟩, ht9⟩
    have hz9 := ht9.size
    have BZ9 := Lib.hid (show Box w9 w.heap.size 0 0 0 ⟨#[]⟩ (.slice none 0 0) 26 from (ht9.block w.heap.size (by omega) hd2).trans BZ8.out)
    have HU9 := Lib.hid hu9
    have HT9 := Lib.hid (HT8.out.trans ht9)
    clear z0 z1 z2 z3 z4 zf0 zf1 zf2 zf3 zf4 u0 u1 u2 u3 f1 f2 f3 hu9 ht9
    obtain ⟨z0, z1, z2, z3, z4⟩ := BZ9.out.cells
    have zf0 := BZ9.out.free (i := 0); have zf1 := BZ9.out.free (i := 1); have zf2 := BZ9.out.free (i := 2); have zf3 := BZ9.out.free (i := 3); have zf4 := BZ9.out.free (i := 4)
    have HP := Lib.hid (fun v0 v1 v2 v3 v4 => show UmRet d s (none) w (.returned (.agg #[.int .i64 4, .int .i64 (0), .int .i64 (signN 0 1), .string ⟨#[]⟩, .slice none 0 0])) (set5 w9 w.heap.size v0 v1 v2 v3 v4) from
      um_pass (s := s) (o := none) (t := .mk 4 (0) (signN 0 1) ⟨#[]⟩ []) (Fr := fun _ => False) HT9.out (Nat.le_refl _) hd1 ⟨k64 4 (by omega) (by omega), in0, hs64, by show ByteArray.size ⟨#[]⟩ ≤ _; simp [ByteArray.size]⟩ (OwnS.nil _ _) (fun _ h => h.elim) (fun q9 e9 => by cases e9) (show UmSt d s none w9 from ⟨i + 2, _, by omega, HU9.out⟩) v0 v1 v2 v3 v4)
    go_wp2_with fail
    refine bodyPost_ret (v := .agg #[.int .i64 4, .int .i64 (0), .int .i64 (signN 0 1), .string ⟨#[]⟩, .slice none 0 0]) (by simp [results, Tryd.results179, go_sem, z0, z1, z2, z3, z4]) rfl (HP.out _ _ _ _ _)
  | some e =>
    have hf9 := (wgo_in h3).2
    cases h8 : wgo s (i + 3) 8 with
    | none =>
      obtain ⟨he64, hf3⟩ := wgo_in h3
      have hs64 := signN_in 1 he64
      have WC := Lib.hid (fun (W : World) (hub : UB W d s (i + 2) c false) => show Calls Tryd.prog 176 #[.pointer (some ⟨d, 0, none⟩), .int .i64 1] W (WdRet d s (i + 2) 1 c (some e) W) from by
        have := wide_any d s hs (i + 2) 1 (by omega) (by omega) (by omega) c false W hub
        rw [if_neg (by simp), h3] at this
        exact this)
      have SG := Lib.hid (fun W => SignOf_impl e 1 W (by omega) (by omega) he64)
      have WE := Lib.hid (fun (W : World) (hub : UB W d s (i + 3) c false) => show Calls Tryd.prog 176 #[.pointer (some ⟨d, 0, none⟩), .int .i64 8] W (WdRet d s (i + 3) 8 c none W) from by
        have := wide_any d s hs (i + 3) 8 (by omega) (by omega) (by omega) c false W hub
        rw [if_neg (by simp), h8] at this
        exact this)
      clear h3 h8
      show Calls _ _ _ _ (UmRet d s (none) w)
      go_enter Tryd.func179, Tryd.ntmps179
      go_wp2_with fail
      refine (WA.out _ HU5.out).mono ?_
      rintro e6 w6 ⟨⟨rfl, hu6⟩, ht6⟩
      have hz6 := ht6.size
      rw [hz5] at hz6
      have BZ6 := Lib.hid (show Box w6 w.heap.size 0 0 0 ⟨#[]⟩ (.slice none 0 0) 26 from (ht6.block w.heap.size (by omega) hd2).trans BZ5.out)
      have HU6 := Lib.hid hu6
      have HT6 := Lib.hid (HT5.out.trans ht6)
      clear z0 z1 z2 z3 z4 zf0 zf1 zf2 zf3 zf4 u0 u1 u2 u3 f1 f2 f3 hu6 ht6
      obtain ⟨z0, z1, z2, z3, z4⟩ := BZ6.out.cells
      have zf0 := BZ6.out.free (i := 0); have zf1 := BZ6.out.free (i := 1); have zf2 := BZ6.out.free (i := 2); have zf3 := BZ6.out.free (i := 3); have zf4 := BZ6.out.free (i := 4)
      obtain ⟨u0, u1, u2, u3, f1, f2, f3⟩ := HU6.out.cells
      go_wp2_with fail
      refine (WB.out _ HU6.out).mono ?_
      rintro e7 w7 ⟨⟨rfl, hu7⟩, ht7⟩
      have hz7 := ht7.size
      have BZ7 := Lib.hid (show Box w7 w.heap.size 0 0 0 ⟨#[]⟩ (.slice none 0 0) 26 from (ht7.block w.heap.size (by omega) hd2).trans BZ6.out)
      have HU7 := Lib.hid hu7
      have HT7 := Lib.hid (HT6.out.trans ht7)
      clear z0 z1 z2 z3 z4 zf0 zf1 zf2 zf3 zf4 u0 u1 u2 u3 f1 f2 f3 hu7 ht7
      obtain ⟨z0, z1, z2, z3, z4⟩ := BZ7.out.cells
      have zf0 := BZ7.out.free (i := 0); have zf1 := BZ7.out.free (i := 1); have zf2 := BZ7.out.free (i := 2); have zf3 := BZ7.out.free (i := 3); have zf4 := BZ7.out.free (i := 4)
      obtain ⟨u0, u1, u2, u3, f1, f2, f3⟩ := HU7.out.cells
      go_wp2_with fail
      refine (WC.out _ HU7.out).mono ?_
      rintro e8 w8 ⟨⟨rfl, hu8⟩, ht8⟩
      have hz8 := ht8.size
      have BZ8 := Lib.hid (show Box w8 w.heap.size 0 0 0 ⟨#[]⟩ (.slice none 0 0) 26 from (ht8.block w.heap.size (by omega) hd2).trans BZ7.out)
      have HU8 := Lib.hid hu8
      have HT8 := Lib.hid (HT7.out.trans ht8)
      clear z0 z1 z2 z3 z4 zf0 zf1 zf2 zf3 zf4 u0 u1 u2 u3 f1 f2 f3 hu8 ht8
      obtain ⟨z0, z1, z2, z3, z4⟩ := BZ8.out.cells
      have zf0 := BZ8.out.free (i := 0); have zf1 := BZ8.out.free (i := 1); have zf2 := BZ8.out.free (i := 2); have zf3 := BZ8.out.free (i := 3); have zf4 := BZ8.out.free (i := 4)
      obtain ⟨u0, u1, u2, u3, f1, f2, f3⟩ := HU8.out.cells
      go_wp2_with fail
      refine (SG.out _).mono ?_
      rintro e96 w96 ⟨rfl, rfl⟩
      go_wp2_with fail
      refine (WE.out _ HU8.out).mono ?_
      rintro e9 w9 ⟨⟨rfl, hu9⟩, ht9⟩
      have hz9 := ht9.size
      have BZ9 := Lib.hid (show Box w9 w.heap.size 0 0 0 ⟨#[]⟩ (.slice none 0 0) 26 from (ht9.block w.heap.size (by omega) hd2).trans BZ8.out)
      have HU9 := Lib.hid hu9
      have HT9 := Lib.hid (HT8.out.trans ht9)
      clear z0 z1 z2 z3 z4 zf0 zf1 zf2 zf3 zf4 u0 u1 u2 u3 f1 f2 f3 hu9 ht9
      obtain ⟨z0, z1, z2, z3, z4⟩ := BZ9.out.cells
      have zf0 := BZ9.out.free (i := 0); have zf1 := BZ9.out.free (i := 1); have zf2 := BZ9.out.free (i := 2); have zf3 := BZ9.out.free (i := 3); have zf4 := BZ9.out.free (i := 4)
      have HP := Lib.hid (fun v0 v1 v2 v3 v4 => show UmRet d s (none) w (.returned (.agg #[.int .i64 4, .int .i64 (0), .int .i64 (signN e 1), .string ⟨#[]⟩, .slice none 0 0])) (set5 w9 w.heap.size v0 v1 v2 v3 v4) from
        um_pass (s := s) (o := none) (t := .mk 4 (0) (signN e 1) ⟨#[]⟩ []) (Fr := fun _ => False) HT9.out (Nat.le_refl _) hd1 ⟨k64 4 (by omega) (by omega), in0, hs64, by show ByteArray.size ⟨#[]⟩ ≤ _; simp [ByteArray.size]⟩ (OwnS.nil _ _) (fun _ h => h.elim) (fun q9 e9 => by cases e9) (show UmSt d s none w9 from ⟨i + 3, _, by omega, HU9.out⟩) v0 v1 v2 v3 v4)
      go_wp2_with fail
      refine bodyPost_ret (v := .agg #[.int .i64 4, .int .i64 (0), .int .i64 (signN e 1), .string ⟨#[]⟩, .slice none 0 0]) (by simp [results, Tryd.results179, go_sem, z0, z1, z2, z3, z4]) rfl (HP.out _ _ _ _ _)
    | some n =>
      obtain ⟨he64, hf3⟩ := wgo_in h3
      have hs64 := signN_in 1 he64
      have WC := Lib.hid (fun (W : World) (hub : UB W d s (i + 2) c false) => show Calls Tryd.prog 176 #[.pointer (some ⟨d, 0, none⟩), .int .i64 1] W (WdRet d s (i + 2) 1 c (some e) W) from by
        have := wide_any d s hs (i + 2) 1 (by omega) (by omega) (by omega) c false W hub
        rw [if_neg (by simp), h3] at this
        exact this)
      have SG := Lib.hid (fun W => SignOf_impl e 1 W (by omega) (by omega) he64)
      obtain ⟨hn64, hf8⟩ := wgo_in h8
      have WE := Lib.hid (fun (W : World) (hub : UB W d s (i + 3) c false) => show Calls Tryd.prog 176 #[.pointer (some ⟨d, 0, none⟩), .int .i64 8] W (WdRet d s (i + 3) 8 c (some n) W) from by
        have := wide_any d s hs (i + 3) 8 (by omega) (by omega) (by omega) c false W hub
        rw [if_neg (by simp), h8] at this
        exact this)
      clear h3 h8
      show Calls _ _ _ _ (UmRet d s (mgLeaf 4 n (signN e 1) (i + 11) l) w)
      go_enter Tryd.func179, Tryd.ntmps179
      go_wp2_with fail
      refine (WA.out _ HU5.out).mono ?_
      rintro e6 w6 ⟨⟨rfl, hu6⟩, ht6⟩
      have hz6 := ht6.size
      rw [hz5] at hz6
      have BZ6 := Lib.hid (show Box w6 w.heap.size 0 0 0 ⟨#[]⟩ (.slice none 0 0) 26 from (ht6.block w.heap.size (by omega) hd2).trans BZ5.out)
      have HU6 := Lib.hid hu6
      have HT6 := Lib.hid (HT5.out.trans ht6)
      clear z0 z1 z2 z3 z4 zf0 zf1 zf2 zf3 zf4 u0 u1 u2 u3 f1 f2 f3 hu6 ht6
      obtain ⟨z0, z1, z2, z3, z4⟩ := BZ6.out.cells
      have zf0 := BZ6.out.free (i := 0); have zf1 := BZ6.out.free (i := 1); have zf2 := BZ6.out.free (i := 2); have zf3 := BZ6.out.free (i := 3); have zf4 := BZ6.out.free (i := 4)
      obtain ⟨u0, u1, u2, u3, f1, f2, f3⟩ := HU6.out.cells
      go_wp2_with fail
      refine (WB.out _ HU6.out).mono ?_
      rintro e7 w7 ⟨⟨rfl, hu7⟩, ht7⟩
      have hz7 := ht7.size
      have BZ7 := Lib.hid (show Box w7 w.heap.size 0 0 0 ⟨#[]⟩ (.slice none 0 0) 26 from (ht7.block w.heap.size (by omega) hd2).trans BZ6.out)
      have HU7 := Lib.hid hu7
      have HT7 := Lib.hid (HT6.out.trans ht7)
      clear z0 z1 z2 z3 z4 zf0 zf1 zf2 zf3 zf4 u0 u1 u2 u3 f1 f2 f3 hu7 ht7
      obtain ⟨z0, z1, z2, z3, z4⟩ := BZ7.out.cells
      have zf0 := BZ7.out.free (i := 0); have zf1 := BZ7.out.free (i := 1); have zf2 := BZ7.out.free (i := 2); have zf3 := BZ7.out.free (i := 3); have zf4 := BZ7.out.free (i := 4)
      obtain ⟨u0, u1, u2, u3, f1, f2, f3⟩ := HU7.out.cells
      go_wp2_with fail
      refine (WC.out _ HU7.out).mono ?_
      rintro e8 w8 ⟨⟨rfl, hu8⟩, ht8⟩
      have hz8 := ht8.size
      have BZ8 := Lib.hid (show Box w8 w.heap.size 0 0 0 ⟨#[]⟩ (.slice none 0 0) 26 from (ht8.block w.heap.size (by omega) hd2).trans BZ7.out)
      have HU8 := Lib.hid hu8
      have HT8 := Lib.hid (HT7.out.trans ht8)
      clear z0 z1 z2 z3 z4 zf0 zf1 zf2 zf3 zf4 u0 u1 u2 u3 f1 f2 f3 hu8 ht8
      obtain ⟨z0, z1, z2, z3, z4⟩ := BZ8.out.cells
      have zf0 := BZ8.out.free (i := 0); have zf1 := BZ8.out.free (i := 1); have zf2 := BZ8.out.free (i := 2); have zf3 := BZ8.out.free (i := 3); have zf4 := BZ8.out.free (i := 4)
      obtain ⟨u0, u1, u2, u3, f1, f2, f3⟩ := HU8.out.cells
      go_wp2_with fail
      refine (SG.out _).mono ?_
      rintro e96 w96 ⟨rfl, rfl⟩
      go_wp2_with fail
      refine (WE.out _ HU8.out).mono ?_
      rintro e9 w9 ⟨⟨rfl, hu9⟩, ht9⟩
      have hz9 := ht9.size
      have BZ9 := Lib.hid (show Box w9 w.heap.size 0 0 0 ⟨#[]⟩ (.slice none 0 0) 26 from (ht9.block w.heap.size (by omega) hd2).trans BZ8.out)
      have HU9 := Lib.hid hu9
      have HT9 := Lib.hid (HT8.out.trans ht9)
      clear z0 z1 z2 z3 z4 zf0 zf1 zf2 zf3 zf4 u0 u1 u2 u3 f1 f2 f3 hu9 ht9
      obtain ⟨z0, z1, z2, z3, z4⟩ := BZ9.out.cells
      have zf0 := BZ9.out.free (i := 0); have zf1 := BZ9.out.free (i := 1); have zf2 := BZ9.out.free (i := 2); have zf3 := BZ9.out.free (i := 3); have zf4 := BZ9.out.free (i := 4)
      have HP := Lib.hid (fun v0 v1 v2 v3 v4 => show UmRet d s (mgLeaf 4 n (signN e 1) (i + 11) l) w (.returned (.agg #[.int .i64 4, .int .i64 (n), .int .i64 (signN e 1), .string ⟨#[]⟩, .slice none 0 0])) (set5 w9 w.heap.size v0 v1 v2 v3 v4) from
        um_pass (s := s) (o := mgLeaf 4 n (signN e 1) (i + 11) l) (t := .mk 4 (n) (signN e 1) ⟨#[]⟩ []) (Fr := fun _ => False) HT9.out (Nat.le_refl _) hd1 ⟨k64 4 (by omega) (by omega), hn64, hs64, by show ByteArray.size ⟨#[]⟩ ≤ _; simp [ByteArray.size]⟩ (OwnS.nil _ _) (fun _ h => h.elim) (fun q9 e9 => by have e8 : some (V.mk 4 (n) (signN e 1) ⟨#[]⟩ [], (i + 11, l)) = some q9 := e9; injection e8 with e8; rw [← e8]) (show UmSt d s (some (i + 11, l)) w9 from by show UB w9 d s (i + 11) (300 - (l : Int)) false; rw [← HCL.out]; exact HU9.out) v0 v1 v2 v3 v4)
      go_wp2_with fail
      refine bodyPost_ret (v := .agg #[.int .i64 4, .int .i64 (n), .int .i64 (signN e 1), .string ⟨#[]⟩, .slice none 0 0]) (by simp [results, Tryd.results179, go_sem, z0, z1, z2, z3, z4]) rfl (HP.out _ _ _ _ _)
set_option maxRecDepth 100000 in
set_option maxHeartbeats 4000000 in
theorem extended_46 (d : Nat) (s : ByteArray) (hs : s.size ≤ 1048576) (g : Nat → Nat → MG) (deep : Int) (hd : 0 ≤ deep ∧ deep ≤ 12)
    (hV : ∀ (i l : Nat) (W : World), i ≤ s.size → l ≤ 300 → UB W d s i (300 - (l : Int)) false → Calls Tryd.prog 120 #[.pointer (some ⟨d, 0, none⟩), .int .i64 (deep + 1)] W (UmRet d s (g i l) W)) (i l : Nat) (hi : i ≤ s.size) (hl : l ≤ 300) (w : World) (hU : UB w d s i (300 - (l : Int)) false) (h : wgo s i 1 = some 4) (h2 : wgo s (i + 1) 1 = some 6) :
    Calls Tryd.prog 179 #[.pointer (some ⟨d, 0, none⟩), .int .i64 deep] w (UmRet d s ((wgo s (i + 2) 4).bind fun n => mgNode 9 n (mgKids g 1 (i + 6) l)) w) := by
  have hdw := lt_of_heap hU
  obtain ⟨c, hc⟩ : ∃ c : Int, c = 300 - (l : Int) := ⟨_, rfl⟩
  rw [← hc] at hU
  have HU := Lib.hid hU
  obtain ⟨u0, u1, u2, u3, f1, f2, f3⟩ := hU.cells
  have hd1 : d ≠ w.heap.size := by omega
  have hd2 : w.heap.size ≠ d := by omega
  have HCL := Lib.hid (show c = 300 - (l : Int) by omega)
  clear hc
  have HU5 := Lib.hid (show UB (w.alloc (.cells #[.int .i64 0, .int .i64 0, .int .i64 0, .string ⟨#[]⟩, .slice none 0 0] 26)) d s i c false from HU.out.stay ((Below.refl _ _).alloc (Nat.le_refl _) _))
  have HT5 := Lib.hid (show Touch (fun x => x = d) (fun x => x = d) w (w.alloc (.cells #[.int .i64 0, .int .i64 0, .int .i64 0, .string ⟨#[]⟩, .slice none 0 0] 26)) from Touch.of_below ((Below.refl _ _).alloc (Nat.le_refl _) _))
  have BZ5 := Lib.hid (show Box (w.alloc (.cells #[.int .i64 0, .int .i64 0, .int .i64 0, .string ⟨#[]⟩, .slice none 0 0] 26)) w.heap.size 0 0 0 ⟨#[]⟩ (.slice none 0 0) 26 from heap_alloc_here _ (by simp))
  have hz5 : (w.alloc (.cells #[.int .i64 0, .int .i64 0, .int .i64 0, .string ⟨#[]⟩, .slice none 0 0] 26)).heap.size = w.heap.size + 1 := by simp
  have BZ := Lib.hid (Box.new w 0 0 0 ⟨#[]⟩ (.slice none 0 0) 26)
  obtain ⟨z0, z1, z2, z3, z4⟩ := BZ.out.cells
  have zf0 := BZ.out.free (i := 0); have zf1 := BZ.out.free (i := 1); have zf2 := BZ.out.free (i := 2); have zf3 := BZ.out.free (i := 3); have zf4 := BZ.out.free (i := 4)
  have WI := (wgo_in h2).2
  have hq4 : ((4 : Int) == 9) = false := rfl
  have WA := Lib.hid (fun (W : World) (hub : UB W d s (i) c false) => show Calls Tryd.prog 176 #[.pointer (some ⟨d, 0, none⟩), .int .i64 1] W (WdRet d s (i) 1 c (some 4) W) from by
    have := wide_any d s hs (i) 1 (by omega) (by omega) (by omega) c false W hub
    rw [if_neg (by simp), h] at this
    exact this)
  have WB := Lib.hid (fun (W : World) (hub : UB W d s (i + 1) c false) => show Calls Tryd.prog 176 #[.pointer (some ⟨d, 0, none⟩), .int .i64 1] W (WdRet d s (i + 1) 1 c (some 6) W) from by
    have := wide_any d s hs (i + 1) 1 (by omega) (by omega) (by omega) c false W hub
    rw [if_neg (by simp), h2] at this
    exact this)
  clear h h2
  cases h3 : wgo s (i + 2) 4 with
  | none =>
    have hn64 : In64 0 := in0
    have WC := Lib.hid (fun (W : World) (hub : UB W d s (i + 2) c false) => show Calls Tryd.prog 176 #[.pointer (some ⟨d, 0, none⟩), .int .i64 4] W (WdRet d s (i + 2) 4 c none W) from by
      have := wide_any d s hs (i + 2) 4 (by omega) (by omega) (by omega) c false W hub
      rw [if_neg (by simp), h3] at this
      exact this)
    have VL := Lib.hid (fun (W : World) (hub : UB W d s (i + 2) c true) => value_bad d s hs (deep + 1) (i + 2) (by omega) c W hub)
    clear h3 hV
    show Calls _ _ _ _ (UmRet d s none w)
    go_enter Tryd.func179, Tryd.ntmps179
    go_wp2_with fail
    refine (WA.out _ HU5.out).mono ?_
    rintro e6 w6 ⟨⟨rfl, hu6⟩, ht6⟩
    have hz6 := ht6.size
    rw [hz5] at hz6
    have BZ6 := Lib.hid (show Box w6 w.heap.size 0 0 0 ⟨#[]⟩ (.slice none 0 0) 26 from (ht6.block w.heap.size (by omega) hd2).trans BZ5.out)
    have HU6 := Lib.hid hu6
    have HT6 := Lib.hid (HT5.out.trans ht6)
    clear z0 z1 z2 z3 z4 zf0 zf1 zf2 zf3 zf4 u0 u1 u2 u3 f1 f2 f3 hu6 ht6
    obtain ⟨z0, z1, z2, z3, z4⟩ := BZ6.out.cells
    have zf0 := BZ6.out.free (i := 0); have zf1 := BZ6.out.free (i := 1); have zf2 := BZ6.out.free (i := 2); have zf3 := BZ6.out.free (i := 3); have zf4 := BZ6.out.free (i := 4)
    obtain ⟨u0, u1, u2, u3, f1, f2, f3⟩ := HU6.out.cells
    go_wp2_with fail
    refine (WB.out _ HU6.out).mono ?_
    rintro e7 w7 ⟨⟨rfl, hu7⟩, ht7⟩
    have hz7 := ht7.size
    have BZ7 := Lib.hid (show Box w7 w.heap.size 0 0 0 ⟨#[]⟩ (.slice none 0 0) 26 from (ht7.block w.heap.size (by omega) hd2).trans BZ6.out)
    have HU7 := Lib.hid hu7
    have HT7 := Lib.hid (HT6.out.trans ht7)
    clear z0 z1 z2 z3 z4 zf0 zf1 zf2 zf3 zf4 u0 u1 u2 u3 f1 f2 f3 hu7 ht7
    obtain ⟨z0, z1, z2, z3, z4⟩ := BZ7.out.cells
    have zf0 := BZ7.out.free (i := 0); have zf1 := BZ7.out.free (i := 1); have zf2 := BZ7.out.free (i := 2); have zf3 := BZ7.out.free (i := 3); have zf4 := BZ7.out.free (i := 4)
    obtain ⟨u0, u1, u2, u3, f1, f2, f3⟩ := HU7.out.cells
    go_wp2_with fail
    refine (WC.out _ HU7.out).mono ?_
    rintro e8 w8 ⟨⟨rfl, hu8⟩, ht8⟩
    have hz8 := ht8.size
    have BZ8 := Lib.hid (show Box w8 w.heap.size 0 0 0 ⟨#[]⟩ (.slice none 0 0) 26 from (ht8.block w.heap.size (by omega) hd2).trans BZ7.out)
    have HU8 := Lib.hid hu8
    have HT8 := Lib.hid (HT7.out.trans ht8)
    clear z0 z1 z2 z3 z4 zf0 zf1 zf2 zf3 zf4 u0 u1 u2 u3 f1 f2 f3 hu8 ht8
    obtain ⟨z0, z1, z2, z3, z4⟩ := BZ8.out.cells
    have zf0 := BZ8.out.free (i := 0); have zf1 := BZ8.out.free (i := 1); have zf2 := BZ8.out.free (i := 2); have zf3 := BZ8.out.free (i := 3); have zf4 := BZ8.out.free (i := 4)
    obtain ⟨u0, u1, u2, u3, f1, f2, f3⟩ := HU8.out.cells
    go_wp2_with fail
    refine (VL.out _ HU8.out).mono ?_
    rintro e9 w9 ⟨t, sl, rfl, twf, tow, htq, hst, ht9⟩
    have hz9 := ht9.size
    have BZ9 := Lib.hid (show Box w9 w.heap.size 0 0 0 ⟨#[]⟩ (.slice none 0 0) 26 from (ht9.block w.heap.size (by omega) hd2).trans BZ8.out)
    have HT9 := Lib.hid (HT8.out.trans ht9)
    clear z0 z1 z2 z3 z4 zf0 zf1 zf2 zf3 zf4 u0 u1 u2 u3 f1 f2 f3 ht9
    obtain ⟨ua, un, uc, rfl⟩ : ∃ sa sn sc, sl = .slice sa sn sc := by obtain ⟨p, q, e⟩ := tow.slice; exact ⟨p, _, q, e⟩
    obtain ⟨z0, z1, z2, z3, z4⟩ := BZ9.out.cells
    have zf0 := BZ9.out.free (i := 0); have zf1 := BZ9.out.free (i := 1); have zf2 := BZ9.out.free (i := 2); have zf3 := BZ9.out.free (i := 3); have zf4 := BZ9.out.free (i := 4)
    have hm1 : w.heap.size ≠ w9.heap.size := by omega
    have hm2 : w9.heap.size ≠ w.heap.size := by omega
    have hm3 : w.heap.size < w9.heap.size := by omega
    have HOW := Lib.hid (fun v0 v1 v2 v3 v4 => show OwnS ((set5 w9 w.heap.size v0 v1 v2 v3 v4).alloc (.cells #[.int .i64 t.k, .int .i64 t.n, .int .i64 t.e, .string t.s, .slice ua un uc] 26)) (fun x => (w8.heap.size ≤ x ∧ x < w9.heap.size) ∨ x = w9.heap.size) (.slice (some ⟨w9.heap.size, 0, none⟩) 1 1) [t] from
      own_one (E := 26) (sl := .slice ua un uc) (F := fun x => w8.heap.size ≤ x ∧ x < w9.heap.size) (heap_alloc_here _ (by simp [Go.Proofs.YtgbgeocmjdgmoaaDoor.set5])) twf ((OwnS.set5 tow.bound w.heap.size (fun hx => by have := hx.1; omega) _ _ _ _ _).alloc _) (fun hx => by have := hx.2; omega))
    have HFX := Lib.hid (show ∀ x, ((w8.heap.size ≤ x ∧ x < w9.heap.size) ∨ x = w9.heap.size) → w.heap.size ≤ x by intro x hx; omega)
    have HP := Lib.hid (fun v0 v1 v2 v3 v4 => show UmRet d s (none) w (.returned (.agg #[.int .i64 9, .int .i64 0, .int .i64 0, .string ⟨#[]⟩, .slice (some ⟨w9.heap.size, 0, none⟩) 1 1])) ((set5 w9 w.heap.size v0 v1 v2 v3 v4).alloc (.cells #[.int .i64 t.k, .int .i64 t.n, .int .i64 t.e, .string t.s, .slice ua un uc] 26)) from
      ⟨.mk 9 0 0 ⟨#[]⟩ [t], _, rfl, ⟨k64 9 (by omega) (by omega), hn64, in0, by show ByteArray.size ⟨#[]⟩ ≤ _; simp [ByteArray.size]⟩,
        OwnS.mono (HOW.out v0 v1 v2 v3 v4) HFX.out,
        (fun q e9 => by cases e9), UmSt.keep (o := none) hst ((heap_alloc_old _ _ (by simp [Go.Proofs.YtgbgeocmjdgmoaaDoor.set5]; exact hst.lt)).trans (heap_set5 _ _ _ _ _ _ _ _ hd1)),
        (HT9.out.set5 w.heap.size (Nat.le_refl _) _ _ _ _ _).trans (Touch.of_below ((Below.refl _ _).alloc (Nat.le_refl _) _))⟩)
    unfold V.agg
    clear tow htq hst twf VL HOW HFX
    go_wp2_with fail
    refine bodyPost_ret (v := .agg #[.int .i64 9, .int .i64 0, .int .i64 0, .string ⟨#[]⟩, .slice (some ⟨w9.heap.size, 0, none⟩) 1 1]) (by simp [results, Tryd.results179, go_sem, z0, z1, z2, z3, z4, hm1, hm2, hm3]) rfl (HP.out _ _ _ _ _)
  | some n =>
    obtain ⟨hn64, hf3⟩ := wgo_in h3
    have WC := Lib.hid (fun (W : World) (hub : UB W d s (i + 2) c false) => show Calls Tryd.prog 176 #[.pointer (some ⟨d, 0, none⟩), .int .i64 4] W (WdRet d s (i + 2) 4 c (some n) W) from by
      have := wide_any d s hs (i + 2) 4 (by omega) (by omega) (by omega) c false W hub
      rw [if_neg (by simp), h3] at this
      exact this)
    have VL := Lib.hid (fun (W : World) (hub : UB W d s (i + 6) c false) => hV (i + 6) l W (by omega) (by omega) (by rw [← HCL.out]; exact hub))
    clear h3 hV
    show Calls _ _ _ _ (UmRet d s (mgNode 9 n (mgKids g 1 (i + 6) l)) w)
    rw [mgKids_one]
    generalize g (i + 6) l = o at *
    go_enter Tryd.func179, Tryd.ntmps179
    go_wp2_with fail
    refine (WA.out _ HU5.out).mono ?_
    rintro e6 w6 ⟨⟨rfl, hu6⟩, ht6⟩
    have hz6 := ht6.size
    rw [hz5] at hz6
    have BZ6 := Lib.hid (show Box w6 w.heap.size 0 0 0 ⟨#[]⟩ (.slice none 0 0) 26 from (ht6.block w.heap.size (by omega) hd2).trans BZ5.out)
    have HU6 := Lib.hid hu6
    have HT6 := Lib.hid (HT5.out.trans ht6)
    clear z0 z1 z2 z3 z4 zf0 zf1 zf2 zf3 zf4 u0 u1 u2 u3 f1 f2 f3 hu6 ht6
    obtain ⟨z0, z1, z2, z3, z4⟩ := BZ6.out.cells
    have zf0 := BZ6.out.free (i := 0); have zf1 := BZ6.out.free (i := 1); have zf2 := BZ6.out.free (i := 2); have zf3 := BZ6.out.free (i := 3); have zf4 := BZ6.out.free (i := 4)
    obtain ⟨u0, u1, u2, u3, f1, f2, f3⟩ := HU6.out.cells
    go_wp2_with fail
    refine (WB.out _ HU6.out).mono ?_
    rintro e7 w7 ⟨⟨rfl, hu7⟩, ht7⟩
    have hz7 := ht7.size
    have BZ7 := Lib.hid (show Box w7 w.heap.size 0 0 0 ⟨#[]⟩ (.slice none 0 0) 26 from (ht7.block w.heap.size (by omega) hd2).trans BZ6.out)
    have HU7 := Lib.hid hu7
    have HT7 := Lib.hid (HT6.out.trans ht7)
    clear z0 z1 z2 z3 z4 zf0 zf1 zf2 zf3 zf4 u0 u1 u2 u3 f1 f2 f3 hu7 ht7
    obtain ⟨z0, z1, z2, z3, z4⟩ := BZ7.out.cells
    have zf0 := BZ7.out.free (i := 0); have zf1 := BZ7.out.free (i := 1); have zf2 := BZ7.out.free (i := 2); have zf3 := BZ7.out.free (i := 3); have zf4 := BZ7.out.free (i := 4)
    obtain ⟨u0, u1, u2, u3, f1, f2, f3⟩ := HU7.out.cells
    go_wp2_with fail
    refine (WC.out _ HU7.out).mono ?_
    rintro e8 w8 ⟨⟨rfl, hu8⟩, ht8⟩
    have hz8 := ht8.size
    have BZ8 := Lib.hid (show Box w8 w.heap.size 0 0 0 ⟨#[]⟩ (.slice none 0 0) 26 from (ht8.block w.heap.size (by omega) hd2).trans BZ7.out)
    have HU8 := Lib.hid hu8
    have HT8 := Lib.hid (HT7.out.trans ht8)
    clear z0 z1 z2 z3 z4 zf0 zf1 zf2 zf3 zf4 u0 u1 u2 u3 f1 f2 f3 hu8 ht8
    obtain ⟨z0, z1, z2, z3, z4⟩ := BZ8.out.cells
    have zf0 := BZ8.out.free (i := 0); have zf1 := BZ8.out.free (i := 1); have zf2 := BZ8.out.free (i := 2); have zf3 := BZ8.out.free (i := 3); have zf4 := BZ8.out.free (i := 4)
    obtain ⟨u0, u1, u2, u3, f1, f2, f3⟩ := HU8.out.cells
    go_wp2_with fail
    refine (VL.out _ HU8.out).mono ?_
    rintro e9 w9 ⟨t, sl, rfl, twf, tow, htq, hst, ht9⟩
    have hz9 := ht9.size
    have BZ9 := Lib.hid (show Box w9 w.heap.size 0 0 0 ⟨#[]⟩ (.slice none 0 0) 26 from (ht9.block w.heap.size (by omega) hd2).trans BZ8.out)
    have HT9 := Lib.hid (HT8.out.trans ht9)
    clear z0 z1 z2 z3 z4 zf0 zf1 zf2 zf3 zf4 u0 u1 u2 u3 f1 f2 f3 ht9
    obtain ⟨ua, un, uc, rfl⟩ : ∃ sa sn sc, sl = .slice sa sn sc := by obtain ⟨p, q, e⟩ := tow.slice; exact ⟨p, _, q, e⟩
    obtain ⟨z0, z1, z2, z3, z4⟩ := BZ9.out.cells
    have zf0 := BZ9.out.free (i := 0); have zf1 := BZ9.out.free (i := 1); have zf2 := BZ9.out.free (i := 2); have zf3 := BZ9.out.free (i := 3); have zf4 := BZ9.out.free (i := 4)
    have hm1 : w.heap.size ≠ w9.heap.size := by omega
    have hm2 : w9.heap.size ≠ w.heap.size := by omega
    have hm3 : w.heap.size < w9.heap.size := by omega
    have HOW := Lib.hid (fun v0 v1 v2 v3 v4 => show OwnS ((set5 w9 w.heap.size v0 v1 v2 v3 v4).alloc (.cells #[.int .i64 t.k, .int .i64 t.n, .int .i64 t.e, .string t.s, .slice ua un uc] 26)) (fun x => (w8.heap.size ≤ x ∧ x < w9.heap.size) ∨ x = w9.heap.size) (.slice (some ⟨w9.heap.size, 0, none⟩) 1 1) [t] from
      own_one (E := 26) (sl := .slice ua un uc) (F := fun x => w8.heap.size ≤ x ∧ x < w9.heap.size) (heap_alloc_here _ (by simp [Go.Proofs.YtgbgeocmjdgmoaaDoor.set5])) twf ((OwnS.set5 tow.bound w.heap.size (fun hx => by have := hx.1; omega) _ _ _ _ _).alloc _) (fun hx => by have := hx.2; omega))
    have HFX := Lib.hid (show ∀ x, ((w8.heap.size ≤ x ∧ x < w9.heap.size) ∨ x = w9.heap.size) → w.heap.size ≤ x by intro x hx; omega)
    have HP := Lib.hid (fun v0 v1 v2 v3 v4 => show UmRet d s (mgNode 9 n (o.map fun q => ([q.1], q.2))) w (.returned (.agg #[.int .i64 9, .int .i64 n, .int .i64 0, .string ⟨#[]⟩, .slice (some ⟨w9.heap.size, 0, none⟩) 1 1])) ((set5 w9 w.heap.size v0 v1 v2 v3 v4).alloc (.cells #[.int .i64 t.k, .int .i64 t.n, .int .i64 t.e, .string t.s, .slice ua un uc] 26)) from
      ⟨.mk 9 n 0 ⟨#[]⟩ [t], _, rfl, ⟨k64 9 (by omega) (by omega), hn64, in0, by show ByteArray.size ⟨#[]⟩ ≤ _; simp [ByteArray.size]⟩,
        OwnS.mono (HOW.out v0 v1 v2 v3 v4) HFX.out,
        one_q htq, one_st (UmSt.keep hst ((heap_alloc_old _ _ (by simp [Go.Proofs.YtgbgeocmjdgmoaaDoor.set5]; exact hst.lt)).trans (heap_set5 _ _ _ _ _ _ _ _ hd1))),
        (HT9.out.set5 w.heap.size (Nat.le_refl _) _ _ _ _ _).trans (Touch.of_below ((Below.refl _ _).alloc (Nat.le_refl _) _))⟩)
    unfold V.agg
    clear tow htq hst twf VL HOW HFX
    go_wp2_with fail
    refine bodyPost_ret (v := .agg #[.int .i64 9, .int .i64 n, .int .i64 0, .string ⟨#[]⟩, .slice (some ⟨w9.heap.size, 0, none⟩) 1 1]) (by simp [results, Tryd.results179, go_sem, z0, z1, z2, z3, z4, hm1, hm2, hm3]) rfl (HP.out _ _ _ _ _)
end Go.Proofs.YtgbgeocmjdgmoaaDoor
namespace Go.Proofs.YtgbgeocmjdgmoaaDoor
set_option linter.unusedSimpArgs false
set_option linter.unusedVariables false
set_option maxRecDepth 100000
open Go.RowKit
theorem extended_any (d : Nat) (s : ByteArray) (hs : s.size ≤ 1048576) (g : Nat → Nat → MG) (deep : Int) (hd : 0 ≤ deep ∧ deep ≤ 12)
    (hV : ∀ (i l : Nat) (W : World), i ≤ s.size → l ≤ 300 → UB W d s i (300 - (l : Int)) false → Calls Tryd.prog 120 #[.pointer (some ⟨d, 0, none⟩), .int .i64 (deep + 1)] W (UmRet d s (g i l) W)) (i l : Nat) (hi : i ≤ s.size) (hl : l ≤ 300) (w : World) (hU : UB w d s i (300 - (l : Int)) false) :
    Calls Tryd.prog 179 #[.pointer (some ⟨d, 0, none⟩), .int .i64 deep] w (UmRet d s (mgExt s g i l) w) := by
  unfold mgExt
  cases hz : wgo s i 1 with
  | none => exact extended_no1 d s hs g deep hd hV i l hi hl w hU hz
  | some z =>
    cases hq : wgo s (i + 1) 1 with
    | none => exact extended_no2 d s hs g deep hd hV i l hi hl w hU z hz hq
    | some q =>
      rw [Option.bind_some, Option.bind_some]
      by_cases h1 : z = 9 ∧ q = 4
      · rw [if_pos h1]
        obtain ⟨rfl, rfl⟩ := h1
        exact extended_94 d s hs g deep hd hV i l hi hl w hU hz hq
      · rw [if_neg h1]
        by_cases h2 : z = 4 ∧ q = 6
        · rw [if_pos h2]
          obtain ⟨rfl, rfl⟩ := h2
          exact extended_46 d s hs g deep hd hV i l hi hl w hU hz hq
        · rw [if_neg h2]
          refine extended_no3 d s hs g deep hd hV i l hi hl w hU z q hz hq ⟨?_, ?_⟩
          · by_cases h : z = 9
            · exact .inr ⟨h, by simp; exact fun e => h1 ⟨h, e⟩⟩
            · exact .inl (by simpa using h)
          · by_cases h : z = 4
            · exact .inr ⟨h, by simp; exact fun e => h2 ⟨h, e⟩⟩
            · exact .inl (by simpa using h)
set_option maxRecDepth 100000 in
set_option maxHeartbeats 4000000 in
theorem value_k199 (d : Nat) (s : ByteArray) (hs : s.size ≤ 1048576) (g : Nat → Nat → MG) (hg : ∀ i l, MGood s i l (g i l)) (deep : Int) (hd : 0 ≤ deep ∧ deep ≤ 12)
    (hV : ∀ (i l : Nat) (W : World), i ≤ s.size → l ≤ 300 → UB W d s i (300 - (l : Int)) false → Calls Tryd.prog 120 #[.pointer (some ⟨d, 0, none⟩), .int .i64 (deep + 1)] W (UmRet d s (g i l) W)) (i l : Nat) (hi : i < s.size) (hl : l + 1 ≤ 300) (w : World) (hU : UB w d s i (300 - ((l + 1 : Nat) : Int)) false) (hb : wgo s i 1 = some 199)  :
    Calls Tryd.prog 120 #[.pointer (some ⟨d, 0, none⟩), .int .i64 deep] w (UmRet d s (mgExt s g (i + 1) l) w) := by
  have hdw := lt_of_heap hU
  obtain ⟨c, hc⟩ : ∃ c : Int, c = 300 - ((l + 1 : Nat) : Int) := ⟨_, rfl⟩
  rw [← hc] at hU
  have HU := Lib.hid hU
  obtain ⟨u0, u1, u2, u3, f1, f2, f3⟩ := hU.cells
  have hd1 : d ≠ w.heap.size := by omega
  have hd2 : w.heap.size ≠ d := by omega
  have hc0 : 0 ≤ c := by omega
  have hc1 : c + 1 ≤ 300 := by omega
  have HCL := Lib.hid (show c + 1 = 300 - (l : Int) by omega)
  clear hc
  have HU5 := Lib.hid (show UB ((w.setCell ⟨d, 2, none⟩ (.int .i64 (c + 1))).alloc (.cells #[.int .i64 0, .int .i64 0, .int .i64 0, .string ⟨#[]⟩, .slice none 0 0] 26)) d s i (c + 1) false from (HU.out.setC (c + 1)).stay ((Below.refl _ _).alloc (Nat.le_refl _) _))
  have HT5 := Lib.hid (show Touch (fun x => x = d) (fun x => x = d) w ((w.setCell ⟨d, 2, none⟩ (.int .i64 (c + 1))).alloc (.cells #[.int .i64 0, .int .i64 0, .int .i64 0, .string ⟨#[]⟩, .slice none 0 0] 26)) from ((Touch.refl _ w).cellD _).trans (Touch.of_below ((Below.refl _ _).alloc (Nat.le_refl _) _)))
  have BZ5 := Lib.hid (show Box ((w.setCell ⟨d, 2, none⟩ (.int .i64 (c + 1))).alloc (.cells #[.int .i64 0, .int .i64 0, .int .i64 0, .string ⟨#[]⟩, .slice none 0 0] 26)) w.heap.size 0 0 0 ⟨#[]⟩ (.slice none 0 0) 26 from heap_alloc_here _ (by simp))
  have hz5 : ((w.setCell ⟨d, 2, none⟩ (.int .i64 (c + 1))).alloc (.cells #[.int .i64 0, .int .i64 0, .int .i64 0, .string ⟨#[]⟩, .slice none 0 0] 26)).heap.size = w.heap.size + 1 := by simp
  have BZ := Lib.hid (Box.new w 0 0 0 ⟨#[]⟩ (.slice none 0 0) 26)
  obtain ⟨z0, z1, z2, z3, z4⟩ := BZ.out.cells
  have zf0 := BZ.out.free (i := 0); have zf1 := BZ.out.free (i := 1); have zf2 := BZ.out.free (i := 2); have zf3 := BZ.out.free (i := 3); have zf4 := BZ.out.free (i := 4)
  have WD := Lib.hid (fun (W : World) (h : UB W d s i (c + 1) false) => show Calls Tryd.prog 176 #[.pointer (some ⟨d, 0, none⟩), .int .i64 1] W (WdRet d s i 1 (c + 1) (some 199) W) from by
    have := wide_any d s hs i 1 (by omega) (by omega) (by omega) (c + 1) false W h
    rw [if_neg (by simp), hb] at this; exact this)
  have IA := Lib.hid (fun W => within_no 199 204 207 W (by omega))
  have IB := Lib.hid (fun W => within_no 199 208 211 W (by omega))
  have EX := Lib.hid (fun (W : World) (hub : UB W d s (i + 1) (c + 1) false) => extended_any d s hs g deep hd hV (i + 1) l (by omega) (by omega) W (by rw [← HCL.out]; exact hub))
  clear hV hg
  generalize mgExt s g (i + 1) l = o at *
  go_enter Tryd.func120, Tryd.ntmps120
  go_wp2_with fail
  refine (WD.out _ HU5.out).mono ?_
  rintro e6 w6 ⟨⟨rfl, hu6⟩, ht6⟩
  have hz6 := ht6.size
  rw [hz5] at hz6
  have BZ6 := Lib.hid (show Box w6 w.heap.size 0 0 0 ⟨#[]⟩ (.slice none 0 0) 26 from (ht6.block w.heap.size (by omega) hd2).trans BZ5.out)
  have HU6 := Lib.hid hu6
  have HT6 := Lib.hid (HT5.out.trans ht6)
  clear z0 z1 z2 z3 z4 zf0 zf1 zf2 zf3 zf4 u0 u1 u2 u3 f1 f2 f3 hu6 ht6
  obtain ⟨z0, z1, z2, z3, z4⟩ := BZ6.out.cells
  have zf0 := BZ6.out.free (i := 0); have zf1 := BZ6.out.free (i := 1); have zf2 := BZ6.out.free (i := 2); have zf3 := BZ6.out.free (i := 3); have zf4 := BZ6.out.free (i := 4)
  obtain ⟨u0, u1, u2, u3, f1, f2, f3⟩ := HU6.out.cells
  go_wp2_with fail
  refine (IA.out _).mono ?_
  rintro e97 w97 ⟨rfl, rfl⟩
  go_wp2_with fail
  refine (IB.out _).mono ?_
  rintro e98 w98 ⟨rfl, rfl⟩
  go_wp2_with fail
  refine (EX.out _ HU6.out).mono ?_
  rintro e7 w7 ⟨t, sl, rfl, twf, tow, htq, hst, ht7⟩
  have hz7 := ht7.size
  have BZ7 := Lib.hid (show Box w7 w.heap.size 0 0 0 ⟨#[]⟩ (.slice none 0 0) 26 from (ht7.block w.heap.size (by omega) hd2).trans BZ6.out)
  have HT7 := Lib.hid (HT6.out.trans ht7)
  clear z0 z1 z2 z3 z4 zf0 zf1 zf2 zf3 zf4 u0 u1 u2 u3 f1 f2 f3 ht7
  obtain ⟨ua, un, uc, rfl⟩ : ∃ sa sn sc, sl = .slice sa sn sc := by obtain ⟨p, q, e⟩ := tow.slice; exact ⟨p, _, q, e⟩
  obtain ⟨z0, z1, z2, z3, z4⟩ := BZ7.out.cells
  have zf0 := BZ7.out.free (i := 0); have zf1 := BZ7.out.free (i := 1); have zf2 := BZ7.out.free (i := 2); have zf3 := BZ7.out.free (i := 3); have zf4 := BZ7.out.free (i := 4)
  have HP := Lib.hid (fun v0 v1 v2 v3 v4 => um_pass (s := s) (o := o) (t := t) (sl := .slice ua un uc) HT7.out (Nat.le_refl _) hd1 twf tow (fun x hx => by have hx' : _ ≤ x := hx; omega) htq hst v0 v1 v2 v3 v4)
  unfold V.agg at HP ⊢
  clear tow htq hst twf EX
  go_wp2_with fail
  refine bodyPost_ret (v := .agg #[.int .i64 t.k, .int .i64 t.n, .int .i64 t.e, .string t.s, .slice ua un uc]) (by simp [results, Tryd.results120, go_sem, z0, z1, z2, z3, z4]) rfl (HP.out _ _ _ _ _)
theorem value_any (d : Nat) (s : ByteArray) (hs : s.size ≤ 1048576) : ∀ (f : Nat) (deep : Int), deep = 13 - (f : Int) → f ≤ 13 → ∀ (i l : Nat) (w : World), i ≤ s.size → l ≤ 300 → UB w d s i (300 - (l : Int)) false →
    Calls Tryd.prog 120 #[.pointer (some ⟨d, 0, none⟩), .int .i64 deep] w (UmRet d s (mget s f i l) w)
  | 0, deep, hd, hf, i, l, w, hi, hl, h => by
    show Calls _ _ _ _ (UmRet d s none w)
    by_cases hin : i < s.size
    · by_cases h0 : l = 0
      · exact value_full d s hs deep i hi _ (by omega) w h _ (wgo_one hin) hin
      · exact value_deep d s hs deep i hi (by omega) _ (by omega) w h _ (wgo_one hin) hin
    · exact value_end d s hs deep i hi _ (by omega) w h (by unfold wgo; rw [if_neg (by omega)])
  | f + 1, deep, hd, hf, i, l, w, hi, hl, h => by
    have ih := fun (i l : Nat) (W : World) (hi : i ≤ s.size) (hl : l ≤ 300) (h : UB W d s i (300 - (l : Int)) false) => value_any d s hs f (deep + 1) (by omega) (by omega) i l W hi hl h
    by_cases hin : i < s.size
    · by_cases h0 : l = 0
      · rw [show mget s (f + 1) i l = none by rw [mget, dif_pos hin, if_pos h0]]
        exact value_full d s hs deep i hi _ (by omega) w h _ (wgo_one hin) hin
      · obtain ⟨l', rfl⟩ : ∃ l', l = l' + 1 := ⟨l - 1, by omega⟩
        rw [mget, dif_pos hin, if_neg (by omega), show l' + 1 - 1 = l' by omega]
        have hg := mget_good hs f
        have hb := wgo_one hin
        have hlt : s[i].toNat < 256 := by have := s[i].toNat_lt; omega
        generalize s[i].toNat = bn at *
        have hd2 : 0 ≤ deep ∧ deep ≤ 12 := by omega
        unfold mgByte
        by_cases h1 : bn < 128
        · rw [if_pos h1]; exact value_small d s hs _ hg deep hd2 ih i l' hin hl w h bn hb h1
        rw [if_neg h1]
        by_cases h2 : bn < 144
        · rw [if_pos h2]; exact value_map d s hs _ hg deep hd2 ih i l' hin hl w h bn hb (by omega) h2
        rw [if_neg h2]
        by_cases h3 : bn < 160
        · rw [if_pos h3]; exact value_list d s hs _ hg deep hd2 ih i l' hin hl w h bn hb (by omega) h3
        rw [if_neg h3]
        by_cases h4 : bn < 192
        · rw [if_pos h4]; exact value_text d s hs _ hg deep hd2 ih i l' hin hl w h bn hb (by omega) h4
        rw [if_neg h4]
        by_cases h5 : 224 ≤ bn
        · rw [if_pos h5]; exact value_neg d s hs _ hg deep hd2 ih i l' hin hl w h bn hb h5 hlt
        rw [if_neg h5]
        by_cases h6 : 204 ≤ bn ∧ bn ≤ 207
        · rw [if_pos h6]
          have hc : bn = 204 ∨ bn = 205 ∨ bn = 206 ∨ bn = 207 := by omega
          rcases hc with rfl | rfl | rfl | rfl
          · exact value_k204 d s hs _ hg deep hd2 ih i l' hin hl w h hb
          · exact value_k205 d s hs _ hg deep hd2 ih i l' hin hl w h hb
          · exact value_k206 d s hs _ hg deep hd2 ih i l' hin hl w h hb
          · exact value_k207 d s hs _ hg deep hd2 ih i l' hin hl w h hb
        rw [if_neg h6]
        by_cases h7 : 208 ≤ bn ∧ bn ≤ 211
        · rw [if_pos h7]
          have hc : bn = 208 ∨ bn = 209 ∨ bn = 210 ∨ bn = 211 := by omega
          rcases hc with rfl | rfl | rfl | rfl
          · exact value_k208 d s hs _ hg deep hd2 ih i l' hin hl w h hb
          · exact value_k209 d s hs _ hg deep hd2 ih i l' hin hl w h hb
          · exact value_k210 d s hs _ hg deep hd2 ih i l' hin hl w h hb
          · exact value_k211 d s hs _ hg deep hd2 ih i l' hin hl w h hb
        rw [if_neg h7]
        by_cases h8 : bn = 192
        · rw [if_pos h8]; subst h8; exact value_k192 d s hs _ hg deep hd2 ih i l' hin hl w h hb
        rw [if_neg h8]
        by_cases h9 : bn = 194 ∨ bn = 195
        · rw [if_pos h9]
          rcases h9 with rfl | rfl
          · exact value_k194 d s hs _ hg deep hd2 ih i l' hin hl w h hb
          · exact value_k195 d s hs _ hg deep hd2 ih i l' hin hl w h hb
        rw [if_neg h9]
        by_cases h10 : bn = 196 ∨ bn = 197
        · rw [if_pos h10]
          rcases h10 with rfl | rfl
          · exact value_k196 d s hs _ hg deep hd2 ih i l' hin hl w h hb
          · exact value_k197 d s hs _ hg deep hd2 ih i l' hin hl w h hb
        rw [if_neg h10]
        by_cases h11 : bn = 199
        · rw [if_pos h11]; subst h11; exact value_k199 d s hs _ hg deep hd2 ih i l' hin hl w h hb
        rw [if_neg h11]
        by_cases h12 : bn = 217 ∨ bn = 218
        · rw [if_pos h12]
          rcases h12 with rfl | rfl
          · exact value_k217 d s hs _ hg deep hd2 ih i l' hin hl w h hb
          · exact value_k218 d s hs _ hg deep hd2 ih i l' hin hl w h hb
        rw [if_neg h12]
        by_cases h13 : bn = 220
        · rw [if_pos h13]; subst h13; exact value_k220 d s hs _ hg deep hd2 ih i l' hin hl w h hb
        rw [if_neg h13]
        by_cases h14 : bn = 222
        · rw [if_pos h14]; subst h14; exact value_k222 d s hs _ hg deep hd2 ih i l' hin hl w h hb
        rw [if_neg h14]
        exact value_other d s hs _ hg deep hd2 ih i l' hin hl w h bn hb (by omega)
    · rw [show mget s (f + 1) i l = none by rw [mget, dif_neg hin]]
      exact value_end d s hs deep i hi _ (by omega) w h (by unfold wgo; rw [if_neg (by omega)])
end Go.Proofs.YtgbgeocmjdgmoaaDoor
