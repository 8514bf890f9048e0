/- Lemmas for the statement of the last text of this claim: texts joined. -/
import Derived.Test.YtgbgeocmjdgmoaaDoorCbK09
import Derived.Test.YtgbgeocmjdgmoaaDoorCbK10
import Derived.Test.YtgbgeocmjdgmoaaDoorCbK12
namespace Go.Proofs.YtgbgeocmjdgmoaaDoor
set_option linter.unusedSimpArgs false
set_option linter.unusedVariables false
set_option maxRecDepth 100000
open Go.RowKit
theorem dm_pass {d z : Nat} {s : ByteArray} {lo : Bool} {o : MG} {t : V} {sl : Value} {w W6 : World} {Fr : Nat → Prop} (hT : Touch (fun x => x = d) (fun x => x = d) w W6) (hz : w.heap.size ≤ z) (hzd : d ≠ z) (twf : t.wf) (tow : OwnS W6 Fr sl t.kids) (hF : ∀ x, Fr x → w.heap.size ≤ x ∧ x ≠ z)
    (hq : ∀ q, o = some q → t = q.1) (hs : DmSt d s lo (o.map (·.2)) W6) (v0 v1 v2 v3 v4 : Value) : DmRet d s lo o w (.returned (t.agg sl)) (set5 W6 z v0 v1 v2 v3 v4) :=
  ⟨t, sl, rfl, twf, OwnS.mono (tow.set5 z (fun h => (hF z h).2 rfl) _ _ _ _ _) (fun x hx => (hF x hx).1), hq, hs.keep (heap_set5 _ _ _ _ _ _ _ _ hzd), hT.set5 z hz _ _ _ _ _⟩
theorem dm_zero {d z : Nat} {s : ByteArray} {lo : Bool} {w W6 : World} {p : Nat} {c : Int} (hT : Touch (fun x => x = d) (fun x => x = d) w W6) (hz : w.heap.size ≤ z) (hzd : d ≠ z) (hp : p ≤ s.size) (hb : DB W6 d s p lo c true) (v0 v1 v2 v3 v4 : Value) :
    DmRet d s lo none w (.returned (.agg #[.int .i64 0, .int .i64 0, .int .i64 0, .string ⟨#[]⟩, .slice none 0 0])) (set5 W6 z v0 v1 v2 v3 v4) :=
  dm_pass (o := none) (t := .mk 0 0 0 ⟨#[]⟩ []) (Fr := fun _ => False) hT hz hzd ⟨in0, in0, in0, by show ByteArray.size ⟨#[]⟩ ≤ _; simp [ByteArray.size]⟩ (OwnS.nil _ _) (fun _ h => h.elim) (fun q e => by cases e) (show DmSt d s lo ((none : MG).map (·.2)) W6 from ⟨p, c, hp, hb⟩) _ _ _ _ _
theorem DmRet.al {d : Nat} {s : ByteArray} {lo : Bool} {o : MG} {w W : World} {e : Ending} (h : DmRet d s lo o w e W) (ob : Obj) : DmRet d s lo o w e (W.alloc ob) := by
  obtain ⟨t, sl, h1, h2, h3, h4, h5, h6⟩ := h
  have hb : Below W.heap.size W (W.alloc ob) := (Below.refl _ _).alloc (Nat.le_refl _) _
  exact ⟨t, sl, h1, h2, h3.keep (fun x _ hxs => hb.block x hxs), h4, h5.keep (hb.block d h5.lt), h6.trans (Touch.of_below hb)⟩
theorem simR_q {lo : Bool} {n x l : Nat} {q : V × Nat × Nat} (e : simR lo n x l = some q) : q.2 = (x, l) := by
  unfold simR mgLeaf at e
  repeat' split at e
  all_goals cases e
  all_goals rfl
theorem DlRet.dm {d : Nat} {s : ByteArray} {p l : Nat} {lo : Bool} {o : MG} {W w' : World} {e : Ending} (h : DlRet d s p lo (1204 - (l : Int)) o W e w') (hp : p ≤ s.size) (ho : ∀ q, o = some q → q.2 = (p, l)) :
    ∃ t : V, e = .returned (t.agg (.slice none 0 0)) ∧ t.wf ∧ t.kids = [] ∧ (∀ q, o = some q → t = q.1) ∧ DmSt d s lo (o.map (·.2)) w' ∧ Touch (fun x => x = d) (fun x => x = d) W w' := by
  obtain ⟨t, h1, h2, h3, h4, h5, h6⟩ := h
  refine ⟨t, h1, h2, h3, h4, ?_, h6⟩
  cases o with
  | none => exact ⟨p, _, hp, h5⟩
  | some q =>
    have := ho q rfl
    show DB w' d s q.2.1 lo (1204 - (q.2.2 : Int)) false
    rw [this]; exact h5
set_option maxHeartbeats 4000000 in
theorem dvalue_over (d : Nat) (s : ByteArray) (hs : s.size ≤ 1048576) (lo : Bool) (deep : Int) (hdp : 0 ≤ deep ∧ deep ≤ 17) (i : Nat) (hi : i ≤ s.size) (c : Int) (hc : 0 ≤ c ∧ c ≤ 1204) (w : World) (hU : DB w d s i lo c false) (hov : c = 1204 ∨ (c < 1204 ∧ deep = 17)) :
    Calls Tryd.prog 137 #[.pointer (some ⟨d, 0, none⟩), .int .i64 deep] w (DmRet d s lo none w) := by
  have hdw := lt_of_heap hU
  have HU := Lib.hid hU
  obtain ⟨u0, u1, u2, u3, u4, f1, f2, f3⟩ := hU.cells
  have hd1 : d ≠ w.heap.size := by omega
  have hd2 : w.heap.size ≠ d := by omega
  obtain ⟨hc0, hc1⟩ := hc
  obtain ⟨hdp0, hdp1⟩ := hdp
  have W5' := Lib.hid ((((HU.out.setC (c + 1)).setB true)).stay ((Below.refl _ _).alloc (Nat.le_refl _) (.cells #[.int .i64 0, .int .i64 0, .int .i64 0, .string ⟨#[]⟩, .slice none 0 0] 26)))
  have HT5 := Lib.hid (show Touch (fun x => x = d) (fun x => x = d) w (((w.setCell ⟨d, 3, none⟩ (.int .i64 (c + 1))).setCell ⟨d, 4, none⟩ (.bool true)).alloc (.cells #[.int .i64 0, .int .i64 0, .int .i64 0, .string ⟨#[]⟩, .slice none 0 0] 26)) from (((Touch.refl _ w).cellD _).cellD _).trans (Touch.of_below ((Below.refl _ _).alloc (Nat.le_refl _) _)))
  have BZ5 := Lib.hid (show Box (((w.setCell ⟨d, 3, none⟩ (.int .i64 (c + 1))).setCell ⟨d, 4, none⟩ (.bool true)).alloc (.cells #[.int .i64 0, .int .i64 0, .int .i64 0, .string ⟨#[]⟩, .slice none 0 0] 26)) w.heap.size 0 0 0 ⟨#[]⟩ (.slice none 0 0) 26 from heap_alloc_here _ (by simp))
  have hz5 : (((w.setCell ⟨d, 3, none⟩ (.int .i64 (c + 1))).setCell ⟨d, 4, none⟩ (.bool true)).alloc (.cells #[.int .i64 0, .int .i64 0, .int .i64 0, .string ⟨#[]⟩, .slice none 0 0] 26)).heap.size = w.heap.size + 1 := by simp
  have ON := Lib.hid (fun W (h : DB W d s i lo (c + 1) true) => open_no d s hs i hi lo (c + 1) true deep W h (.inl rfl))
  have HD := Lib.hid (fun W (h : DB W d s i lo (c + 1) true) => show Calls Tryd.prog 205 #[.pointer (some ⟨d, 0, none⟩)] W (DhRet d s i lo (c + 1) none W) from by
    have := head_any d s hs i hi lo (c + 1) true W h
    rw [if_pos rfl] at this; exact this)
  have hov2 : (∃ b, decide (1204 < c + 1) = b ∧ (b = false → decide (16 < deep) = true)) := by
    rcases hov with h | h
    · exact ⟨true, decide_eq_true (by omega), by simp⟩
    · exact ⟨false, decide_eq_false (by omega), fun _ => decide_eq_true (by omega)⟩
  obtain ⟨b, tc, t16⟩ := hov2
  clear hov hU
  have BZ := Lib.hid (Box.new w 0 0 0 ⟨#[]⟩ (.slice none 0 0) 26)
  obtain ⟨z0, z1, z2, z3, z4⟩ := BZ.out.cells
  have zf0 := BZ.out.free (i := 0); have zf1 := BZ.out.free (i := 1); have zf2 := BZ.out.free (i := 2); have zf3 := BZ.out.free (i := 3); have zf4 := BZ.out.free (i := 4)
  cases b
  · have t17 := t16 rfl
    clear t16
    go_enter Tryd.func137, Tryd.ntmps137
    go_wp2_with fail
    refine (ON.out _ W5'.out).mono ?_
    rintro e6 w6 ⟨rfl, hb6⟩
    have hz6 := hb6.size
    rw [hz5] at hz6
    have HU6 := Lib.hid ((W5'.out.stay hb6).stay ((Below.refl _ _).alloc (Nat.le_refl _) (.cells #[.int .i64 0, .int .i64 0, .int .i64 0, .string ⟨#[]⟩, .slice none 0 0] 26)))
    have HT6 := Lib.hid ((HT5.out.trans (Touch.of_below hb6)).trans (Touch.of_below ((Below.refl _ _).alloc (Nat.le_refl _) (.cells #[.int .i64 0, .int .i64 0, .int .i64 0, .string ⟨#[]⟩, .slice none 0 0] 26))))
    have BZ6 := Lib.hid ((BZ5.out.stay hb6).alloc (.cells #[.int .i64 0, .int .i64 0, .int .i64 0, .string ⟨#[]⟩, .slice none 0 0] 26))
    have hz6' : (w6.alloc (.cells #[.int .i64 0, .int .i64 0, .int .i64 0, .string ⟨#[]⟩, .slice none 0 0] 26)).heap.size = w6.heap.size + 1 := by simp
    clear z0 z1 z2 z3 z4 zf0 zf1 zf2 zf3 zf4 u0 u1 u2 u3 u4 f1 f2 f3 hb6
    go_wp2_with fail
    refine (HD.out _ HU6.out).mono ?_
    rintro e7 w7 ⟨⟨rfl, hu7⟩, ht7⟩
    have hz7 := ht7.size
    rw [hz6'] at hz7
    have BZ7 := Lib.hid (show Box w7 w.heap.size 0 0 0 ⟨#[]⟩ (.slice none 0 0) 26 from (ht7.block w.heap.size (by rw [hz6']; omega) hd2).trans BZ6.out)
    have HU7 := Lib.hid hu7
    have HT7 := Lib.hid (HT6.out.trans ht7)
    obtain ⟨z0, z1, z2, z3, z4⟩ := BZ7.out.cells
    have zf0 := BZ7.out.free (i := 0); have zf1 := BZ7.out.free (i := 1); have zf2 := BZ7.out.free (i := 2); have zf3 := BZ7.out.free (i := 3); have zf4 := BZ7.out.free (i := 4)
    obtain ⟨u0, u1, u2, u3, u4, f1, f2, f3⟩ := HU7.out.cells
    clear hu7 ht7
    go_wp2_with fail
    refine bodyPost_ret (v := .agg #[.int .i64 0, .int .i64 0, .int .i64 0, .string ⟨#[]⟩, .slice none 0 0]) (by simp [results, Tryd.results137, go_sem, z0, z1, z2, z3, z4]) rfl (dm_zero HT7.out (Nat.le_refl _) hd1 hi HU7.out _ _ _ _ _)
  · clear t16
    go_enter Tryd.func137, Tryd.ntmps137
    go_wp2_with fail
    refine (ON.out _ W5'.out).mono ?_
    rintro e6 w6 ⟨rfl, hb6⟩
    have hz6 := hb6.size
    rw [hz5] at hz6
    have HU6 := Lib.hid ((W5'.out.stay hb6).stay ((Below.refl _ _).alloc (Nat.le_refl _) (.cells #[.int .i64 0, .int .i64 0, .int .i64 0, .string ⟨#[]⟩, .slice none 0 0] 26)))
    have HT6 := Lib.hid ((HT5.out.trans (Touch.of_below hb6)).trans (Touch.of_below ((Below.refl _ _).alloc (Nat.le_refl _) (.cells #[.int .i64 0, .int .i64 0, .int .i64 0, .string ⟨#[]⟩, .slice none 0 0] 26))))
    have BZ6 := Lib.hid ((BZ5.out.stay hb6).alloc (.cells #[.int .i64 0, .int .i64 0, .int .i64 0, .string ⟨#[]⟩, .slice none 0 0] 26))
    have hz6' : (w6.alloc (.cells #[.int .i64 0, .int .i64 0, .int .i64 0, .string ⟨#[]⟩, .slice none 0 0] 26)).heap.size = w6.heap.size + 1 := by simp
    clear z0 z1 z2 z3 z4 zf0 zf1 zf2 zf3 zf4 u0 u1 u2 u3 u4 f1 f2 f3 hb6
    go_wp2_with fail
    refine (HD.out _ HU6.out).mono ?_
    rintro e7 w7 ⟨⟨rfl, hu7⟩, ht7⟩
    have hz7 := ht7.size
    rw [hz6'] at hz7
    have BZ7 := Lib.hid (show Box w7 w.heap.size 0 0 0 ⟨#[]⟩ (.slice none 0 0) 26 from (ht7.block w.heap.size (by rw [hz6']; omega) hd2).trans BZ6.out)
    have HU7 := Lib.hid hu7
    have HT7 := Lib.hid (HT6.out.trans ht7)
    obtain ⟨z0, z1, z2, z3, z4⟩ := BZ7.out.cells
    have zf0 := BZ7.out.free (i := 0); have zf1 := BZ7.out.free (i := 1); have zf2 := BZ7.out.free (i := 2); have zf3 := BZ7.out.free (i := 3); have zf4 := BZ7.out.free (i := 4)
    obtain ⟨u0, u1, u2, u3, u4, f1, f2, f3⟩ := HU7.out.cells
    clear hu7 ht7
    go_wp2_with fail
    refine bodyPost_ret (v := .agg #[.int .i64 0, .int .i64 0, .int .i64 0, .string ⟨#[]⟩, .slice none 0 0]) (by simp [results, Tryd.results137, go_sem, z0, z1, z2, z3, z4]) rfl (dm_zero HT7.out (Nat.le_refl _) hd1 hi HU7.out _ _ _ _ _)
set_option maxHeartbeats 4000000 in
theorem dvalue_open (w0 : World) (hE : Env w0) (d : Nat) (hd0 : w0.heap.size ≤ d) (s : ByteArray) (hs : s.size ≤ 1048576) (lo : Bool) (g : Nat → Nat → MG) (hg : ∀ i l, CGood s i l (g i l)) (deep : Int) (hdp : 0 ≤ deep ∧ deep ≤ 16)
    (hV : ∀ (i l : Nat) (W : World), i ≤ s.size → l ≤ 1204 → Below w0.heap.size w0 W → DB W d s i lo (1204 - (l : Int)) false → Calls Tryd.prog 137 #[.pointer (some ⟨d, 0, none⟩), .int .i64 (deep + 1)] W (DmRet d s lo (g i l) W))
    (i l : Nat) (hi : i ≤ s.size) (hl : l + 1 ≤ 1204) (w : World) (hw : Below w0.heap.size w0 w) (hU : DB w d s i lo (1204 - ((l + 1 : Nat) : Int)) false) (o : MG) (hO : ∀ (W : World), Below w0.heap.size w0 W → DB W d s i lo (1204 - (l : Int)) false → Calls Tryd.prog 204 #[.pointer (some ⟨d, 0, none⟩), .int .i64 deep] W (DoRet d s lo o W)) :
    Calls Tryd.prog 137 #[.pointer (some ⟨d, 0, none⟩), .int .i64 deep] w (DmRet d s lo o w) := by
  have hdw := lt_of_heap hU
  obtain ⟨c, hc⟩ : ∃ c : Int, c = 1204 - ((l + 1 : Nat) : Int) := ⟨_, rfl⟩
  rw [← hc] at hU
  obtain ⟨hdp0, hdp1⟩ := hdp
  have hwd : wrap64 (deep + 1) = deep + 1 := by unfold wrap64; omega
  have HU := Lib.hid hU
  obtain ⟨u0, u1, u2, u3, u4, f1, f2, f3⟩ := hU.cells
  have hd1 : d ≠ w.heap.size := by omega
  have hd2 : w.heap.size ≠ d := by omega
  have hc0 : 0 ≤ c := by omega
  have hc1 : c + 1 ≤ 1204 := by omega
  have HCL := Lib.hid (show c + 1 = 1204 - (l : Int) by omega)
  clear hc
  have t16 : decide (16 < deep) = false := decide_eq_false (by omega)
  have tc : decide (1204 < c + 1) = false := decide_eq_false (by omega)
  have HU5 := Lib.hid (show DB ((w.setCell ⟨d, 3, none⟩ (.int .i64 (c + 1))).alloc (.cells #[.int .i64 0, .int .i64 0, .int .i64 0, .string ⟨#[]⟩, .slice none 0 0] 26)) d s i lo (c + 1) false from (HU.out.setC (c + 1)).stay ((Below.refl _ _).alloc (Nat.le_refl _) _))
  have HT5 := Lib.hid (show Touch (fun x => x = d) (fun x => x = d) w ((w.setCell ⟨d, 3, none⟩ (.int .i64 (c + 1))).alloc (.cells #[.int .i64 0, .int .i64 0, .int .i64 0, .string ⟨#[]⟩, .slice none 0 0] 26)) from ((Touch.refl _ w).cellD _).trans (Touch.of_below ((Below.refl _ _).alloc (Nat.le_refl _) _)))
  have BZ5 := Lib.hid (show Box ((w.setCell ⟨d, 3, none⟩ (.int .i64 (c + 1))).alloc (.cells #[.int .i64 0, .int .i64 0, .int .i64 0, .string ⟨#[]⟩, .slice none 0 0] 26)) w.heap.size 0 0 0 ⟨#[]⟩ (.slice none 0 0) 26 from heap_alloc_here _ (by simp))
  have hz5 : ((w.setCell ⟨d, 3, none⟩ (.int .i64 (c + 1))).alloc (.cells #[.int .i64 0, .int .i64 0, .int .i64 0, .string ⟨#[]⟩, .slice none 0 0] 26)).heap.size = w.heap.size + 1 := by simp
  have BZ := Lib.hid (Box.new w 0 0 0 ⟨#[]⟩ (.slice none 0 0) 26)
  obtain ⟨z0, z1, z2, z3, z4⟩ := BZ.out.cells
  have zf0 := BZ.out.free (i := 0); have zf1 := BZ.out.free (i := 1); have zf2 := BZ.out.free (i := 2); have zf3 := BZ.out.free (i := 3); have zf4 := BZ.out.free (i := 4)
  have HBL := Lib.hid (fun W (hT : Touch (fun x => x = d) (fun x => x = d) w W) => hw.trans (hT.below (fun x hx => by omega) hw.size))
  have ON := Lib.hid (fun W (hW : Below w0.heap.size w0 W) (h : DB W d s i lo (c + 1) false) => hO W hW (by rw [← HCL.out]; exact h))
  clear hO hV hg hU
  go_enter Tryd.func137, Tryd.ntmps137
  go_wp2_with fail
  refine (ON.out _ (HBL.out _ HT5.out) HU5.out).mono ?_
  rintro e6 w6 ⟨t, sl, rfl, twf, tow, htq, hst, ht6⟩
  obtain ⟨ua, un, uc, rfl⟩ : ∃ sa sn sc, sl = .slice sa sn sc := by obtain ⟨p, q, e⟩ := tow.slice; exact ⟨p, _, q, e⟩
  have hz6 := ht6.size
  have hz6' := hz6
  rw [hz5] at hz6'
  have BZ6 := Lib.hid (show Box w6 w.heap.size 0 0 0 ⟨#[]⟩ (.slice none 0 0) 26 from (ht6.block w.heap.size (by rw [hz5]; omega) hd2).trans BZ5.out)
  have HT6 := Lib.hid (HT5.out.trans ht6)
  have HP := Lib.hid (fun v0 v1 v2 v3 v4 => show DmRet d s lo o w (.returned (t.agg (.slice ua un uc))) ((set5 w6 w.heap.size v0 v1 v2 v3 v4).alloc (.cells #[.int .i64 t.k, .int .i64 t.n, .int .i64 t.e, .string t.s, .slice ua un uc] 26)) from
    DmRet.al (dm_pass (s := s) (o := o) (t := t) (sl := .slice ua un uc) (z := w.heap.size) HT6.out (Nat.le_refl _) hd1 twf tow (fun x hx => by have hx' : ((w.setCell ⟨d, 3, none⟩ (.int .i64 (c + 1))).alloc (.cells #[.int .i64 0, .int .i64 0, .int .i64 0, .string ⟨#[]⟩, .slice none 0 0] 26)).heap.size ≤ x := hx; rw [hz5] at hx'; omega) htq hst v0 v1 v2 v3 v4) _)
  clear z0 z1 z2 z3 z4 zf0 zf1 zf2 zf3 zf4 u0 u1 u2 u3 u4 f1 f2 f3
  obtain ⟨z0, z1, z2, z3, z4⟩ := BZ6.out.cells
  have zf0 := BZ6.out.free (i := 0); have zf1 := BZ6.out.free (i := 1); have zf2 := BZ6.out.free (i := 2); have zf3 := BZ6.out.free (i := 3); have zf4 := BZ6.out.free (i := 4)
  have hm1 : w.heap.size ≠ w6.heap.size := by omega
  have hm2 : w6.heap.size ≠ w.heap.size := by omega
  have hm3 : w.heap.size < w6.heap.size := by omega
  clear tow htq hst ht6 twf
  unfold V.agg at HP ⊢
  go_wp2_with fail
  refine bodyPost_ret (v := .agg #[.int .i64 t.k, .int .i64 t.n, .int .i64 t.e, .string t.s, .slice ua un uc]) (by simp [results, Tryd.results137, go_sem, z0, z1, z2, z3, z4, hm3]) rfl (HP.out _ _ _ _ _)
set_option maxHeartbeats 4000000 in
theorem dvalue_nohead (w0 : World) (hE : Env w0) (d : Nat) (hd0 : w0.heap.size ≤ d) (s : ByteArray) (hs : s.size ≤ 1048576) (lo : Bool) (g : Nat → Nat → MG) (hg : ∀ i l, CGood s i l (g i l)) (deep : Int) (hdp : 0 ≤ deep ∧ deep ≤ 16)
    (hV : ∀ (i l : Nat) (W : World), i ≤ s.size → l ≤ 1204 → Below w0.heap.size w0 W → DB W d s i lo (1204 - (l : Int)) false → Calls Tryd.prog 137 #[.pointer (some ⟨d, 0, none⟩), .int .i64 (deep + 1)] W (DmRet d s lo (g i l) W))
    (i l : Nat) (hi : i ≤ s.size) (hl : l + 1 ≤ 1204) (w : World) (hw : Below w0.heap.size w0 w) (hU : DB w d s i lo (1204 - ((l + 1 : Nat) : Int)) false) (hno : (false : Bool) = true ∨ lo = false ∨ ∀ hi : i < s.size, s[i].toNat ≠ 95 ∧ s[i].toNat ≠ 127 ∧ s[i].toNat ≠ 159 ∧ s[i].toNat ≠ 191) (hh : hdR lo s i = none) :
    Calls Tryd.prog 137 #[.pointer (some ⟨d, 0, none⟩), .int .i64 deep] w (DmRet d s lo none w) := by
  have hdw := lt_of_heap hU
  obtain ⟨c, hc⟩ : ∃ c : Int, c = 1204 - ((l + 1 : Nat) : Int) := ⟨_, rfl⟩
  rw [← hc] at hU
  obtain ⟨hdp0, hdp1⟩ := hdp
  have hwd : wrap64 (deep + 1) = deep + 1 := by unfold wrap64; omega
  have HU := Lib.hid hU
  obtain ⟨u0, u1, u2, u3, u4, f1, f2, f3⟩ := hU.cells
  have hd1 : d ≠ w.heap.size := by omega
  have hd2 : w.heap.size ≠ d := by omega
  have hc0 : 0 ≤ c := by omega
  have hc1 : c + 1 ≤ 1204 := by omega
  have HCL := Lib.hid (show c + 1 = 1204 - (l : Int) by omega)
  clear hc
  have t16 : decide (16 < deep) = false := decide_eq_false (by omega)
  have tc : decide (1204 < c + 1) = false := decide_eq_false (by omega)
  have HU5 := Lib.hid (show DB ((w.setCell ⟨d, 3, none⟩ (.int .i64 (c + 1))).alloc (.cells #[.int .i64 0, .int .i64 0, .int .i64 0, .string ⟨#[]⟩, .slice none 0 0] 26)) d s i lo (c + 1) false from (HU.out.setC (c + 1)).stay ((Below.refl _ _).alloc (Nat.le_refl _) _))
  have HT5 := Lib.hid (show Touch (fun x => x = d) (fun x => x = d) w ((w.setCell ⟨d, 3, none⟩ (.int .i64 (c + 1))).alloc (.cells #[.int .i64 0, .int .i64 0, .int .i64 0, .string ⟨#[]⟩, .slice none 0 0] 26)) from ((Touch.refl _ w).cellD _).trans (Touch.of_below ((Below.refl _ _).alloc (Nat.le_refl _) _)))
  have BZ5 := Lib.hid (show Box ((w.setCell ⟨d, 3, none⟩ (.int .i64 (c + 1))).alloc (.cells #[.int .i64 0, .int .i64 0, .int .i64 0, .string ⟨#[]⟩, .slice none 0 0] 26)) w.heap.size 0 0 0 ⟨#[]⟩ (.slice none 0 0) 26 from heap_alloc_here _ (by simp))
  have hz5 : ((w.setCell ⟨d, 3, none⟩ (.int .i64 (c + 1))).alloc (.cells #[.int .i64 0, .int .i64 0, .int .i64 0, .string ⟨#[]⟩, .slice none 0 0] 26)).heap.size = w.heap.size + 1 := by simp
  have BZ := Lib.hid (Box.new w 0 0 0 ⟨#[]⟩ (.slice none 0 0) 26)
  obtain ⟨z0, z1, z2, z3, z4⟩ := BZ.out.cells
  have zf0 := BZ.out.free (i := 0); have zf1 := BZ.out.free (i := 1); have zf2 := BZ.out.free (i := 2); have zf3 := BZ.out.free (i := 3); have zf4 := BZ.out.free (i := 4)
  have HBL := Lib.hid (fun W (hT : Touch (fun x => x = d) (fun x => x = d) w W) => hw.trans (hT.below (fun x hx => by omega) hw.size))
  have ON := Lib.hid (fun W (h : DB W d s i lo (c + 1) false) => open_no d s hs i hi lo (c + 1) false deep W h hno)
  have HD := Lib.hid (fun W (h : DB W d s i lo (c + 1) false) => show Calls Tryd.prog 205 #[.pointer (some ⟨d, 0, none⟩)] W (DhRet d s i lo (c + 1) none W) from by
    have := head_any d s hs i hi lo (c + 1) false W h
    rw [if_neg (by simp), hh] at this; exact this)
  clear hh hno hV hg hU
  go_enter Tryd.func137, Tryd.ntmps137
  go_wp2_with fail
  refine (ON.out _ HU5.out).mono ?_
  rintro e6 w6 ⟨rfl, hb6⟩
  have hz6 := hb6.size
  rw [hz5] at hz6
  have HU6 := Lib.hid ((HU5.out.stay hb6).stay ((Below.refl _ _).alloc (Nat.le_refl _) (.cells #[.int .i64 0, .int .i64 0, .int .i64 0, .string ⟨#[]⟩, .slice none 0 0] 26)))
  have HT6 := Lib.hid ((HT5.out.trans (Touch.of_below hb6)).trans (Touch.of_below ((Below.refl _ _).alloc (Nat.le_refl _) (.cells #[.int .i64 0, .int .i64 0, .int .i64 0, .string ⟨#[]⟩, .slice none 0 0] 26))))
  have BZ6 := Lib.hid ((BZ5.out.stay hb6).alloc (.cells #[.int .i64 0, .int .i64 0, .int .i64 0, .string ⟨#[]⟩, .slice none 0 0] 26))
  have hz6' : (w6.alloc (.cells #[.int .i64 0, .int .i64 0, .int .i64 0, .string ⟨#[]⟩, .slice none 0 0] 26)).heap.size = w6.heap.size + 1 := by simp
  clear z0 z1 z2 z3 z4 zf0 zf1 zf2 zf3 zf4 u0 u1 u2 u3 u4 f1 f2 f3 hb6
  go_wp2_with fail
  refine (HD.out _ HU6.out).mono ?_
  rintro e7 w7 ⟨⟨rfl, hu7⟩, ht7⟩
  have hz7 := ht7.size
  rw [hz6'] at hz7
  have BZ7 := Lib.hid (show Box w7 w.heap.size 0 0 0 ⟨#[]⟩ (.slice none 0 0) 26 from (ht7.block w.heap.size (by rw [hz6']; omega) hd2).trans BZ6.out)
  have HU7 := Lib.hid hu7
  have HT7 := Lib.hid (HT6.out.trans ht7)
  have hlt7 : w.heap.size < w7.heap.size := by omega
  obtain ⟨z0, z1, z2, z3, z4⟩ := BZ7.out.cells
  have zf0 := BZ7.out.free (i := 0); have zf1 := BZ7.out.free (i := 1); have zf2 := BZ7.out.free (i := 2); have zf3 := BZ7.out.free (i := 3); have zf4 := BZ7.out.free (i := 4)
  obtain ⟨u0, u1, u2, u3, u4, f1, f2, f3⟩ := HU7.out.cells
  clear hu7 ht7
  go_wp2_with fail
  refine bodyPost_ret (v := .agg #[.int .i64 0, .int .i64 0, .int .i64 0, .string ⟨#[]⟩, .slice none 0 0]) (by simp [results, Tryd.results137, go_sem, z0, z1, z2, z3, z4]) rfl (dm_zero HT7.out (Nat.le_refl _) hd1 hi HU7.out _ _ _ _ _)
set_option maxHeartbeats 4000000 in
theorem dvalue_num0 (w0 : World) (hE : Env w0) (d : Nat) (hd0 : w0.heap.size ≤ d) (s : ByteArray) (hs : s.size ≤ 1048576) (lo : Bool) (g : Nat → Nat → MG) (hg : ∀ i l, CGood s i l (g i l)) (deep : Int) (hdp : 0 ≤ deep ∧ deep ≤ 16)
    (hV : ∀ (i l : Nat) (W : World), i ≤ s.size → l ≤ 1204 → Below w0.heap.size w0 W → DB W d s i lo (1204 - (l : Int)) false → Calls Tryd.prog 137 #[.pointer (some ⟨d, 0, none⟩), .int .i64 (deep + 1)] W (DmRet d s lo (g i l) W))
    (i l : Nat) (hi : i ≤ s.size) (hl : l + 1 ≤ 1204) (w : World) (hw : Below w0.heap.size w0 w) (hU : DB w d s i lo (1204 - ((l + 1 : Nat) : Int)) false) (hno : (false : Bool) = true ∨ lo = false ∨ ∀ hi : i < s.size, s[i].toNat ≠ 95 ∧ s[i].toNat ≠ 127 ∧ s[i].toNat ≠ 159 ∧ s[i].toNat ≠ 191) (a n x : Nat) (hh : hdR lo s i = some (a, n, x)) (ha : a = 0) :
    Calls Tryd.prog 137 #[.pointer (some ⟨d, 0, none⟩), .int .i64 deep] w (DmRet d s lo (if 9223372036854775807 < n then none else mgLeaf 3 (if a = 1 then -1 - (n : Int) else n) 0 x l) w) := by
  have hdw := lt_of_heap hU
  obtain ⟨c, hc⟩ : ∃ c : Int, c = 1204 - ((l + 1 : Nat) : Int) := ⟨_, rfl⟩
  rw [← hc] at hU
  obtain ⟨hdp0, hdp1⟩ := hdp
  have hwd : wrap64 (deep + 1) = deep + 1 := by unfold wrap64; omega
  have HU := Lib.hid hU
  obtain ⟨u0, u1, u2, u3, u4, f1, f2, f3⟩ := hU.cells
  have hd1 : d ≠ w.heap.size := by omega
  have hd2 : w.heap.size ≠ d := by omega
  have hc0 : 0 ≤ c := by omega
  have hc1 : c + 1 ≤ 1204 := by omega
  have HCL := Lib.hid (show c + 1 = 1204 - (l : Int) by omega)
  clear hc
  have t16 : decide (16 < deep) = false := decide_eq_false (by omega)
  have tc : decide (1204 < c + 1) = false := decide_eq_false (by omega)
  have HU5 := Lib.hid (show DB ((w.setCell ⟨d, 3, none⟩ (.int .i64 (c + 1))).alloc (.cells #[.int .i64 0, .int .i64 0, .int .i64 0, .string ⟨#[]⟩, .slice none 0 0] 26)) d s i lo (c + 1) false from (HU.out.setC (c + 1)).stay ((Below.refl _ _).alloc (Nat.le_refl _) _))
  have HT5 := Lib.hid (show Touch (fun x => x = d) (fun x => x = d) w ((w.setCell ⟨d, 3, none⟩ (.int .i64 (c + 1))).alloc (.cells #[.int .i64 0, .int .i64 0, .int .i64 0, .string ⟨#[]⟩, .slice none 0 0] 26)) from ((Touch.refl _ w).cellD _).trans (Touch.of_below ((Below.refl _ _).alloc (Nat.le_refl _) _)))
  have BZ5 := Lib.hid (show Box ((w.setCell ⟨d, 3, none⟩ (.int .i64 (c + 1))).alloc (.cells #[.int .i64 0, .int .i64 0, .int .i64 0, .string ⟨#[]⟩, .slice none 0 0] 26)) w.heap.size 0 0 0 ⟨#[]⟩ (.slice none 0 0) 26 from heap_alloc_here _ (by simp))
  have hz5 : ((w.setCell ⟨d, 3, none⟩ (.int .i64 (c + 1))).alloc (.cells #[.int .i64 0, .int .i64 0, .int .i64 0, .string ⟨#[]⟩, .slice none 0 0] 26)).heap.size = w.heap.size + 1 := by simp
  have BZ := Lib.hid (Box.new w 0 0 0 ⟨#[]⟩ (.slice none 0 0) 26)
  obtain ⟨z0, z1, z2, z3, z4⟩ := BZ.out.cells
  have zf0 := BZ.out.free (i := 0); have zf1 := BZ.out.free (i := 1); have zf2 := BZ.out.free (i := 2); have zf3 := BZ.out.free (i := 3); have zf4 := BZ.out.free (i := 4)
  have HBL := Lib.hid (fun W (hT : Touch (fun x => x = d) (fun x => x = d) w W) => hw.trans (hT.below (fun x hx => by omega) hw.size))
  have ON := Lib.hid (fun W (h : DB W d s i lo (c + 1) false) => open_no d s hs i hi lo (c + 1) false deep W h hno)
  have HD := Lib.hid (fun W (h : DB W d s i lo (c + 1) false) => show Calls Tryd.prog 205 #[.pointer (some ⟨d, 0, none⟩)] W (DhRet d s i lo (c + 1) (some (a, n, x)) W) from by
    have := head_any d s hs i hi lo (c + 1) false W h
    rw [if_neg (by simp), hh] at this; exact this)
  have hx := hdR_some hh
  obtain ⟨hx1, hx2, hx3, hx4, hx5⟩ := hx
  clear hx5
  subst ha
  have LF := Lib.hid (fun W (h : DB W d s x lo (c + 1) false) => (number_any d s x lo (c + 1) 0 n x l (by omega) hx3 W h).mono fun e w' h => (by rw [HCL.out] at h; exact h.dm hx2 (fun q e => by split at e <;> cases e; rfl) : ∃ t : V, e = .returned (t.agg (.slice none 0 0)) ∧ t.wf ∧ t.kids = [] ∧ (∀ q, (if 9223372036854775807 < n then none else mgLeaf 3 (if 0 = 1 then -1 - (n : Int) else n) 0 x l) = some q → t = q.1) ∧ DmSt d s lo ((if 9223372036854775807 < n then none else mgLeaf 3 (if 0 = 1 then -1 - (n : Int) else n) 0 x l).map (·.2)) w' ∧ Touch (fun x => x = d) (fun x => x = d) W w'))
  clear hh hno hV hg hU
  generalize (if 9223372036854775807 < n then none else mgLeaf 3 (if 0 = 1 then -1 - (n : Int) else n) 0 x l) = o at *
  go_enter Tryd.func137, Tryd.ntmps137
  go_wp2_with fail
  refine (ON.out _ HU5.out).mono ?_
  rintro e6 w6 ⟨rfl, hb6⟩
  have hz6 := hb6.size
  rw [hz5] at hz6
  have HU6 := Lib.hid ((HU5.out.stay hb6).stay ((Below.refl _ _).alloc (Nat.le_refl _) (.cells #[.int .i64 0, .int .i64 0, .int .i64 0, .string ⟨#[]⟩, .slice none 0 0] 26)))
  have HT6 := Lib.hid ((HT5.out.trans (Touch.of_below hb6)).trans (Touch.of_below ((Below.refl _ _).alloc (Nat.le_refl _) (.cells #[.int .i64 0, .int .i64 0, .int .i64 0, .string ⟨#[]⟩, .slice none 0 0] 26))))
  have BZ6 := Lib.hid ((BZ5.out.stay hb6).alloc (.cells #[.int .i64 0, .int .i64 0, .int .i64 0, .string ⟨#[]⟩, .slice none 0 0] 26))
  have hz6' : (w6.alloc (.cells #[.int .i64 0, .int .i64 0, .int .i64 0, .string ⟨#[]⟩, .slice none 0 0] 26)).heap.size = w6.heap.size + 1 := by simp
  clear z0 z1 z2 z3 z4 zf0 zf1 zf2 zf3 zf4 u0 u1 u2 u3 u4 f1 f2 f3 hb6
  go_wp2_with fail
  refine (HD.out _ HU6.out).mono ?_
  rintro e7 w7 ⟨⟨rfl, hu7⟩, ht7⟩
  have hz7 := ht7.size
  rw [hz6'] at hz7
  have BZ7 := Lib.hid (show Box w7 w.heap.size 0 0 0 ⟨#[]⟩ (.slice none 0 0) 26 from (ht7.block w.heap.size (by rw [hz6']; omega) hd2).trans BZ6.out)
  have HU7 := Lib.hid hu7
  have HT7 := Lib.hid (HT6.out.trans ht7)
  have hlt7 : w.heap.size < w7.heap.size := by omega
  obtain ⟨z0, z1, z2, z3, z4⟩ := BZ7.out.cells
  have zf0 := BZ7.out.free (i := 0); have zf1 := BZ7.out.free (i := 1); have zf2 := BZ7.out.free (i := 2); have zf3 := BZ7.out.free (i := 3); have zf4 := BZ7.out.free (i := 4)
  obtain ⟨u0, u1, u2, u3, u4, f1, f2, f3⟩ := HU7.out.cells
  clear hu7 ht7
  go_wp2_with fail
  refine (LF.out _ HU7.out).mono ?_
  rintro e8 w8 ⟨t, rfl, twf, tk, htq, hst, ht8⟩
  have hz8 := ht8.size
  have BZ8 := Lib.hid (show Box w8 w.heap.size 0 0 0 ⟨#[]⟩ (.slice none 0 0) 26 from (ht8.block w.heap.size (by omega) hd2).trans BZ7.out)
  have HP := Lib.hid (fun v0 v1 v2 v3 v4 => dm_pass (s := s) (o := o) (t := t) (sl := .slice none 0 0) (z := w.heap.size) (Fr := fun _ => False) (HT7.out.trans ht8) (Nat.le_refl _) hd1 twf (by rw [tk]; exact OwnS.nil _ _) (fun _ h => h.elim) htq hst v0 v1 v2 v3 v4)
  clear z0 z1 z2 z3 z4 zf0 zf1 zf2 zf3 zf4 u0 u1 u2 u3 u4 f1 f2 f3
  obtain ⟨z0, z1, z2, z3, z4⟩ := BZ8.out.cells
  have zf0 := BZ8.out.free (i := 0); have zf1 := BZ8.out.free (i := 1); have zf2 := BZ8.out.free (i := 2); have zf3 := BZ8.out.free (i := 3); have zf4 := BZ8.out.free (i := 4)
  clear htq hst ht8 twf tk
  unfold V.agg at HP ⊢
  go_wp2_with fail
  refine bodyPost_ret (v := .agg #[.int .i64 t.k, .int .i64 t.n, .int .i64 t.e, .string t.s, .slice none 0 0]) (by simp [results, Tryd.results137, go_sem, z0, z1, z2, z3, z4]) rfl (HP.out _ _ _ _ _)
set_option maxHeartbeats 4000000 in
theorem dvalue_num1 (w0 : World) (hE : Env w0) (d : Nat) (hd0 : w0.heap.size ≤ d) (s : ByteArray) (hs : s.size ≤ 1048576) (lo : Bool) (g : Nat → Nat → MG) (hg : ∀ i l, CGood s i l (g i l)) (deep : Int) (hdp : 0 ≤ deep ∧ deep ≤ 16)
    (hV : ∀ (i l : Nat) (W : World), i ≤ s.size → l ≤ 1204 → Below w0.heap.size w0 W → DB W d s i lo (1204 - (l : Int)) false → Calls Tryd.prog 137 #[.pointer (some ⟨d, 0, none⟩), .int .i64 (deep + 1)] W (DmRet d s lo (g i l) W))
    (i l : Nat) (hi : i ≤ s.size) (hl : l + 1 ≤ 1204) (w : World) (hw : Below w0.heap.size w0 w) (hU : DB w d s i lo (1204 - ((l + 1 : Nat) : Int)) false) (hno : (false : Bool) = true ∨ lo = false ∨ ∀ hi : i < s.size, s[i].toNat ≠ 95 ∧ s[i].toNat ≠ 127 ∧ s[i].toNat ≠ 159 ∧ s[i].toNat ≠ 191) (a n x : Nat) (hh : hdR lo s i = some (a, n, x)) (ha : a = 1) :
    Calls Tryd.prog 137 #[.pointer (some ⟨d, 0, none⟩), .int .i64 deep] w (DmRet d s lo (if 9223372036854775807 < n then none else mgLeaf 3 (if a = 1 then -1 - (n : Int) else n) 0 x l) w) := by
  have hdw := lt_of_heap hU
  obtain ⟨c, hc⟩ : ∃ c : Int, c = 1204 - ((l + 1 : Nat) : Int) := ⟨_, rfl⟩
  rw [← hc] at hU
  obtain ⟨hdp0, hdp1⟩ := hdp
  have hwd : wrap64 (deep + 1) = deep + 1 := by unfold wrap64; omega
  have HU := Lib.hid hU
  obtain ⟨u0, u1, u2, u3, u4, f1, f2, f3⟩ := hU.cells
  have hd1 : d ≠ w.heap.size := by omega
  have hd2 : w.heap.size ≠ d := by omega
  have hc0 : 0 ≤ c := by omega
  have hc1 : c + 1 ≤ 1204 := by omega
  have HCL := Lib.hid (show c + 1 = 1204 - (l : Int) by omega)
  clear hc
  have t16 : decide (16 < deep) = false := decide_eq_false (by omega)
  have tc : decide (1204 < c + 1) = false := decide_eq_false (by omega)
  have HU5 := Lib.hid (show DB ((w.setCell ⟨d, 3, none⟩ (.int .i64 (c + 1))).alloc (.cells #[.int .i64 0, .int .i64 0, .int .i64 0, .string ⟨#[]⟩, .slice none 0 0] 26)) d s i lo (c + 1) false from (HU.out.setC (c + 1)).stay ((Below.refl _ _).alloc (Nat.le_refl _) _))
  have HT5 := Lib.hid (show Touch (fun x => x = d) (fun x => x = d) w ((w.setCell ⟨d, 3, none⟩ (.int .i64 (c + 1))).alloc (.cells #[.int .i64 0, .int .i64 0, .int .i64 0, .string ⟨#[]⟩, .slice none 0 0] 26)) from ((Touch.refl _ w).cellD _).trans (Touch.of_below ((Below.refl _ _).alloc (Nat.le_refl _) _)))
  have BZ5 := Lib.hid (show Box ((w.setCell ⟨d, 3, none⟩ (.int .i64 (c + 1))).alloc (.cells #[.int .i64 0, .int .i64 0, .int .i64 0, .string ⟨#[]⟩, .slice none 0 0] 26)) w.heap.size 0 0 0 ⟨#[]⟩ (.slice none 0 0) 26 from heap_alloc_here _ (by simp))
  have hz5 : ((w.setCell ⟨d, 3, none⟩ (.int .i64 (c + 1))).alloc (.cells #[.int .i64 0, .int .i64 0, .int .i64 0, .string ⟨#[]⟩, .slice none 0 0] 26)).heap.size = w.heap.size + 1 := by simp
  have BZ := Lib.hid (Box.new w 0 0 0 ⟨#[]⟩ (.slice none 0 0) 26)
  obtain ⟨z0, z1, z2, z3, z4⟩ := BZ.out.cells
  have zf0 := BZ.out.free (i := 0); have zf1 := BZ.out.free (i := 1); have zf2 := BZ.out.free (i := 2); have zf3 := BZ.out.free (i := 3); have zf4 := BZ.out.free (i := 4)
  have HBL := Lib.hid (fun W (hT : Touch (fun x => x = d) (fun x => x = d) w W) => hw.trans (hT.below (fun x hx => by omega) hw.size))
  have ON := Lib.hid (fun W (h : DB W d s i lo (c + 1) false) => open_no d s hs i hi lo (c + 1) false deep W h hno)
  have HD := Lib.hid (fun W (h : DB W d s i lo (c + 1) false) => show Calls Tryd.prog 205 #[.pointer (some ⟨d, 0, none⟩)] W (DhRet d s i lo (c + 1) (some (a, n, x)) W) from by
    have := head_any d s hs i hi lo (c + 1) false W h
    rw [if_neg (by simp), hh] at this; exact this)
  have hx := hdR_some hh
  obtain ⟨hx1, hx2, hx3, hx4, hx5⟩ := hx
  clear hx5
  subst ha
  have LF := Lib.hid (fun W (h : DB W d s x lo (c + 1) false) => (number_any d s x lo (c + 1) 1 n x l (by omega) hx3 W h).mono fun e w' h => (by rw [HCL.out] at h; exact h.dm hx2 (fun q e => by split at e <;> cases e; rfl) : ∃ t : V, e = .returned (t.agg (.slice none 0 0)) ∧ t.wf ∧ t.kids = [] ∧ (∀ q, (if 9223372036854775807 < n then none else mgLeaf 3 (if 1 = 1 then -1 - (n : Int) else n) 0 x l) = some q → t = q.1) ∧ DmSt d s lo ((if 9223372036854775807 < n then none else mgLeaf 3 (if 1 = 1 then -1 - (n : Int) else n) 0 x l).map (·.2)) w' ∧ Touch (fun x => x = d) (fun x => x = d) W w'))
  clear hh hno hV hg hU
  generalize (if 9223372036854775807 < n then none else mgLeaf 3 (if 1 = 1 then -1 - (n : Int) else n) 0 x l) = o at *
  go_enter Tryd.func137, Tryd.ntmps137
  go_wp2_with fail
  refine (ON.out _ HU5.out).mono ?_
  rintro e6 w6 ⟨rfl, hb6⟩
  have hz6 := hb6.size
  rw [hz5] at hz6
  have HU6 := Lib.hid ((HU5.out.stay hb6).stay ((Below.refl _ _).alloc (Nat.le_refl _) (.cells #[.int .i64 0, .int .i64 0, .int .i64 0, .string ⟨#[]⟩, .slice none 0 0] 26)))
  have HT6 := Lib.hid ((HT5.out.trans (Touch.of_below hb6)).trans (Touch.of_below ((Below.refl _ _).alloc (Nat.le_refl _) (.cells #[.int .i64 0, .int .i64 0, .int .i64 0, .string ⟨#[]⟩, .slice none 0 0] 26))))
  have BZ6 := Lib.hid ((BZ5.out.stay hb6).alloc (.cells #[.int .i64 0, .int .i64 0, .int .i64 0, .string ⟨#[]⟩, .slice none 0 0] 26))
  have hz6' : (w6.alloc (.cells #[.int .i64 0, .int .i64 0, .int .i64 0, .string ⟨#[]⟩, .slice none 0 0] 26)).heap.size = w6.heap.size + 1 := by simp
  clear z0 z1 z2 z3 z4 zf0 zf1 zf2 zf3 zf4 u0 u1 u2 u3 u4 f1 f2 f3 hb6
  go_wp2_with fail
  refine (HD.out _ HU6.out).mono ?_
  rintro e7 w7 ⟨⟨rfl, hu7⟩, ht7⟩
  have hz7 := ht7.size
  rw [hz6'] at hz7
  have BZ7 := Lib.hid (show Box w7 w.heap.size 0 0 0 ⟨#[]⟩ (.slice none 0 0) 26 from (ht7.block w.heap.size (by rw [hz6']; omega) hd2).trans BZ6.out)
  have HU7 := Lib.hid hu7
  have HT7 := Lib.hid (HT6.out.trans ht7)
  have hlt7 : w.heap.size < w7.heap.size := by omega
  obtain ⟨z0, z1, z2, z3, z4⟩ := BZ7.out.cells
  have zf0 := BZ7.out.free (i := 0); have zf1 := BZ7.out.free (i := 1); have zf2 := BZ7.out.free (i := 2); have zf3 := BZ7.out.free (i := 3); have zf4 := BZ7.out.free (i := 4)
  obtain ⟨u0, u1, u2, u3, u4, f1, f2, f3⟩ := HU7.out.cells
  clear hu7 ht7
  go_wp2_with fail
  refine (LF.out _ HU7.out).mono ?_
  rintro e8 w8 ⟨t, rfl, twf, tk, htq, hst, ht8⟩
  have hz8 := ht8.size
  have BZ8 := Lib.hid (show Box w8 w.heap.size 0 0 0 ⟨#[]⟩ (.slice none 0 0) 26 from (ht8.block w.heap.size (by omega) hd2).trans BZ7.out)
  have HP := Lib.hid (fun v0 v1 v2 v3 v4 => dm_pass (s := s) (o := o) (t := t) (sl := .slice none 0 0) (z := w.heap.size) (Fr := fun _ => False) (HT7.out.trans ht8) (Nat.le_refl _) hd1 twf (by rw [tk]; exact OwnS.nil _ _) (fun _ h => h.elim) htq hst v0 v1 v2 v3 v4)
  clear z0 z1 z2 z3 z4 zf0 zf1 zf2 zf3 zf4 u0 u1 u2 u3 u4 f1 f2 f3
  obtain ⟨z0, z1, z2, z3, z4⟩ := BZ8.out.cells
  have zf0 := BZ8.out.free (i := 0); have zf1 := BZ8.out.free (i := 1); have zf2 := BZ8.out.free (i := 2); have zf3 := BZ8.out.free (i := 3); have zf4 := BZ8.out.free (i := 4)
  clear htq hst ht8 twf tk
  unfold V.agg at HP ⊢
  go_wp2_with fail
  refine bodyPost_ret (v := .agg #[.int .i64 t.k, .int .i64 t.n, .int .i64 t.e, .string t.s, .slice none 0 0]) (by simp [results, Tryd.results137, go_sem, z0, z1, z2, z3, z4]) rfl (HP.out _ _ _ _ _)
set_option maxHeartbeats 4000000 in
theorem dvalue_simple (w0 : World) (hE : Env w0) (d : Nat) (hd0 : w0.heap.size ≤ d) (s : ByteArray) (hs : s.size ≤ 1048576) (lo : Bool) (g : Nat → Nat → MG) (hg : ∀ i l, CGood s i l (g i l)) (deep : Int) (hdp : 0 ≤ deep ∧ deep ≤ 16)
    (hV : ∀ (i l : Nat) (W : World), i ≤ s.size → l ≤ 1204 → Below w0.heap.size w0 W → DB W d s i lo (1204 - (l : Int)) false → Calls Tryd.prog 137 #[.pointer (some ⟨d, 0, none⟩), .int .i64 (deep + 1)] W (DmRet d s lo (g i l) W))
    (i l : Nat) (hi : i ≤ s.size) (hl : l + 1 ≤ 1204) (w : World) (hw : Below w0.heap.size w0 w) (hU : DB w d s i lo (1204 - ((l + 1 : Nat) : Int)) false) (hno : (false : Bool) = true ∨ lo = false ∨ ∀ hi : i < s.size, s[i].toNat ≠ 95 ∧ s[i].toNat ≠ 127 ∧ s[i].toNat ≠ 159 ∧ s[i].toNat ≠ 191) (a n x : Nat) (hh : hdR lo s i = some (a, n, x)) (ha : a = 7) :
    Calls Tryd.prog 137 #[.pointer (some ⟨d, 0, none⟩), .int .i64 deep] w (DmRet d s lo (simR lo n x l) w) := by
  have hdw := lt_of_heap hU
  obtain ⟨c, hc⟩ : ∃ c : Int, c = 1204 - ((l + 1 : Nat) : Int) := ⟨_, rfl⟩
  rw [← hc] at hU
  obtain ⟨hdp0, hdp1⟩ := hdp
  have hwd : wrap64 (deep + 1) = deep + 1 := by unfold wrap64; omega
  have HU := Lib.hid hU
  obtain ⟨u0, u1, u2, u3, u4, f1, f2, f3⟩ := hU.cells
  have hd1 : d ≠ w.heap.size := by omega
  have hd2 : w.heap.size ≠ d := by omega
  have hc0 : 0 ≤ c := by omega
  have hc1 : c + 1 ≤ 1204 := by omega
  have HCL := Lib.hid (show c + 1 = 1204 - (l : Int) by omega)
  clear hc
  have t16 : decide (16 < deep) = false := decide_eq_false (by omega)
  have tc : decide (1204 < c + 1) = false := decide_eq_false (by omega)
  have HU5 := Lib.hid (show DB ((w.setCell ⟨d, 3, none⟩ (.int .i64 (c + 1))).alloc (.cells #[.int .i64 0, .int .i64 0, .int .i64 0, .string ⟨#[]⟩, .slice none 0 0] 26)) d s i lo (c + 1) false from (HU.out.setC (c + 1)).stay ((Below.refl _ _).alloc (Nat.le_refl _) _))
  have HT5 := Lib.hid (show Touch (fun x => x = d) (fun x => x = d) w ((w.setCell ⟨d, 3, none⟩ (.int .i64 (c + 1))).alloc (.cells #[.int .i64 0, .int .i64 0, .int .i64 0, .string ⟨#[]⟩, .slice none 0 0] 26)) from ((Touch.refl _ w).cellD _).trans (Touch.of_below ((Below.refl _ _).alloc (Nat.le_refl _) _)))
  have BZ5 := Lib.hid (show Box ((w.setCell ⟨d, 3, none⟩ (.int .i64 (c + 1))).alloc (.cells #[.int .i64 0, .int .i64 0, .int .i64 0, .string ⟨#[]⟩, .slice none 0 0] 26)) w.heap.size 0 0 0 ⟨#[]⟩ (.slice none 0 0) 26 from heap_alloc_here _ (by simp))
  have hz5 : ((w.setCell ⟨d, 3, none⟩ (.int .i64 (c + 1))).alloc (.cells #[.int .i64 0, .int .i64 0, .int .i64 0, .string ⟨#[]⟩, .slice none 0 0] 26)).heap.size = w.heap.size + 1 := by simp
  have BZ := Lib.hid (Box.new w 0 0 0 ⟨#[]⟩ (.slice none 0 0) 26)
  obtain ⟨z0, z1, z2, z3, z4⟩ := BZ.out.cells
  have zf0 := BZ.out.free (i := 0); have zf1 := BZ.out.free (i := 1); have zf2 := BZ.out.free (i := 2); have zf3 := BZ.out.free (i := 3); have zf4 := BZ.out.free (i := 4)
  have HBL := Lib.hid (fun W (hT : Touch (fun x => x = d) (fun x => x = d) w W) => hw.trans (hT.below (fun x hx => by omega) hw.size))
  have ON := Lib.hid (fun W (h : DB W d s i lo (c + 1) false) => open_no d s hs i hi lo (c + 1) false deep W h hno)
  have HD := Lib.hid (fun W (h : DB W d s i lo (c + 1) false) => show Calls Tryd.prog 205 #[.pointer (some ⟨d, 0, none⟩)] W (DhRet d s i lo (c + 1) (some (a, n, x)) W) from by
    have := head_any d s hs i hi lo (c + 1) false W h
    rw [if_neg (by simp), hh] at this; exact this)
  have hx := hdR_some hh
  obtain ⟨hx1, hx2, hx3, hx4, hx5⟩ := hx
  clear hx5
  subst ha
  have LF := Lib.hid (fun W (h : DB W d s x lo (c + 1) false) => (simple_any d s x lo (c + 1) n x l hx3 W h).mono fun e w' h => (by rw [HCL.out] at h; exact h.dm hx2 (fun q e => simR_q e) : ∃ t : V, e = .returned (t.agg (.slice none 0 0)) ∧ t.wf ∧ t.kids = [] ∧ (∀ q, simR lo n x l = some q → t = q.1) ∧ DmSt d s lo ((simR lo n x l).map (·.2)) w' ∧ Touch (fun x => x = d) (fun x => x = d) W w'))
  clear hh hno hV hg hU
  generalize simR lo n x l = o at *
  go_enter Tryd.func137, Tryd.ntmps137
  go_wp2_with fail
  refine (ON.out _ HU5.out).mono ?_
  rintro e6 w6 ⟨rfl, hb6⟩
  have hz6 := hb6.size
  rw [hz5] at hz6
  have HU6 := Lib.hid ((HU5.out.stay hb6).stay ((Below.refl _ _).alloc (Nat.le_refl _) (.cells #[.int .i64 0, .int .i64 0, .int .i64 0, .string ⟨#[]⟩, .slice none 0 0] 26)))
  have HT6 := Lib.hid ((HT5.out.trans (Touch.of_below hb6)).trans (Touch.of_below ((Below.refl _ _).alloc (Nat.le_refl _) (.cells #[.int .i64 0, .int .i64 0, .int .i64 0, .string ⟨#[]⟩, .slice none 0 0] 26))))
  have BZ6 := Lib.hid ((BZ5.out.stay hb6).alloc (.cells #[.int .i64 0, .int .i64 0, .int .i64 0, .string ⟨#[]⟩, .slice none 0 0] 26))
  have hz6' : (w6.alloc (.cells #[.int .i64 0, .int .i64 0, .int .i64 0, .string ⟨#[]⟩, .slice none 0 0] 26)).heap.size = w6.heap.size + 1 := by simp
  clear z0 z1 z2 z3 z4 zf0 zf1 zf2 zf3 zf4 u0 u1 u2 u3 u4 f1 f2 f3 hb6
  go_wp2_with fail
  refine (HD.out _ HU6.out).mono ?_
  rintro e7 w7 ⟨⟨rfl, hu7⟩, ht7⟩
  have hz7 := ht7.size
  rw [hz6'] at hz7
  have BZ7 := Lib.hid (show Box w7 w.heap.size 0 0 0 ⟨#[]⟩ (.slice none 0 0) 26 from (ht7.block w.heap.size (by rw [hz6']; omega) hd2).trans BZ6.out)
  have HU7 := Lib.hid hu7
  have HT7 := Lib.hid (HT6.out.trans ht7)
  have hlt7 : w.heap.size < w7.heap.size := by omega
  obtain ⟨z0, z1, z2, z3, z4⟩ := BZ7.out.cells
  have zf0 := BZ7.out.free (i := 0); have zf1 := BZ7.out.free (i := 1); have zf2 := BZ7.out.free (i := 2); have zf3 := BZ7.out.free (i := 3); have zf4 := BZ7.out.free (i := 4)
  obtain ⟨u0, u1, u2, u3, u4, f1, f2, f3⟩ := HU7.out.cells
  clear hu7 ht7
  go_wp2_with fail
  refine (LF.out _ HU7.out).mono ?_
  rintro e8 w8 ⟨t, rfl, twf, tk, htq, hst, ht8⟩
  have hz8 := ht8.size
  have BZ8 := Lib.hid (show Box w8 w.heap.size 0 0 0 ⟨#[]⟩ (.slice none 0 0) 26 from (ht8.block w.heap.size (by omega) hd2).trans BZ7.out)
  have HP := Lib.hid (fun v0 v1 v2 v3 v4 => dm_pass (s := s) (o := o) (t := t) (sl := .slice none 0 0) (z := w.heap.size) (Fr := fun _ => False) (HT7.out.trans ht8) (Nat.le_refl _) hd1 twf (by rw [tk]; exact OwnS.nil _ _) (fun _ h => h.elim) htq hst v0 v1 v2 v3 v4)
  clear z0 z1 z2 z3 z4 zf0 zf1 zf2 zf3 zf4 u0 u1 u2 u3 u4 f1 f2 f3
  obtain ⟨z0, z1, z2, z3, z4⟩ := BZ8.out.cells
  have zf0 := BZ8.out.free (i := 0); have zf1 := BZ8.out.free (i := 1); have zf2 := BZ8.out.free (i := 2); have zf3 := BZ8.out.free (i := 3); have zf4 := BZ8.out.free (i := 4)
  clear htq hst ht8 twf tk
  unfold V.agg at HP ⊢
  go_wp2_with fail
  refine bodyPost_ret (v := .agg #[.int .i64 t.k, .int .i64 t.n, .int .i64 t.e, .string t.s, .slice none 0 0]) (by simp [results, Tryd.results137, go_sem, z0, z1, z2, z3, z4]) rfl (HP.out _ _ _ _ _)
set_option maxHeartbeats 4000000 in
theorem dvalue_str2 (w0 : World) (hE : Env w0) (d : Nat) (hd0 : w0.heap.size ≤ d) (s : ByteArray) (hs : s.size ≤ 1048576) (lo : Bool) (g : Nat → Nat → MG) (hg : ∀ i l, CGood s i l (g i l)) (deep : Int) (hdp : 0 ≤ deep ∧ deep ≤ 16)
    (hV : ∀ (i l : Nat) (W : World), i ≤ s.size → l ≤ 1204 → Below w0.heap.size w0 W → DB W d s i lo (1204 - (l : Int)) false → Calls Tryd.prog 137 #[.pointer (some ⟨d, 0, none⟩), .int .i64 (deep + 1)] W (DmRet d s lo (g i l) W))
    (i l : Nat) (hi : i ≤ s.size) (hl : l + 1 ≤ 1204) (w : World) (hw : Below w0.heap.size w0 w) (hU : DB w d s i lo (1204 - ((l + 1 : Nat) : Int)) false) (hno : (false : Bool) = true ∨ lo = false ∨ ∀ hi : i < s.size, s[i].toNat ≠ 95 ∧ s[i].toNat ≠ 127 ∧ s[i].toNat ≠ 159 ∧ s[i].toNat ≠ 191) (a n x : Nat) (hh : hdR lo s i = some (a, n, x)) (ha : a = 2) :
    Calls Tryd.prog 137 #[.pointer (some ⟨d, 0, none⟩), .int .i64 deep] w (DmRet d s lo (mgStr s 6 x n l) w) := by
  have hdw := lt_of_heap hU
  obtain ⟨c, hc⟩ : ∃ c : Int, c = 1204 - ((l + 1 : Nat) : Int) := ⟨_, rfl⟩
  rw [← hc] at hU
  obtain ⟨hdp0, hdp1⟩ := hdp
  have hwd : wrap64 (deep + 1) = deep + 1 := by unfold wrap64; omega
  have HU := Lib.hid hU
  obtain ⟨u0, u1, u2, u3, u4, f1, f2, f3⟩ := hU.cells
  have hd1 : d ≠ w.heap.size := by omega
  have hd2 : w.heap.size ≠ d := by omega
  have hc0 : 0 ≤ c := by omega
  have hc1 : c + 1 ≤ 1204 := by omega
  have HCL := Lib.hid (show c + 1 = 1204 - (l : Int) by omega)
  clear hc
  have t16 : decide (16 < deep) = false := decide_eq_false (by omega)
  have tc : decide (1204 < c + 1) = false := decide_eq_false (by omega)
  have HU5 := Lib.hid (show DB ((w.setCell ⟨d, 3, none⟩ (.int .i64 (c + 1))).alloc (.cells #[.int .i64 0, .int .i64 0, .int .i64 0, .string ⟨#[]⟩, .slice none 0 0] 26)) d s i lo (c + 1) false from (HU.out.setC (c + 1)).stay ((Below.refl _ _).alloc (Nat.le_refl _) _))
  have HT5 := Lib.hid (show Touch (fun x => x = d) (fun x => x = d) w ((w.setCell ⟨d, 3, none⟩ (.int .i64 (c + 1))).alloc (.cells #[.int .i64 0, .int .i64 0, .int .i64 0, .string ⟨#[]⟩, .slice none 0 0] 26)) from ((Touch.refl _ w).cellD _).trans (Touch.of_below ((Below.refl _ _).alloc (Nat.le_refl _) _)))
  have BZ5 := Lib.hid (show Box ((w.setCell ⟨d, 3, none⟩ (.int .i64 (c + 1))).alloc (.cells #[.int .i64 0, .int .i64 0, .int .i64 0, .string ⟨#[]⟩, .slice none 0 0] 26)) w.heap.size 0 0 0 ⟨#[]⟩ (.slice none 0 0) 26 from heap_alloc_here _ (by simp))
  have hz5 : ((w.setCell ⟨d, 3, none⟩ (.int .i64 (c + 1))).alloc (.cells #[.int .i64 0, .int .i64 0, .int .i64 0, .string ⟨#[]⟩, .slice none 0 0] 26)).heap.size = w.heap.size + 1 := by simp
  have BZ := Lib.hid (Box.new w 0 0 0 ⟨#[]⟩ (.slice none 0 0) 26)
  obtain ⟨z0, z1, z2, z3, z4⟩ := BZ.out.cells
  have zf0 := BZ.out.free (i := 0); have zf1 := BZ.out.free (i := 1); have zf2 := BZ.out.free (i := 2); have zf3 := BZ.out.free (i := 3); have zf4 := BZ.out.free (i := 4)
  have HBL := Lib.hid (fun W (hT : Touch (fun x => x = d) (fun x => x = d) w W) => hw.trans (hT.below (fun x hx => by omega) hw.size))
  have ON := Lib.hid (fun W (h : DB W d s i lo (c + 1) false) => open_no d s hs i hi lo (c + 1) false deep W h hno)
  have HD := Lib.hid (fun W (h : DB W d s i lo (c + 1) false) => show Calls Tryd.prog 205 #[.pointer (some ⟨d, 0, none⟩)] W (DhRet d s i lo (c + 1) (some (a, n, x)) W) from by
    have := head_any d s hs i hi lo (c + 1) false W h
    rw [if_neg (by simp), hh] at this; exact this)
  have hx := hdR_some hh
  obtain ⟨hx1, hx2, hx3, hx4, hx5⟩ := hx
  clear hx5
  subst ha
  have BX := Lib.hid (fun W (h : DB W d s x lo (c + 1) false) => bytes_any d s hs x n hx2 hx3 lo (c + 1) false W h)
  clear hh hno hV hg hU
  by_cases hn : x + n ≤ s.size
  · rw [show mgStr s 6 x n l = some (.mk 6 0 0 (s.extract x (x + n)) [], x + n, l) by unfold mgStr; rw [if_pos hn]]
    rw [decide_eq_true hn] at BX
    have hxs : (s.extract x (x + n)).size ≤ 9223372036854775807 := by rw [ByteArray.size_extract]; omega
    go_enter Tryd.func137, Tryd.ntmps137
    go_wp2_with fail
    refine (ON.out _ HU5.out).mono ?_
    rintro e6 w6 ⟨rfl, hb6⟩
    have hz6 := hb6.size
    rw [hz5] at hz6
    have HU6 := Lib.hid ((HU5.out.stay hb6).stay ((Below.refl _ _).alloc (Nat.le_refl _) (.cells #[.int .i64 0, .int .i64 0, .int .i64 0, .string ⟨#[]⟩, .slice none 0 0] 26)))
    have HT6 := Lib.hid ((HT5.out.trans (Touch.of_below hb6)).trans (Touch.of_below ((Below.refl _ _).alloc (Nat.le_refl _) (.cells #[.int .i64 0, .int .i64 0, .int .i64 0, .string ⟨#[]⟩, .slice none 0 0] 26))))
    have BZ6 := Lib.hid ((BZ5.out.stay hb6).alloc (.cells #[.int .i64 0, .int .i64 0, .int .i64 0, .string ⟨#[]⟩, .slice none 0 0] 26))
    have hz6' : (w6.alloc (.cells #[.int .i64 0, .int .i64 0, .int .i64 0, .string ⟨#[]⟩, .slice none 0 0] 26)).heap.size = w6.heap.size + 1 := by simp
    clear z0 z1 z2 z3 z4 zf0 zf1 zf2 zf3 zf4 u0 u1 u2 u3 u4 f1 f2 f3 hb6
    go_wp2_with fail
    refine (HD.out _ HU6.out).mono ?_
    rintro e7 w7 ⟨⟨rfl, hu7⟩, ht7⟩
    have hz7 := ht7.size
    rw [hz6'] at hz7
    have BZ7 := Lib.hid (show Box w7 w.heap.size 0 0 0 ⟨#[]⟩ (.slice none 0 0) 26 from (ht7.block w.heap.size (by rw [hz6']; omega) hd2).trans BZ6.out)
    have HU7 := Lib.hid hu7
    have HT7 := Lib.hid (HT6.out.trans ht7)
    have hlt7 : w.heap.size < w7.heap.size := by omega
    obtain ⟨z0, z1, z2, z3, z4⟩ := BZ7.out.cells
    have zf0 := BZ7.out.free (i := 0); have zf1 := BZ7.out.free (i := 1); have zf2 := BZ7.out.free (i := 2); have zf3 := BZ7.out.free (i := 3); have zf4 := BZ7.out.free (i := 4)
    obtain ⟨u0, u1, u2, u3, u4, f1, f2, f3⟩ := HU7.out.cells
    clear hu7 ht7
    go_wp2_with fail
    refine (BX.out _ HU7.out).mono ?_
    rintro e8 w8 ⟨⟨rfl, hu8⟩, ht8⟩
    have hz8 := ht8.size
    have BZ8 := Lib.hid (show Box w8 w.heap.size 0 0 0 ⟨#[]⟩ (.slice none 0 0) 26 from (ht8.block w.heap.size (by omega) hd2).trans BZ7.out)
    have HP := Lib.hid (fun v0 v1 v2 v3 v4 => dm_pass (s := s) (lo := lo) (o := some (.mk 6 0 0 (s.extract x (x + n)) [], x + n, l)) (t := .mk 6 0 0 (s.extract x (x + n)) []) (sl := .slice none 0 0) (z := w.heap.size) (Fr := fun _ => False) (HT7.out.trans ht8) (Nat.le_refl _) hd1 ⟨k64 6 (by omega) (by omega), in0, in0, hxs⟩ (OwnS.nil _ _) (fun _ h => h.elim) (fun q e => by injection e with e; rw [← e]) (show DB w8 d s (x + n) lo (1204 - (l : Int)) false by rw [← HCL.out]; exact hu8) v0 v1 v2 v3 v4)
    clear z0 z1 z2 z3 z4 zf0 zf1 zf2 zf3 zf4 u0 u1 u2 u3 u4 f1 f2 f3
    obtain ⟨z0, z1, z2, z3, z4⟩ := BZ8.out.cells
    have zf0 := BZ8.out.free (i := 0); have zf1 := BZ8.out.free (i := 1); have zf2 := BZ8.out.free (i := 2); have zf3 := BZ8.out.free (i := 3); have zf4 := BZ8.out.free (i := 4)
    clear hu8 ht8
    go_wp2_with fail
    refine bodyPost_ret (v := .agg #[.int .i64 6, .int .i64 0, .int .i64 0, .string (s.extract x (x + n)), .slice none 0 0]) (by simp [results, Tryd.results137, go_sem, z0, z1, z2, z3, z4]) rfl (HP.out _ _ _ _ _)
  · rw [show mgStr s 6 x n l = none by unfold mgStr; rw [if_neg hn]]
    rw [decide_eq_false hn] at BX
    go_enter Tryd.func137, Tryd.ntmps137
    go_wp2_with fail
    refine (ON.out _ HU5.out).mono ?_
    rintro e6 w6 ⟨rfl, hb6⟩
    have hz6 := hb6.size
    rw [hz5] at hz6
    have HU6 := Lib.hid ((HU5.out.stay hb6).stay ((Below.refl _ _).alloc (Nat.le_refl _) (.cells #[.int .i64 0, .int .i64 0, .int .i64 0, .string ⟨#[]⟩, .slice none 0 0] 26)))
    have HT6 := Lib.hid ((HT5.out.trans (Touch.of_below hb6)).trans (Touch.of_below ((Below.refl _ _).alloc (Nat.le_refl _) (.cells #[.int .i64 0, .int .i64 0, .int .i64 0, .string ⟨#[]⟩, .slice none 0 0] 26))))
    have BZ6 := Lib.hid ((BZ5.out.stay hb6).alloc (.cells #[.int .i64 0, .int .i64 0, .int .i64 0, .string ⟨#[]⟩, .slice none 0 0] 26))
    have hz6' : (w6.alloc (.cells #[.int .i64 0, .int .i64 0, .int .i64 0, .string ⟨#[]⟩, .slice none 0 0] 26)).heap.size = w6.heap.size + 1 := by simp
    clear z0 z1 z2 z3 z4 zf0 zf1 zf2 zf3 zf4 u0 u1 u2 u3 u4 f1 f2 f3 hb6
    go_wp2_with fail
    refine (HD.out _ HU6.out).mono ?_
    rintro e7 w7 ⟨⟨rfl, hu7⟩, ht7⟩
    have hz7 := ht7.size
    rw [hz6'] at hz7
    have BZ7 := Lib.hid (show Box w7 w.heap.size 0 0 0 ⟨#[]⟩ (.slice none 0 0) 26 from (ht7.block w.heap.size (by rw [hz6']; omega) hd2).trans BZ6.out)
    have HU7 := Lib.hid hu7
    have HT7 := Lib.hid (HT6.out.trans ht7)
    have hlt7 : w.heap.size < w7.heap.size := by omega
    obtain ⟨z0, z1, z2, z3, z4⟩ := BZ7.out.cells
    have zf0 := BZ7.out.free (i := 0); have zf1 := BZ7.out.free (i := 1); have zf2 := BZ7.out.free (i := 2); have zf3 := BZ7.out.free (i := 3); have zf4 := BZ7.out.free (i := 4)
    obtain ⟨u0, u1, u2, u3, u4, f1, f2, f3⟩ := HU7.out.cells
    clear hu7 ht7
    go_wp2_with fail
    refine (BX.out _ HU7.out).mono ?_
    rintro e8 w8 ⟨⟨rfl, hu8⟩, ht8⟩
    have hz8 := ht8.size
    have BZ8 := Lib.hid (show Box w8 w.heap.size 0 0 0 ⟨#[]⟩ (.slice none 0 0) 26 from (ht8.block w.heap.size (by omega) hd2).trans BZ7.out)
    have HP := Lib.hid (fun v0 v1 v2 v3 v4 => dm_pass (s := s) (lo := lo) (o := none) (t := .mk 6 0 0 ⟨#[]⟩ []) (sl := .slice none 0 0) (z := w.heap.size) (Fr := fun _ => False) (HT7.out.trans ht8) (Nat.le_refl _) hd1 ⟨k64 6 (by omega) (by omega), in0, in0, by show ByteArray.size ⟨#[]⟩ ≤ _; simp [ByteArray.size]⟩ (OwnS.nil _ _) (fun _ h => h.elim) (fun q e => by cases e) ⟨x, _, hx2, hu8⟩ v0 v1 v2 v3 v4)
    clear z0 z1 z2 z3 z4 zf0 zf1 zf2 zf3 zf4 u0 u1 u2 u3 u4 f1 f2 f3
    obtain ⟨z0, z1, z2, z3, z4⟩ := BZ8.out.cells
    have zf0 := BZ8.out.free (i := 0); have zf1 := BZ8.out.free (i := 1); have zf2 := BZ8.out.free (i := 2); have zf3 := BZ8.out.free (i := 3); have zf4 := BZ8.out.free (i := 4)
    clear hu8 ht8
    go_wp2_with fail
    refine bodyPost_ret (v := .agg #[.int .i64 6, .int .i64 0, .int .i64 0, .string ⟨#[]⟩, .slice none 0 0]) (by simp [results, Tryd.results137, go_sem, z0, z1, z2, z3, z4]) rfl (HP.out _ _ _ _ _)
set_option maxHeartbeats 4000000 in
theorem dvalue_str3 (w0 : World) (hE : Env w0) (d : Nat) (hd0 : w0.heap.size ≤ d) (s : ByteArray) (hs : s.size ≤ 1048576) (lo : Bool) (g : Nat → Nat → MG) (hg : ∀ i l, CGood s i l (g i l)) (deep : Int) (hdp : 0 ≤ deep ∧ deep ≤ 16)
    (hV : ∀ (i l : Nat) (W : World), i ≤ s.size → l ≤ 1204 → Below w0.heap.size w0 W → DB W d s i lo (1204 - (l : Int)) false → Calls Tryd.prog 137 #[.pointer (some ⟨d, 0, none⟩), .int .i64 (deep + 1)] W (DmRet d s lo (g i l) W))
    (i l : Nat) (hi : i ≤ s.size) (hl : l + 1 ≤ 1204) (w : World) (hw : Below w0.heap.size w0 w) (hU : DB w d s i lo (1204 - ((l + 1 : Nat) : Int)) false) (hno : (false : Bool) = true ∨ lo = false ∨ ∀ hi : i < s.size, s[i].toNat ≠ 95 ∧ s[i].toNat ≠ 127 ∧ s[i].toNat ≠ 159 ∧ s[i].toNat ≠ 191) (a n x : Nat) (hh : hdR lo s i = some (a, n, x)) (ha : a = 3) :
    Calls Tryd.prog 137 #[.pointer (some ⟨d, 0, none⟩), .int .i64 deep] w (DmRet d s lo (mgStr s 5 x n l) w) := by
  have hdw := lt_of_heap hU
  obtain ⟨c, hc⟩ : ∃ c : Int, c = 1204 - ((l + 1 : Nat) : Int) := ⟨_, rfl⟩
  rw [← hc] at hU
  obtain ⟨hdp0, hdp1⟩ := hdp
  have hwd : wrap64 (deep + 1) = deep + 1 := by unfold wrap64; omega
  have HU := Lib.hid hU
  obtain ⟨u0, u1, u2, u3, u4, f1, f2, f3⟩ := hU.cells
  have hd1 : d ≠ w.heap.size := by omega
  have hd2 : w.heap.size ≠ d := by omega
  have hc0 : 0 ≤ c := by omega
  have hc1 : c + 1 ≤ 1204 := by omega
  have HCL := Lib.hid (show c + 1 = 1204 - (l : Int) by omega)
  clear hc
  have t16 : decide (16 < deep) = false := decide_eq_false (by omega)
  have tc : decide (1204 < c + 1) = false := decide_eq_false (by omega)
  have HU5 := Lib.hid (show DB ((w.setCell ⟨d, 3, none⟩ (.int .i64 (c + 1))).alloc (.cells #[.int .i64 0, .int .i64 0, .int .i64 0, .string ⟨#[]⟩, .slice none 0 0] 26)) d s i lo (c + 1) false from (HU.out.setC (c + 1)).stay ((Below.refl _ _).alloc (Nat.le_refl _) _))
  have HT5 := Lib.hid (show Touch (fun x => x = d) (fun x => x = d) w ((w.setCell ⟨d, 3, none⟩ (.int .i64 (c + 1))).alloc (.cells #[.int .i64 0, .int .i64 0, .int .i64 0, .string ⟨#[]⟩, .slice none 0 0] 26)) from ((Touch.refl _ w).cellD _).trans (Touch.of_below ((Below.refl _ _).alloc (Nat.le_refl _) _)))
  have BZ5 := Lib.hid (show Box ((w.setCell ⟨d, 3, none⟩ (.int .i64 (c + 1))).alloc (.cells #[.int .i64 0, .int .i64 0, .int .i64 0, .string ⟨#[]⟩, .slice none 0 0] 26)) w.heap.size 0 0 0 ⟨#[]⟩ (.slice none 0 0) 26 from heap_alloc_here _ (by simp))
  have hz5 : ((w.setCell ⟨d, 3, none⟩ (.int .i64 (c + 1))).alloc (.cells #[.int .i64 0, .int .i64 0, .int .i64 0, .string ⟨#[]⟩, .slice none 0 0] 26)).heap.size = w.heap.size + 1 := by simp
  have BZ := Lib.hid (Box.new w 0 0 0 ⟨#[]⟩ (.slice none 0 0) 26)
  obtain ⟨z0, z1, z2, z3, z4⟩ := BZ.out.cells
  have zf0 := BZ.out.free (i := 0); have zf1 := BZ.out.free (i := 1); have zf2 := BZ.out.free (i := 2); have zf3 := BZ.out.free (i := 3); have zf4 := BZ.out.free (i := 4)
  have HBL := Lib.hid (fun W (hT : Touch (fun x => x = d) (fun x => x = d) w W) => hw.trans (hT.below (fun x hx => by omega) hw.size))
  have ON := Lib.hid (fun W (h : DB W d s i lo (c + 1) false) => open_no d s hs i hi lo (c + 1) false deep W h hno)
  have HD := Lib.hid (fun W (h : DB W d s i lo (c + 1) false) => show Calls Tryd.prog 205 #[.pointer (some ⟨d, 0, none⟩)] W (DhRet d s i lo (c + 1) (some (a, n, x)) W) from by
    have := head_any d s hs i hi lo (c + 1) false W h
    rw [if_neg (by simp), hh] at this; exact this)
  have hx := hdR_some hh
  obtain ⟨hx1, hx2, hx3, hx4, hx5⟩ := hx
  clear hx5
  subst ha
  have BX := Lib.hid (fun W (h : DB W d s x lo (c + 1) false) => bytes_any d s hs x n hx2 hx3 lo (c + 1) false W h)
  clear hh hno hV hg hU
  by_cases hn : x + n ≤ s.size
  · rw [show mgStr s 5 x n l = some (.mk 5 0 0 (s.extract x (x + n)) [], x + n, l) by unfold mgStr; rw [if_pos hn]]
    rw [decide_eq_true hn] at BX
    have hxs : (s.extract x (x + n)).size ≤ 9223372036854775807 := by rw [ByteArray.size_extract]; omega
    go_enter Tryd.func137, Tryd.ntmps137
    go_wp2_with fail
    refine (ON.out _ HU5.out).mono ?_
    rintro e6 w6 ⟨rfl, hb6⟩
    have hz6 := hb6.size
    rw [hz5] at hz6
    have HU6 := Lib.hid ((HU5.out.stay hb6).stay ((Below.refl _ _).alloc (Nat.le_refl _) (.cells #[.int .i64 0, .int .i64 0, .int .i64 0, .string ⟨#[]⟩, .slice none 0 0] 26)))
    have HT6 := Lib.hid ((HT5.out.trans (Touch.of_below hb6)).trans (Touch.of_below ((Below.refl _ _).alloc (Nat.le_refl _) (.cells #[.int .i64 0, .int .i64 0, .int .i64 0, .string ⟨#[]⟩, .slice none 0 0] 26))))
    have BZ6 := Lib.hid ((BZ5.out.stay hb6).alloc (.cells #[.int .i64 0, .int .i64 0, .int .i64 0, .string ⟨#[]⟩, .slice none 0 0] 26))
    have hz6' : (w6.alloc (.cells #[.int .i64 0, .int .i64 0, .int .i64 0, .string ⟨#[]⟩, .slice none 0 0] 26)).heap.size = w6.heap.size + 1 := by simp
    clear z0 z1 z2 z3 z4 zf0 zf1 zf2 zf3 zf4 u0 u1 u2 u3 u4 f1 f2 f3 hb6
    go_wp2_with fail
    refine (HD.out _ HU6.out).mono ?_
    rintro e7 w7 ⟨⟨rfl, hu7⟩, ht7⟩
    have hz7 := ht7.size
    rw [hz6'] at hz7
    have BZ7 := Lib.hid (show Box w7 w.heap.size 0 0 0 ⟨#[]⟩ (.slice none 0 0) 26 from (ht7.block w.heap.size (by rw [hz6']; omega) hd2).trans BZ6.out)
    have HU7 := Lib.hid hu7
    have HT7 := Lib.hid (HT6.out.trans ht7)
    have hlt7 : w.heap.size < w7.heap.size := by omega
    obtain ⟨z0, z1, z2, z3, z4⟩ := BZ7.out.cells
    have zf0 := BZ7.out.free (i := 0); have zf1 := BZ7.out.free (i := 1); have zf2 := BZ7.out.free (i := 2); have zf3 := BZ7.out.free (i := 3); have zf4 := BZ7.out.free (i := 4)
    obtain ⟨u0, u1, u2, u3, u4, f1, f2, f3⟩ := HU7.out.cells
    clear hu7 ht7
    go_wp2_with fail
    refine (BX.out _ HU7.out).mono ?_
    rintro e8 w8 ⟨⟨rfl, hu8⟩, ht8⟩
    have hz8 := ht8.size
    have BZ8 := Lib.hid (show Box w8 w.heap.size 0 0 0 ⟨#[]⟩ (.slice none 0 0) 26 from (ht8.block w.heap.size (by omega) hd2).trans BZ7.out)
    have HP := Lib.hid (fun v0 v1 v2 v3 v4 => dm_pass (s := s) (lo := lo) (o := some (.mk 5 0 0 (s.extract x (x + n)) [], x + n, l)) (t := .mk 5 0 0 (s.extract x (x + n)) []) (sl := .slice none 0 0) (z := w.heap.size) (Fr := fun _ => False) (HT7.out.trans ht8) (Nat.le_refl _) hd1 ⟨k64 5 (by omega) (by omega), in0, in0, hxs⟩ (OwnS.nil _ _) (fun _ h => h.elim) (fun q e => by injection e with e; rw [← e]) (show DB w8 d s (x + n) lo (1204 - (l : Int)) false by rw [← HCL.out]; exact hu8) v0 v1 v2 v3 v4)
    clear z0 z1 z2 z3 z4 zf0 zf1 zf2 zf3 zf4 u0 u1 u2 u3 u4 f1 f2 f3
    obtain ⟨z0, z1, z2, z3, z4⟩ := BZ8.out.cells
    have zf0 := BZ8.out.free (i := 0); have zf1 := BZ8.out.free (i := 1); have zf2 := BZ8.out.free (i := 2); have zf3 := BZ8.out.free (i := 3); have zf4 := BZ8.out.free (i := 4)
    clear hu8 ht8
    go_wp2_with fail
    refine bodyPost_ret (v := .agg #[.int .i64 5, .int .i64 0, .int .i64 0, .string (s.extract x (x + n)), .slice none 0 0]) (by simp [results, Tryd.results137, go_sem, z0, z1, z2, z3, z4]) rfl (HP.out _ _ _ _ _)
  · rw [show mgStr s 5 x n l = none by unfold mgStr; rw [if_neg hn]]
    rw [decide_eq_false hn] at BX
    go_enter Tryd.func137, Tryd.ntmps137
    go_wp2_with fail
    refine (ON.out _ HU5.out).mono ?_
    rintro e6 w6 ⟨rfl, hb6⟩
    have hz6 := hb6.size
    rw [hz5] at hz6
    have HU6 := Lib.hid ((HU5.out.stay hb6).stay ((Below.refl _ _).alloc (Nat.le_refl _) (.cells #[.int .i64 0, .int .i64 0, .int .i64 0, .string ⟨#[]⟩, .slice none 0 0] 26)))
    have HT6 := Lib.hid ((HT5.out.trans (Touch.of_below hb6)).trans (Touch.of_below ((Below.refl _ _).alloc (Nat.le_refl _) (.cells #[.int .i64 0, .int .i64 0, .int .i64 0, .string ⟨#[]⟩, .slice none 0 0] 26))))
    have BZ6 := Lib.hid ((BZ5.out.stay hb6).alloc (.cells #[.int .i64 0, .int .i64 0, .int .i64 0, .string ⟨#[]⟩, .slice none 0 0] 26))
    have hz6' : (w6.alloc (.cells #[.int .i64 0, .int .i64 0, .int .i64 0, .string ⟨#[]⟩, .slice none 0 0] 26)).heap.size = w6.heap.size + 1 := by simp
    clear z0 z1 z2 z3 z4 zf0 zf1 zf2 zf3 zf4 u0 u1 u2 u3 u4 f1 f2 f3 hb6
    go_wp2_with fail
    refine (HD.out _ HU6.out).mono ?_
    rintro e7 w7 ⟨⟨rfl, hu7⟩, ht7⟩
    have hz7 := ht7.size
    rw [hz6'] at hz7
    have BZ7 := Lib.hid (show Box w7 w.heap.size 0 0 0 ⟨#[]⟩ (.slice none 0 0) 26 from (ht7.block w.heap.size (by rw [hz6']; omega) hd2).trans BZ6.out)
    have HU7 := Lib.hid hu7
    have HT7 := Lib.hid (HT6.out.trans ht7)
    have hlt7 : w.heap.size < w7.heap.size := by omega
    obtain ⟨z0, z1, z2, z3, z4⟩ := BZ7.out.cells
    have zf0 := BZ7.out.free (i := 0); have zf1 := BZ7.out.free (i := 1); have zf2 := BZ7.out.free (i := 2); have zf3 := BZ7.out.free (i := 3); have zf4 := BZ7.out.free (i := 4)
    obtain ⟨u0, u1, u2, u3, u4, f1, f2, f3⟩ := HU7.out.cells
    clear hu7 ht7
    go_wp2_with fail
    refine (BX.out _ HU7.out).mono ?_
    rintro e8 w8 ⟨⟨rfl, hu8⟩, ht8⟩
    have hz8 := ht8.size
    have BZ8 := Lib.hid (show Box w8 w.heap.size 0 0 0 ⟨#[]⟩ (.slice none 0 0) 26 from (ht8.block w.heap.size (by omega) hd2).trans BZ7.out)
    have HP := Lib.hid (fun v0 v1 v2 v3 v4 => dm_pass (s := s) (lo := lo) (o := none) (t := .mk 5 0 0 ⟨#[]⟩ []) (sl := .slice none 0 0) (z := w.heap.size) (Fr := fun _ => False) (HT7.out.trans ht8) (Nat.le_refl _) hd1 ⟨k64 5 (by omega) (by omega), in0, in0, by show ByteArray.size ⟨#[]⟩ ≤ _; simp [ByteArray.size]⟩ (OwnS.nil _ _) (fun _ h => h.elim) (fun q e => by cases e) ⟨x, _, hx2, hu8⟩ v0 v1 v2 v3 v4)
    clear z0 z1 z2 z3 z4 zf0 zf1 zf2 zf3 zf4 u0 u1 u2 u3 u4 f1 f2 f3
    obtain ⟨z0, z1, z2, z3, z4⟩ := BZ8.out.cells
    have zf0 := BZ8.out.free (i := 0); have zf1 := BZ8.out.free (i := 1); have zf2 := BZ8.out.free (i := 2); have zf3 := BZ8.out.free (i := 3); have zf4 := BZ8.out.free (i := 4)
    clear hu8 ht8
    go_wp2_with fail
    refine bodyPost_ret (v := .agg #[.int .i64 5, .int .i64 0, .int .i64 0, .string ⟨#[]⟩, .slice none 0 0]) (by simp [results, Tryd.results137, go_sem, z0, z1, z2, z3, z4]) rfl (HP.out _ _ _ _ _)
set_option maxHeartbeats 4000000 in
theorem dvalue_kids4 (w0 : World) (hE : Env w0) (d : Nat) (hd0 : w0.heap.size ≤ d) (s : ByteArray) (hs : s.size ≤ 1048576) (lo : Bool) (g : Nat → Nat → MG) (hg : ∀ i l, CGood s i l (g i l)) (deep : Int) (hdp : 0 ≤ deep ∧ deep ≤ 16)
    (hV : ∀ (i l : Nat) (W : World), i ≤ s.size → l ≤ 1204 → Below w0.heap.size w0 W → DB W d s i lo (1204 - (l : Int)) false → Calls Tryd.prog 137 #[.pointer (some ⟨d, 0, none⟩), .int .i64 (deep + 1)] W (DmRet d s lo (g i l) W))
    (i l : Nat) (hi : i ≤ s.size) (hl : l + 1 ≤ 1204) (w : World) (hw : Below w0.heap.size w0 w) (hU : DB w d s i lo (1204 - ((l + 1 : Nat) : Int)) false) (hno : (false : Bool) = true ∨ lo = false ∨ ∀ hi : i < s.size, s[i].toNat ≠ 95 ∧ s[i].toNat ≠ 127 ∧ s[i].toNat ≠ 159 ∧ s[i].toNat ≠ 191) (a n x : Nat) (hh : hdR lo s i = some (a, n, x)) (ha : a = 4) :
    Calls Tryd.prog 137 #[.pointer (some ⟨d, 0, none⟩), .int .i64 deep] w (DmRet d s lo (mgNode 7 0 (mgKids g n x l)) w) := by
  have hdw := lt_of_heap hU
  obtain ⟨c, hc⟩ : ∃ c : Int, c = 1204 - ((l + 1 : Nat) : Int) := ⟨_, rfl⟩
  rw [← hc] at hU
  obtain ⟨hdp0, hdp1⟩ := hdp
  have hwd : wrap64 (deep + 1) = deep + 1 := by unfold wrap64; omega
  have HU := Lib.hid hU
  obtain ⟨u0, u1, u2, u3, u4, f1, f2, f3⟩ := hU.cells
  have hd1 : d ≠ w.heap.size := by omega
  have hd2 : w.heap.size ≠ d := by omega
  have hc0 : 0 ≤ c := by omega
  have hc1 : c + 1 ≤ 1204 := by omega
  have HCL := Lib.hid (show c + 1 = 1204 - (l : Int) by omega)
  clear hc
  have t16 : decide (16 < deep) = false := decide_eq_false (by omega)
  have tc : decide (1204 < c + 1) = false := decide_eq_false (by omega)
  have HU5 := Lib.hid (show DB ((w.setCell ⟨d, 3, none⟩ (.int .i64 (c + 1))).alloc (.cells #[.int .i64 0, .int .i64 0, .int .i64 0, .string ⟨#[]⟩, .slice none 0 0] 26)) d s i lo (c + 1) false from (HU.out.setC (c + 1)).stay ((Below.refl _ _).alloc (Nat.le_refl _) _))
  have HT5 := Lib.hid (show Touch (fun x => x = d) (fun x => x = d) w ((w.setCell ⟨d, 3, none⟩ (.int .i64 (c + 1))).alloc (.cells #[.int .i64 0, .int .i64 0, .int .i64 0, .string ⟨#[]⟩, .slice none 0 0] 26)) from ((Touch.refl _ w).cellD _).trans (Touch.of_below ((Below.refl _ _).alloc (Nat.le_refl _) _)))
  have BZ5 := Lib.hid (show Box ((w.setCell ⟨d, 3, none⟩ (.int .i64 (c + 1))).alloc (.cells #[.int .i64 0, .int .i64 0, .int .i64 0, .string ⟨#[]⟩, .slice none 0 0] 26)) w.heap.size 0 0 0 ⟨#[]⟩ (.slice none 0 0) 26 from heap_alloc_here _ (by simp))
  have hz5 : ((w.setCell ⟨d, 3, none⟩ (.int .i64 (c + 1))).alloc (.cells #[.int .i64 0, .int .i64 0, .int .i64 0, .string ⟨#[]⟩, .slice none 0 0] 26)).heap.size = w.heap.size + 1 := by simp
  have BZ := Lib.hid (Box.new w 0 0 0 ⟨#[]⟩ (.slice none 0 0) 26)
  obtain ⟨z0, z1, z2, z3, z4⟩ := BZ.out.cells
  have zf0 := BZ.out.free (i := 0); have zf1 := BZ.out.free (i := 1); have zf2 := BZ.out.free (i := 2); have zf3 := BZ.out.free (i := 3); have zf4 := BZ.out.free (i := 4)
  have HBL := Lib.hid (fun W (hT : Touch (fun x => x = d) (fun x => x = d) w W) => hw.trans (hT.below (fun x hx => by omega) hw.size))
  have ON := Lib.hid (fun W (h : DB W d s i lo (c + 1) false) => open_no d s hs i hi lo (c + 1) false deep W h hno)
  have HD := Lib.hid (fun W (h : DB W d s i lo (c + 1) false) => show Calls Tryd.prog 205 #[.pointer (some ⟨d, 0, none⟩)] W (DhRet d s i lo (c + 1) (some (a, n, x)) W) from by
    have := head_any d s hs i hi lo (c + 1) false W h
    rw [if_neg (by simp), hh] at this; exact this)
  have hx := hdR_some hh
  obtain ⟨hx1, hx2, hx3, hx4, hx5⟩ := hx
  clear hx5
  subst ha
  have MN := Lib.hid (fun W (hW : Below w0.heap.size w0 W) (h : DB W d s x lo (c + 1) false) => show Calls Tryd.prog 208 #[.pointer (some ⟨d, 0, none⟩), .int .u64 (n : Int), .int .i64 (deep + 1)] W (DkRet d s lo (mgKids g n x l) W) from by
    have := dmany_any w0 d hd0 s hs lo g hg (deep + 1) hV n x l hx2 (by omega) (by omega) W hW (by rw [← HCL.out]; exact h)
    exact this)
  clear hh hno hV hg hU
  generalize mgKids g n x l = o at *
  go_enter Tryd.func137, Tryd.ntmps137
  go_wp2_with fail
  refine (ON.out _ HU5.out).mono ?_
  rintro e6 w6 ⟨rfl, hb6⟩
  have hz6 := hb6.size
  rw [hz5] at hz6
  have HU6 := Lib.hid ((HU5.out.stay hb6).stay ((Below.refl _ _).alloc (Nat.le_refl _) (.cells #[.int .i64 0, .int .i64 0, .int .i64 0, .string ⟨#[]⟩, .slice none 0 0] 26)))
  have HT6 := Lib.hid ((HT5.out.trans (Touch.of_below hb6)).trans (Touch.of_below ((Below.refl _ _).alloc (Nat.le_refl _) (.cells #[.int .i64 0, .int .i64 0, .int .i64 0, .string ⟨#[]⟩, .slice none 0 0] 26))))
  have BZ6 := Lib.hid ((BZ5.out.stay hb6).alloc (.cells #[.int .i64 0, .int .i64 0, .int .i64 0, .string ⟨#[]⟩, .slice none 0 0] 26))
  have hz6' : (w6.alloc (.cells #[.int .i64 0, .int .i64 0, .int .i64 0, .string ⟨#[]⟩, .slice none 0 0] 26)).heap.size = w6.heap.size + 1 := by simp
  clear z0 z1 z2 z3 z4 zf0 zf1 zf2 zf3 zf4 u0 u1 u2 u3 u4 f1 f2 f3 hb6
  go_wp2_with fail
  refine (HD.out _ HU6.out).mono ?_
  rintro e7 w7 ⟨⟨rfl, hu7⟩, ht7⟩
  have hz7 := ht7.size
  rw [hz6'] at hz7
  have BZ7 := Lib.hid (show Box w7 w.heap.size 0 0 0 ⟨#[]⟩ (.slice none 0 0) 26 from (ht7.block w.heap.size (by rw [hz6']; omega) hd2).trans BZ6.out)
  have HU7 := Lib.hid hu7
  have HT7 := Lib.hid (HT6.out.trans ht7)
  have hlt7 : w.heap.size < w7.heap.size := by omega
  obtain ⟨z0, z1, z2, z3, z4⟩ := BZ7.out.cells
  have zf0 := BZ7.out.free (i := 0); have zf1 := BZ7.out.free (i := 1); have zf2 := BZ7.out.free (i := 2); have zf3 := BZ7.out.free (i := 3); have zf4 := BZ7.out.free (i := 4)
  obtain ⟨u0, u1, u2, u3, u4, f1, f2, f3⟩ := HU7.out.cells
  clear hu7 ht7
  go_wp2_with fail
  refine (MN.out _ (HBL.out _ HT7.out) HU7.out).mono ?_
  rintro e8 w8 ⟨us, sl, rfl, ow, hq, hst, ht8⟩
  obtain ⟨ua, un, uc, rfl⟩ : ∃ sa sn sc, sl = .slice sa sn sc := by obtain ⟨p, q, e⟩ := ow.slice; exact ⟨p, _, q, e⟩
  have hz8 := ht8.size
  have BZ8 := Lib.hid (show Box w8 w.heap.size 0 0 0 ⟨#[]⟩ (.slice none 0 0) 26 from (ht8.block w.heap.size (by omega) hd2).trans BZ7.out)
  have HP := Lib.hid (fun v0 v1 v2 v3 v4 => dm_pass (s := s) (lo := lo) (o := mgNode 7 0 o) (t := .mk 7 0 0 ⟨#[]⟩ us) (sl := .slice ua un uc) (z := w.heap.size) (HT7.out.trans ht8) (Nat.le_refl _) hd1 ⟨k64 7 (by omega) (by omega), in0, in0, by show ByteArray.size ⟨#[]⟩ ≤ _; simp [ByteArray.size]⟩ ow (fun x hx => by have hx' : w7.heap.size ≤ x := hx; omega) (fun q e => by
    cases o with
    | none => cases e
    | some p => have e2 : some (V.mk 7 0 0 ⟨#[]⟩ p.1, p.2) = some q := e; injection e2 with e2; rw [← e2, hq p rfl]) (by cases o <;> exact hst) v0 v1 v2 v3 v4)
  clear z0 z1 z2 z3 z4 zf0 zf1 zf2 zf3 zf4 u0 u1 u2 u3 u4 f1 f2 f3
  obtain ⟨z0, z1, z2, z3, z4⟩ := BZ8.out.cells
  have zf0 := BZ8.out.free (i := 0); have zf1 := BZ8.out.free (i := 1); have zf2 := BZ8.out.free (i := 2); have zf3 := BZ8.out.free (i := 3); have zf4 := BZ8.out.free (i := 4)
  clear ow hq hst ht8
  go_wp2_with fail
  refine bodyPost_ret (v := .agg #[.int .i64 7, .int .i64 0, .int .i64 0, .string ⟨#[]⟩, .slice ua un uc]) (by simp [results, Tryd.results137, go_sem, z0, z1, z2, z3, z4]) rfl (HP.out _ _ _ _ _)
set_option maxHeartbeats 4000000 in
theorem dvalue_kids5 (w0 : World) (hE : Env w0) (d : Nat) (hd0 : w0.heap.size ≤ d) (s : ByteArray) (hs : s.size ≤ 1048576) (lo : Bool) (g : Nat → Nat → MG) (hg : ∀ i l, CGood s i l (g i l)) (deep : Int) (hdp : 0 ≤ deep ∧ deep ≤ 16)
    (hV : ∀ (i l : Nat) (W : World), i ≤ s.size → l ≤ 1204 → Below w0.heap.size w0 W → DB W d s i lo (1204 - (l : Int)) false → Calls Tryd.prog 137 #[.pointer (some ⟨d, 0, none⟩), .int .i64 (deep + 1)] W (DmRet d s lo (g i l) W))
    (i l : Nat) (hi : i ≤ s.size) (hl : l + 1 ≤ 1204) (w : World) (hw : Below w0.heap.size w0 w) (hU : DB w d s i lo (1204 - ((l + 1 : Nat) : Int)) false) (hno : (false : Bool) = true ∨ lo = false ∨ ∀ hi : i < s.size, s[i].toNat ≠ 95 ∧ s[i].toNat ≠ 127 ∧ s[i].toNat ≠ 159 ∧ s[i].toNat ≠ 191) (a n x : Nat) (hh : hdR lo s i = some (a, n, x)) (ha : a = 5) :
    Calls Tryd.prog 137 #[.pointer (some ⟨d, 0, none⟩), .int .i64 deep] w (DmRet d s lo (mgNode 8 0 (mgKids g (2 * min n 4294967296) x l)) w) := by
  have hdw := lt_of_heap hU
  obtain ⟨c, hc⟩ : ∃ c : Int, c = 1204 - ((l + 1 : Nat) : Int) := ⟨_, rfl⟩
  rw [← hc] at hU
  obtain ⟨hdp0, hdp1⟩ := hdp
  have hwd : wrap64 (deep + 1) = deep + 1 := by unfold wrap64; omega
  have HU := Lib.hid hU
  obtain ⟨u0, u1, u2, u3, u4, f1, f2, f3⟩ := hU.cells
  have hd1 : d ≠ w.heap.size := by omega
  have hd2 : w.heap.size ≠ d := by omega
  have hc0 : 0 ≤ c := by omega
  have hc1 : c + 1 ≤ 1204 := by omega
  have HCL := Lib.hid (show c + 1 = 1204 - (l : Int) by omega)
  clear hc
  have t16 : decide (16 < deep) = false := decide_eq_false (by omega)
  have tc : decide (1204 < c + 1) = false := decide_eq_false (by omega)
  have HU5 := Lib.hid (show DB ((w.setCell ⟨d, 3, none⟩ (.int .i64 (c + 1))).alloc (.cells #[.int .i64 0, .int .i64 0, .int .i64 0, .string ⟨#[]⟩, .slice none 0 0] 26)) d s i lo (c + 1) false from (HU.out.setC (c + 1)).stay ((Below.refl _ _).alloc (Nat.le_refl _) _))
  have HT5 := Lib.hid (show Touch (fun x => x = d) (fun x => x = d) w ((w.setCell ⟨d, 3, none⟩ (.int .i64 (c + 1))).alloc (.cells #[.int .i64 0, .int .i64 0, .int .i64 0, .string ⟨#[]⟩, .slice none 0 0] 26)) from ((Touch.refl _ w).cellD _).trans (Touch.of_below ((Below.refl _ _).alloc (Nat.le_refl _) _)))
  have BZ5 := Lib.hid (show Box ((w.setCell ⟨d, 3, none⟩ (.int .i64 (c + 1))).alloc (.cells #[.int .i64 0, .int .i64 0, .int .i64 0, .string ⟨#[]⟩, .slice none 0 0] 26)) w.heap.size 0 0 0 ⟨#[]⟩ (.slice none 0 0) 26 from heap_alloc_here _ (by simp))
  have hz5 : ((w.setCell ⟨d, 3, none⟩ (.int .i64 (c + 1))).alloc (.cells #[.int .i64 0, .int .i64 0, .int .i64 0, .string ⟨#[]⟩, .slice none 0 0] 26)).heap.size = w.heap.size + 1 := by simp
  have BZ := Lib.hid (Box.new w 0 0 0 ⟨#[]⟩ (.slice none 0 0) 26)
  obtain ⟨z0, z1, z2, z3, z4⟩ := BZ.out.cells
  have zf0 := BZ.out.free (i := 0); have zf1 := BZ.out.free (i := 1); have zf2 := BZ.out.free (i := 2); have zf3 := BZ.out.free (i := 3); have zf4 := BZ.out.free (i := 4)
  have HBL := Lib.hid (fun W (hT : Touch (fun x => x = d) (fun x => x = d) w W) => hw.trans (hT.below (fun x hx => by omega) hw.size))
  have ON := Lib.hid (fun W (h : DB W d s i lo (c + 1) false) => open_no d s hs i hi lo (c + 1) false deep W h hno)
  have HD := Lib.hid (fun W (h : DB W d s i lo (c + 1) false) => show Calls Tryd.prog 205 #[.pointer (some ⟨d, 0, none⟩)] W (DhRet d s i lo (c + 1) (some (a, n, x)) W) from by
    have := head_any d s hs i hi lo (c + 1) false W h
    rw [if_neg (by simp), hh] at this; exact this)
  have hx := hdR_some hh
  obtain ⟨hx1, hx2, hx3, hx4, hx5⟩ := hx
  clear hx5
  subst ha
  have MN := Lib.hid (fun W (hW : Below w0.heap.size w0 W) (h : DB W d s x lo (c + 1) false) => show Calls Tryd.prog 208 #[.pointer (some ⟨d, 0, none⟩), .int .u64 (2 * min (n : Int) 4294967296), .int .i64 (deep + 1)] W (DkRet d s lo (mgKids g (2 * min n 4294967296) x l) W) from by
    have := dmany_any w0 d hd0 s hs lo g hg (deep + 1) hV (2 * min n 4294967296) x l hx2 (by omega) (by omega) W hW (by rw [← HCL.out]; exact h)
    rw [show ((2 * min n 4294967296 : Nat) : Int) = 2 * min (n : Int) 4294967296 by omega] at this; exact this)
  clear hh hno hV hg hU
  generalize mgKids g (2 * min n 4294967296) x l = o at *
  go_enter Tryd.func137, Tryd.ntmps137
  go_wp2_with fail
  refine (ON.out _ HU5.out).mono ?_
  rintro e6 w6 ⟨rfl, hb6⟩
  have hz6 := hb6.size
  rw [hz5] at hz6
  have HU6 := Lib.hid ((HU5.out.stay hb6).stay ((Below.refl _ _).alloc (Nat.le_refl _) (.cells #[.int .i64 0, .int .i64 0, .int .i64 0, .string ⟨#[]⟩, .slice none 0 0] 26)))
  have HT6 := Lib.hid ((HT5.out.trans (Touch.of_below hb6)).trans (Touch.of_below ((Below.refl _ _).alloc (Nat.le_refl _) (.cells #[.int .i64 0, .int .i64 0, .int .i64 0, .string ⟨#[]⟩, .slice none 0 0] 26))))
  have BZ6 := Lib.hid ((BZ5.out.stay hb6).alloc (.cells #[.int .i64 0, .int .i64 0, .int .i64 0, .string ⟨#[]⟩, .slice none 0 0] 26))
  have hz6' : (w6.alloc (.cells #[.int .i64 0, .int .i64 0, .int .i64 0, .string ⟨#[]⟩, .slice none 0 0] 26)).heap.size = w6.heap.size + 1 := by simp
  clear z0 z1 z2 z3 z4 zf0 zf1 zf2 zf3 zf4 u0 u1 u2 u3 u4 f1 f2 f3 hb6
  go_wp2_with fail
  refine (HD.out _ HU6.out).mono ?_
  rintro e7 w7 ⟨⟨rfl, hu7⟩, ht7⟩
  have hz7 := ht7.size
  rw [hz6'] at hz7
  have BZ7 := Lib.hid (show Box w7 w.heap.size 0 0 0 ⟨#[]⟩ (.slice none 0 0) 26 from (ht7.block w.heap.size (by rw [hz6']; omega) hd2).trans BZ6.out)
  have HU7 := Lib.hid hu7
  have HT7 := Lib.hid (HT6.out.trans ht7)
  have hlt7 : w.heap.size < w7.heap.size := by omega
  obtain ⟨z0, z1, z2, z3, z4⟩ := BZ7.out.cells
  have zf0 := BZ7.out.free (i := 0); have zf1 := BZ7.out.free (i := 1); have zf2 := BZ7.out.free (i := 2); have zf3 := BZ7.out.free (i := 3); have zf4 := BZ7.out.free (i := 4)
  obtain ⟨u0, u1, u2, u3, u4, f1, f2, f3⟩ := HU7.out.cells
  clear hu7 ht7
  go_wp2_with fail
  refine (MN.out _ (HBL.out _ HT7.out) HU7.out).mono ?_
  rintro e8 w8 ⟨us, sl, rfl, ow, hq, hst, ht8⟩
  obtain ⟨ua, un, uc, rfl⟩ : ∃ sa sn sc, sl = .slice sa sn sc := by obtain ⟨p, q, e⟩ := ow.slice; exact ⟨p, _, q, e⟩
  have hz8 := ht8.size
  have BZ8 := Lib.hid (show Box w8 w.heap.size 0 0 0 ⟨#[]⟩ (.slice none 0 0) 26 from (ht8.block w.heap.size (by omega) hd2).trans BZ7.out)
  have HP := Lib.hid (fun v0 v1 v2 v3 v4 => dm_pass (s := s) (lo := lo) (o := mgNode 8 0 o) (t := .mk 8 0 0 ⟨#[]⟩ us) (sl := .slice ua un uc) (z := w.heap.size) (HT7.out.trans ht8) (Nat.le_refl _) hd1 ⟨k64 8 (by omega) (by omega), in0, in0, by show ByteArray.size ⟨#[]⟩ ≤ _; simp [ByteArray.size]⟩ ow (fun x hx => by have hx' : w7.heap.size ≤ x := hx; omega) (fun q e => by
    cases o with
    | none => cases e
    | some p => have e2 : some (V.mk 8 0 0 ⟨#[]⟩ p.1, p.2) = some q := e; injection e2 with e2; rw [← e2, hq p rfl]) (by cases o <;> exact hst) v0 v1 v2 v3 v4)
  clear z0 z1 z2 z3 z4 zf0 zf1 zf2 zf3 zf4 u0 u1 u2 u3 u4 f1 f2 f3
  obtain ⟨z0, z1, z2, z3, z4⟩ := BZ8.out.cells
  have zf0 := BZ8.out.free (i := 0); have zf1 := BZ8.out.free (i := 1); have zf2 := BZ8.out.free (i := 2); have zf3 := BZ8.out.free (i := 3); have zf4 := BZ8.out.free (i := 4)
  clear ow hq hst ht8
  go_wp2_with fail
  refine bodyPost_ret (v := .agg #[.int .i64 8, .int .i64 0, .int .i64 0, .string ⟨#[]⟩, .slice ua un uc]) (by simp [results, Tryd.results137, go_sem, z0, z1, z2, z3, z4]) rfl (HP.out _ _ _ _ _)
set_option maxHeartbeats 4000000 in
theorem dvalue_tag (w0 : World) (hE : Env w0) (d : Nat) (hd0 : w0.heap.size ≤ d) (s : ByteArray) (hs : s.size ≤ 1048576) (lo : Bool) (g : Nat → Nat → MG) (hg : ∀ i l, CGood s i l (g i l)) (deep : Int) (hdp : 0 ≤ deep ∧ deep ≤ 16)
    (hV : ∀ (i l : Nat) (W : World), i ≤ s.size → l ≤ 1204 → Below w0.heap.size w0 W → DB W d s i lo (1204 - (l : Int)) false → Calls Tryd.prog 137 #[.pointer (some ⟨d, 0, none⟩), .int .i64 (deep + 1)] W (DmRet d s lo (g i l) W))
    (i l : Nat) (hi : i ≤ s.size) (hl : l + 1 ≤ 1204) (w : World) (hw : Below w0.heap.size w0 w) (hU : DB w d s i lo (1204 - ((l + 1 : Nat) : Int)) false) (hno : (false : Bool) = true ∨ lo = false ∨ ∀ hi : i < s.size, s[i].toNat ≠ 95 ∧ s[i].toNat ≠ 127 ∧ s[i].toNat ≠ 159 ∧ s[i].toNat ≠ 191) (a n x : Nat) (hh : hdR lo s i = some (a, n, x)) (ha : a = 6) (hn4 : n ≠ 4) :
    Calls Tryd.prog 137 #[.pointer (some ⟨d, 0, none⟩), .int .i64 deep] w (DmRet d s lo ((g x l).bind (cgTag n)) w) := by
  have hdw := lt_of_heap hU
  obtain ⟨c, hc⟩ : ∃ c : Int, c = 1204 - ((l + 1 : Nat) : Int) := ⟨_, rfl⟩
  rw [← hc] at hU
  obtain ⟨hdp0, hdp1⟩ := hdp
  have hwd : wrap64 (deep + 1) = deep + 1 := by unfold wrap64; omega
  have HU := Lib.hid hU
  obtain ⟨u0, u1, u2, u3, u4, f1, f2, f3⟩ := hU.cells
  have hd1 : d ≠ w.heap.size := by omega
  have hd2 : w.heap.size ≠ d := by omega
  have hc0 : 0 ≤ c := by omega
  have hc1 : c + 1 ≤ 1204 := by omega
  have HCL := Lib.hid (show c + 1 = 1204 - (l : Int) by omega)
  clear hc
  have t16 : decide (16 < deep) = false := decide_eq_false (by omega)
  have tc : decide (1204 < c + 1) = false := decide_eq_false (by omega)
  have HU5 := Lib.hid (show DB ((w.setCell ⟨d, 3, none⟩ (.int .i64 (c + 1))).alloc (.cells #[.int .i64 0, .int .i64 0, .int .i64 0, .string ⟨#[]⟩, .slice none 0 0] 26)) d s i lo (c + 1) false from (HU.out.setC (c + 1)).stay ((Below.refl _ _).alloc (Nat.le_refl _) _))
  have HT5 := Lib.hid (show Touch (fun x => x = d) (fun x => x = d) w ((w.setCell ⟨d, 3, none⟩ (.int .i64 (c + 1))).alloc (.cells #[.int .i64 0, .int .i64 0, .int .i64 0, .string ⟨#[]⟩, .slice none 0 0] 26)) from ((Touch.refl _ w).cellD _).trans (Touch.of_below ((Below.refl _ _).alloc (Nat.le_refl _) _)))
  have BZ5 := Lib.hid (show Box ((w.setCell ⟨d, 3, none⟩ (.int .i64 (c + 1))).alloc (.cells #[.int .i64 0, .int .i64 0, .int .i64 0, .string ⟨#[]⟩, .slice none 0 0] 26)) w.heap.size 0 0 0 ⟨#[]⟩ (.slice none 0 0) 26 from heap_alloc_here _ (by simp))
  have hz5 : ((w.setCell ⟨d, 3, none⟩ (.int .i64 (c + 1))).alloc (.cells #[.int .i64 0, .int .i64 0, .int .i64 0, .string ⟨#[]⟩, .slice none 0 0] 26)).heap.size = w.heap.size + 1 := by simp
  have BZ := Lib.hid (Box.new w 0 0 0 ⟨#[]⟩ (.slice none 0 0) 26)
  obtain ⟨z0, z1, z2, z3, z4⟩ := BZ.out.cells
  have zf0 := BZ.out.free (i := 0); have zf1 := BZ.out.free (i := 1); have zf2 := BZ.out.free (i := 2); have zf3 := BZ.out.free (i := 3); have zf4 := BZ.out.free (i := 4)
  have HBL := Lib.hid (fun W (hT : Touch (fun x => x = d) (fun x => x = d) w W) => hw.trans (hT.below (fun x hx => by omega) hw.size))
  have ON := Lib.hid (fun W (h : DB W d s i lo (c + 1) false) => open_no d s hs i hi lo (c + 1) false deep W h hno)
  have HD := Lib.hid (fun W (h : DB W d s i lo (c + 1) false) => show Calls Tryd.prog 205 #[.pointer (some ⟨d, 0, none⟩)] W (DhRet d s i lo (c + 1) (some (a, n, x)) W) from by
    have := head_any d s hs i hi lo (c + 1) false W h
    rw [if_neg (by simp), hh] at this; exact this)
  have hx := hdR_some hh
  obtain ⟨hx1, hx2, hx3, hx4, hx5⟩ := hx
  clear hx5
  subst ha
  have KV := Lib.hid (fun W (hW : Below w0.heap.size w0 W) (h : DB W d s x lo (c + 1) false) => hV x l W hx2 (by omega) hW (by rw [← HCL.out]; exact h))
  clear hh hno hV hg hU
  have hmin : ((min n 4294967296 : Nat) : Int) = min (n : Int) 4294967296 := by omega
  have hmw : wrap64 (min (n : Int) 4294967296) = min (n : Int) 4294967296 := by unfold wrap64; omega
  have t4 : ((n : Int) == 4) = false := by simp; omega
  have hmi : In64 (min (n : Int) 4294967296) := by unfold In64; omega
  have HTG := Lib.hid (show ∀ q : V × Nat × Nat, cgTag n q = some (.mk 9 (min (n : Int) 4294967296) 0 ⟨#[]⟩ [q.1], q.2) from fun q => by unfold cgTag; rw [if_neg hn4, hmin])
  clear hmin
  generalize g x l = o at *
  go_enter Tryd.func137, Tryd.ntmps137
  go_wp2_with fail
  refine (ON.out _ HU5.out).mono ?_
  rintro e6 w6 ⟨rfl, hb6⟩
  have hz6 := hb6.size
  rw [hz5] at hz6
  have HU6 := Lib.hid ((HU5.out.stay hb6).stay ((Below.refl _ _).alloc (Nat.le_refl _) (.cells #[.int .i64 0, .int .i64 0, .int .i64 0, .string ⟨#[]⟩, .slice none 0 0] 26)))
  have HT6 := Lib.hid ((HT5.out.trans (Touch.of_below hb6)).trans (Touch.of_below ((Below.refl _ _).alloc (Nat.le_refl _) (.cells #[.int .i64 0, .int .i64 0, .int .i64 0, .string ⟨#[]⟩, .slice none 0 0] 26))))
  have BZ6 := Lib.hid ((BZ5.out.stay hb6).alloc (.cells #[.int .i64 0, .int .i64 0, .int .i64 0, .string ⟨#[]⟩, .slice none 0 0] 26))
  have hz6' : (w6.alloc (.cells #[.int .i64 0, .int .i64 0, .int .i64 0, .string ⟨#[]⟩, .slice none 0 0] 26)).heap.size = w6.heap.size + 1 := by simp
  clear z0 z1 z2 z3 z4 zf0 zf1 zf2 zf3 zf4 u0 u1 u2 u3 u4 f1 f2 f3 hb6
  go_wp2_with fail
  refine (HD.out _ HU6.out).mono ?_
  rintro e7 w7 ⟨⟨rfl, hu7⟩, ht7⟩
  have hz7 := ht7.size
  rw [hz6'] at hz7
  have BZ7 := Lib.hid (show Box w7 w.heap.size 0 0 0 ⟨#[]⟩ (.slice none 0 0) 26 from (ht7.block w.heap.size (by rw [hz6']; omega) hd2).trans BZ6.out)
  have HU7 := Lib.hid hu7
  have HT7 := Lib.hid (HT6.out.trans ht7)
  have hlt7 : w.heap.size < w7.heap.size := by omega
  obtain ⟨z0, z1, z2, z3, z4⟩ := BZ7.out.cells
  have zf0 := BZ7.out.free (i := 0); have zf1 := BZ7.out.free (i := 1); have zf2 := BZ7.out.free (i := 2); have zf3 := BZ7.out.free (i := 3); have zf4 := BZ7.out.free (i := 4)
  obtain ⟨u0, u1, u2, u3, u4, f1, f2, f3⟩ := HU7.out.cells
  clear hu7 ht7
  go_wp2_with fail
  refine (KV.out _ (HBL.out _ HT7.out) HU7.out).mono ?_
  rintro e8 w8 ⟨t, sl, rfl, twf, tow, htq, hst, ht8⟩
  obtain ⟨ua, un, uc, rfl⟩ : ∃ sa sn sc, sl = .slice sa sn sc := by obtain ⟨p, q, e⟩ := tow.slice; exact ⟨p, _, q, e⟩
  have hz8 := ht8.size
  have BZ8 := Lib.hid (show Box w8 w.heap.size 0 0 0 ⟨#[]⟩ (.slice none 0 0) 26 from (ht8.block w.heap.size (by omega) hd2).trans BZ7.out)
  have HT8 := Lib.hid (HT7.out.trans ht8)
  clear z0 z1 z2 z3 z4 zf0 zf1 zf2 zf3 zf4 u0 u1 u2 u3 u4 f1 f2 f3
  obtain ⟨z0, z1, z2, z3, z4⟩ := BZ8.out.cells
  have zf0 := BZ8.out.free (i := 0); have zf1 := BZ8.out.free (i := 1); have zf2 := BZ8.out.free (i := 2); have zf3 := BZ8.out.free (i := 3); have zf4 := BZ8.out.free (i := 4)
  have hm1 : w.heap.size ≠ w8.heap.size := by omega
  have hm2 : w8.heap.size ≠ w.heap.size := by omega
  have hm3 : w.heap.size < w8.heap.size := by omega
  have HP := Lib.hid (fun v0 v1 v2 v3 v4 => show DmRet d s lo (o.bind (cgTag n)) w (.returned (.agg #[.int .i64 9, .int .i64 (min (n : Int) 4294967296), .int .i64 0, .string ⟨#[]⟩, .slice (some ⟨w8.heap.size + 1, 0, none⟩) 1 1])) (((set5 w8 w.heap.size v0 v1 v2 v3 v4).alloc (.cells #[.int .i64 t.k, .int .i64 t.n, .int .i64 t.e, .string t.s, .slice ua un uc] 26)).alloc (.cells #[.int .i64 t.k, .int .i64 t.n, .int .i64 t.e, .string t.s, .slice ua un uc] 26)) from
    ⟨.mk 9 (min (n : Int) 4294967296) 0 ⟨#[]⟩ [t], _, rfl, ⟨k64 9 (by omega) (by omega), hmi, in0, by show ByteArray.size ⟨#[]⟩ ≤ _; simp [ByteArray.size]⟩, OwnS.mono (tag_own twf tow.bound (z := w.heap.size) (by omega) (by omega) v0 v1 v2 v3 v4) (fun x hx => by omega), (fun q e => by
      cases o with
      | none => cases e
      | some p => rw [Option.bind_some, HTG.out] at e; injection e with e; rw [← e, htq p rfl]), (by
      have h9 : DmSt d s lo (o.map (·.2)) (((set5 w8 w.heap.size v0 v1 v2 v3 v4).alloc (.cells #[.int .i64 t.k, .int .i64 t.n, .int .i64 t.e, .string t.s, .slice ua un uc] 26)).alloc (.cells #[.int .i64 t.k, .int .i64 t.n, .int .i64 t.e, .string t.s, .slice ua un uc] 26)) := (hst.keep (heap_set5 w8 _ _ _ _ _ _ _ hd1)).keep ((below2 _ _).block d (by rw [size_set5]; exact hst.lt))
      cases o with
      | none => exact h9
      | some p => rw [Option.bind_some, HTG.out]; exact h9), (HT8.out.set5 w.heap.size (Nat.le_refl _) _ _ _ _ _).trans (Touch.of_below (below2 _ _))⟩)
  clear tow htq hst twf ht8
  unfold V.agg at HP ⊢
  go_wp2_with fail
  refine bodyPost_ret (v := .agg #[.int .i64 9, .int .i64 (min (n : Int) 4294967296), .int .i64 0, .string ⟨#[]⟩, .slice (some ⟨w8.heap.size + 1, 0, none⟩) 1 1]) (by simp [results, Tryd.results137, go_sem, z0, z1, z2, z3, z4, hm3]) rfl (HP.out _ _ _ _ _)
set_option maxHeartbeats 4000000 in
theorem dvalue_dec (w0 : World) (hE : Env w0) (d : Nat) (hd0 : w0.heap.size ≤ d) (s : ByteArray) (hs : s.size ≤ 1048576) (lo : Bool) (g : Nat → Nat → MG) (hg : ∀ i l, CGood s i l (g i l)) (deep : Int) (hdp : 0 ≤ deep ∧ deep ≤ 16)
    (hV : ∀ (i l : Nat) (W : World), i ≤ s.size → l ≤ 1204 → Below w0.heap.size w0 W → DB W d s i lo (1204 - (l : Int)) false → Calls Tryd.prog 137 #[.pointer (some ⟨d, 0, none⟩), .int .i64 (deep + 1)] W (DmRet d s lo (g i l) W))
    (i l : Nat) (hi : i ≤ s.size) (hl : l + 1 ≤ 1204) (w : World) (hw : Below w0.heap.size w0 w) (hU : DB w d s i lo (1204 - ((l + 1 : Nat) : Int)) false) (hno : (false : Bool) = true ∨ lo = false ∨ ∀ hi : i < s.size, s[i].toNat ≠ 95 ∧ s[i].toNat ≠ 127 ∧ s[i].toNat ≠ 159 ∧ s[i].toNat ≠ 191) (a n x : Nat) (hh : hdR lo s i = some (a, n, x)) (ha : a = 6) (hn4 : n = 4) :
    Calls Tryd.prog 137 #[.pointer (some ⟨d, 0, none⟩), .int .i64 deep] w (DmRet d s lo ((g x l).bind (cgTag n)) w) := by
  have hdw := lt_of_heap hU
  obtain ⟨c, hc⟩ : ∃ c : Int, c = 1204 - ((l + 1 : Nat) : Int) := ⟨_, rfl⟩
  rw [← hc] at hU
  obtain ⟨hdp0, hdp1⟩ := hdp
  have hwd : wrap64 (deep + 1) = deep + 1 := by unfold wrap64; omega
  have HU := Lib.hid hU
  obtain ⟨u0, u1, u2, u3, u4, f1, f2, f3⟩ := hU.cells
  have hd1 : d ≠ w.heap.size := by omega
  have hd2 : w.heap.size ≠ d := by omega
  have hc0 : 0 ≤ c := by omega
  have hc1 : c + 1 ≤ 1204 := by omega
  have HCL := Lib.hid (show c + 1 = 1204 - (l : Int) by omega)
  clear hc
  have t16 : decide (16 < deep) = false := decide_eq_false (by omega)
  have tc : decide (1204 < c + 1) = false := decide_eq_false (by omega)
  have HU5 := Lib.hid (show DB ((w.setCell ⟨d, 3, none⟩ (.int .i64 (c + 1))).alloc (.cells #[.int .i64 0, .int .i64 0, .int .i64 0, .string ⟨#[]⟩, .slice none 0 0] 26)) d s i lo (c + 1) false from (HU.out.setC (c + 1)).stay ((Below.refl _ _).alloc (Nat.le_refl _) _))
  have HT5 := Lib.hid (show Touch (fun x => x = d) (fun x => x = d) w ((w.setCell ⟨d, 3, none⟩ (.int .i64 (c + 1))).alloc (.cells #[.int .i64 0, .int .i64 0, .int .i64 0, .string ⟨#[]⟩, .slice none 0 0] 26)) from ((Touch.refl _ w).cellD _).trans (Touch.of_below ((Below.refl _ _).alloc (Nat.le_refl _) _)))
  have BZ5 := Lib.hid (show Box ((w.setCell ⟨d, 3, none⟩ (.int .i64 (c + 1))).alloc (.cells #[.int .i64 0, .int .i64 0, .int .i64 0, .string ⟨#[]⟩, .slice none 0 0] 26)) w.heap.size 0 0 0 ⟨#[]⟩ (.slice none 0 0) 26 from heap_alloc_here _ (by simp))
  have hz5 : ((w.setCell ⟨d, 3, none⟩ (.int .i64 (c + 1))).alloc (.cells #[.int .i64 0, .int .i64 0, .int .i64 0, .string ⟨#[]⟩, .slice none 0 0] 26)).heap.size = w.heap.size + 1 := by simp
  have BZ := Lib.hid (Box.new w 0 0 0 ⟨#[]⟩ (.slice none 0 0) 26)
  obtain ⟨z0, z1, z2, z3, z4⟩ := BZ.out.cells
  have zf0 := BZ.out.free (i := 0); have zf1 := BZ.out.free (i := 1); have zf2 := BZ.out.free (i := 2); have zf3 := BZ.out.free (i := 3); have zf4 := BZ.out.free (i := 4)
  have HBL := Lib.hid (fun W (hT : Touch (fun x => x = d) (fun x => x = d) w W) => hw.trans (hT.below (fun x hx => by omega) hw.size))
  have ON := Lib.hid (fun W (h : DB W d s i lo (c + 1) false) => open_no d s hs i hi lo (c + 1) false deep W h hno)
  have HD := Lib.hid (fun W (h : DB W d s i lo (c + 1) false) => show Calls Tryd.prog 205 #[.pointer (some ⟨d, 0, none⟩)] W (DhRet d s i lo (c + 1) (some (a, n, x)) W) from by
    have := head_any d s hs i hi lo (c + 1) false W h
    rw [if_neg (by simp), hh] at this; exact this)
  have hx := hdR_some hh
  obtain ⟨hx1, hx2, hx3, hx4, hx5⟩ := hx
  clear hx5
  subst ha
  have KV := Lib.hid (fun W (hW : Below w0.heap.size w0 W) (h : DB W d s x lo (c + 1) false) => hV x l W hx2 (by omega) hW (by rw [← HCL.out]; exact h))
  subst hn4
  have HCG := Lib.hid (hg x l)
  clear hh hno hV hg hU
  generalize g x l = o at *
  go_enter Tryd.func137, Tryd.ntmps137
  go_wp2_with fail
  refine (ON.out _ HU5.out).mono ?_
  rintro e6 w6 ⟨rfl, hb6⟩
  have hz6 := hb6.size
  rw [hz5] at hz6
  have HU6 := Lib.hid ((HU5.out.stay hb6).stay ((Below.refl _ _).alloc (Nat.le_refl _) (.cells #[.int .i64 0, .int .i64 0, .int .i64 0, .string ⟨#[]⟩, .slice none 0 0] 26)))
  have HT6 := Lib.hid ((HT5.out.trans (Touch.of_below hb6)).trans (Touch.of_below ((Below.refl _ _).alloc (Nat.le_refl _) (.cells #[.int .i64 0, .int .i64 0, .int .i64 0, .string ⟨#[]⟩, .slice none 0 0] 26))))
  have BZ6 := Lib.hid ((BZ5.out.stay hb6).alloc (.cells #[.int .i64 0, .int .i64 0, .int .i64 0, .string ⟨#[]⟩, .slice none 0 0] 26))
  have hz6' : (w6.alloc (.cells #[.int .i64 0, .int .i64 0, .int .i64 0, .string ⟨#[]⟩, .slice none 0 0] 26)).heap.size = w6.heap.size + 1 := by simp
  clear z0 z1 z2 z3 z4 zf0 zf1 zf2 zf3 zf4 u0 u1 u2 u3 u4 f1 f2 f3 hb6
  go_wp2_with fail
  refine (HD.out _ HU6.out).mono ?_
  rintro e7 w7 ⟨⟨rfl, hu7⟩, ht7⟩
  have hz7 := ht7.size
  rw [hz6'] at hz7
  have BZ7 := Lib.hid (show Box w7 w.heap.size 0 0 0 ⟨#[]⟩ (.slice none 0 0) 26 from (ht7.block w.heap.size (by rw [hz6']; omega) hd2).trans BZ6.out)
  have HU7 := Lib.hid hu7
  have HT7 := Lib.hid (HT6.out.trans ht7)
  have hlt7 : w.heap.size < w7.heap.size := by omega
  obtain ⟨z0, z1, z2, z3, z4⟩ := BZ7.out.cells
  have zf0 := BZ7.out.free (i := 0); have zf1 := BZ7.out.free (i := 1); have zf2 := BZ7.out.free (i := 2); have zf3 := BZ7.out.free (i := 3); have zf4 := BZ7.out.free (i := 4)
  obtain ⟨u0, u1, u2, u3, u4, f1, f2, f3⟩ := HU7.out.cells
  clear hu7 ht7
  go_wp2_with fail
  refine (KV.out _ (HBL.out _ HT7.out) HU7.out).mono ?_
  rintro e8 w8 ⟨t, sl, rfl, twf, tow, htq, hst, ht8⟩
  obtain ⟨ua, un, uc, rfl⟩ : ∃ sa sn sc, sl = .slice sa sn sc := by obtain ⟨p, q, e⟩ := tow.slice; exact ⟨p, _, q, e⟩
  have hz8 := ht8.size
  have BZ8 := Lib.hid (show Box w8 w.heap.size 0 0 0 ⟨#[]⟩ (.slice none 0 0) 26 from (ht8.block w.heap.size (by omega) hd2).trans BZ7.out)
  have HT8 := Lib.hid (HT7.out.trans ht8)
  clear z0 z1 z2 z3 z4 zf0 zf1 zf2 zf3 zf4 u0 u1 u2 u3 u4 f1 f2 f3
  obtain ⟨z0, z1, z2, z3, z4⟩ := BZ8.out.cells
  have zf0 := BZ8.out.free (i := 0); have zf1 := BZ8.out.free (i := 1); have zf2 := BZ8.out.free (i := 2); have zf3 := BZ8.out.free (i := 3); have zf4 := BZ8.out.free (i := 4)
  have hm1 : w.heap.size ≠ w8.heap.size := by omega
  have hm2 : w8.heap.size ≠ w.heap.size := by omega
  have hm3 : w.heap.size < w8.heap.size := by omega
  obtain ⟨p, cc, bad, hp, hdb, hj, hnn⟩ : ∃ p cc bad, p ≤ s.size ∧ DB w8 d s p lo cc bad ∧ (∀ q, o = some q → t = q.1 ∧ (o.elim 0 (·.2.1)) = q.2.1 ∧ (o.elim 0 (·.2.2)) = q.2.2 ∧ p = (o.elim 0 (·.2.1)) ∧ cc = 1204 - ((o.elim 0 (·.2.2) : Nat) : Int) ∧ bad = false) ∧ (o = none → bad = true) := by
    cases o with
    | none => obtain ⟨p, cc, h1, h2⟩ := hst; exact ⟨p, cc, true, h1, h2, (fun q e => by cases e), fun _ => rfl⟩
    | some q =>
      have h2 := (HCG.out q.1 q.2.1 q.2.2 rfl).2.1
      exact ⟨q.2.1, 1204 - (q.2.2 : Int), false, h2, hst, (fun q' e => by injection e with e; rw [← e]; exact ⟨htq _ rfl, rfl, rfl, rfl, rfl, rfl⟩), (fun e => by cases e)⟩
  have DC := Lib.hid (decimal_any d s p lo cc t (.slice ua un uc) (o.elim 0 (·.2.1)) (o.elim 0 (·.2.2)) (w8.alloc (.cells #[.int .i64 t.k, .int .i64 t.n, .int .i64 t.e, .string t.s, .slice ua un uc] 26)) ((tow.keep (fun x _ hxs => ((Below.refl _ _).alloc (Nat.le_refl _) (.cells #[.int .i64 t.k, .int .i64 t.n, .int .i64 t.e, .string t.s, .slice ua un uc] 26)).block x hxs)).rep) bad (hdb.stay ((Below.refl _ _).alloc (Nat.le_refl _) (.cells #[.int .i64 t.k, .int .i64 t.n, .int .i64 t.e, .string t.s, .slice ua un uc] 26))))
  have BX9 := Lib.hid (Box.new w8 t.k t.n t.e t.s (.slice ua un uc) 26)
  obtain ⟨y0, y1, y2, y3, y4⟩ := BX9.out.cells
  have BZ8x := Lib.hid (BZ8.out.alloc (.cells #[.int .i64 t.k, .int .i64 t.n, .int .i64 t.e, .string t.s, .slice ua un uc] 26))
  have HT8x := Lib.hid (HT8.out.trans (Touch.of_below ((Below.refl _ _).alloc (Nat.le_refl _) (.cells #[.int .i64 t.k, .int .i64 t.n, .int .i64 t.e, .string t.s, .slice ua un uc] 26))))
  have hz8x : (w8.alloc (.cells #[.int .i64 t.k, .int .i64 t.n, .int .i64 t.e, .string t.s, .slice ua un uc] 26)).heap.size = w8.heap.size + 1 := by simp
  have HJ := Lib.hid hj; have HNN := Lib.hid hnn
  clear tow htq hst twf ht8 hdb hj hnn
  unfold V.agg at DC ⊢
  go_wp2_with fail
  refine DC.out.mono ?_
  rintro e9 w9 ⟨t', rfl, twf, tk, htq, hdb, ht9⟩
  have hz9 := ht9.size
  rw [hz8x] at hz9
  have BZ9 := Lib.hid (show Box w9 w.heap.size 0 0 0 ⟨#[]⟩ (.slice none 0 0) 26 from (ht9.block w.heap.size (by rw [hz8x]; omega) hd2).trans BZ8x.out)
  have HF := Lib.hid (dec_fin HJ.out HNN.out hp htq hdb)
  have HP := Lib.hid (fun v0 v1 v2 v3 v4 => dm_pass (s := s) (lo := lo) (o := o.bind (cgTag 4)) (t := t') (sl := .slice none 0 0) (z := w.heap.size) (Fr := fun _ => False) (HT8x.out.trans ht9) (Nat.le_refl _) hd1 twf (by rw [tk]; exact OwnS.nil _ _) (fun _ h => h.elim) HF.out.1 HF.out.2 v0 v1 v2 v3 v4)
  clear z0 z1 z2 z3 z4 zf0 zf1 zf2 zf3 zf4 y0 y1 y2 y3 y4
  obtain ⟨z0, z1, z2, z3, z4⟩ := BZ9.out.cells
  have zf0 := BZ9.out.free (i := 0); have zf1 := BZ9.out.free (i := 1); have zf2 := BZ9.out.free (i := 2); have zf3 := BZ9.out.free (i := 3); have zf4 := BZ9.out.free (i := 4)
  clear twf tk htq hdb ht9
  unfold V.agg at HP ⊢
  go_wp2_with fail
  refine bodyPost_ret (v := .agg #[.int .i64 t'.k, .int .i64 t'.n, .int .i64 t'.e, .string t'.s, .slice none 0 0]) (by simp [results, Tryd.results137, go_sem, z0, z1, z2, z3, z4]) rfl (HP.out _ _ _ _ _)
end Go.Proofs.YtgbgeocmjdgmoaaDoor
namespace Go.Proofs.YtgbgeocmjdgmoaaDoor
set_option linter.unusedSimpArgs false
set_option linter.unusedVariables false
set_option maxRecDepth 100000
open Go.RowKit
theorem dvalue_any (w0 : World) (hE : Env w0) (d : Nat) (hd0 : w0.heap.size ≤ d) (s : ByteArray) (hs : s.size ≤ 1048576) (lo : Bool) : ∀ (f : Nat) (deep : Int), deep = 17 - (f : Int) → f ≤ 17 → ∀ (i l : Nat) (w : World), i ≤ s.size → l ≤ 1204 → Below w0.heap.size w0 w → DB w d s i lo (1204 - (l : Int)) false →
    Calls Tryd.prog 137 #[.pointer (some ⟨d, 0, none⟩), .int .i64 deep] w (DmRet d s lo (cg false lo s f i l) w)
  | 0, deep, hd, hf, i, l, w, hi, hl, hw, h => dvalue_over d s hs lo deep (by omega) i hi _ (by omega) w h (by omega)
  | f + 1, deep, hd, hf, i, l, w, hi, hl, hw, h => by
    have ih := fun (i l : Nat) (W : World) (hi : i ≤ s.size) (hl : l ≤ 1204) (hw : Below w0.heap.size w0 W) (h : DB W d s i lo (1204 - (l : Int)) false) => dvalue_any w0 hE d hd0 s hs lo f (deep + 1) (by omega) (by omega) i l W hi hl hw h
    by_cases h0 : l = 0
    · rw [show cg false lo s (f + 1) i l = none by
        rw [cg]
        split <;> first | rfl | rw [if_pos h0]]
      exact dvalue_over d s hs lo deep (by omega) i hi _ (by omega) w h (.inl (by omega))
    · obtain ⟨l', rfl⟩ : ∃ l', l = l' + 1 := ⟨l - 1, by omega⟩
      have hg := cg_good (sp := false) (lo := lo) hs f
      have hdp : 0 ≤ deep ∧ deep ≤ 16 := by omega
      by_cases hin : i < s.size
      · rw [cg, dif_pos hin, if_neg (by omega), show l' + 1 - 1 = l' by omega]
        have hlt := s[i].toNat_lt
        unfold cgVal
        by_cases ho : isOpen lo s[i].toNat
        · rw [if_pos ho]
          obtain ⟨rfl, hb, ha1, ha2⟩ := ho
          unfold cgOpen
          by_cases h2 : s[i].toNat / 32 = 2
          · rw [if_pos h2]
            exact dvalue_open w0 hE d hd0 s hs true _ hg deep hdp ih i l' hi hl w hw h _ (fun W hW hb2 => open_2 w0 hE d hd0 s hs _ hg deep (by omega) ih i l' hin (by omega) (by omega) W hW hb2)
          rw [if_neg h2]
          by_cases h3 : s[i].toNat / 32 = 3
          · rw [if_pos h3]
            exact dvalue_open w0 hE d hd0 s hs true _ hg deep hdp ih i l' hi hl w hw h _ (fun W hW hb2 => open_3 w0 hE d hd0 s hs _ hg deep (by omega) ih i l' hin (by omega) (by omega) W hW hb2)
          rw [if_neg h3]
          by_cases h4 : s[i].toNat / 32 = 4
          · rw [if_pos h4]
            exact dvalue_open w0 hE d hd0 s hs true _ hg deep hdp ih i l' hi hl w hw h _ (fun W hW hb2 => open_4 w0 hE d hd0 s hs _ hg deep (by omega) ih i l' hin (by omega) (by omega) W hW hb2)
          rw [if_neg h4, evenK_false]
          exact dvalue_open w0 hE d hd0 s hs true _ hg deep hdp ih i l' hi hl w hw h _ (fun W hW hb2 => open_5 w0 hE d hd0 s hs _ hg deep (by omega) ih i l' hin (by omega) (by omega) W hW hb2)
        · rw [if_neg ho]
          have hno : (false : Bool) = true ∨ lo = false ∨ ∀ hi : i < s.size, s[i].toNat ≠ 95 ∧ s[i].toNat ≠ 127 ∧ s[i].toNat ≠ 159 ∧ s[i].toNat ≠ 191 := by
            unfold isOpen at ho
            cases lo
            · exact .inr (.inl rfl)
            · simp only [true_and] at ho
              exact .inr (.inr (fun _ => by omega))
          cases hh : hdR lo s i with
          | none => exact dvalue_nohead w0 hE d hd0 s hs lo _ hg deep hdp ih i l' hi hl w hw h hno hh
          | some q =>
            obtain ⟨a, n, x⟩ := q
            have ha7 := (hdR_some hh).2.2.2.1
            show Calls _ _ _ _ (DmRet d s lo (cgHead false lo s (cg false lo s f) a n x l') w)
            unfold cgHead
            by_cases a0 : a = 0
            · rw [if_pos (by omega)]; exact dvalue_num0 w0 hE d hd0 s hs lo _ hg deep hdp ih i l' hi hl w hw h hno a n x hh a0
            by_cases a1 : a = 1
            · rw [if_pos (by omega)]; exact dvalue_num1 w0 hE d hd0 s hs lo _ hg deep hdp ih i l' hi hl w hw h hno a n x hh a1
            rw [if_neg (by omega)]
            by_cases a2 : a = 2
            · rw [if_pos a2]; exact dvalue_str2 w0 hE d hd0 s hs lo _ hg deep hdp ih i l' hi hl w hw h hno a n x hh a2
            rw [if_neg a2]
            by_cases a3 : a = 3
            · rw [if_pos a3]; exact dvalue_str3 w0 hE d hd0 s hs lo _ hg deep hdp ih i l' hi hl w hw h hno a n x hh a3
            rw [if_neg a3]
            by_cases a4 : a = 4
            · rw [if_pos a4, if_neg (by simp)]; exact dvalue_kids4 w0 hE d hd0 s hs lo _ hg deep hdp ih i l' hi hl w hw h hno a n x hh a4
            rw [if_neg a4]
            by_cases a5 : a = 5
            · rw [if_pos a5, if_neg (by simp)]; exact dvalue_kids5 w0 hE d hd0 s hs lo _ hg deep hdp ih i l' hi hl w hw h hno a n x hh a5
            rw [if_neg a5]
            by_cases a6 : a = 6
            · rw [if_pos a6, if_neg (by simp)]
              by_cases h4 : n = 4
              · have := dvalue_dec w0 hE d hd0 s hs lo _ hg deep hdp ih i l' hi hl w hw h hno a n x hh a6 h4
                exact this
              · exact dvalue_tag w0 hE d hd0 s hs lo _ hg deep hdp ih i l' hi hl w hw h hno a n x hh a6 h4
            rw [if_neg a6]
            exact dvalue_simple w0 hE d hd0 s hs lo _ hg deep hdp ih i l' hi hl w hw h hno a n x hh (by omega)
      · rw [show cg false lo s (f + 1) i (l' + 1) = none by rw [cg, dif_neg hin]]
        exact dvalue_nohead w0 hE d hd0 s hs lo _ hg deep hdp ih i l' hi hl w hw h (.inr (.inr (fun h => absurd h hin))) (hdR_end hin)
end Go.Proofs.YtgbgeocmjdgmoaaDoor
namespace Go.Proofs.YtgbgeocmjdgmoaaDoor
set_option linter.unusedSimpArgs false
set_option linter.unusedVariables false
set_option maxRecDepth 100000
open Go.RowKit
theorem ckeep8 {w W w2 : World} {b c i j : Nat} {x0 x1 x2 x3 x4 x5 x6 : Value} (hb : Below W.heap.size W w2) (h : W.cell? ⟨b, 0, none⟩ = some x0 ∧ W.cell? ⟨b, 1, none⟩ = some x1 ∧ W.cell? ⟨b, 2, none⟩ = some x2 ∧ W.cell? ⟨b, 3, none⟩ = some x3 ∧ W.cell? ⟨b, 4, none⟩ = some x4 ∧ W.cell? ⟨c, i, none⟩ = some x5 ∧ W.cell? ⟨c, j, none⟩ = some x6 ∧ Below w.heap.size w W) :
    w2.cell? ⟨b, 0, none⟩ = some x0 ∧ w2.cell? ⟨b, 1, none⟩ = some x1 ∧ w2.cell? ⟨b, 2, none⟩ = some x2 ∧ w2.cell? ⟨b, 3, none⟩ = some x3 ∧ w2.cell? ⟨b, 4, none⟩ = some x4 ∧ w2.cell? ⟨c, i, none⟩ = some x5 ∧ w2.cell? ⟨c, j, none⟩ = some x6 ∧ Below w.heap.size w w2 :=
  ⟨keep1 hb h.1, keep1 hb h.2.1, keep1 hb h.2.2.1, keep1 hb h.2.2.2.1, keep1 hb h.2.2.2.2.1, keep1 hb h.2.2.2.2.2.1, keep1 hb h.2.2.2.2.2.2.1, h.2.2.2.2.2.2.2.trans (hb.mono h.2.2.2.2.2.2.2.size)⟩
theorem Box.drew2 {w : World} {b : Nat} {k n e : Int} {s : ByteArray} {sl : Value} {T : TypeId} (h : Box w b k n e s sl T) : Box w.drew b k n e s sl T := h
set_option maxHeartbeats 2000000 in
theorem GetCbor_impl0 (w0 : World) (s : ByteArray) (hs : s.size ≤ 1048576) (i : Int) (hi : In64 i) (w : World) (hw : Below w0.heap.size w0 w) (hE : Env w0) :
    Calls Tryd.prog 76 #[.string s, .int .i64 i] w (CRet w (cbR2 s i)) := by
  obtain ⟨hi0, hi1⟩ := hi
  have BZ := Lib.hid (Box.new w 0 0 0 ⟨#[]⟩ (.slice none 0 0) 26)
  obtain ⟨z0, z1, z2, z3, z4⟩ := BZ.out.cells
  have zf0 := BZ.out.free (i := 0); have zf1 := BZ.out.free (i := 1); have zf2 := BZ.out.free (i := 2); have zf3 := BZ.out.free (i := 3); have zf4 := BZ.out.free (i := 4)
  by_cases h1 : i < 0 ∨ (s.size : Int) < i
  · rw [cbR2_out (by omega)]
    have IN := Lib.hid (fun W => within_no i 0 s.size W (by omega))
    clear h1
    go_enter Tryd.func76, Tryd.ntmps76
    go_wp2_with fail
    refine (IN.out _).mono ?_
    rintro e5 w5 ⟨rfl, rfl⟩
    go_wp2_with fail
    refine bodyPost_ret (v := .tuple #[.agg #[.int .i64 0, .int .i64 0, .int .i64 0, .string ⟨#[]⟩, .slice none 0 0], .int .i64 (-1)]) (by simp [results, Tryd.results76, go_sem, z0, z1, z2, z3, z4]) rfl (c_zero ((by (with_reducible (repeat' (first | exact Below.refl _ _ | refine below_alloc ?_ _ ?_ | refine Below.setCell ?_ ?_ _ | refine Below.drew ?_ | refine below_drewN ?_ _ | refine below_step ?_ (by assumption) ?_ | refine below_mark ?_ (by assumption) ?_))); all_goals (first | omega | (simp; done) | (simp; omega)))))
  obtain ⟨k, rfl⟩ : ∃ k : Nat, i = (k : Int) := ⟨i.toNat, by omega⟩
  have hk : k ≤ s.size := by omega
  have IN := Lib.hid (fun W => within_yes (k : Int) 0 s.size W (by omega) (by omega))
  have HE := Lib.hid (show cbR2 s (k : Int) = cborR (cg false false s 17 k 1204) s k by unfold cbR2; rw [if_pos (by omega), Int.toNat_natCast, getc_same s k hs])
  have HG := Lib.hid (fun v j m (h : cg false false s 17 k 1204 = some (v, j, m)) => cg_good hs 17 k 1204 v j m h)
  have CL := Lib.hid (fun (r : Nat) (hr : w0.heap.size ≤ r) (W : World) (hW : Below w0.heap.size w0 W) (h : DB W r s k false 0 false) => show Calls Tryd.prog 137 #[.pointer (some ⟨r, 0, none⟩), .int .i64 0] W (DmRet r s false (cg false false s 17 k 1204) W) from
    dvalue_any w0 hE r hr s hs false 17 0 (by omega) (by omega) k 1204 W (by omega) (by omega) hW (by rw [show (1204 : Int) - ((1204 : Nat) : Int) = 0 by omega]; exact h))
  rw [HE.out]
  generalize cg false false s 17 k 1204 = o at *
  clear HE h1 hi0 hi1
  have DB5 := Lib.hid (show DB ((w.alloc (.cells #[.int .i64 0, .int .i64 0, .int .i64 0, .string ⟨#[]⟩, .slice none 0 0] 26)).alloc (.cells #[.string s, .int .i64 (k : Int), .bool false, .int .i64 0, .bool false] 131)) (w.heap.size + 1) s k false 0 false from heap_alloc_here _ (by simp))
  have hz5 : ((w.alloc (.cells #[.int .i64 0, .int .i64 0, .int .i64 0, .string ⟨#[]⟩, .slice none 0 0] 26)).alloc (.cells #[.string s, .int .i64 (k : Int), .bool false, .int .i64 0, .bool false] 131)).heap.size = w.heap.size + 1 + 1 := by simp
  have HB5 := Lib.hid (show Below w.heap.size w ((w.alloc (.cells #[.int .i64 0, .int .i64 0, .int .i64 0, .string ⟨#[]⟩, .slice none 0 0] 26)).alloc (.cells #[.string s, .int .i64 (k : Int), .bool false, .int .i64 0, .bool false] 131)) from (by (with_reducible (repeat' (first | exact Below.refl _ _ | refine below_alloc ?_ _ ?_ | refine Below.setCell ?_ ?_ _ | refine Below.drew ?_ | refine below_drewN ?_ _ | refine below_step ?_ (by assumption) ?_ | refine below_mark ?_ (by assumption) ?_))); all_goals (first | omega | (simp; done) | (simp; omega))))
  have BZ5 := Lib.hid (show Box ((w.alloc (.cells #[.int .i64 0, .int .i64 0, .int .i64 0, .string ⟨#[]⟩, .slice none 0 0] 26)).alloc (.cells #[.string s, .int .i64 (k : Int), .bool false, .int .i64 0, .bool false] 131)) w.heap.size 0 0 0 ⟨#[]⟩ (.slice none 0 0) 26 from (BZ.out).alloc _)
  have HBL := Lib.hid (hw.trans (HB5.out.mono hw.size))
  cases o with
  | none =>
    go_enter Tryd.func76, Tryd.ntmps76
    go_wp2_with fail
    refine (IN.out _).mono ?_
    rintro e5 w5 ⟨rfl, rfl⟩
    go_wp2_with fail
    refine (CL.out _ (by have := hw.size; omega) _ HBL.out DB5.out).mono ?_
    rintro e w6 ⟨t, sl, rfl, twf, tow, htq, hst, ht6⟩
    obtain ⟨ua, un, uc, rfl⟩ : ∃ sa sn sc, sl = .slice sa sn sc := by obtain ⟨p, q, e⟩ := tow.slice; exact ⟨p, _, q, e⟩
    have hz6 := ht6.size
    rw [hz5] at hz6
    have BZ6 := Lib.hid (show Box w6 w.heap.size 0 0 0 ⟨#[]⟩ (.slice none 0 0) 26 from (ht6.block w.heap.size (by omega) (by omega)).trans BZ5.out)
    have HB6 := Lib.hid (show Below w.heap.size w w6 from HB5.out.trans (ht6.below (fun x hx => by omega) (by omega)))
    clear z0 z1 z2 z3 z4 zf0 zf1 zf2 zf3 zf4
    obtain ⟨z0, z1, z2, z3, z4⟩ := BZ6.out.cells
    have zf0 := BZ6.out.free (i := 0); have zf1 := BZ6.out.free (i := 1); have zf2 := BZ6.out.free (i := 2); have zf3 := BZ6.out.free (i := 3); have zf4 := BZ6.out.free (i := 4)
    have hm1 : w.heap.size ≠ w6.heap.size := by omega
    have hm2 : w6.heap.size ≠ w.heap.size := by omega
    have hm3 : w.heap.size < w6.heap.size := by omega
    have hm4 : w.heap.size + 1 ≠ w6.heap.size := by omega
    have hm5 : w6.heap.size ≠ w.heap.size + 1 := by omega
    have hm6 : w.heap.size + 1 < w6.heap.size := by omega
    obtain ⟨p, c, hp, hub⟩ := hst
    obtain ⟨u0, u1, u2, u3, u4, f1, f2, f3⟩ := hub.cells
    unfold V.agg
    clear CL HG DB5 BZ BZ5 BZ6 ht6 htq hub tow twf
    have HBT := Lib.hid HB6.out
    go_wp2_with fail
    go_quiet (fail)
    go_wp2_with fail
    refine bodyPost_ret (v := .tuple #[.agg #[.int .i64 0, .int .i64 0, .int .i64 0, .string ⟨#[]⟩, .slice none 0 0], .int .i64 (-1)]) (by simp [results, Tryd.results76, go_sem, z0, z1, z2, z3, z4, hm3]) rfl (c_zero ?_)
    have HD : ∀ (W : World) (q : Nat), Below w.heap.size w W → Below w.heap.size w (W.drewN q) := fun W q h => h.trans ⟨rfl, rfl, rfl, Nat.le_refl _, fun _ _ => rfl⟩
    exact vb_set5' (HD _ _ (below_alloc HBT.out _ (by omega))) _ (Nat.le_refl _) _ _ _ _ _
  | some q =>
    obtain ⟨v, j, m⟩ := q
    obtain ⟨hg1, hg2, hg3, hg4, hg5, hg6⟩ := HG.out v j m rfl
    have HQ := Lib.hid (show cborR (some (v, j, m)) s k = if cborB v = (s.extract k j).data.toList then (v, (j : Int)) else (VZ, -1) from rfl)
    go_enter Tryd.func76, Tryd.ntmps76
    go_wp2_with fail
    refine (IN.out _).mono ?_
    rintro e5 w5 ⟨rfl, rfl⟩
    go_wp2_with fail
    refine (CL.out _ (by have := hw.size; omega) _ HBL.out DB5.out).mono ?_
    rintro e w6 ⟨t, sl, rfl, twf, tow, htq, hst, ht6⟩
    obtain ⟨ua, un, uc, rfl⟩ : ∃ sa sn sc, sl = .slice sa sn sc := by obtain ⟨p, q, e⟩ := tow.slice; exact ⟨p, _, q, e⟩
    obtain rfl : v = t := (htq _ rfl).symm
    have hz6 := ht6.size
    rw [hz5] at hz6
    have BZ6 := Lib.hid (show Box w6 w.heap.size 0 0 0 ⟨#[]⟩ (.slice none 0 0) 26 from (ht6.block w.heap.size (by omega) (by omega)).trans BZ5.out)
    have HB6 := Lib.hid (show Below w.heap.size w w6 from HB5.out.trans (ht6.below (fun x hx => by omega) (by omega)))
    clear z0 z1 z2 z3 z4 zf0 zf1 zf2 zf3 zf4
    obtain ⟨z0, z1, z2, z3, z4⟩ := BZ6.out.cells
    have zf0 := BZ6.out.free (i := 0); have zf1 := BZ6.out.free (i := 1); have zf2 := BZ6.out.free (i := 2); have zf3 := BZ6.out.free (i := 3); have zf4 := BZ6.out.free (i := 4)
    have hm1 : w.heap.size ≠ w6.heap.size := by omega
    have hm2 : w6.heap.size ≠ w.heap.size := by omega
    have hm3 : w.heap.size < w6.heap.size := by omega
    have hm4 : w.heap.size + 1 ≠ w6.heap.size := by omega
    have hm5 : w6.heap.size ≠ w.heap.size + 1 := by omega
    have hm6 : w.heap.size + 1 < w6.heap.size := by omega
    have hub : DB w6 (w.heap.size + 1) s j false (1204 - (m : Int)) false := hst
    obtain ⟨u0, u1, u2, u3, u4, f1, f2, f3⟩ := hub.cells
    have UD := Lib.hid (show (w6.alloc (.cells #[.int .i64 v.k, .int .i64 v.n, .int .i64 v.e, .string v.s, .slice ua un uc] 26)).drew.cell? ⟨w.heap.size + 1, 1, none⟩ = some (.int .i64 (j : Int)) ∧ (w6.alloc (.cells #[.int .i64 v.k, .int .i64 v.n, .int .i64 v.e, .string v.s, .slice ua un uc] 26)).drew.cell? ⟨w.heap.size + 1, 4, none⟩ = some (.bool false) from by
      have h9 := (hub.stay (((Below.refl _ _).alloc (Nat.le_refl _) (.cells #[.int .i64 v.k, .int .i64 v.n, .int .i64 v.e, .string v.s, .slice ua un uc] 26)).drew)).cells
      exact ⟨h9.2.1, h9.2.2.2.2.1⟩)
    have PM := Lib.hid (fun (W : World) (hW : W.cell? ⟨w6.heap.size, 0, none⟩ = some (.int .i64 v.k) ∧ W.cell? ⟨w6.heap.size, 1, none⟩ = some (.int .i64 v.n) ∧ W.cell? ⟨w6.heap.size, 2, none⟩ = some (.int .i64 v.e) ∧ W.cell? ⟨w6.heap.size, 3, none⟩ = some (.string v.s) ∧ W.cell? ⟨w6.heap.size, 4, none⟩ = some (.slice ua un uc) ∧ W.cell? ⟨w.heap.size + 1, 1, none⟩ = some (.int .i64 (j : Int)) ∧ W.cell? ⟨w.heap.size + 1, 4, none⟩ = some (.bool false) ∧ Below w6.heap.size w6 W) => PutCbor_impl w6 (Env.keep hE (hw.trans (HB6.out.mono hw.size))) (v.agg (.slice ua un uc)) v ⟨_, rfl, twf, tow.rep⟩ (by omega) W hW.2.2.2.2.2.2.2)
    have hkj : (k : Int) ≤ (j : Int) := by omega
    have hj0 : (0 : Int) ≤ (j : Int) := by omega
    have tj : decide ((j : Int) < 0) = false := decide_eq_false (by omega)
    have hjs : (j : Int) ≤ (s.size : Int) := by omega
    have HVI := Lib.hid (show ∀ w', Below w.heap.size w w' → OwnS w' (fun x => w.heap.size ≤ x) (.slice ua un uc) v.kids → CRet w (v, (j : Int)) (.returned (.tuple #[v.agg (.slice ua un uc), .int .i64 (j : Int)])) w' from fun w' h1 h2 => ⟨_, rfl, twf, h2, h1⟩)
    have HO6 := Lib.hid (show OwnS w6 (fun x => w.heap.size + 1 + 1 ≤ x) (.slice ua un uc) v.kids from OwnS.mono tow (fun x hx => by rw [hz5] at hx; exact hx))
    have HM8 := Lib.hid (show w.heap.size + 1 + 1 ≤ w.heap.size → False by omega)
    have HM9 := Lib.hid (show ∀ x, w.heap.size + 1 + 1 ≤ x → w.heap.size ≤ x by intro x hx; omega)
    have BV := Lib.hid (Box.drew2 (Box.new w6 v.k v.n v.e v.s (.slice ua un uc) 26))
    clear CL HG DB5 BZ BZ5 ht6 tow twf htq hst hub hg1 hg3 hg4 hg5 hg6
    unfold V.agg at PM HVI ⊢
    by_cases hc : (⟨(cborB v).toArray⟩ : ByteArray) = s.extract k j
    · have t1 := cbne_no hc
      have t2 := ba_yes hc
      have hlist : cborB v = (s.extract k j).data.toList := by rw [← hc]
      have HE2 := Lib.hid (show cborR (some (v, j, m)) s k = (v, (j : Int)) from by rw [HQ.out, if_pos hlist])
      clear hlist HQ hc
      unfold TxtRet bstr at PM
      generalize (⟨(cborB v).toArray⟩ : ByteArray) = C at *
      have hS00 : (fun W => W.cell? ⟨w6.heap.size, 0, none⟩ = some (.int .i64 v.k) ∧ W.cell? ⟨w6.heap.size, 1, none⟩ = some (.int .i64 v.n) ∧ W.cell? ⟨w6.heap.size, 2, none⟩ = some (.int .i64 v.e) ∧ W.cell? ⟨w6.heap.size, 3, none⟩ = some (.string v.s) ∧ W.cell? ⟨w6.heap.size, 4, none⟩ = some (.slice ua un uc) ∧ W.cell? ⟨w.heap.size + 1, 1, none⟩ = some (.int .i64 (j : Int)) ∧ W.cell? ⟨w.heap.size + 1, 4, none⟩ = some (.bool false) ∧ Below w6.heap.size w6 W) (w6.alloc (.cells #[.int .i64 v.k, .int .i64 v.n, .int .i64 v.e, .string v.s, .slice ua un uc] 26)).drew := by
        obtain ⟨v0, v1, v2, v3, v4⟩ := BV.out.cells
        exact ⟨v0, v1, v2, v3, v4, UD.out.1, UD.out.2, ((Below.refl _ _).alloc (Nat.le_refl _) _).drew⟩
      go_wp2_with fail
      go_region_held3 (fun W => W.cell? ⟨w6.heap.size, 0, none⟩ = some (.int .i64 v.k) ∧ W.cell? ⟨w6.heap.size, 1, none⟩ = some (.int .i64 v.n) ∧ W.cell? ⟨w6.heap.size, 2, none⟩ = some (.int .i64 v.e) ∧ W.cell? ⟨w6.heap.size, 3, none⟩ = some (.string v.s) ∧ W.cell? ⟨w6.heap.size, 4, none⟩ = some (.slice ua un uc) ∧ W.cell? ⟨w.heap.size + 1, 1, none⟩ = some (.int .i64 (j : Int)) ∧ W.cell? ⟨w.heap.size + 1, 4, none⟩ = some (.bool false) ∧ Below w6.heap.size w6 W) (first | with_reducible exact ⟨by assumption, by assumption, by assumption, by assumption, by assumption, by assumption, by assumption, by assumption⟩ | with_reducible assumption | exact hS00 | go_keep) (((with_reducible refine (PM.out _ (by with_reducible assumption)).mono ?_); rintro e8 w8 ⟨rfl, hb8⟩; have hS := ckeep8 hb8 (by with_reducible assumption); obtain ⟨hS0, hS1, hS2, hS3, hS4, hS6, hS7, hS5⟩ := hS))
      clear hS00
      have hz8 := hS5.size
      have BZ8 := Lib.hid (show Box w8 w.heap.size 0 0 0 ⟨#[]⟩ (.slice none 0 0) 26 from BZ6.out.stay hS5)
      clear z0 z1 z2 z3 z4 zf0 zf1 zf2 zf3 zf4
      obtain ⟨z0, z1, z2, z3, z4⟩ := BZ8.out.cells
      have zf0 := BZ8.out.free (i := 0); have zf1 := BZ8.out.free (i := 1); have zf2 := BZ8.out.free (i := 2); have zf3 := BZ8.out.free (i := 3); have zf4 := BZ8.out.free (i := 4)
      have HS5 := Lib.hid hS5
      clear hS5 hb8
      go_wp2_with fail
      go_region
      go_wp2_with fail
      refine bodyPost_ret (v := .tuple #[.agg #[.int .i64 v.k, .int .i64 v.n, .int .i64 v.e, .string v.s, .slice ua un uc], .int .i64 (j : Int)]) (by simp [results, Tryd.results76, go_sem, z0, z1, z2, z3, z4]) rfl (by rw [HE2.out]; exact HVI.out _ (Below.drew (vb_set5' (HB6.out.trans (HS5.out.mono HB6.out.size)) w.heap.size (Nat.le_refl _) _ _ _ _ _)) (OwnS.drew (OwnS.mono (OwnS.set5 (HO6.out.stay HS5.out) w.heap.size HM8.out _ _ _ _ _) HM9.out)))
    · have t1 := cbne_yes hc
      have t2 := ba_no hc
      have hlist : ¬ cborB v = (s.extract k j).data.toList := fun e => hc (by rw [e])
      have HE2 := Lib.hid (show cborR (some (v, j, m)) s k = (VZ, -1) from by rw [HQ.out, if_neg hlist])
      clear hlist HQ hc
      unfold TxtRet bstr at PM
      generalize (⟨(cborB v).toArray⟩ : ByteArray) = C at *
      have hS00 : (fun W => W.cell? ⟨w6.heap.size, 0, none⟩ = some (.int .i64 v.k) ∧ W.cell? ⟨w6.heap.size, 1, none⟩ = some (.int .i64 v.n) ∧ W.cell? ⟨w6.heap.size, 2, none⟩ = some (.int .i64 v.e) ∧ W.cell? ⟨w6.heap.size, 3, none⟩ = some (.string v.s) ∧ W.cell? ⟨w6.heap.size, 4, none⟩ = some (.slice ua un uc) ∧ W.cell? ⟨w.heap.size + 1, 1, none⟩ = some (.int .i64 (j : Int)) ∧ W.cell? ⟨w.heap.size + 1, 4, none⟩ = some (.bool false) ∧ Below w6.heap.size w6 W) (w6.alloc (.cells #[.int .i64 v.k, .int .i64 v.n, .int .i64 v.e, .string v.s, .slice ua un uc] 26)).drew := by
        obtain ⟨v0, v1, v2, v3, v4⟩ := BV.out.cells
        exact ⟨v0, v1, v2, v3, v4, UD.out.1, UD.out.2, ((Below.refl _ _).alloc (Nat.le_refl _) _).drew⟩
      go_wp2_with fail
      go_region_held3 (fun W => W.cell? ⟨w6.heap.size, 0, none⟩ = some (.int .i64 v.k) ∧ W.cell? ⟨w6.heap.size, 1, none⟩ = some (.int .i64 v.n) ∧ W.cell? ⟨w6.heap.size, 2, none⟩ = some (.int .i64 v.e) ∧ W.cell? ⟨w6.heap.size, 3, none⟩ = some (.string v.s) ∧ W.cell? ⟨w6.heap.size, 4, none⟩ = some (.slice ua un uc) ∧ W.cell? ⟨w.heap.size + 1, 1, none⟩ = some (.int .i64 (j : Int)) ∧ W.cell? ⟨w.heap.size + 1, 4, none⟩ = some (.bool false) ∧ Below w6.heap.size w6 W) (first | with_reducible exact ⟨by assumption, by assumption, by assumption, by assumption, by assumption, by assumption, by assumption, by assumption⟩ | with_reducible assumption | exact hS00 | go_keep) (((with_reducible refine (PM.out _ (by with_reducible assumption)).mono ?_); rintro e8 w8 ⟨rfl, hb8⟩; have hS := ckeep8 hb8 (by with_reducible assumption); obtain ⟨hS0, hS1, hS2, hS3, hS4, hS6, hS7, hS5⟩ := hS))
      clear hS00
      have hz8 := hS5.size
      have BZ8 := Lib.hid (show Box w8 w.heap.size 0 0 0 ⟨#[]⟩ (.slice none 0 0) 26 from BZ6.out.stay hS5)
      clear z0 z1 z2 z3 z4 zf0 zf1 zf2 zf3 zf4
      obtain ⟨z0, z1, z2, z3, z4⟩ := BZ8.out.cells
      have zf0 := BZ8.out.free (i := 0); have zf1 := BZ8.out.free (i := 1); have zf2 := BZ8.out.free (i := 2); have zf3 := BZ8.out.free (i := 3); have zf4 := BZ8.out.free (i := 4)
      have HS5 := Lib.hid hS5
      clear hS5 hb8
      go_wp2_with fail
      refine bodyPost_ret (v := .tuple #[.agg #[.int .i64 0, .int .i64 0, .int .i64 0, .string ⟨#[]⟩, .slice none 0 0], .int .i64 (-1)]) (by simp [results, Tryd.results76, go_sem, z0, z1, z2, z3, z4]) rfl (by rw [HE2.out]; exact c_zero (vb_set5' (HB6.out.trans (HS5.out.mono HB6.out.size)) _ (Nat.le_refl _) _ _ _ _ _))
set_option maxHeartbeats 1000000 in
theorem CborFits_impl (w0 : World) (hE : Env w0) (v : Value) (t : V) (h : Rep w0 v t) (hsz : t.sz ≤ 1048576) (w : World) (hw : Below w0.heap.size w0 w) :
    Calls Tryd.prog 82 #[v] w (BoolRet (decide (cborB t ≠ [])) w) := by
  have PU := Lib.hid (fun (W : World) (hW : Below w.heap.size w W) => PutCbor_impl w0 hE v t h hsz W (hw.trans (hW.mono hw.size)))
  obtain ⟨sl, rfl, hwf, hr⟩ := h
  obtain ⟨sa, sc, rfl⟩ := hr.slice
  clear hr hwf hsz
  have HQ := Lib.hid (show (!((⟨(cborB t).toArray⟩ : ByteArray).toList == (⟨#[]⟩ : ByteArray).toList)) = decide (cborB t ≠ []) by
    rw [ba_eqv]
    by_cases hc : cborB t = []
    · rw [hc]; rfl
    · have : ¬ (⟨(cborB t).toArray⟩ : ByteArray) = ⟨#[]⟩ := fun e => hc (by
        have := congrArg (fun b : ByteArray => b.data.toList) e
        simpa using this)
      simp [this, hc])
  unfold V.agg at *
  unfold TxtRet bstr at PU
  rw [← HQ.out]
  clear HQ
  generalize (⟨(cborB t).toArray⟩ : ByteArray) = C at *
  generalize t.k = k at *
  generalize t.n = n at *
  generalize t.e = e at *
  generalize t.s = s at *
  generalize t.kids = ts at *
  have BX := Lib.hid (Box.new w k n e s (.slice sa ts.length sc) 26)
  go_enter Tryd.func82, Tryd.ntmps82
  go_wp2_with fail
  refine (PU.out _ ((by (with_reducible (repeat' (first | exact Below.refl _ _ | refine below_alloc ?_ _ ?_ | refine Below.setCell ?_ ?_ _ | refine Below.drew ?_ | refine below_drewN ?_ _ | refine below_step ?_ (by assumption) ?_ | refine below_mark ?_ (by assumption) ?_))); all_goals (first | omega | (simp; done) | (simp; omega))))).mono ?_
  rintro x w1 ⟨rfl, hb1⟩
  go_wp2_with fail
  go_ret
  exact ⟨by simp [], (by (with_reducible (repeat' (first | exact Below.refl _ _ | refine below_alloc ?_ _ ?_ | refine Below.setCell ?_ ?_ _ | refine Below.drew ?_ | refine below_drewN ?_ _ | refine below_step ?_ (by assumption) ?_ | refine below_mark ?_ (by assumption) ?_))); all_goals (first | omega | (simp; done) | (simp; omega)))⟩
set_option maxHeartbeats 2000000 in
theorem Loose_impl0 (w0 : World) (s : ByteArray) (hs : s.size ≤ 1048576) (w : World) (hw : Below w0.heap.size w0 w) (hE : Env w0) :
    Calls Tryd.prog 86 #[.string s] w (BRet2 w (looseR2 s)) := by
  have BZ := Lib.hid (Box.new w 0 0 0 ⟨#[]⟩ (.slice none 0 0) 26)
  obtain ⟨z0, z1, z2, z3, z4⟩ := BZ.out.cells
  have zf0 := BZ.out.free (i := 0); have zf1 := BZ.out.free (i := 1); have zf2 := BZ.out.free (i := 2); have zf3 := BZ.out.free (i := 3); have zf4 := BZ.out.free (i := 4)
  by_cases h1 : 4000 < s.size
  · rw [show looseR2 s = (VZ, false) by unfold looseR2; rw [if_neg (by omega)]]
    have t1 : decide ((4000 : Int) < (s.size : Int)) = true := decide_eq_true (by omega)
    go_enter Tryd.func86, Tryd.ntmps86
    go_wp2_with fail
    refine bodyPost_ret (v := .tuple #[.agg #[.int .i64 0, .int .i64 0, .int .i64 0, .string ⟨#[]⟩, .slice none 0 0], .bool false]) (by simp [results, Tryd.results86, go_sem, z0, z1, z2, z3, z4]) rfl (b_zero ((by (with_reducible (repeat' (first | exact Below.refl _ _ | refine below_alloc ?_ _ ?_ | refine Below.setCell ?_ ?_ _ | refine Below.drew ?_ | refine below_drewN ?_ _ | refine below_step ?_ (by assumption) ?_ | refine below_mark ?_ (by assumption) ?_))); all_goals (first | omega | (simp; done) | (simp; omega)))))
  have t1 : decide ((4000 : Int) < (s.size : Int)) = false := decide_eq_false (by omega)
  have HE := Lib.hid (show looseR2 s = looseR (cg false true s 17 0 1204) s by unfold looseR2; rw [if_pos (by omega), loose_same s hs])
  have HG := Lib.hid (fun v j m (h : cg false true s 17 0 1204 = some (v, j, m)) => cg_good hs 17 0 1204 v j m h)
  have CL := Lib.hid (fun (r : Nat) (hr : w0.heap.size ≤ r) (W : World) (hW : Below w0.heap.size w0 W) (h : DB W r s 0 true 0 false) => show Calls Tryd.prog 137 #[.pointer (some ⟨r, 0, none⟩), .int .i64 0] W (DmRet r s true (cg false true s 17 0 1204) W) from
    dvalue_any w0 hE r hr s hs true 17 0 (by omega) (by omega) 0 1204 W (by omega) (by omega) hW (by rw [show (1204 : Int) - ((1204 : Nat) : Int) = 0 by omega]; exact h))
  rw [HE.out]
  generalize cg false true s 17 0 1204 = o at *
  clear HE
  have DB5 := Lib.hid (show DB ((w.alloc (.cells #[.int .i64 0, .int .i64 0, .int .i64 0, .string ⟨#[]⟩, .slice none 0 0] 26)).alloc (.cells #[.string s, .int .i64 0, .bool true, .int .i64 0, .bool false] 131)) (w.heap.size + 1) s 0 true 0 false from heap_alloc_here _ (by simp))
  have hz5 : ((w.alloc (.cells #[.int .i64 0, .int .i64 0, .int .i64 0, .string ⟨#[]⟩, .slice none 0 0] 26)).alloc (.cells #[.string s, .int .i64 0, .bool true, .int .i64 0, .bool false] 131)).heap.size = w.heap.size + 1 + 1 := by simp
  have HB5 := Lib.hid (show Below w.heap.size w ((w.alloc (.cells #[.int .i64 0, .int .i64 0, .int .i64 0, .string ⟨#[]⟩, .slice none 0 0] 26)).alloc (.cells #[.string s, .int .i64 0, .bool true, .int .i64 0, .bool false] 131)) from (by (with_reducible (repeat' (first | exact Below.refl _ _ | refine below_alloc ?_ _ ?_ | refine Below.setCell ?_ ?_ _ | refine Below.drew ?_ | refine below_drewN ?_ _ | refine below_step ?_ (by assumption) ?_ | refine below_mark ?_ (by assumption) ?_))); all_goals (first | omega | (simp; done) | (simp; omega))))
  have BZ5 := Lib.hid (show Box ((w.alloc (.cells #[.int .i64 0, .int .i64 0, .int .i64 0, .string ⟨#[]⟩, .slice none 0 0] 26)).alloc (.cells #[.string s, .int .i64 0, .bool true, .int .i64 0, .bool false] 131)) w.heap.size 0 0 0 ⟨#[]⟩ (.slice none 0 0) 26 from (BZ.out).alloc _)
  have HBL := Lib.hid (hw.trans (HB5.out.mono hw.size))
  cases o with
  | none =>
    go_enter Tryd.func86, Tryd.ntmps86
    go_wp2_with fail
    refine (CL.out _ (by have := hw.size; omega) _ HBL.out DB5.out).mono ?_
    rintro e w6 ⟨t, sl, rfl, twf, tow, htq, hst, ht6⟩
    obtain ⟨ua, un, uc, rfl⟩ : ∃ sa sn sc, sl = .slice sa sn sc := by obtain ⟨p, q, e⟩ := tow.slice; exact ⟨p, _, q, e⟩
    unfold V.agg
    have hz6 := ht6.size
    rw [hz5] at hz6
    have BZ6 := Lib.hid (show Box w6 w.heap.size 0 0 0 ⟨#[]⟩ (.slice none 0 0) 26 from (ht6.block w.heap.size (by omega) (by omega)).trans BZ5.out)
    have HB6 := Lib.hid (show Below w.heap.size w w6 from HB5.out.trans (ht6.below (fun x hx => by omega) (by omega)))
    clear z0 z1 z2 z3 z4 zf0 zf1 zf2 zf3 zf4
    obtain ⟨z0, z1, z2, z3, z4⟩ := BZ6.out.cells
    have zf0 := BZ6.out.free (i := 0); have zf1 := BZ6.out.free (i := 1); have zf2 := BZ6.out.free (i := 2); have zf3 := BZ6.out.free (i := 3); have zf4 := BZ6.out.free (i := 4)
    have hm1 : w.heap.size ≠ w6.heap.size := by omega
    have hm2 : w6.heap.size ≠ w.heap.size := by omega
    have hm3 : w.heap.size < w6.heap.size := by omega
    have hm4 : w.heap.size + 1 ≠ w6.heap.size := by omega
    have hm5 : w6.heap.size ≠ w.heap.size + 1 := by omega
    have hm6 : w.heap.size + 1 < w6.heap.size := by omega
    obtain ⟨p, c, hp, hub⟩ := hst
    obtain ⟨u0, u1, u2, u3, u4, f1, f2, f3⟩ := hub.cells
    clear CL HG DB5 BZ BZ5 BZ6 ht6 htq hub tow twf
    have HBT := Lib.hid HB6.out
    go_wp2_with fail
    refine bodyPost_ret (v := .tuple #[.agg #[.int .i64 0, .int .i64 0, .int .i64 0, .string ⟨#[]⟩, .slice none 0 0], .bool false]) (by simp [results, Tryd.results86, go_sem, z0, z1, z2, z3, z4, hm3]) rfl (b_zero ?_)
    have hb6 := HBT.out
    exact (by (with_reducible (repeat' (first | exact Below.refl _ _ | refine below_alloc ?_ _ ?_ | refine Below.setCell ?_ ?_ _ | refine Below.drew ?_ | refine below_drewN ?_ _ | refine below_step ?_ (by assumption) ?_ | refine below_mark ?_ (by assumption) ?_))); all_goals (first | omega | (simp; done) | (simp; omega)))
  | some q =>
    obtain ⟨v, j, m⟩ := q
    obtain ⟨hg1, hg2, hg3, hg4, hg5, hg6⟩ := HG.out v j m rfl
    have HQ := Lib.hid (show looseR (some (v, j, m)) s = if j = s.size ∧ cborB v ≠ [] then (v, true) else (VZ, false) from rfl)
    go_enter Tryd.func86, Tryd.ntmps86
    go_wp2_with fail
    refine (CL.out _ (by have := hw.size; omega) _ HBL.out DB5.out).mono ?_
    rintro e w6 ⟨t, sl, rfl, uwf, uo, htq, hst, ht6⟩
    obtain ⟨ua, un, uc, rfl⟩ : ∃ sa sn sc, sl = .slice sa sn sc := by obtain ⟨p, q, e⟩ := uo.slice; exact ⟨p, _, q, e⟩
    obtain rfl : v = t := (htq _ rfl).symm
    have hz6 := ht6.size
    rw [hz5] at hz6
    have BZ6 := Lib.hid (show Box w6 w.heap.size 0 0 0 ⟨#[]⟩ (.slice none 0 0) 26 from (ht6.block w.heap.size (by omega) (by omega)).trans BZ5.out)
    have HB6 := Lib.hid (show Below w.heap.size w w6 from HB5.out.trans (ht6.below (fun x hx => by omega) (by omega)))
    clear z0 z1 z2 z3 z4 zf0 zf1 zf2 zf3 zf4
    obtain ⟨z0, z1, z2, z3, z4⟩ := BZ6.out.cells
    have zf0 := BZ6.out.free (i := 0); have zf1 := BZ6.out.free (i := 1); have zf2 := BZ6.out.free (i := 2); have zf3 := BZ6.out.free (i := 3); have zf4 := BZ6.out.free (i := 4)
    have hm1 : w.heap.size ≠ w6.heap.size := by omega
    have hm2 : w6.heap.size ≠ w.heap.size := by omega
    have hm3 : w.heap.size < w6.heap.size := by omega
    have hm4 : w.heap.size + 1 ≠ w6.heap.size := by omega
    have hm5 : w6.heap.size ≠ w.heap.size + 1 := by omega
    have hm6 : w.heap.size + 1 < w6.heap.size := by omega
    have hub : DB w6 (w.heap.size + 1) s j true (1204 - (m : Int)) false := hst
    obtain ⟨u0, u1, u2, u3, u4, f1, f2, f3⟩ := hub.cells
    have PM := Lib.hid (fun (W : World) (hW : Below w6.heap.size w6 W) => CborFits_impl w6 (Env.keep hE (hw.trans (HB6.out.mono hw.size))) (v.agg (.slice ua un uc)) v ⟨_, rfl, uwf, uo.rep⟩ (by omega) W hW)
    have HVI := Lib.hid (show ∀ w', Below w.heap.size w w' → OwnS w' (fun x => w.heap.size ≤ x) (.slice ua un uc) v.kids → BRet2 w (v, true) (.returned (.tuple #[v.agg (.slice ua un uc), .bool true])) w' from fun w' h1 h2 => ⟨_, rfl, uwf, h2, h1⟩)
    have HO6 := Lib.hid (show OwnS w6 (fun x => w.heap.size + 1 + 1 ≤ x) (.slice ua un uc) v.kids from OwnS.mono uo (fun x hx => by rw [hz5] at hx; exact hx))
    have HM8 := Lib.hid (show w.heap.size + 1 + 1 ≤ w.heap.size → False by omega)
    have HM9 := Lib.hid (show ∀ x, w.heap.size + 1 + 1 ≤ x → w.heap.size ≤ x by intro x hx; omega)
    have BV := Lib.hid (Box.new w6 v.k v.n v.e v.s (.slice ua un uc) 26)
    clear CL HG DB5 BZ BZ5 ht6 uo uwf htq hst hub hg1 hg3 hg4 hg5 hg6
    unfold V.agg at PM HVI ⊢
    obtain ⟨v0, v1, v2, v3, v4⟩ := BV.out.cells
    by_cases hj : j = s.size
    · by_cases hc : cborB v ≠ []
      · have HE2 := Lib.hid (show looseR (some (v, j, m)) s = (v, true) from by rw [HQ.out, if_pos ⟨hj, hc⟩])
        rw [decide_eq_true hc] at PM
        clear HQ hc
        subst hj
        go_wp2_with fail
        refine (PM.out _ ((by (with_reducible (repeat' (first | exact Below.refl _ _ | refine below_alloc ?_ _ ?_ | refine Below.setCell ?_ ?_ _ | refine Below.drew ?_ | refine below_drewN ?_ _ | refine below_step ?_ (by assumption) ?_ | refine below_mark ?_ (by assumption) ?_))); all_goals (first | omega | (simp; done) | (simp; omega))))).mono ?_
        rintro e8 w8 ⟨rfl, hb8⟩
        have hb68 : Below w6.heap.size w6 w8 := (by (with_reducible (repeat' (first | exact Below.refl _ _ | refine below_alloc ?_ _ ?_ | refine Below.setCell ?_ ?_ _ | refine Below.drew ?_ | refine below_drewN ?_ _ | refine below_step ?_ (by assumption) ?_ | refine below_mark ?_ (by assumption) ?_))); all_goals (first | omega | (simp; done) | (simp; omega)))
        have hz8 := hb68.size
        have BZ8 := Lib.hid (show Box w8 w.heap.size 0 0 0 ⟨#[]⟩ (.slice none 0 0) 26 from BZ6.out.stay hb68)
        have BV8 := Lib.hid (BV.out.stay hb8)
        clear z0 z1 z2 z3 z4 zf0 zf1 zf2 zf3 zf4 v0 v1 v2 v3 v4 u0 u1 u2 u3 u4 f1 f2 f3
        obtain ⟨z0, z1, z2, z3, z4⟩ := BZ8.out.cells
        have zf0 := BZ8.out.free (i := 0); have zf1 := BZ8.out.free (i := 1); have zf2 := BZ8.out.free (i := 2); have zf3 := BZ8.out.free (i := 3); have zf4 := BZ8.out.free (i := 4)
        obtain ⟨v0, v1, v2, v3, v4⟩ := BV8.out.cells
        have HS5 := Lib.hid hb68
        clear hb68 hb8
        go_wp2_with fail
        refine bodyPost_ret (v := .tuple #[.agg #[.int .i64 v.k, .int .i64 v.n, .int .i64 v.e, .string v.s, .slice ua un uc], .bool true]) (by simp [results, Tryd.results86, go_sem, z0, z1, z2, z3, z4]) rfl (by rw [HE2.out]; exact HVI.out _ (vb_set5' (HB6.out.trans (HS5.out.mono HB6.out.size)) _ (Nat.le_refl _) _ _ _ _ _) (OwnS.mono (OwnS.set5 (HO6.out.stay HS5.out) w.heap.size HM8.out _ _ _ _ _) HM9.out))
      · have HE2 := Lib.hid (show looseR (some (v, j, m)) s = (VZ, false) from by rw [HQ.out, if_neg (fun h => hc h.2)])
        rw [decide_eq_false hc] at PM
        clear HQ hc
        subst hj
        go_wp2_with fail
        refine (PM.out _ ((by (with_reducible (repeat' (first | exact Below.refl _ _ | refine below_alloc ?_ _ ?_ | refine Below.setCell ?_ ?_ _ | refine Below.drew ?_ | refine below_drewN ?_ _ | refine below_step ?_ (by assumption) ?_ | refine below_mark ?_ (by assumption) ?_))); all_goals (first | omega | (simp; done) | (simp; omega))))).mono ?_
        rintro e8 w8 ⟨rfl, hb8⟩
        have hb68 : Below w6.heap.size w6 w8 := (by (with_reducible (repeat' (first | exact Below.refl _ _ | refine below_alloc ?_ _ ?_ | refine Below.setCell ?_ ?_ _ | refine Below.drew ?_ | refine below_drewN ?_ _ | refine below_step ?_ (by assumption) ?_ | refine below_mark ?_ (by assumption) ?_))); all_goals (first | omega | (simp; done) | (simp; omega)))
        have hz8 := hb68.size
        have BZ8 := Lib.hid (show Box w8 w.heap.size 0 0 0 ⟨#[]⟩ (.slice none 0 0) 26 from BZ6.out.stay hb68)
        clear z0 z1 z2 z3 z4 zf0 zf1 zf2 zf3 zf4 v0 v1 v2 v3 v4 u0 u1 u2 u3 u4 f1 f2 f3
        obtain ⟨z0, z1, z2, z3, z4⟩ := BZ8.out.cells
        have zf0 := BZ8.out.free (i := 0); have zf1 := BZ8.out.free (i := 1); have zf2 := BZ8.out.free (i := 2); have zf3 := BZ8.out.free (i := 3); have zf4 := BZ8.out.free (i := 4)
        have HS5 := Lib.hid hb68
        clear hb68 hb8
        go_wp2_with fail
        refine bodyPost_ret (v := .tuple #[.agg #[.int .i64 0, .int .i64 0, .int .i64 0, .string ⟨#[]⟩, .slice none 0 0], .bool false]) (by simp [results, Tryd.results86, go_sem, z0, z1, z2, z3, z4]) rfl (by rw [HE2.out]; exact b_zero (vb_set5' (HB6.out.trans (HS5.out.mono HB6.out.size)) _ (Nat.le_refl _) _ _ _ _ _))
    · have HE2 := Lib.hid (show looseR (some (v, j, m)) s = (VZ, false) from by rw [HQ.out, if_neg (fun h => hj h.1)])
      have tn : j < s.size := by omega
      clear HQ hj PM HVI
      have HBT := Lib.hid HB6.out
      go_wp2_with fail
      refine bodyPost_ret (v := .tuple #[.agg #[.int .i64 0, .int .i64 0, .int .i64 0, .string ⟨#[]⟩, .slice none 0 0], .bool false]) (by simp [results, Tryd.results86, go_sem, z0, z1, z2, z3, z4, hm3]) rfl (by rw [HE2.out]; refine b_zero ?_; have hb6 := HBT.out; exact (by (with_reducible (repeat' (first | exact Below.refl _ _ | refine below_alloc ?_ _ ?_ | refine Below.setCell ?_ ?_ _ | refine Below.drew ?_ | refine below_drewN ?_ _ | refine below_step ?_ (by assumption) ?_ | refine below_mark ?_ (by assumption) ?_))); all_goals (first | omega | (simp; done) | (simp; omega))))
end Go.Proofs.YtgbgeocmjdgmoaaDoor
