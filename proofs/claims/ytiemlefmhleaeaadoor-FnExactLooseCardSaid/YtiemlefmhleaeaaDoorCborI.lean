/- The program's CBOR form: putInt, hasTag. The reference's l05Put of a right value. -/
import Derived.Test.YtiemlefmhleaeaaDoorCborS
import Derived.Test.YtiemlefmhleaeaaDoorHeadI
import Derived.Test.YtiemlefmhleaeaaDoorIsValue
import Derived.Test.YtiemlefmhleaeaaDoorWalk2
namespace Go.Proofs.YtiemlefmhleaeaaDoor
set_option linter.unusedVariables false
set_option maxRecDepth 100000
open Go.RowKit
set_option maxHeartbeats 400000 in
theorem putInt_any (n : Int) (hn : In64 n) (w : World) : Calls Tryd.prog 187 #[.int .i64 n] w (TxtRet w (numL n)) := by
  obtain ⟨h1, h2⟩ := hn
  by_cases h : n < 0
  · have HR := Lib.hid (show numL n = headL 1 (-1 - n).toNat by rw [numL, if_pos h])
    have t1 : decide (n < 0) = true := decide_eq_true h
    have hw0 : wrap64 (-1 - n) = -1 - n := by unfold wrap64; omega
    have hw := u64w (-1 - n) (by omega) (by omega)
    have PH := Lib.hid (fun (W : World) => PutHead_impl 1 (-1 - n) W (by omega) (by omega) (by omega) (by omega))
    rw [HR.out]
    go_enter Tryd.func187, Tryd.ntmps187
    go_wp2_with fail
    refine (PH.out _).mono ?_
    rintro x w1 ⟨rfl, hb1⟩
    go_wp2_with fail
    go_ret
    exact ⟨rfl, hb1⟩
  · have HR := Lib.hid (show numL n = headL 0 n.toNat by rw [numL, if_neg h])
    have t1 : decide (n < 0) = false := decide_eq_false h
    have hw := u64w n (by omega) (by omega)
    have PH := Lib.hid (fun (W : World) => PutHead_impl 0 n W (by omega) (by omega) (by omega) (by omega))
    rw [HR.out]
    go_enter Tryd.func187, Tryd.ntmps187
    go_wp2_with fail
    refine (PH.out _).mono ?_
    rintro x w1 ⟨rfl, hb1⟩
    go_wp2_with fail
    go_ret
    exact ⟨rfl, hb1⟩
def tagF (n : Int) (x : V) : Bool := decide (x.k = 9) && decide (x.n = n)
structure TOf (B c1 c2 : Nat) (n : Int) (b : Bool) (w : World) : Prop where
  b1 : B ≤ c1
  n12 : c1 ≠ c2
  h1 : Cell1 w c1 (.bool b) 4
  h2 : Cell1 w c2 (.int .i64 n) 3
def TInv (B c1 c2 : Nat) (n : Int) (L : List V) (A : Nat → Prop) (w : World) : Prop := TOf B c1 c2 n (L.any (tagF n)) w ∧ A = oneC c1
theorem hasTag_pre (n : Int) (t : V) : hasT n n t = t.pre.any (tagF n) := by
  rw [hasT_pre]; congr 1; funext x; rw [Bool.or_self]; rfl
set_option maxHeartbeats 1000000 in
theorem hasTag1_any (B c1 c2 : Nat) (n : Int) (u : V) (sl : Value) (L : List V) (A : Nat → Prop) (w : World) (hsl : ∃ a n c, sl = .slice a n c) (hi : TInv B c1 c2 n L A w) :
    Calls Tryd.prog 186 #[u.agg sl, .pointer (some ⟨c1, 0, none⟩), .pointer (some ⟨c2, 0, none⟩)] w (Yields (TInv B c1 c2 n) A w (L ++ [u])) := by
  obtain ⟨hk, rfl⟩ := hi
  obtain ⟨sa, sn, sc, rfl⟩ := hsl
  have l1 := lt_of_heap hk.h1
  have l2 := lt_of_heap hk.h2
  have D1 := Lib.hid (fun (W : World) (hW : Below w.heap.size w W) => show W.cell? ⟨c1, 0, none⟩ = some (.bool (L.any (tagF n))) ∧ W.frozen? ⟨c1, 0, none⟩ = false from ⟨cell_of_one ((hW.block c1 l1).trans hk.h1), free_of_one ((hW.block c1 l1).trans hk.h1)⟩)
  have D2 := Lib.hid (fun (W : World) (hW : Below w.heap.size w W) => show W.cell? ⟨c2, 0, none⟩ = some (.int .i64 n) from cell_of_one ((hW.block c2 l2).trans hk.h2))
  have HY := Lib.hid (show ∀ (r : Bool) (o : Obj), r = (L.any (tagF n) || tagF n u) → Yields (TInv B c1 c2 n) (oneC c1) w (L ++ [u]) (.returned (.tuple #[])) ((w.setCell ⟨c1, 0, none⟩ (.bool r)).alloc o) from fun r o hr => by
    have hz : (w.setCell ⟨c1, 0, none⟩ (.bool r)).heap.size = w.heap.size := by simp [World.setCell]
    have hm : Below w.heap.size (w.setCell ⟨c1, 0, none⟩ (.bool r)) ((w.setCell ⟨c1, 0, none⟩ (.bool r)).alloc o) := (Below.refl _ _).alloc (by omega) o
    refine ⟨rfl, oneC c1, ⟨⟨hk.b1, hk.n12, Cell1.over ?_ (hm.block c1 l1), Cell1.over ?_ (hm.block c2 l2)⟩, rfl⟩, ?_⟩
    · unfold Cell1
      rw [heap_setCell_same w c1 0 _ _ _ hk.h1, List.any_append, List.any_cons, List.any_nil, Bool.or_false, ← hr]; rfl
    · exact (heap_setCell_other _ _ _ _ (fun e => hk.n12 e.symm)).trans hk.h2
    · refine Touch.trans (A' := oneC c1) (b := w.setCell ⟨c1, 0, none⟩ (.bool r)) ⟨rfl, rfl, rfl, by omega, fun x hx hn => ?_, fun x hx => .inl hx⟩ (Touch.of_below (by rw [hz]; exact hm))
      refine heap_setCell_other _ _ _ _ (fun e => hn ?_)
      exact e)
  clear hk
  have HT := Lib.hid (show tagF n u = (decide (u.k = 9) && decide (u.n = n)) from rfl)
  unfold V.agg
  generalize L.any (tagF n) = b at *
  generalize tagF n u = f at *
  generalize u.k = vk at *
  generalize u.n = vn at *
  generalize u.e = ve at *
  generalize u.s = vs at *
  have hcase : b = true ∨ b = false ∧ (vk == 9) = false ∧ f = false ∨ b = false ∧ (vk == 9) = true ∧ (vn == n) = f := by
    cases b with
    | true => exact .inl rfl
    | false =>
      rw [HT.out]
      by_cases h : vk = 9
      · exact .inr (.inr ⟨rfl, by simpa using h, by rw [h, Bool.eq_iff_iff]; simp⟩)
      · exact .inr (.inl ⟨rfl, by simpa using h, by simp [h]⟩)
  clear HT
  rcases hcase with rfl | ⟨rfl, t1, rfl⟩ | ⟨rfl, t1, rfl⟩
  all_goals
    go_enter Tryd.func186, Tryd.ntmps186
    have HB := Lib.hid (show Below w.heap.size w (w.alloc (.cells #[.int .i64 vk, .int .i64 vn, .int .i64 ve, .string vs, .slice sa sn sc] 28)) from (by (repeat' (first | with_reducible exact Below.refl _ _ | with_reducible refine below_alloc ?_ _ ?_ | with_reducible refine Below.setCell ?_ ?_ _ | with_reducible refine Below.drew ?_ | with_reducible refine below_drewN ?_ _ | with_reducible refine below_step ?_ (by assumption) ?_ | with_reducible refine below_mark ?_ (by assumption) ?_)); all_goals (first | omega | (simp; done) | (simp; omega))))
    have d2 := D2.out _ HB.out
    obtain ⟨d1, d3⟩ := D1.out _ HB.out
    go_wp2_with fail
    go_end0
    refine HY.out _ _ ?_
    simp
theorem enters_hasTag1 : ∀ (args : Array Value) (w : World), (callFunc 186 args).run Tryd.prog w = .ok (.enter 186 args) w := by
  intro args w
  have h1 : (Tryd.f186.name == "runtime.NumGoroutine") = false := by kernel_rfl
  have h2 : Tryd.f186.body.isNone = false := by kernel_rfl
  have h1' : ¬ Tryd.f186.name = "runtime.NumGoroutine" := by simpa using h1
  have h2' : ¬ Tryd.f186.body = none := by intro e; rw [e] at h2; cases h2
  simp [callFunc, Tryd.func186, go_sem, h1', h2']
set_option maxHeartbeats 400000 in
theorem hasTag_any (w0 : World) (v : Value) (t : V) (h : Rep w0 v t) (hsz : t.sz ≤ 1048576) (n : Int) (w : World) (hw : Below w0.heap.size w0 w) :
    Calls Tryd.prog 119 #[v, .int .i64 n] w (BoolRet (hasT n n t) w) := by
  obtain ⟨sl, rfl, hwf, hr⟩ := h.keep hw
  clear hw h
  have HR := Lib.hid (hasTag_pre n t)
  have HW := Lib.hid (fun (c1 c2 : Nat) (L : List V) (A : Nat → Prop) (W : World) (hi : TInv w.heap.size c1 c2 n L A W) (hW : Below w.heap.size w W) (hf : Few (L ++ t.pre)) =>
    walk2_any w 186 (.pointer (some ⟨c1, 0, none⟩)) (.pointer (some ⟨c2, 0, none⟩)) (TInv w.heap.size c1 c2 n) enters_hasTag1
      (fun L A _ _ ⟨h1, h2⟩ hb => ⟨⟨h1.b1, h1.n12, h1.h1.over (hb.block _ (lt_of_heap h1.h1)), h1.h2.over (hb.block _ (lt_of_heap h1.h2))⟩, h2⟩)
      (fun L A _ ⟨h1, h2⟩ x hx => by subst h2; cases hx; exact ⟨h1.b1, lt_of_heap h1.h1⟩)
      (fun u sl L A W hu hs hi hw hf => hasTag1_any w.heap.size c1 c2 n u sl L A W (by obtain ⟨a, c, e⟩ := hs.slice; exact ⟨a, _, c, e⟩) hi) sl t.kids hr t rfl hwf L A W hi hW hf)
  have HF := Lib.hid (few_pre hsz)
  have hss := hr.slice
  obtain ⟨sa, sc, hss⟩ := hss
  subst hss
  clear hr hwf
  unfold V.agg at HW ⊢
  generalize hasT n n t = R at *
  generalize t.k = vk at *
  generalize t.n = vn at *
  generalize t.e = ve at *
  generalize t.s = vs at *
  go_enter Tryd.func119, Tryd.ntmps119
  go_wp2_with fail
  have HK := Lib.hid (show TOf w.heap.size (w.heap.size + 1 + 1) (w.heap.size + 1) n false (((w.alloc (.cells #[.int .i64 vk, .int .i64 vn, .int .i64 ve, .string vs, .slice sa t.kids.length sc] 28)).alloc (.cells #[.int .i64 n] 3)).alloc (.cells #[.bool false] 4)) by
    have z1 : (w.alloc (.cells #[.int .i64 vk, .int .i64 vn, .int .i64 ve, .string vs, .slice sa t.kids.length sc] 28)).heap.size = w.heap.size + 1 := by simp
    have z2 : ((w.alloc (.cells #[.int .i64 vk, .int .i64 vn, .int .i64 ve, .string vs, .slice sa t.kids.length sc] 28)).alloc (.cells #[.int .i64 n] 3)).heap.size = w.heap.size + 1 + 1 := by simp
    refine { b1 := by omega, n12 := by omega, h1 := ?_, h2 := ?_ }
    · have := heap_alloc_new ((w.alloc (.cells #[.int .i64 vk, .int .i64 vn, .int .i64 ve, .string vs, .slice sa t.kids.length sc] 28)).alloc (.cells #[.int .i64 n] 3)) (.cells #[.bool false] 4)
      rw [z2] at this; exact this
    · refine Cell1.over ?_ (heap_alloc_old _ _ (by rw [z2]; omega))
      have := heap_alloc_new (w.alloc (.cells #[.int .i64 vk, .int .i64 vn, .int .i64 ve, .string vs, .slice sa t.kids.length sc] 28)) (.cells #[.int .i64 n] 3)
      rw [z1] at this; exact this)
  refine (HW.out _ _ [] _ _ ⟨HK.out, rfl⟩ (by (repeat' (first | with_reducible exact Below.refl _ _ | with_reducible refine below_alloc ?_ _ ?_ | with_reducible refine Below.setCell ?_ ?_ _ | with_reducible refine Below.drew ?_ | with_reducible refine below_drewN ?_ _ | with_reducible refine below_step ?_ (by assumption) ?_ | with_reducible refine below_mark ?_ (by assumption) ?_)); all_goals (first | omega | (simp; done) | (simp; omega))) HF.out).mono ?_
  rintro e1 w1 ⟨rfl, A1, ⟨hk1, rfl⟩, ht⟩
  have d2 := cell_of_one hk1.h1
  have HT := Lib.hid (ht.below (B := w.heap.size) (fun x hx => by cases hx; exact HK.out.b1) (by simp; omega))
  rw [List.nil_append] at d2
  clear hk1 ht
  go_wp2_with fail
  go_ret
  refine ⟨by rw [HR.out]; rfl, Below.trans ?_ HT.out⟩
  exact (by (repeat' (first | with_reducible exact Below.refl _ _ | with_reducible refine below_alloc ?_ _ ?_ | with_reducible refine Below.setCell ?_ ?_ _ | with_reducible refine Below.drew ?_ | with_reducible refine below_drewN ?_ _ | with_reducible refine below_step ?_ (by assumption) ?_ | with_reducible refine below_mark ?_ (by assumption) ?_)); all_goals (first | omega | (simp; done) | (simp; omega)))
end Go.Proofs.YtiemlefmhleaeaaDoor
namespace Go.Proofs.YtiemlefmhleaeaaDoor
set_option linter.unusedVariables false
set_option maxRecDepth 100000
open Go.RowKit
theorem rightsB_get : ∀ {ts : List V} {d : Int}, rightsB ts d = true → ∀ (j : Nat) (hj : j < ts.length), rightB ts[j] d = true
  | [], _, _, j, hj => by simp at hj
  | t :: ts, d, h, j, hj => by
    rw [rightsB, Bool.and_eq_true] at h
    cases j with
    | zero => exact h.1
    | succ j => exact rightsB_get h.2 j (by simpa using hj)
theorem nodess_mem : ∀ {ts : List V} {x : V}, x ∈ ts → x.nodes ≤ nodess ts
  | t :: ts, x, h => by
    rw [nodess]
    rcases List.mem_cons.1 h with rfl | h
    · omega
    · have := nodess_mem h; omega
theorem box_cells (w : World) (k n e : Int) (s : ByteArray) (sl : Value) (T : TypeId) {W : World} (h : Box W w.heap.size k n e s sl T) :
    W.cell? ⟨w.heap.size, 0, none⟩ = some (.int .i64 k) ∧ W.cell? ⟨w.heap.size, 1, none⟩ = some (.int .i64 n) ∧ W.cell? ⟨w.heap.size, 2, none⟩ = some (.int .i64 e) ∧
    W.cell? ⟨w.heap.size, 3, none⟩ = some (.string s) ∧ W.cell? ⟨w.heap.size, 4, none⟩ = some sl := h.cells
theorem cat4 (a b c d : List UInt8) : (⟨a.toArray⟩ : ByteArray) ++ ⟨b.toArray⟩ ++ ⟨c.toArray⟩ ++ ⟨d.toArray⟩ = ⟨(a ++ b ++ c ++ d).toArray⟩ := by simp [ByteArray.ext_iff]
theorem cat2 (a : List UInt8) (s : ByteArray) : (⟨a.toArray⟩ : ByteArray) ++ s = ⟨(a ++ s.data.toList).toArray⟩ := by simp [ByteArray.ext_iff]
theorem keep1 {W w2 : World} {b i : Nat} {x : Value} (hb : Below W.heap.size W w2) (h : W.cell? ⟨b, i, none⟩ = some x) : w2.cell? ⟨b, i, none⟩ = some x :=
  (hb.cell (p := ⟨b, i, none⟩) (World.block_lt_of_cell? _ _ h)).trans h
theorem keep2 {W w2 : World} {b i c j : Nat} {x y : Value} (hb : Below W.heap.size W w2) (h : W.cell? ⟨b, i, none⟩ = some x ∧ W.cell? ⟨c, j, none⟩ = some y) : w2.cell? ⟨b, i, none⟩ = some x ∧ w2.cell? ⟨c, j, none⟩ = some y :=
  ⟨keep1 hb h.1, keep1 hb h.2⟩
theorem keep2b {w W w2 : World} {b i c j : Nat} {x y : Value} (hb : Below W.heap.size W w2) (h : W.cell? ⟨b, i, none⟩ = some x ∧ W.cell? ⟨c, j, none⟩ = some y ∧ Below w.heap.size w W) : w2.cell? ⟨b, i, none⟩ = some x ∧ w2.cell? ⟨c, j, none⟩ = some y ∧ Below w.heap.size w w2 :=
  ⟨keep1 hb h.1, keep1 hb h.2.1, h.2.2.trans (hb.mono h.2.2.size)⟩
theorem keep1b {w W w2 : World} {b i : Nat} {x : Value} (hb : Below W.heap.size W w2) (h : W.cell? ⟨b, i, none⟩ = some x ∧ Below w.heap.size w W) : w2.cell? ⟨b, i, none⟩ = some x ∧ Below w.heap.size w w2 :=
  ⟨keep1 hb h.1, h.2.trans (hb.mono h.2.size)⟩
set_option maxHeartbeats 1000000 in
theorem l05Put_0 (n e : Int) (s : ByteArray) (sl : Value) (w : World) : Calls Tryd.prog 122 #[.agg #[.int .i64 0, .int .i64 n, .int .i64 e, .string s, sl]] w (TxtRet w (headL 7 22)) := by
  have PH := Lib.hid (fun (W : World) => PutHead_spec 7 22 W (by omega) (by omega) (by omega) (by omega))
  go_enter Tryd.func122, Tryd.ntmps122
  go_wp2_with fail
  refine (PH.out _).mono ?_
  rintro x w1 ⟨rfl, hb1⟩
  go_wp2_with fail
  go_ret
  exact ⟨rfl, (by (repeat' (first | with_reducible exact Below.refl _ _ | with_reducible refine below_alloc ?_ _ ?_ | with_reducible refine Below.setCell ?_ ?_ _ | with_reducible refine Below.drew ?_ | with_reducible refine below_drewN ?_ _ | with_reducible refine below_step ?_ (by assumption) ?_ | with_reducible refine below_mark ?_ (by assumption) ?_)); all_goals (first | omega | (simp; done) | (simp; omega)))⟩
set_option maxHeartbeats 1000000 in
theorem l05Put_12 (k n e : Int) (hk : k = 1 ∨ k = 2) (s : ByteArray) (sl : Value) (w : World) : Calls Tryd.prog 122 #[.agg #[.int .i64 k, .int .i64 n, .int .i64 e, .string s, sl]] w (TxtRet w (headL 7 (19 + k).toNat)) := by
  have hw0 : wrap64 (19 + k) = 19 + k := by unfold wrap64; omega
  have hw := u64w (19 + k) (by omega) (by omega)
  have PH := Lib.hid (fun (W : World) => PutHead_spec 7 (19 + k) W (by omega) (by omega) (by omega) (by omega))
  have t0 : (k == 0) = false := by simp; omega
  have key : (k == 1) = true ∨ (k == 1) = false ∧ (k == 2) = true := by rcases hk with rfl | rfl <;> simp
  rcases key with t1 | ⟨t1, t2⟩
  all_goals
    go_enter Tryd.func122, Tryd.ntmps122
    go_wp2_with fail
    refine (PH.out _).mono ?_
    rintro x w1 ⟨rfl, hb1⟩
    go_wp2_with fail
    go_ret
    exact ⟨rfl, (by (repeat' (first | with_reducible exact Below.refl _ _ | with_reducible refine below_alloc ?_ _ ?_ | with_reducible refine Below.setCell ?_ ?_ _ | with_reducible refine Below.drew ?_ | with_reducible refine below_drewN ?_ _ | with_reducible refine below_step ?_ (by assumption) ?_ | with_reducible refine below_mark ?_ (by assumption) ?_)); all_goals (first | omega | (simp; done) | (simp; omega)))⟩
set_option maxHeartbeats 1000000 in
theorem l05Put_3 (n e : Int) (hn : In64 n) (s : ByteArray) (sl : Value) (w : World) : Calls Tryd.prog 122 #[.agg #[.int .i64 3, .int .i64 n, .int .i64 e, .string s, sl]] w (TxtRet w (numL n)) := by
  have PH := Lib.hid (fun (W : World) => l05Num_any n hn W)
  go_enter Tryd.func122, Tryd.ntmps122
  go_wp2_with fail
  refine (PH.out _).mono ?_
  rintro x w1 ⟨rfl, hb1⟩
  go_wp2_with fail
  go_ret
  exact ⟨rfl, (by (repeat' (first | with_reducible exact Below.refl _ _ | with_reducible refine below_alloc ?_ _ ?_ | with_reducible refine Below.setCell ?_ ?_ _ | with_reducible refine Below.drew ?_ | with_reducible refine below_drewN ?_ _ | with_reducible refine below_step ?_ (by assumption) ?_ | with_reducible refine below_mark ?_ (by assumption) ?_)); all_goals (first | omega | (simp; done) | (simp; omega)))⟩
set_option maxHeartbeats 0 in
theorem l05Put_4 (n e : Int) (hn : In64 n) (he : In64 e) (s : ByteArray) (sl : Value) (w : World) : Calls Tryd.prog 122 #[.agg #[.int .i64 4, .int .i64 n, .int .i64 e, .string s, sl]] w (TxtRet w (headL 6 4 ++ headL 4 2 ++ numL e ++ numL n)) := by
  have P1 := Lib.hid (fun (W : World) => PutHead_spec 6 4 W (by omega) (by omega) (by omega) (by omega))
  have P2 := Lib.hid (fun (W : World) => PutHead_spec 4 2 W (by omega) (by omega) (by omega) (by omega))
  have PN := Lib.hid (fun (W : World) => l05Num_any n hn W)
  have PE := Lib.hid (fun (W : World) => l05Num_any e he W)
  have L1 := headL_le 6 4
  have L2 := headL_le 4 2
  have L3 := numL_le e
  have L4 := numL_le n
  have S1 : ¬ 9223372036854775807 < (headL 6 4).length + (headL 4 2).length := by omega
  have S2 : ¬ 9223372036854775807 < (headL 6 4).length + (headL 4 2).length + (numL e).length := by omega
  have S3 : ¬ 9223372036854775807 < (headL 6 4).length + (headL 4 2).length + (numL e).length + (numL n).length := by omega
  clear L1 L2 L3 L4
  have BX := Lib.hid (box_cells w 4 n e s sl 28 (Box.new w 4 n e s sl 28))
  go_enter Tryd.func122, Tryd.ntmps122
  obtain ⟨q0, q1, q2, q3, q4⟩ := BX.out
  go_wp2_with fail
  have hbw : Below w.heap.size w (w.alloc (.cells #[.int .i64 4, .int .i64 n, .int .i64 e, .string s, sl] 28)) := (by (repeat' (first | with_reducible exact Below.refl _ _ | with_reducible refine below_alloc ?_ _ ?_ | with_reducible refine Below.setCell ?_ ?_ _ | with_reducible refine Below.drew ?_ | with_reducible refine below_drewN ?_ _ | with_reducible refine below_step ?_ (by assumption) ?_ | with_reducible refine below_mark ?_ (by assumption) ?_)); all_goals (first | omega | (simp; done) | (simp; omega)))
  go_region_held3 (fun w' => w'.cell? ⟨w.heap.size, 1, none⟩ = some (.int .i64 n) ∧ w'.cell? ⟨w.heap.size, 2, none⟩ = some (.int .i64 e) ∧ Below w.heap.size w w') (first | with_reducible exact ⟨by assumption, by assumption, by assumption⟩ | with_reducible assumption | exact ⟨q1, q2, hbw.drew⟩ | go_keep) (((first | with_reducible refine (P1.out _).mono ?_ | with_reducible refine (P2.out _).mono ?_ | with_reducible refine (PN.out _).mono ?_ | with_reducible refine (PE.out _).mono ?_); rintro e2 w2 ⟨rfl, hb2⟩; have hS := keep2b hb2 (by with_reducible assumption); obtain ⟨hS1, hS2, hS3⟩ := hS))
  go_wp2_with fail
  go_ret
  exact ⟨ret_str (cat4 _ _ _ _), hS3⟩
set_option maxHeartbeats 1000000 in
theorem l05Put_56 (k m n e : Int) (hk : k = 5 ∧ m = 3 ∨ k = 6 ∧ m = 2) (s : ByteArray) (hs : s.size ≤ 2000) (sl : Value) (w : World) : Calls Tryd.prog 122 #[.agg #[.int .i64 k, .int .i64 n, .int .i64 e, .string s, sl]] w (TxtRet w (headL m.toNat s.size ++ s.data.toList)) := by
  have P1 := Lib.hid (fun (W : World) => PutHead_spec m s.size W (by omega) (by omega) (by omega) (by omega))
  have hw := u64w s.size (by omega) (by omega)
  have L1 := headL_le m.toNat s.size
  rw [Int.toNat_natCast] at P1
  generalize headL m.toNat s.size = H at *
  have S1 : ¬ 9223372036854775807 < H.length + s.size := by omega
  have BX := Lib.hid (box_cells w k n e s sl 28 (Box.new w k n e s sl 28))
  clear L1
  have hbw : Below w.heap.size w (w.alloc (.cells #[.int .i64 k, .int .i64 n, .int .i64 e, .string s, sl] 28)) := (by (repeat' (first | with_reducible exact Below.refl _ _ | with_reducible refine below_alloc ?_ _ ?_ | with_reducible refine Below.setCell ?_ ?_ _ | with_reducible refine Below.drew ?_ | with_reducible refine below_drewN ?_ _ | with_reducible refine below_step ?_ (by assumption) ?_ | with_reducible refine below_mark ?_ (by assumption) ?_)); all_goals (first | omega | (simp; done) | (simp; omega)))
  rcases hk with ⟨rfl, rfl⟩ | ⟨rfl, rfl⟩
  all_goals
    go_enter Tryd.func122, Tryd.ntmps122
    obtain ⟨q0, q1, q2, q3, q4⟩ := BX.out
    go_wp2_with fail
    go_region_held3 (fun w' => w'.cell? ⟨w.heap.size, 3, none⟩ = some (.string s) ∧ Below w.heap.size w w') (first | with_reducible exact ⟨by assumption, by assumption⟩ | with_reducible assumption | exact ⟨q3, hbw.drew⟩ | go_keep) (((with_reducible refine (P1.out _).mono ?_); rintro e2 w2 ⟨rfl, hb2⟩; have hS := keep1b hb2 (by with_reducible assumption); obtain ⟨hS1, hS3⟩ := hS))
    go_wp2_with fail
    go_ret
    exact ⟨ret_str (cat2 _ _), hS3⟩
theorem own_789 {t : V} (h : t.k = 7 ∨ t.k = 8 ∨ t.k = 9) : ∃ m x : Int, ownL t = headL m.toNat x.toNat ∧ (t.k = 7 → m = 4 ∧ x = t.kids.length) ∧ (t.k = 8 → m = 5 ∧ x = (t.kids.length / 2 : Nat)) ∧ (t.k = 9 → m = 6 ∧ x = t.n) := by
  unfold ownL
  rcases h with h | h | h
  · exact ⟨4, t.kids.length, by simp [h], fun _ => ⟨rfl, rfl⟩, fun h2 => absurd (h.symm.trans h2) (by decide), fun h2 => absurd (h.symm.trans h2) (by decide)⟩
  · exact ⟨5, (t.kids.length / 2 : Nat), by rw [if_neg (by omega), if_neg (by omega), if_neg (by omega), if_neg (by omega), if_neg (by omega), if_neg (by omega), if_neg (by omega), if_pos h, Int.toNat_natCast]; rfl, fun h2 => absurd (h.symm.trans h2) (by decide), fun _ => ⟨rfl, rfl⟩, fun h2 => absurd (h.symm.trans h2) (by decide)⟩
  · exact ⟨6, t.n, by simp [h], fun h2 => absurd (h.symm.trans h2) (by decide), fun h2 => absurd (h.symm.trans h2) (by decide), fun _ => ⟨rfl, rfl⟩⟩
set_option maxHeartbeats 2000000 in
theorem l05Put_any (w0 : World) : ∀ (N : Nat) (v : Value) (t : V) (d : Int), t.sz < N → rightB t d = true → Rep w0 v t → t.sz ≤ 1048576 → t.nodes ≤ 300 → ∀ (w : World), Below w0.heap.size w0 w →
    Calls Tryd.prog 122 #[v] w (TxtRet w (cborL t)) := by
  intro N
  induction N with
  | zero => intro v t d h; omega
  | succ N ih =>
  intro v t d hN hright h hsz hnd w hw
  obtain ⟨sl, rfl, hwf, hr⟩ := h
  have hts := V.sz_eq t
  have htn := V.nodes_eq t
  have hlen := szs_length t.kids
  obtain ⟨hn64, he64, hss⟩ : In64 t.n ∧ In64 t.e ∧ t.s.size ≤ 2000 := ⟨hwf.2.1, hwf.2.2.1, node_small (rightB_leaf hright).1⟩
  have hkin := kind_in hright
  have hC := cborL_eq t
  by_cases hpk : t.k ≠ 7 ∧ t.k ≠ 8 ∧ t.k ≠ 9
  · have hkids := plain_kids hright hpk
    rw [hkids, cborsL, List.append_nil] at hC
    rw [hC]
    unfold V.agg ownL
    have hcase : t.k = 0 ∨ (t.k = 1 ∨ t.k = 2) ∨ t.k = 3 ∨ t.k = 4 ∨ t.k = 5 ∨ t.k = 6 := by omega
    rcases hcase with h | h | h | h | h | h
    · rw [if_pos h, h]; exact l05Put_0 _ _ _ _ _
    · rw [if_neg (by omega), if_pos h]; exact l05Put_12 _ _ _ h _ _ _
    · rw [if_neg (by omega), if_neg (by omega), if_pos h, h]; exact l05Put_3 _ _ hn64 _ _ _
    · rw [if_neg (by omega), if_neg (by omega), if_neg (by omega), if_pos h, h]; exact l05Put_4 _ _ hn64 he64 _ _ _
    · rw [if_neg (by omega), if_neg (by omega), if_neg (by omega), if_neg (by omega), if_pos h, h]; exact l05Put_56 5 3 _ _ (.inl ⟨rfl, rfl⟩) _ hss _ _
    · rw [if_neg (by omega), if_neg (by omega), if_neg (by omega), if_neg (by omega), if_neg (by omega), if_pos h, h]; exact l05Put_56 6 2 _ _ (.inr ⟨rfl, rfl⟩) _ hss _ _
  obtain ⟨m, x, ho, h7, h8, h9⟩ := own_789 (t := t) (by omega)
  rw [ho] at hC
  obtain ⟨a, b, off, cap, rfl, ha, hc, hm, sls, hel⟩ := hr.opened
  have HA := Lib.hid ha; have HE := Lib.hid hel; have HW := Lib.hid hw
  have hkr := right_kids hright
  have hl : t.kids.length ≤ 1048576 := by omega
  have hnn : 0 ≤ x ∧ x ≤ 1048576 ∧ (0 ≤ m ∧ m ≤ 7) := by
    have htg := fun hk => tag_n hright hk
    have hcs : t.k = 7 ∨ t.k = 8 ∨ t.k = 9 := by omega
    rcases hcs with h | h | h
    · have := h7 h; omega
    · have := h8 h; omega
    · have := h9 h; have := htg h; omega
  have V1 := Lib.hid (fun (j : Nat) (hj : j < t.kids.length) (W : World) (hW : Below w0.heap.size w0 W) => ih (t.kids[j].agg (sls j)) t.kids[j] (d - 1) (by have h1 := szs_mem (List.getElem_mem hj); omega) (rightsB_get hkr j hj) ⟨sls j, rfl, (HE.out j hj).2.1, (HE.out j hj).2.2⟩ (by have h1 := szs_mem (List.getElem_mem hj); omega) (by have h1 := nodess_mem (List.getElem_mem hj); omega) W hW)
  have HR := Lib.hid hC
  have BX := Lib.hid (Box.new w t.k t.n t.e t.s (.slice a t.kids.length cap) 28)
  have hle := cbors_le t.kids (d - 1) hkr
  have hlh := headL_le m.toNat x.toNat
  have HL := Lib.hid (fun (j : Nat) (hj : j < t.kids.length) => show (headL m.toNat x.toNat ++ cborsL (t.kids.take j)).length + (cborL t.kids[j]).length ≤ 700000 by
    have e1 := cborsL_take t.kids j hj
    have e2 := cbors_take_le t.kids (j + 1)
    have e3 := congrArg List.length e1
    rw [List.length_append] at e3
    rw [List.length_append]; omega)
  have HT := Lib.hid (fun (j : Nat) (hj : j < t.kids.length) => cborsL_take t.kids j hj)
  have PH := Lib.hid (fun (W : World) => PutHead_spec m x W hnn.2.2.1 hnn.2.2.2 hnn.1 (by omega))
  have hux := u64w x (by omega) (by omega)
  have hcase : (t.k == 7) = true ∧ m = 4 ∧ x = t.kids.length ∨ (t.k == 7) = false ∧ (t.k == 8) = true ∧ m = 5 ∧ x = (t.kids.length / 2 : Nat) ∨ (t.k == 7) = false ∧ (t.k == 8) = false ∧ m = 6 ∧ x = t.n := by
    have hcs : t.k = 7 ∨ t.k = 8 ∨ t.k = 9 := by omega
    rcases hcs with h | h | h
    · exact .inl ⟨by simpa using h, h7 h⟩
    · exact .inr (.inl ⟨by rw [h]; rfl, by simpa using h, h8 h⟩)
    · exact .inr (.inr ⟨by rw [h]; rfl, by rw [h]; rfl, h9 h⟩)
  have n0 : (t.k == 0) = false := by simp; omega
  have n1 : (t.k == 1) = false := by simp; omega
  have n2 : (t.k == 2) = false := by simp; omega
  have n3 : (t.k == 3) = false := by simp; omega
  have n4 : (t.k == 4) = false := by simp; omega
  have n5 : (t.k == 5) = false := by simp; omega
  have n6 : (t.k == 6) = false := by simp; omega
  clear ih hel ha hc hm hN hr hwf hlen hts htn hsz hnd hright hkr hle hlh ho h7 h8 h9 hpk hkin hn64 he64 hss hnn hC hw
  unfold V.agg
  generalize cborL t = R at *
  generalize headL m.toNat x.toNat = H at *
  generalize t.k = k at *
  generalize t.n = n at *
  generalize t.e = e at *
  generalize t.s = s at *
  generalize t.kids = ts at *
  have BXW := Lib.hid (show Below w.heap.size w (w.alloc (.cells #[.int .i64 k, .int .i64 n, .int .i64 e, .string s, .slice a ts.length cap] 28)) from (by (repeat' (first | with_reducible exact Below.refl _ _ | with_reducible refine below_alloc ?_ _ ?_ | with_reducible refine Below.setCell ?_ ?_ _ | with_reducible refine Below.drew ?_ | with_reducible refine below_drewN ?_ _ | with_reducible refine below_step ?_ (by assumption) ?_ | with_reducible refine below_mark ?_ (by assumption) ?_)); all_goals (first | omega | (simp; done) | (simp; omega))))
  rcases hcase with ⟨t7, rfl, rfl⟩ | ⟨t7, t8, rfl, rfl⟩ | ⟨t7, t8, rfl, rfl⟩
  all_goals
    go_enter Tryd.func122, Tryd.ntmps122
    go_wp2_with fail
    refine (PH.out _).mono ?_
    rintro x1 w1 ⟨rfl, hb1⟩
    have hb0 := BXW.out.trans (hb1.mono BXW.out.size)
    have BX1 := Lib.hid (BX.out.stay hb1)
    go_wp2_with fail
    go_loopw [3, 4] (fun o i wr => ∃ j : Nat, j ≤ ts.length ∧ i = .int .i64 j ∧ o = bstr (H ++ cborsL (ts.take j)) ∧ Below w1.heap.size w1 wr) (fun _ i _ => ts.length + 1 - (intOf i).toNat)
    case atStart => exact ⟨0, by omega, rfl, by rw [List.take_zero, cborsL, List.append_nil], Below.refl _ _⟩
    case round =>
      obtain ⟨j, hj, rfl, rfl, hbl⟩ := hrel
      have HBL := Lib.hid (hb0.trans (hbl.mono hb0.size))
      obtain ⟨q0, -, -, -, q4⟩ := (BX1.out.stay hbl).cells
      by_cases hlt : j < ts.length
      · have hne : ts ≠ [] := by intro e; rw [e] at hlt; simp at hlt
        obtain ⟨rfl, hbw⟩ := HA.out hne
        have HWR := Lib.hid (HW.out.trans (HBL.out.mono HW.out.size))
        obtain ⟨c0, c1, c2, c3, c4⟩ := (HE.out j hlt).1.keep (HWR.out.block b hbw)
        have VJ := Lib.hid (fun (W : World) (hW : Below wr.heap.size wr W) => V1.out j hlt W (below_step HWR.out hW (by have := HWR.out.size; omega)))
        have hlj := HL.out j hlt
        have HTJ := Lib.hid (HT.out j hlt)
        obtain ⟨a3, cap3, hs3⟩ := (HE.out j hlt).2.2.slice
        rw [hs3] at c4 VJ
        clear hs3 V1
        unfold V.agg at VJ
        generalize cborL ts[j] = C at *
        generalize hQ : H ++ cborsL (ts.take j) = Q at *
        have HQ := Lib.hid hQ; clear hQ
        have S1 : ¬ 9223372036854775807 < Q.length + C.length := by omega
        clear hlj
        go_wp2_with fail
        refine (VJ.out _ ((by (repeat' (first | with_reducible exact Below.refl _ _ | with_reducible refine below_alloc ?_ _ ?_ | with_reducible refine Below.setCell ?_ ?_ _ | with_reducible refine Below.drew ?_ | with_reducible refine below_drewN ?_ _ | with_reducible refine below_step ?_ (by assumption) ?_ | with_reducible refine below_mark ?_ (by assumption) ?_)); all_goals (first | omega | (simp; done) | (simp; omega))))).mono ?_
        rintro x w2 ⟨rfl, hb2⟩
        go_wp2_with fail
        go_roundw
        case rel => exact ⟨j + 1, by omega, by go_num, by rw [HTJ.out, bstr_append, ← List.append_assoc, HQ.out], hbl.trans (Below.mono ((by (repeat' (first | with_reducible exact Below.refl _ _ | with_reducible refine below_alloc ?_ _ ?_ | with_reducible refine Below.setCell ?_ ?_ _ | with_reducible refine Below.drew ?_ | with_reducible refine below_drewN ?_ _ | with_reducible refine below_step ?_ (by assumption) ?_ | with_reducible refine below_mark ?_ (by assumption) ?_)); all_goals (first | omega | (simp; done) | (simp; omega)))) hbl.size)⟩
        case measure => simp [intOf]; omega
      · go_wp2_with fail
        go_ret
        refine ⟨?_, HBL.out⟩
        rw [HR.out, show j = ts.length by omega, List.take_length]
        rfl
end Go.Proofs.YtiemlefmhleaeaaDoor
