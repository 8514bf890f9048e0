/- Lemmas for the statement of the last text of this claim: texts joined. -/
import Derived.Test.YtgbgeocmjdgmoaaDoorCbK02
import Derived.Test.YtgbgeocmjdgmoaaDoorCbK06
import Derived.Test.YtgbgeocmjdgmoaaDoorCbK09
namespace Go.Proofs.YtgbgeocmjdgmoaaDoor
set_option linter.unusedSimpArgs false
set_option linter.unusedVariables false
set_option maxRecDepth 100000
open Go.RowKit
def DB (w : World) (d : Nat) (s : ByteArray) (i : Nat) (lo : Bool) (c : Int) (bad : Bool) : Prop := w.heap[d]? = some (.cells #[.string s, .int .i64 (i : Int), .bool lo, .int .i64 c, .bool bad] 131 (0, 0))
theorem DB.stay {w w' : World} {d : Nat} {s : ByteArray} {i : Nat} {lo : Bool} {c : Int} {bad : Bool} (h : DB w d s i lo c bad) (hb : Below w.heap.size w w') : DB w' d s i lo c bad := (hb.block d (lt_of_heap h)).trans h
theorem DB.cells {w : World} {d : Nat} {s : ByteArray} {i : Nat} {lo : Bool} {c : Int} {bad : Bool} (h : DB w d s i lo c bad) : w.cell? ⟨d, 0, none⟩ = some (.string s) ∧ w.cell? ⟨d, 1, none⟩ = some (.int .i64 (i : Int)) ∧ w.cell? ⟨d, 2, none⟩ = some (.bool lo) ∧ w.cell? ⟨d, 3, none⟩ = some (.int .i64 c) ∧ w.cell? ⟨d, 4, none⟩ = some (.bool bad) ∧
    w.frozen? ⟨d, 1, none⟩ = false ∧ w.frozen? ⟨d, 3, none⟩ = false ∧ w.frozen? ⟨d, 4, none⟩ = false :=
  ⟨by rw [cell_of_row _ _ _ _ _ (0, 0) h]; rfl, by rw [cell_of_row _ _ _ _ _ (0, 0) h]; rfl, by rw [cell_of_row _ _ _ _ _ (0, 0) h]; rfl, by rw [cell_of_row _ _ _ _ _ (0, 0) h]; rfl, by rw [cell_of_row _ _ _ _ _ (0, 0) h]; rfl, frozen_of_row w d 1 _ _ h, frozen_of_row w d 3 _ _ h, frozen_of_row w d 4 _ _ h⟩
theorem DB.setI {w : World} {d : Nat} {s : ByteArray} {i : Nat} {lo : Bool} {c : Int} {bad : Bool} (h : DB w d s i lo c bad) (i' : Nat) (x : Int) (hx : x = (i' : Int)) : DB (w.setCell ⟨d, 1, none⟩ (.int .i64 x)) d s i' lo c bad := by
  subst hx; unfold DB at *; rw [heap_setCell_same w d 1 _ _ _ h]; rfl
theorem DB.setC {w : World} {d : Nat} {s : ByteArray} {i : Nat} {lo : Bool} {c : Int} {bad : Bool} (h : DB w d s i lo c bad) (c' : Int) : DB (w.setCell ⟨d, 3, none⟩ (.int .i64 c')) d s i lo c' bad := by
  unfold DB at *; rw [heap_setCell_same w d 3 _ _ _ h]; rfl
theorem DB.setB {w : World} {d : Nat} {s : ByteArray} {i : Nat} {lo : Bool} {c : Int} {bad : Bool} (h : DB w d s i lo c bad) (b' : Bool) : DB (w.setCell ⟨d, 4, none⟩ (.bool b')) d s i lo c b' := by
  unfold DB at *; rw [heap_setCell_same w d 4 _ _ _ h]; rfl
theorem DB.drewN {w : World} {d : Nat} {s : ByteArray} {i : Nat} {lo : Bool} {c : Int} {bad : Bool} (n : Nat) (h : DB w d s i lo c bad) : DB (w.drewN n) d s i lo c bad := h.stay (below_drewN (Below.refl _ _) n)
set_option maxHeartbeats 2000000 in
theorem next_no (d : Nat) (s : ByteArray) (hs : s.size ≤ 1048576) (i : Nat) (hi : i ≤ s.size) (lo : Bool) (c : Int) (bad : Bool) (b : Nat) (w : World) (h : DB w d s i lo c bad) (hn : bad = true ∨ lo = false ∨ ∀ hi : i < s.size, s[i].toNat ≠ b) :
    Calls Tryd.prog 257 #[.pointer (some ⟨d, 0, none⟩), .int .u8 (b : Int)] w fun e w' => e = .returned (.bool false) ∧ Below w.heap.size w w' := by
  obtain ⟨u0, u1, u2, u3, u4, f1, f2, f3⟩ := h.cells
  clear h
  cases bad with
  | true =>
    clear hn
    go_enter Tryd.func257, Tryd.ntmps257
    go_wp2_with fail
    go_quiet (fail)
    go_wp2_with fail
    go_ret
    exact ⟨rfl, (by (with_reducible (repeat' (first | exact Below.refl _ _ | refine below_alloc ?_ _ ?_ | refine Below.setCell ?_ ?_ _ | refine Below.drew ?_ | refine below_drewN ?_ _ | refine below_step ?_ (by assumption) ?_ | refine below_mark ?_ (by assumption) ?_))); all_goals (first | omega | (simp; done) | (simp; omega)))⟩
  | false =>
    cases lo with
    | false =>
      clear hn
      go_enter Tryd.func257, Tryd.ntmps257
      go_wp2_with fail
      go_quiet (fail)
      go_wp2_with fail
      go_ret
      exact ⟨rfl, (by (with_reducible (repeat' (first | exact Below.refl _ _ | refine below_alloc ?_ _ ?_ | refine Below.setCell ?_ ?_ _ | refine Below.drew ?_ | refine below_drewN ?_ _ | refine below_step ?_ (by assumption) ?_ | refine below_mark ?_ (by assumption) ?_))); all_goals (first | omega | (simp; done) | (simp; omega)))⟩
    | true =>
      by_cases hl : i < s.size
      · have hb0 : s[i].toNat ≠ b := by
          rcases hn with h | h | h
          · cases h
          · cases h
          · exact h hl
        have hb1 : (((s[i].toNat : Nat) : Int) != (b : Int)) = true := by simp; omega
        have tl : decide (s.size ≤ i) = false := decide_eq_false (by omega)
        clear hn hb0
        go_enter Tryd.func257, Tryd.ntmps257
        go_wp2_with fail
        go_quiet (fail)
        go_wp2_with fail
        go_ret
        exact ⟨rfl, (by (with_reducible (repeat' (first | exact Below.refl _ _ | refine below_alloc ?_ _ ?_ | refine Below.setCell ?_ ?_ _ | refine Below.drew ?_ | refine below_drewN ?_ _ | refine below_step ?_ (by assumption) ?_ | refine below_mark ?_ (by assumption) ?_))); all_goals (first | omega | (simp; done) | (simp; omega)))⟩
      · obtain rfl : i = s.size := by omega
        clear hn
        go_enter Tryd.func257, Tryd.ntmps257
        go_wp2_with fail
        go_quiet (fail)
        go_wp2_with fail
        go_ret
        exact ⟨rfl, (by (with_reducible (repeat' (first | exact Below.refl _ _ | refine below_alloc ?_ _ ?_ | refine Below.setCell ?_ ?_ _ | refine Below.drew ?_ | refine below_drewN ?_ _ | refine below_step ?_ (by assumption) ?_ | refine below_mark ?_ (by assumption) ?_))); all_goals (first | omega | (simp; done) | (simp; omega)))⟩
set_option maxHeartbeats 2000000 in
theorem next_yes (d : Nat) (s : ByteArray) (hs : s.size ≤ 1048576) (i : Nat) (hi : i < s.size) (c : Int) (b : Nat) (w : World) (h : DB w d s i true c false) (hb : s[i].toNat = b) :
    Calls Tryd.prog 257 #[.pointer (some ⟨d, 0, none⟩), .int .u8 (b : Int)] w fun e w' => e = .returned (.bool true) ∧ DB w' d s (i + 1) true c false ∧ Touch (fun x => x = d) (fun x => x = d) w w' := by
  have HU := Lib.hid h
  have HT := Lib.hid (Touch.refl (fun x => x = d) w)
  obtain ⟨u0, u1, u2, u3, u4, f1, f2, f3⟩ := h.cells
  clear h
  have hb1 : ((s[i].toNat : Nat) : Int) = (b : Int) := by omega
  clear hb
  go_enter Tryd.func257, Tryd.ntmps257
  go_wp2_with fail
  go_quiet (fail)
  go_wp2_with fail
  go_ret
  exact ⟨rfl, (HU.out.stay ((by (with_reducible (repeat' (first | exact Below.refl _ _ | refine below_alloc ?_ _ ?_ | refine Below.setCell ?_ ?_ _ | refine Below.drew ?_ | refine below_drewN ?_ _ | refine below_step ?_ (by assumption) ?_ | refine below_mark ?_ (by assumption) ?_))); all_goals (first | omega | (simp; done) | (simp; omega))))).setI (i + 1) _ (by omega), (HT.out.trans (Touch.of_below ((by (with_reducible (repeat' (first | exact Below.refl _ _ | refine below_alloc ?_ _ ?_ | refine Below.setCell ?_ ?_ _ | refine Below.drew ?_ | refine below_drewN ?_ _ | refine below_step ?_ (by assumption) ?_ | refine below_mark ?_ (by assumption) ?_))); all_goals (first | omega | (simp; done) | (simp; omega)))))).cellD _⟩
def DhRet (d : Nat) (s : ByteArray) (i : Nat) (lo : Bool) (c : Int) (o : Option (Nat × Nat × Nat)) (w : World) (e : Ending) (w' : World) : Prop :=
  (match o with
  | some q => e = .returned (.tuple #[.int .i64 (q.1 : Int), .int .u64 (q.2.1 : Int)]) ∧ DB w' d s q.2.2 lo c false
  | none => e = .returned (.tuple #[.int .i64 (-1), .int .u64 0]) ∧ DB w' d s i lo c true) ∧ Touch (fun x => x = d) (fun x => x = d) w w'
theorem Head3.hd {lo : Bool} {s : ByteArray} {i : Nat} {e : Ending} (h : Head3 (if lo then anyH s i else getH s i).1 (if lo then anyH s i else getH s i).2.1 (if lo then anyH s i else getH s i).2.2 e) :
    match hdR lo s i with | some q => e = .returned (.tuple #[.int .i64 (q.1 : Int), .int .u64 (q.2.1 : Int), .int .i64 (q.2.2 : Int)]) | none => e = .returned (.tuple #[.int .i64 (-1), .int .u64 0, .int .i64 (-1)]) := by
  cases hr : hdR lo s i with
  | some q =>
    obtain ⟨a, n, x⟩ := q
    have := (hdR_some hr).2.2.2.2
    rw [this] at h
    exact h
  | none =>
    have hf := anyH_found s (i : Int)
    unfold hdR at hr
    generalize hq : (if lo then anyH s i else getH s i) = q at *
    have hr2 : q = anyH s i ∨ q = (-1, 0, -1) := by
      rw [← hq]
      cases lo
      · simp only [Bool.false_eq_true, if_false, getH]; split <;> simp
      · simp
    split at hr
    · rename_i h3
      rcases hr2 with e2 | e2
      · rcases hf with f | ⟨a', n', x', f, hF⟩
        · rw [e2, f] at h; exact h
        · rw [f] at e2
          rw [e2] at h3
          have := hF.x0; have := hF.i0
          simp only at h3; omega
      · rw [e2] at h; exact h
    · cases hr
set_option maxHeartbeats 2000000 in
theorem head_s (d : Nat) (s : ByteArray) (hs : s.size ≤ 1048576) (i : Nat) (hi : i ≤ s.size) (c : Int) (bad : Bool) (w : World) (h : DB w d s i false c bad) :
    Calls Tryd.prog 205 #[.pointer (some ⟨d, 0, none⟩)] w (DhRet d s i false c (if bad then none else hdR false s i) w) := by
  have HU := Lib.hid h
  have HT := Lib.hid (Touch.refl (fun x => x = d) w)
  obtain ⟨u0, u1, u2, u3, u4, f1, f2, f3⟩ := h.cells
  have GH := Lib.hid (fun W => (GetHead_impl s i W (by omega) (by omega) (by omega)).mono fun e w' h => And.intro (Head3.hd (lo := false) (e := e) h.1) h.2)
  have HX := Lib.hid (fun a n x (h : hdR false s i = some (a, n, x)) => hdR_some h)
  clear h
  cases hh : hdR false s i with
  | none =>
    rw [hh] at GH
    clear HX hh
    cases bad with
    | true =>
      rw [if_pos rfl]
      go_enter Tryd.func205, Tryd.ntmps205
      go_wp2_with fail
      have hS00 : (fun W => W.cell? ⟨d, 0, none⟩ = some (.string s) ∧ W.cell? ⟨d, 1, none⟩ = some (.int .i64 (i : Int)) ∧ Below w.heap.size w W) w.drew := ⟨u0, u1, (by (with_reducible (repeat' (first | exact Below.refl _ _ | refine below_alloc ?_ _ ?_ | refine Below.setCell ?_ ?_ _ | refine Below.drew ?_ | refine below_drewN ?_ _ | refine below_step ?_ (by assumption) ?_ | refine below_mark ?_ (by assumption) ?_))); all_goals (first | omega | (simp; done) | (simp; omega)))⟩
      go_region_held3 (fun W => W.cell? ⟨d, 0, none⟩ = some (.string s) ∧ W.cell? ⟨d, 1, none⟩ = some (.int .i64 (i : Int)) ∧ Below w.heap.size w W) (first | with_reducible exact ⟨by assumption, by assumption, by assumption⟩ | with_reducible assumption | exact hS00 | go_keep) (((with_reducible refine (GH.out _).mono ?_); rintro e8 w8 ⟨he, hb8⟩; obtain rfl := he; have hS := keep2b hb8 (by with_reducible assumption); obtain ⟨hS0, hS1, hS2⟩ := hS))
      clear hS00
      have HU1 := Lib.hid (HU.out.stay hS2)
      clear u0 u1 u2 u3 u4 f1 f2 f3
      obtain ⟨u0, u1, u2, u3, u4, f1, f2, f3⟩ := HU1.out.cells
      go_wp2_with fail
      go_ret2
      exact ⟨⟨rfl, (HU1.out.stay ((by (with_reducible (repeat' (first | exact Below.refl _ _ | refine below_alloc ?_ _ ?_ | refine Below.setCell ?_ ?_ _ | refine Below.drew ?_ | refine below_drewN ?_ _ | refine below_step ?_ (by assumption) ?_ | refine below_mark ?_ (by assumption) ?_))); all_goals (first | omega | (simp; done) | (simp; omega))))).setB true⟩, (HT.out.trans (Touch.of_below ((by (with_reducible (repeat' (first | exact Below.refl _ _ | refine below_alloc ?_ _ ?_ | refine Below.setCell ?_ ?_ _ | refine Below.drew ?_ | refine below_drewN ?_ _ | refine below_step ?_ (by assumption) ?_ | refine below_mark ?_ (by assumption) ?_))); all_goals (first | omega | (simp; done) | (simp; omega)))))).cellD _⟩
    | false =>
      rw [if_neg (by simp)]
      go_enter Tryd.func205, Tryd.ntmps205
      go_wp2_with fail
      have hS00 : (fun W => W.cell? ⟨d, 0, none⟩ = some (.string s) ∧ W.cell? ⟨d, 1, none⟩ = some (.int .i64 (i : Int)) ∧ Below w.heap.size w W) w.drew := ⟨u0, u1, (by (with_reducible (repeat' (first | exact Below.refl _ _ | refine below_alloc ?_ _ ?_ | refine Below.setCell ?_ ?_ _ | refine Below.drew ?_ | refine below_drewN ?_ _ | refine below_step ?_ (by assumption) ?_ | refine below_mark ?_ (by assumption) ?_))); all_goals (first | omega | (simp; done) | (simp; omega)))⟩
      go_region_held3 (fun W => W.cell? ⟨d, 0, none⟩ = some (.string s) ∧ W.cell? ⟨d, 1, none⟩ = some (.int .i64 (i : Int)) ∧ Below w.heap.size w W) (first | with_reducible exact ⟨by assumption, by assumption, by assumption⟩ | with_reducible assumption | exact hS00 | go_keep) (((with_reducible refine (GH.out _).mono ?_); rintro e8 w8 ⟨he, hb8⟩; obtain rfl := he; have hS := keep2b hb8 (by with_reducible assumption); obtain ⟨hS0, hS1, hS2⟩ := hS))
      clear hS00
      have HU1 := Lib.hid (HU.out.stay hS2)
      clear u0 u1 u2 u3 u4 f1 f2 f3
      obtain ⟨u0, u1, u2, u3, u4, f1, f2, f3⟩ := HU1.out.cells
      go_wp2_with fail
      go_ret2
      exact ⟨⟨rfl, (HU1.out.stay ((by (with_reducible (repeat' (first | exact Below.refl _ _ | refine below_alloc ?_ _ ?_ | refine Below.setCell ?_ ?_ _ | refine Below.drew ?_ | refine below_drewN ?_ _ | refine below_step ?_ (by assumption) ?_ | refine below_mark ?_ (by assumption) ?_))); all_goals (first | omega | (simp; done) | (simp; omega))))).setB true⟩, (HT.out.trans (Touch.of_below ((by (with_reducible (repeat' (first | exact Below.refl _ _ | refine below_alloc ?_ _ ?_ | refine Below.setCell ?_ ?_ _ | refine Below.drew ?_ | refine below_drewN ?_ _ | refine below_step ?_ (by assumption) ?_ | refine below_mark ?_ (by assumption) ?_))); all_goals (first | omega | (simp; done) | (simp; omega)))))).cellD _⟩
  | some q =>
    obtain ⟨a, n, x⟩ := q
    rw [hh] at GH
    have hx := HX.out a n x hh
    obtain ⟨hx1, hx2, hx3, hx4, hx5⟩ := hx
    have tx : decide ((x : Int) < 0) = false := decide_eq_false (by omega)
    clear HX hh hx5
    cases bad with
    | true =>
      rw [if_pos rfl]
      go_enter Tryd.func205, Tryd.ntmps205
      go_wp2_with fail
      have hS00 : (fun W => W.cell? ⟨d, 0, none⟩ = some (.string s) ∧ W.cell? ⟨d, 1, none⟩ = some (.int .i64 (i : Int)) ∧ Below w.heap.size w W) w.drew := ⟨u0, u1, (by (with_reducible (repeat' (first | exact Below.refl _ _ | refine below_alloc ?_ _ ?_ | refine Below.setCell ?_ ?_ _ | refine Below.drew ?_ | refine below_drewN ?_ _ | refine below_step ?_ (by assumption) ?_ | refine below_mark ?_ (by assumption) ?_))); all_goals (first | omega | (simp; done) | (simp; omega)))⟩
      go_region_held3 (fun W => W.cell? ⟨d, 0, none⟩ = some (.string s) ∧ W.cell? ⟨d, 1, none⟩ = some (.int .i64 (i : Int)) ∧ Below w.heap.size w W) (first | with_reducible exact ⟨by assumption, by assumption, by assumption⟩ | with_reducible assumption | exact hS00 | go_keep) (((with_reducible refine (GH.out _).mono ?_); rintro e8 w8 ⟨he, hb8⟩; obtain rfl := he; have hS := keep2b hb8 (by with_reducible assumption); obtain ⟨hS0, hS1, hS2⟩ := hS))
      clear hS00
      have HU1 := Lib.hid (HU.out.stay hS2)
      clear u0 u1 u2 u3 u4 f1 f2 f3
      obtain ⟨u0, u1, u2, u3, u4, f1, f2, f3⟩ := HU1.out.cells
      go_wp2_with fail
      go_ret2
      exact ⟨⟨rfl, (HU1.out.stay ((by (with_reducible (repeat' (first | exact Below.refl _ _ | refine below_alloc ?_ _ ?_ | refine Below.setCell ?_ ?_ _ | refine Below.drew ?_ | refine below_drewN ?_ _ | refine below_step ?_ (by assumption) ?_ | refine below_mark ?_ (by assumption) ?_))); all_goals (first | omega | (simp; done) | (simp; omega))))).setB true⟩, (HT.out.trans (Touch.of_below ((by (with_reducible (repeat' (first | exact Below.refl _ _ | refine below_alloc ?_ _ ?_ | refine Below.setCell ?_ ?_ _ | refine Below.drew ?_ | refine below_drewN ?_ _ | refine below_step ?_ (by assumption) ?_ | refine below_mark ?_ (by assumption) ?_))); all_goals (first | omega | (simp; done) | (simp; omega)))))).cellD _⟩
    | false =>
      rw [if_neg (by simp)]
      go_enter Tryd.func205, Tryd.ntmps205
      go_wp2_with fail
      have hS00 : (fun W => W.cell? ⟨d, 0, none⟩ = some (.string s) ∧ W.cell? ⟨d, 1, none⟩ = some (.int .i64 (i : Int)) ∧ Below w.heap.size w W) w.drew := ⟨u0, u1, (by (with_reducible (repeat' (first | exact Below.refl _ _ | refine below_alloc ?_ _ ?_ | refine Below.setCell ?_ ?_ _ | refine Below.drew ?_ | refine below_drewN ?_ _ | refine below_step ?_ (by assumption) ?_ | refine below_mark ?_ (by assumption) ?_))); all_goals (first | omega | (simp; done) | (simp; omega)))⟩
      go_region_held3 (fun W => W.cell? ⟨d, 0, none⟩ = some (.string s) ∧ W.cell? ⟨d, 1, none⟩ = some (.int .i64 (i : Int)) ∧ Below w.heap.size w W) (first | with_reducible exact ⟨by assumption, by assumption, by assumption⟩ | with_reducible assumption | exact hS00 | go_keep) (((with_reducible refine (GH.out _).mono ?_); rintro e8 w8 ⟨he, hb8⟩; obtain rfl := he; have hS := keep2b hb8 (by with_reducible assumption); obtain ⟨hS0, hS1, hS2⟩ := hS))
      clear hS00
      have HU1 := Lib.hid (HU.out.stay hS2)
      clear u0 u1 u2 u3 u4 f1 f2 f3
      obtain ⟨u0, u1, u2, u3, u4, f1, f2, f3⟩ := HU1.out.cells
      go_wp2_with fail
      go_ret2
      exact ⟨⟨rfl, (HU1.out.stay ((by (with_reducible (repeat' (first | exact Below.refl _ _ | refine below_alloc ?_ _ ?_ | refine Below.setCell ?_ ?_ _ | refine Below.drew ?_ | refine below_drewN ?_ _ | refine below_step ?_ (by assumption) ?_ | refine below_mark ?_ (by assumption) ?_))); all_goals (first | omega | (simp; done) | (simp; omega))))).setI x _ rfl⟩, (HT.out.trans (Touch.of_below ((by (with_reducible (repeat' (first | exact Below.refl _ _ | refine below_alloc ?_ _ ?_ | refine Below.setCell ?_ ?_ _ | refine Below.drew ?_ | refine below_drewN ?_ _ | refine below_step ?_ (by assumption) ?_ | refine below_mark ?_ (by assumption) ?_))); all_goals (first | omega | (simp; done) | (simp; omega)))))).cellD _⟩
set_option maxHeartbeats 2000000 in
theorem head_l (d : Nat) (s : ByteArray) (hs : s.size ≤ 1048576) (i : Nat) (hi : i ≤ s.size) (c : Int) (bad : Bool) (w : World) (h : DB w d s i true c bad) :
    Calls Tryd.prog 205 #[.pointer (some ⟨d, 0, none⟩)] w (DhRet d s i true c (if bad then none else hdR true s i) w) := by
  have HU := Lib.hid h
  have HT := Lib.hid (Touch.refl (fun x => x = d) w)
  obtain ⟨u0, u1, u2, u3, u4, f1, f2, f3⟩ := h.cells
  have GH := Lib.hid (fun W => (any_impl s i W (by omega) (by omega) (by omega)).mono fun e w' h => And.intro (Head3.hd (lo := true) (e := e) h.1) h.2)
  have HX := Lib.hid (fun a n x (h : hdR true s i = some (a, n, x)) => hdR_some h)
  clear h
  cases hh : hdR true s i with
  | none =>
    rw [hh] at GH
    clear HX hh
    cases bad with
    | true =>
      rw [if_pos rfl]
      go_enter Tryd.func205, Tryd.ntmps205
      go_wp2_with fail
      have hS00 : (fun W => W.cell? ⟨d, 0, none⟩ = some (.string s) ∧ W.cell? ⟨d, 1, none⟩ = some (.int .i64 (i : Int)) ∧ Below w.heap.size w W) w.drew := ⟨u0, u1, (by (with_reducible (repeat' (first | exact Below.refl _ _ | refine below_alloc ?_ _ ?_ | refine Below.setCell ?_ ?_ _ | refine Below.drew ?_ | refine below_drewN ?_ _ | refine below_step ?_ (by assumption) ?_ | refine below_mark ?_ (by assumption) ?_))); all_goals (first | omega | (simp; done) | (simp; omega)))⟩
      go_region_held3 (fun W => W.cell? ⟨d, 0, none⟩ = some (.string s) ∧ W.cell? ⟨d, 1, none⟩ = some (.int .i64 (i : Int)) ∧ Below w.heap.size w W) (first | with_reducible exact ⟨by assumption, by assumption, by assumption⟩ | with_reducible assumption | exact hS00 | go_keep) (((with_reducible refine (GH.out _).mono ?_); rintro e8 w8 ⟨he, hb8⟩; obtain rfl := he; have hS := keep2b hb8 (by with_reducible assumption); obtain ⟨hS0, hS1, hS2⟩ := hS))
      clear hS00
      have HU1 := Lib.hid (HU.out.stay hS2)
      clear u0 u1 u2 u3 u4 f1 f2 f3
      obtain ⟨u0, u1, u2, u3, u4, f1, f2, f3⟩ := HU1.out.cells
      go_wp2_with fail
      go_ret2
      exact ⟨⟨rfl, (HU1.out.stay ((by (with_reducible (repeat' (first | exact Below.refl _ _ | refine below_alloc ?_ _ ?_ | refine Below.setCell ?_ ?_ _ | refine Below.drew ?_ | refine below_drewN ?_ _ | refine below_step ?_ (by assumption) ?_ | refine below_mark ?_ (by assumption) ?_))); all_goals (first | omega | (simp; done) | (simp; omega))))).setB true⟩, (HT.out.trans (Touch.of_below ((by (with_reducible (repeat' (first | exact Below.refl _ _ | refine below_alloc ?_ _ ?_ | refine Below.setCell ?_ ?_ _ | refine Below.drew ?_ | refine below_drewN ?_ _ | refine below_step ?_ (by assumption) ?_ | refine below_mark ?_ (by assumption) ?_))); all_goals (first | omega | (simp; done) | (simp; omega)))))).cellD _⟩
    | false =>
      rw [if_neg (by simp)]
      go_enter Tryd.func205, Tryd.ntmps205
      go_wp2_with fail
      have hS00 : (fun W => W.cell? ⟨d, 0, none⟩ = some (.string s) ∧ W.cell? ⟨d, 1, none⟩ = some (.int .i64 (i : Int)) ∧ Below w.heap.size w W) w.drew := ⟨u0, u1, (by (with_reducible (repeat' (first | exact Below.refl _ _ | refine below_alloc ?_ _ ?_ | refine Below.setCell ?_ ?_ _ | refine Below.drew ?_ | refine below_drewN ?_ _ | refine below_step ?_ (by assumption) ?_ | refine below_mark ?_ (by assumption) ?_))); all_goals (first | omega | (simp; done) | (simp; omega)))⟩
      go_region_held3 (fun W => W.cell? ⟨d, 0, none⟩ = some (.string s) ∧ W.cell? ⟨d, 1, none⟩ = some (.int .i64 (i : Int)) ∧ Below w.heap.size w W) (first | with_reducible exact ⟨by assumption, by assumption, by assumption⟩ | with_reducible assumption | exact hS00 | go_keep) (((with_reducible refine (GH.out _).mono ?_); rintro e8 w8 ⟨he, hb8⟩; obtain rfl := he; have hS := keep2b hb8 (by with_reducible assumption); obtain ⟨hS0, hS1, hS2⟩ := hS))
      clear hS00
      have HU1 := Lib.hid (HU.out.stay hS2)
      clear u0 u1 u2 u3 u4 f1 f2 f3
      obtain ⟨u0, u1, u2, u3, u4, f1, f2, f3⟩ := HU1.out.cells
      go_wp2_with fail
      go_ret2
      exact ⟨⟨rfl, (HU1.out.stay ((by (with_reducible (repeat' (first | exact Below.refl _ _ | refine below_alloc ?_ _ ?_ | refine Below.setCell ?_ ?_ _ | refine Below.drew ?_ | refine below_drewN ?_ _ | refine below_step ?_ (by assumption) ?_ | refine below_mark ?_ (by assumption) ?_))); all_goals (first | omega | (simp; done) | (simp; omega))))).setB true⟩, (HT.out.trans (Touch.of_below ((by (with_reducible (repeat' (first | exact Below.refl _ _ | refine below_alloc ?_ _ ?_ | refine Below.setCell ?_ ?_ _ | refine Below.drew ?_ | refine below_drewN ?_ _ | refine below_step ?_ (by assumption) ?_ | refine below_mark ?_ (by assumption) ?_))); all_goals (first | omega | (simp; done) | (simp; omega)))))).cellD _⟩
  | some q =>
    obtain ⟨a, n, x⟩ := q
    rw [hh] at GH
    have hx := HX.out a n x hh
    obtain ⟨hx1, hx2, hx3, hx4, hx5⟩ := hx
    have tx : decide ((x : Int) < 0) = false := decide_eq_false (by omega)
    clear HX hh hx5
    cases bad with
    | true =>
      rw [if_pos rfl]
      go_enter Tryd.func205, Tryd.ntmps205
      go_wp2_with fail
      have hS00 : (fun W => W.cell? ⟨d, 0, none⟩ = some (.string s) ∧ W.cell? ⟨d, 1, none⟩ = some (.int .i64 (i : Int)) ∧ Below w.heap.size w W) w.drew := ⟨u0, u1, (by (with_reducible (repeat' (first | exact Below.refl _ _ | refine below_alloc ?_ _ ?_ | refine Below.setCell ?_ ?_ _ | refine Below.drew ?_ | refine below_drewN ?_ _ | refine below_step ?_ (by assumption) ?_ | refine below_mark ?_ (by assumption) ?_))); all_goals (first | omega | (simp; done) | (simp; omega)))⟩
      go_region_held3 (fun W => W.cell? ⟨d, 0, none⟩ = some (.string s) ∧ W.cell? ⟨d, 1, none⟩ = some (.int .i64 (i : Int)) ∧ Below w.heap.size w W) (first | with_reducible exact ⟨by assumption, by assumption, by assumption⟩ | with_reducible assumption | exact hS00 | go_keep) (((with_reducible refine (GH.out _).mono ?_); rintro e8 w8 ⟨he, hb8⟩; obtain rfl := he; have hS := keep2b hb8 (by with_reducible assumption); obtain ⟨hS0, hS1, hS2⟩ := hS))
      clear hS00
      have HU1 := Lib.hid (HU.out.stay hS2)
      clear u0 u1 u2 u3 u4 f1 f2 f3
      obtain ⟨u0, u1, u2, u3, u4, f1, f2, f3⟩ := HU1.out.cells
      go_wp2_with fail
      go_ret2
      exact ⟨⟨rfl, (HU1.out.stay ((by (with_reducible (repeat' (first | exact Below.refl _ _ | refine below_alloc ?_ _ ?_ | refine Below.setCell ?_ ?_ _ | refine Below.drew ?_ | refine below_drewN ?_ _ | refine below_step ?_ (by assumption) ?_ | refine below_mark ?_ (by assumption) ?_))); all_goals (first | omega | (simp; done) | (simp; omega))))).setB true⟩, (HT.out.trans (Touch.of_below ((by (with_reducible (repeat' (first | exact Below.refl _ _ | refine below_alloc ?_ _ ?_ | refine Below.setCell ?_ ?_ _ | refine Below.drew ?_ | refine below_drewN ?_ _ | refine below_step ?_ (by assumption) ?_ | refine below_mark ?_ (by assumption) ?_))); all_goals (first | omega | (simp; done) | (simp; omega)))))).cellD _⟩
    | false =>
      rw [if_neg (by simp)]
      go_enter Tryd.func205, Tryd.ntmps205
      go_wp2_with fail
      have hS00 : (fun W => W.cell? ⟨d, 0, none⟩ = some (.string s) ∧ W.cell? ⟨d, 1, none⟩ = some (.int .i64 (i : Int)) ∧ Below w.heap.size w W) w.drew := ⟨u0, u1, (by (with_reducible (repeat' (first | exact Below.refl _ _ | refine below_alloc ?_ _ ?_ | refine Below.setCell ?_ ?_ _ | refine Below.drew ?_ | refine below_drewN ?_ _ | refine below_step ?_ (by assumption) ?_ | refine below_mark ?_ (by assumption) ?_))); all_goals (first | omega | (simp; done) | (simp; omega)))⟩
      go_region_held3 (fun W => W.cell? ⟨d, 0, none⟩ = some (.string s) ∧ W.cell? ⟨d, 1, none⟩ = some (.int .i64 (i : Int)) ∧ Below w.heap.size w W) (first | with_reducible exact ⟨by assumption, by assumption, by assumption⟩ | with_reducible assumption | exact hS00 | go_keep) (((with_reducible refine (GH.out _).mono ?_); rintro e8 w8 ⟨he, hb8⟩; obtain rfl := he; have hS := keep2b hb8 (by with_reducible assumption); obtain ⟨hS0, hS1, hS2⟩ := hS))
      clear hS00
      have HU1 := Lib.hid (HU.out.stay hS2)
      clear u0 u1 u2 u3 u4 f1 f2 f3
      obtain ⟨u0, u1, u2, u3, u4, f1, f2, f3⟩ := HU1.out.cells
      go_wp2_with fail
      go_ret2
      exact ⟨⟨rfl, (HU1.out.stay ((by (with_reducible (repeat' (first | exact Below.refl _ _ | refine below_alloc ?_ _ ?_ | refine Below.setCell ?_ ?_ _ | refine Below.drew ?_ | refine below_drewN ?_ _ | refine below_step ?_ (by assumption) ?_ | refine below_mark ?_ (by assumption) ?_))); all_goals (first | omega | (simp; done) | (simp; omega))))).setI x _ rfl⟩, (HT.out.trans (Touch.of_below ((by (with_reducible (repeat' (first | exact Below.refl _ _ | refine below_alloc ?_ _ ?_ | refine Below.setCell ?_ ?_ _ | refine Below.drew ?_ | refine below_drewN ?_ _ | refine below_step ?_ (by assumption) ?_ | refine below_mark ?_ (by assumption) ?_))); all_goals (first | omega | (simp; done) | (simp; omega)))))).cellD _⟩
theorem head_any (d : Nat) (s : ByteArray) (hs : s.size ≤ 1048576) (i : Nat) (hi : i ≤ s.size) (lo : Bool) (c : Int) (bad : Bool) (w : World) (h : DB w d s i lo c bad) :
    Calls Tryd.prog 205 #[.pointer (some ⟨d, 0, none⟩)] w (DhRet d s i lo c (if bad then none else hdR lo s i) w) := by
  cases lo
  · exact head_s d s hs i hi c bad w h
  · exact head_l d s hs i hi c bad w h
def DxRet (d : Nat) (s : ByteArray) (i m : Nat) (lo : Bool) (c : Int) (b : Bool) (w : World) (e : Ending) (w' : World) : Prop :=
  (match b with
  | true => e = .returned (.string (s.extract i (i + m))) ∧ DB w' d s (i + m) lo c false
  | false => e = .returned (.string ⟨#[]⟩) ∧ DB w' d s i lo c true) ∧ Touch (fun x => x = d) (fun x => x = d) w w'
set_option maxHeartbeats 2000000 in
theorem bytes_any (d : Nat) (s : ByteArray) (hs : s.size ≤ 1048576) (i m : Nat) (hi : i ≤ s.size) (hm : m < 18446744073709551616) (lo : Bool) (c : Int) (bad : Bool) (w : World) (h : DB w d s i lo c bad) :
    Calls Tryd.prog 207 #[.pointer (some ⟨d, 0, none⟩), .int .u64 m] w (DxRet d s i m lo c (!bad && decide (i + m ≤ s.size)) w) := by
  have HU := Lib.hid h
  obtain ⟨u0, u1, u2, u3, u4, f1, f2, f3⟩ := h.cells
  have HT := Lib.hid (Touch.refl (fun x => x = d) w)
  clear h
  cases bad with
  | true =>
    show Calls _ _ _ _ (DxRet d s i m lo c false w)
    go_enter Tryd.func207, Tryd.ntmps207
    go_wp2_with fail
    go_quiet (fail)
    go_wp2_with fail
    go_ret
    exact ⟨⟨rfl, (HU.out.stay ((by (with_reducible (repeat' (first | exact Below.refl _ _ | refine below_alloc ?_ _ ?_ | refine Below.setCell ?_ ?_ _ | refine Below.drew ?_ | refine below_drewN ?_ _ | refine below_step ?_ (by assumption) ?_ | refine below_mark ?_ (by assumption) ?_))); all_goals (first | omega | (simp; done) | (simp; omega))))).setB true⟩, (HT.out.trans (Touch.of_below ((by (with_reducible (repeat' (first | exact Below.refl _ _ | refine below_alloc ?_ _ ?_ | refine Below.setCell ?_ ?_ _ | refine Below.drew ?_ | refine below_drewN ?_ _ | refine below_step ?_ (by assumption) ?_ | refine below_mark ?_ (by assumption) ?_))); all_goals (first | omega | (simp; done) | (simp; omega)))))).cellD _⟩
  | false =>
    by_cases hf : i + m ≤ s.size
    · rw [decide_eq_true hf]
      show Calls _ _ _ _ (DxRet d s i m lo c true w)
      have t1 : decide ((s.size : Int) - i < m) = false := decide_eq_false (by omega)
      have hc : wrap64 (m : Int) = m := by unfold wrap64; omega
      go_enter Tryd.func207, Tryd.ntmps207
      go_wp2_with fail
      go_quiet (fail)
      go_wp2_with fail
      go_quiet (fail)
      go_wp2_with fail
      go_ret
      exact ⟨⟨rfl, DB.drewN _ ((DB.drewN _ HU.out).setI (i + m) _ rfl)⟩, touch_drewN _ ((touch_drewN _ HT.out).cellD _)⟩
    · rw [decide_eq_false hf]
      show Calls _ _ _ _ (DxRet d s i m lo c false w)
      have t1 : decide ((s.size : Int) - i < m) = true := decide_eq_true (by omega)
      go_enter Tryd.func207, Tryd.ntmps207
      go_wp2_with fail
      go_quiet (fail)
      go_wp2_with fail
      go_ret
      exact ⟨⟨rfl, (HU.out.stay ((by (with_reducible (repeat' (first | exact Below.refl _ _ | refine below_alloc ?_ _ ?_ | refine Below.setCell ?_ ?_ _ | refine Below.drew ?_ | refine below_drewN ?_ _ | refine below_step ?_ (by assumption) ?_ | refine below_mark ?_ (by assumption) ?_))); all_goals (first | omega | (simp; done) | (simp; omega))))).setB true⟩, (HT.out.trans (Touch.of_below ((by (with_reducible (repeat' (first | exact Below.refl _ _ | refine below_alloc ?_ _ ?_ | refine Below.setCell ?_ ?_ _ | refine Below.drew ?_ | refine below_drewN ?_ _ | refine below_step ?_ (by assumption) ?_ | refine below_mark ?_ (by assumption) ?_))); all_goals (first | omega | (simp; done) | (simp; omega)))))).cellD _⟩
end Go.Proofs.YtgbgeocmjdgmoaaDoor
namespace Go.Proofs.YtgbgeocmjdgmoaaDoor
set_option linter.unusedSimpArgs false
set_option linter.unusedVariables false
set_option maxRecDepth 100000
open Go.RowKit
def DmSt (d : Nat) (s : ByteArray) (lo : Bool) (o : Option (Nat × Nat)) (w : World) : Prop := match o with
  | some q => DB w d s q.1 lo (1204 - (q.2 : Int)) false
  | none => ∃ (p : Nat) (c : Int), p ≤ s.size ∧ DB w d s p lo c true
theorem DmSt.keep {d : Nat} {s : ByteArray} {lo : Bool} {o : Option (Nat × Nat)} {w w' : World} (h : DmSt d s lo o w) (hb : w'.heap[d]? = w.heap[d]?) : DmSt d s lo o w' := by
  cases o with
  | some q => exact hb.trans h
  | none => obtain ⟨p, c, h1, h2⟩ := h; exact ⟨p, c, h1, hb.trans h2⟩
theorem DmSt.lt {d : Nat} {s : ByteArray} {lo : Bool} {o : Option (Nat × Nat)} {w : World} (h : DmSt d s lo o w) : d < w.heap.size := by
  cases o with
  | some q => exact lt_of_heap h
  | none => obtain ⟨p, c, h1, h2⟩ := h; exact lt_of_heap h2
def DmRet (d : Nat) (s : ByteArray) (lo : Bool) (o : MG) (w : World) (e : Ending) (w' : World) : Prop :=
  ∃ (t : V) (sl : Value), e = .returned (t.agg sl) ∧ t.wf ∧ OwnS w' (fun x => w.heap.size ≤ x) sl t.kids ∧ (∀ q, o = some q → t = q.1) ∧ DmSt d s lo (o.map (·.2)) w' ∧ Touch (fun x => x = d) (fun x => x = d) w w'
def DkRet (d : Nat) (s : ByteArray) (lo : Bool) (o : Option (List V × Nat × Nat)) (w : World) (e : Ending) (w' : World) : Prop :=
  ∃ (us : List V) (sl : Value), e = .returned sl ∧ OwnS w' (fun x => w.heap.size ≤ x) sl us ∧ (∀ q, o = some q → us = q.1) ∧ DmSt d s lo (o.map (·.2)) w' ∧ Touch (fun x => x = d) (fun x => x = d) w w'
def DcRet (d : Nat) (s : ByteArray) (lo : Bool) (l : Nat) (o : Option (ByteArray × Nat)) (w : World) (e : Ending) (w' : World) : Prop :=
  ∃ (t : ByteArray), e = .returned (.string t) ∧ t.size ≤ 4194304 ∧ (∀ q, o = some q → t = q.1) ∧ DmSt d s lo (o.map fun q => (q.2, l)) w' ∧ Touch (fun x => x = d) (fun x => x = d) w w'
def dMeas (d : Nat) (s : ByteArray) (w : World) : Nat := match w.cell? ⟨d, 1, none⟩, w.cell? ⟨d, 4, none⟩ with
  | some (.int _ x), some (.bool false) => s.size + 1 - x.toNat
  | _, _ => 0
theorem DB.meas {w : World} {d : Nat} {s : ByteArray} {i : Nat} {lo : Bool} {c : Int} {bad : Bool} (h : DB w d s i lo c bad) : dMeas d s w = if bad then 0 else s.size + 1 - i := by
  obtain ⟨u0, u1, u2, u3, u4, f1, f2, f3⟩ := h.cells
  unfold dMeas
  rw [u1, u4]
  cases bad <;> simp
def CkLoop (d : Nat) (s : ByteArray) (c : Int) (a i : Nat) (t : ByteArray) (st : Option (Nat × Nat)) (w : World) : Prop := match st with
  | some q => DB w d s q.1 true c false ∧ q.1 ≤ s.size ∧ s.size + 1 ≤ q.2 + q.1 ∧ t.size ≤ q.1 ∧ cgChunks s a (s.size + 1) i = (cgChunks s a q.2 q.1).map (fun p => (t ++ p.1, p.2))
  | none => ∃ p, p ≤ s.size ∧ DB w d s p true c true ∧ t.size ≤ 4194304 ∧ cgChunks s a (s.size + 1) i = none
set_option maxHeartbeats 8000000 in
theorem chunks_any (w0 : World) (hE : Env w0) (d : Nat) (hd0 : w0.heap.size ≤ d) (s : ByteArray) (hs : s.size ≤ 1048576) (a : Nat) (ha : a = 2 ∨ a = 3) (i l : Nat) (hi : i ≤ s.size) (w : World) (hw : Below w0.heap.size w0 w) (h : DB w d s i true (1204 - (l : Int)) false) :
    Calls Tryd.prog 258 #[.pointer (some ⟨d, 0, none⟩), .int .i64 a] w (DcRet d s true l (cgChunks s a (s.size + 1) i) w) := by
  obtain ⟨c, hc⟩ : ∃ c : Int, c = 1204 - (l : Int) := ⟨_, rfl⟩
  rw [← hc] at h
  have hdw := lt_of_heap h
  have HU := Lib.hid h
  have HT0 := Lib.hid (Touch.refl (fun x => x = d) w)
  have HK0 := Lib.hid (show cgChunks s a (s.size + 1) i = (cgChunks s a (s.size + 1) i).map fun p => ((⟨#[]⟩ : ByteArray) ++ p.1, p.2) by cases cgChunks s a (s.size + 1) i with
    | none => rfl
    | some p => simp only [Option.map_some, ba_0app])
  have HPN := Lib.hid (fun (h : cgChunks s a (s.size + 1) i = none) (t : ByteArray) (ht : t.size ≤ 4194304) (p : Nat) (hp : p ≤ s.size) (w' : World) (hb : DB w' d s p true c true) (hT : Touch (fun x => x = d) (fun x => x = d) w w') => show DcRet d s true l (cgChunks s a (s.size + 1) i) w (.returned (.string t)) w' by
    rw [h]; exact ⟨t, rfl, ht, (fun q e => by cases e), ⟨p, c, hp, hb⟩, hT⟩)
  have HPS := Lib.hid (fun t j (h : cgChunks s a (s.size + 1) i = some (t, j)) (ht : t.size ≤ 4194304) (w' : World) (hb : DB w' d s j true c false) (hT : Touch (fun x => x = d) (fun x => x = d) w w') => show DcRet d s true l (cgChunks s a (s.size + 1) i) w (.returned (.string t)) w' by
    rw [h]; exact ⟨t, rfl, ht, (fun q e => by injection e with e; rw [← e]), (by rw [hc] at hb; exact hb), hT⟩)
  have NN := Lib.hid (fun (j : Nat) (hj : j ≤ s.size) (W : World) (h : DB W d s j true c false) (hn : ∀ hi : j < s.size, s[j].toNat ≠ 255) => next_no d s hs j hj true c false 255 W h (.inr (.inr hn)))
  have NY := Lib.hid (fun (j : Nat) (hj : j < s.size) (W : World) (h : DB W d s j true c false) (hn : s[j].toNat = 255) => next_yes d s hs j hj c 255 W h hn)
  have HH := Lib.hid (fun (j : Nat) (hj : j ≤ s.size) (W : World) (h : DB W d s j true c false) => show Calls Tryd.prog 205 #[.pointer (some ⟨d, 0, none⟩)] W (DhRet d s j true c (hdR true s j) W) from head_any d s hs j hj true c false W h)
  have BB := Lib.hid (fun (j m : Nat) (hj : j ≤ s.size) (hm : m < 18446744073709551616) (bad : Bool) (W : World) (h : DB W d s j true c bad) => bytes_any d s hs j m hj hm true c bad W h)
  have TX := Lib.hid (fun (t : ByteArray) (ht : t.size ≤ 1048576) (W : World) (hT : Touch (fun x => x = d) (fun x => x = d) w W) => textOk_impl t W (by omega) (Env.keep hE (hw.trans (hT.below (fun x hx => by omega) hw.size))))
  clear h hc hw hE
  go_enter Tryd.func258, Tryd.ntmps258
  go_wp2_with fail
  go_loopw [5, 6, 7, 8] (fun oo _ _ _ wr => ∃ (t : ByteArray) (st : Option (Nat × Nat)), oo = .string t ∧ CkLoop d s c a i t st wr ∧ Touch (fun x => x = d) (fun x => x = d) w wr) (fun _ _ _ _ wr => dMeas d s wr)
  case atStart => exact ⟨⟨#[]⟩, some (i, s.size + 1), rfl, ⟨HU.out, hi, by omega, by show ByteArray.size ⟨#[]⟩ ≤ _; simp [ByteArray.size], HK0.out⟩, HT0.out⟩
  case round =>
    obtain ⟨t, st, rfl, hlp, htw⟩ := hrel
    have HT := Lib.hid htw
    have hzw := htw.size
    clear htw
    cases st with
    | none =>
      obtain ⟨p, hp, hdb, htz, hck⟩ := hlp
      have HF := Lib.hid (HPN.out hck t htz p hp _ hdb HT.out)
      obtain ⟨u0, u1, u2, u3, u4, f1, f2, f3⟩ := hdb.cells
      clear HPN HPS NN NY HH BB TX hck hdb
      go_wp2_with fail
      go_ret
      exact HF.out
    | some q =>
      obtain ⟨ij, f⟩ := q
      obtain ⟨hdb, hij, hf, htz, hck⟩ := hlp
      simp only at hdb hij hf htz hck
      have HDB := Lib.hid hdb
      have HCK := Lib.hid hck
      have HM := Lib.hid hdb.meas
      obtain ⟨f, rfl⟩ : ∃ f', f = f' + 1 := ⟨f - 1, by omega⟩
      obtain ⟨u0, u1, u2, u3, u4, f1, f2, f3⟩ := hdb.cells
      clear hdb hck
      by_cases h255 : ∃ hlt : ij < s.size, s[ij].toNat = 255
      · obtain ⟨hlt, h255⟩ := h255
        have HP := Lib.hid (HPS.out (t ++ ⟨#[]⟩) (ij + 1) (by rw [HCK.out, ck_stop hlt h255]; rfl) (by rw [ByteArray.size_append, show ByteArray.size ⟨#[]⟩ = 0 from rfl]; omega))
        rw [show t ++ (⟨#[]⟩ : ByteArray) = t from ba_app0 t] at HP
        have NYJ := Lib.hid (NY.out ij hlt wr HDB.out h255)
        clear HPN HPS NN NY HH BB TX HCK h255
        go_wp2_with fail
        refine NYJ.out.mono ?_
        rintro e1 w1 ⟨rfl, hdb1, ht1⟩
        have HX := Lib.hid (HP.out _ hdb1 (HT.out.trans ht1))
        go_wp2_with fail
        go_ret
        exact HX.out
      · have NNJ := Lib.hid (NN.out ij hij wr HDB.out (fun hlt e => h255 ⟨hlt, e⟩))
        cases hh : hdR true s ij with
        | none =>
          have HN := Lib.hid (show cgChunks s a (s.size + 1) i = none by
            rw [HCK.out]
            by_cases hlt : ij < s.size
            · rw [ck_none hlt (fun e => h255 ⟨hlt, e⟩) hh]; first | done | rfl
            · rw [ck_end hlt]; first | done | rfl)
          have hne : ((-1 : Int) == (a : Int)) = false := by first | (simp; done) | (simp; omega)
          have HHJ := Lib.hid (fun W h => HH.out ij hij W h)
          rw [hh] at HHJ
          clear HPN HPS NN NY HH TX HCK h255 hh
          go_wp2_with fail
          refine NNJ.out.mono ?_
          rintro e1 w1 ⟨rfl, hb1⟩
          have HDB1 := Lib.hid (HDB.out.stay hb1)
          have HT1 := Lib.hid (HT.out.trans (Touch.of_below hb1))
          clear u0 u1 u2 u3 u4 f1 f2 f3
          go_wp2_with fail
          refine (HHJ.out _ HDB1.out).mono ?_
          rintro e2 w2 ⟨⟨rfl, hdb2⟩, ht2⟩
          have HDB2 := Lib.hid hdb2
          have HT2 := Lib.hid (HT1.out.trans ht2)
          clear hdb2 ht2
          go_wp2_with fail
          refine (BB.out ij 0 hij (by omega) true _ HDB2.out).mono ?_
          rintro e3 w3 ⟨⟨rfl, hdb3⟩, ht3⟩
          have HDB3 := Lib.hid hdb3
          have HT3 := Lib.hid (HT2.out.trans ht3)
          obtain ⟨u0, u1, u2, u3, u4, f1, f2, f3⟩ := HDB3.out.cells
          clear hdb3 ht3
          go_wp2_with fail
          go_roundw
          case rel => exact ⟨t ++ ⟨#[]⟩, none, rfl, ⟨ij, hij, HDB3.out.setB true, by rw [ByteArray.size_append, show ByteArray.size ⟨#[]⟩ = 0 from rfl]; omega, HN.out⟩, HT3.out.cellD _⟩
          case measure => rw [(HDB3.out.setB true).meas, HM.out]; simp; omega
        | some q =>
          obtain ⟨m, n, x⟩ := q
          have hq := hdR_some hh
          obtain ⟨hq1, hq2, hq3, hq4, hq5⟩ := hq
          clear hq5
          have hlt : ij < s.size := by omega
          have h2 : ¬ s[ij].toNat = 255 := fun e => h255 ⟨hlt, e⟩
          have HHJ := Lib.hid (fun W h => HH.out ij hij W h)
          rw [hh] at HHJ
          by_cases hn : x + n ≤ s.size
          · have BBJ := Lib.hid (fun W h => show Calls Tryd.prog 207 #[.pointer (some ⟨d, 0, none⟩), .int .u64 n] W (DxRet d s x n true c true W) from by
              have := BB.out x n hq2 hq3 false W h
              rw [decide_eq_true hn] at this; exact this)
            have hx : (s.extract x (x + n)).size = n := by rw [ByteArray.size_extract]; omega
            have TXJ := Lib.hid (fun W hT => TX.out (s.extract x (x + n)) (by omega) W hT)
            by_cases hm : m = a
            · subst hm
              have hne : ((m : Int) == (m : Int)) = true := by simp
              rcases ha with ha | ha
              · have hd3 : ((m : Int) == (3 : Int)) = false := by subst ha; rfl
                have HTN := Lib.hid (show cgChunks s m (s.size + 1) i = (cgChunks s m f (x + n)).map (fun p => (t ++ s.extract x (x + n) ++ p.1, p.2)) by rw [HCK.out, ck_ok hlt h2 hh ⟨rfl, hn, fun h => by omega⟩, ck_go])
                clear HPN HPS NN NY HH BB TX HCK h255 hh h2 TXJ ha
                go_wp2_with fail
                refine NNJ.out.mono ?_
                rintro e1 w1 ⟨rfl, hb1⟩
                have HDB1 := Lib.hid (HDB.out.stay hb1)
                have HT1 := Lib.hid (HT.out.trans (Touch.of_below hb1))
                clear u0 u1 u2 u3 u4 f1 f2 f3
                go_wp2_with fail
                refine (HHJ.out _ HDB1.out).mono ?_
                rintro e2 w2 ⟨⟨rfl, hdb2⟩, ht2⟩
                have HDB2 := Lib.hid hdb2
                have HT2 := Lib.hid (HT1.out.trans ht2)
                clear hdb2 ht2
                go_wp2_with fail
                refine (BBJ.out _ HDB2.out).mono ?_
                rintro e3 w3 ⟨⟨rfl, hdb3⟩, ht3⟩
                have HDB3 := Lib.hid hdb3
                have HT3 := Lib.hid (HT2.out.trans ht3)
                obtain ⟨u0, u1, u2, u3, u4, f1, f2, f3⟩ := HDB3.out.cells
                clear hdb3 ht3
                go_wp2_with fail
                go_roundw
                case rel => exact ⟨t ++ s.extract x (x + n), some (x + n, f), rfl, ⟨HDB3.out, hn, by omega, by rw [ByteArray.size_append]; omega, HTN.out⟩, HT3.out⟩
                case measure => rw [HDB3.out.meas, HM.out]; simp; omega
              · have hd3 : ((m : Int) == (3 : Int)) = true := by subst ha; rfl
                cases hv : txt (s.extract x (x + n)) with
                | true =>
                  rw [hv] at TXJ
                  have HTN := Lib.hid (show cgChunks s m (s.size + 1) i = (cgChunks s m f (x + n)).map (fun p => (t ++ s.extract x (x + n) ++ p.1, p.2)) by rw [HCK.out, ck_ok hlt h2 hh ⟨rfl, hn, fun _ => hv⟩, ck_go])
                  clear HPN HPS NN NY HH BB TX HCK h255 hh h2 ha hv
                  go_wp2_with fail
                  refine NNJ.out.mono ?_
                  rintro e1 w1 ⟨rfl, hb1⟩
                  have HDB1 := Lib.hid (HDB.out.stay hb1)
                  have HT1 := Lib.hid (HT.out.trans (Touch.of_below hb1))
                  clear u0 u1 u2 u3 u4 f1 f2 f3
                  go_wp2_with fail
                  refine (HHJ.out _ HDB1.out).mono ?_
                  rintro e2 w2 ⟨⟨rfl, hdb2⟩, ht2⟩
                  have HDB2 := Lib.hid hdb2
                  have HT2 := Lib.hid (HT1.out.trans ht2)
                  clear hdb2 ht2
                  go_wp2_with fail
                  refine (BBJ.out _ HDB2.out).mono ?_
                  rintro e3 w3 ⟨⟨rfl, hdb3⟩, ht3⟩
                  have HDB3 := Lib.hid hdb3
                  have HT3 := Lib.hid (HT2.out.trans ht3)
                  obtain ⟨u0, u1, u2, u3, u4, f1, f2, f3⟩ := HDB3.out.cells
                  clear hdb3 ht3
                  go_wp2_with fail
                  refine (TXJ.out _ HT3.out).mono ?_
                  rintro e4 w4 ⟨rfl, hb4⟩
                  have HDB4 := Lib.hid (HDB3.out.stay hb4)
                  have HT4 := Lib.hid (HT3.out.trans (Touch.of_below hb4))
                  clear u0 u1 u2 u3 u4 f1 f2 f3
                  obtain ⟨u0, u1, u2, u3, u4, f1, f2, f3⟩ := HDB4.out.cells
                  go_wp2_with fail
                  go_roundw
                  case rel => exact ⟨t ++ s.extract x (x + n), some (x + n, f), rfl, ⟨HDB4.out, hn, by omega, by rw [ByteArray.size_append]; omega, HTN.out⟩, HT4.out⟩
                  case measure => rw [HDB4.out.meas, HM.out]; simp; omega
                | false =>
                  rw [hv] at TXJ
                  have HN := Lib.hid (show cgChunks s m (s.size + 1) i = none by rw [HCK.out, ck_bad hlt h2 hh (fun h => by have := h.2.2 ha; rw [hv] at this; cases this)]; rfl)
                  clear HPN HPS NN NY HH BB TX HCK h255 hh h2 ha hv
                  go_wp2_with fail
                  refine NNJ.out.mono ?_
                  rintro e1 w1 ⟨rfl, hb1⟩
                  have HDB1 := Lib.hid (HDB.out.stay hb1)
                  have HT1 := Lib.hid (HT.out.trans (Touch.of_below hb1))
                  clear u0 u1 u2 u3 u4 f1 f2 f3
                  go_wp2_with fail
                  refine (HHJ.out _ HDB1.out).mono ?_
                  rintro e2 w2 ⟨⟨rfl, hdb2⟩, ht2⟩
                  have HDB2 := Lib.hid hdb2
                  have HT2 := Lib.hid (HT1.out.trans ht2)
                  clear hdb2 ht2
                  go_wp2_with fail
                  refine (BBJ.out _ HDB2.out).mono ?_
                  rintro e3 w3 ⟨⟨rfl, hdb3⟩, ht3⟩
                  have HDB3 := Lib.hid hdb3
                  have HT3 := Lib.hid (HT2.out.trans ht3)
                  obtain ⟨u0, u1, u2, u3, u4, f1, f2, f3⟩ := HDB3.out.cells
                  clear hdb3 ht3
                  go_wp2_with fail
                  refine (TXJ.out _ HT3.out).mono ?_
                  rintro e4 w4 ⟨rfl, hb4⟩
                  have HDB4 := Lib.hid (HDB3.out.stay hb4)
                  have HT4 := Lib.hid (HT3.out.trans (Touch.of_below hb4))
                  clear u0 u1 u2 u3 u4 f1 f2 f3
                  obtain ⟨u0, u1, u2, u3, u4, f1, f2, f3⟩ := HDB4.out.cells
                  go_wp2_with fail
                  go_roundw
                  case rel => exact ⟨t ++ s.extract x (x + n), none, rfl, ⟨x + n, hn, HDB4.out.setB true, by rw [ByteArray.size_append]; omega, HN.out⟩, HT4.out.cellD _⟩
                  case measure => rw [(HDB4.out.setB true).meas, HM.out]; simp; omega
            · have hne : ((m : Int) == (a : Int)) = false := by simp; omega
              have HN := Lib.hid (show cgChunks s a (s.size + 1) i = none by rw [HCK.out, ck_bad hlt h2 hh (by omega)]; rfl)
              clear HPN HPS NN NY HH BB TX HCK h255 hh h2 TXJ
              go_wp2_with fail
              refine NNJ.out.mono ?_
              rintro e1 w1 ⟨rfl, hb1⟩
              have HDB1 := Lib.hid (HDB.out.stay hb1)
              have HT1 := Lib.hid (HT.out.trans (Touch.of_below hb1))
              clear u0 u1 u2 u3 u4 f1 f2 f3
              go_wp2_with fail
              refine (HHJ.out _ HDB1.out).mono ?_
              rintro e2 w2 ⟨⟨rfl, hdb2⟩, ht2⟩
              have HDB2 := Lib.hid hdb2
              have HT2 := Lib.hid (HT1.out.trans ht2)
              clear hdb2 ht2
              go_wp2_with fail
              refine (BBJ.out _ HDB2.out).mono ?_
              rintro e3 w3 ⟨⟨rfl, hdb3⟩, ht3⟩
              have HDB3 := Lib.hid hdb3
              have HT3 := Lib.hid (HT2.out.trans ht3)
              obtain ⟨u0, u1, u2, u3, u4, f1, f2, f3⟩ := HDB3.out.cells
              clear hdb3 ht3
              go_wp2_with fail
              go_roundw
              case rel => exact ⟨t ++ s.extract x (x + n), none, rfl, ⟨x + n, hn, HDB3.out.setB true, by rw [ByteArray.size_append]; omega, HN.out⟩, HT3.out.cellD _⟩
              case measure => rw [(HDB3.out.setB true).meas, HM.out]; simp; omega
          · have BBJ := Lib.hid (fun W h => show Calls Tryd.prog 207 #[.pointer (some ⟨d, 0, none⟩), .int .u64 n] W (DxRet d s x n true c false W) from by
              have := BB.out x n hq2 hq3 false W h
              rw [decide_eq_false hn] at this; exact this)
            have h0z : ByteArray.size ⟨#[]⟩ = 0 := rfl
            have TXJ := Lib.hid (fun W hT => TX.out (⟨#[]⟩ : ByteArray) (by omega) W hT)
            have HN := Lib.hid (show cgChunks s a (s.size + 1) i = none by rw [HCK.out, ck_bad hlt h2 hh (by omega)]; rfl)
            clear HPN HPS NN NY HH BB TX HCK h255 hh h2
            by_cases hm : m = a
            · subst hm
              have hne : ((m : Int) == (m : Int)) = true := by simp
              rcases ha with ha | ha
              · have hd3 : ((m : Int) == (3 : Int)) = false := by subst ha; rfl
                clear TXJ ha
                go_wp2_with fail
                refine NNJ.out.mono ?_
                rintro e1 w1 ⟨rfl, hb1⟩
                have HDB1 := Lib.hid (HDB.out.stay hb1)
                have HT1 := Lib.hid (HT.out.trans (Touch.of_below hb1))
                clear u0 u1 u2 u3 u4 f1 f2 f3
                go_wp2_with fail
                refine (HHJ.out _ HDB1.out).mono ?_
                rintro e2 w2 ⟨⟨rfl, hdb2⟩, ht2⟩
                have HDB2 := Lib.hid hdb2
                have HT2 := Lib.hid (HT1.out.trans ht2)
                clear hdb2 ht2
                go_wp2_with fail
                refine (BBJ.out _ HDB2.out).mono ?_
                rintro e3 w3 ⟨⟨rfl, hdb3⟩, ht3⟩
                have HDB3 := Lib.hid hdb3
                have HT3 := Lib.hid (HT2.out.trans ht3)
                obtain ⟨u0, u1, u2, u3, u4, f1, f2, f3⟩ := HDB3.out.cells
                clear hdb3 ht3
                go_wp2_with fail
                go_roundw
                case rel => exact ⟨t ++ ⟨#[]⟩, none, rfl, ⟨x, hq2, HDB3.out, by rw [ByteArray.size_append, h0z]; omega, HN.out⟩, HT3.out⟩
                case measure => rw [HDB3.out.meas, HM.out]; simp; omega
              · have hd3 : ((m : Int) == (3 : Int)) = true := by subst ha; rfl
                clear ha
                generalize txt (⟨#[]⟩ : ByteArray) = bt at TXJ
                cases bt with
                | true =>
                  go_wp2_with fail
                  refine NNJ.out.mono ?_
                  rintro e1 w1 ⟨rfl, hb1⟩
                  have HDB1 := Lib.hid (HDB.out.stay hb1)
                  have HT1 := Lib.hid (HT.out.trans (Touch.of_below hb1))
                  clear u0 u1 u2 u3 u4 f1 f2 f3
                  go_wp2_with fail
                  refine (HHJ.out _ HDB1.out).mono ?_
                  rintro e2 w2 ⟨⟨rfl, hdb2⟩, ht2⟩
                  have HDB2 := Lib.hid hdb2
                  have HT2 := Lib.hid (HT1.out.trans ht2)
                  clear hdb2 ht2
                  go_wp2_with fail
                  refine (BBJ.out _ HDB2.out).mono ?_
                  rintro e3 w3 ⟨⟨rfl, hdb3⟩, ht3⟩
                  have HDB3 := Lib.hid hdb3
                  have HT3 := Lib.hid (HT2.out.trans ht3)
                  obtain ⟨u0, u1, u2, u3, u4, f1, f2, f3⟩ := HDB3.out.cells
                  clear hdb3 ht3
                  go_wp2_with fail
                  refine (TXJ.out _ HT3.out).mono ?_
                  rintro e4 w4 ⟨rfl, hb4⟩
                  have HDB4 := Lib.hid (HDB3.out.stay hb4)
                  have HT4 := Lib.hid (HT3.out.trans (Touch.of_below hb4))
                  clear u0 u1 u2 u3 u4 f1 f2 f3
                  obtain ⟨u0, u1, u2, u3, u4, f1, f2, f3⟩ := HDB4.out.cells
                  go_wp2_with fail
                  go_roundw
                  case rel => exact ⟨t ++ ⟨#[]⟩, none, rfl, ⟨x, hq2, HDB4.out, by rw [ByteArray.size_append, h0z]; omega, HN.out⟩, HT4.out⟩
                  case measure => rw [HDB4.out.meas, HM.out]; simp; omega
                | false =>
                  go_wp2_with fail
                  refine NNJ.out.mono ?_
                  rintro e1 w1 ⟨rfl, hb1⟩
                  have HDB1 := Lib.hid (HDB.out.stay hb1)
                  have HT1 := Lib.hid (HT.out.trans (Touch.of_below hb1))
                  clear u0 u1 u2 u3 u4 f1 f2 f3
                  go_wp2_with fail
                  refine (HHJ.out _ HDB1.out).mono ?_
                  rintro e2 w2 ⟨⟨rfl, hdb2⟩, ht2⟩
                  have HDB2 := Lib.hid hdb2
                  have HT2 := Lib.hid (HT1.out.trans ht2)
                  clear hdb2 ht2
                  go_wp2_with fail
                  refine (BBJ.out _ HDB2.out).mono ?_
                  rintro e3 w3 ⟨⟨rfl, hdb3⟩, ht3⟩
                  have HDB3 := Lib.hid hdb3
                  have HT3 := Lib.hid (HT2.out.trans ht3)
                  obtain ⟨u0, u1, u2, u3, u4, f1, f2, f3⟩ := HDB3.out.cells
                  clear hdb3 ht3
                  go_wp2_with fail
                  refine (TXJ.out _ HT3.out).mono ?_
                  rintro e4 w4 ⟨rfl, hb4⟩
                  have HDB4 := Lib.hid (HDB3.out.stay hb4)
                  have HT4 := Lib.hid (HT3.out.trans (Touch.of_below hb4))
                  clear u0 u1 u2 u3 u4 f1 f2 f3
                  obtain ⟨u0, u1, u2, u3, u4, f1, f2, f3⟩ := HDB4.out.cells
                  go_wp2_with fail
                  go_roundw
                  case rel => exact ⟨t ++ ⟨#[]⟩, none, rfl, ⟨x, hq2, HDB4.out.setB true, by rw [ByteArray.size_append, h0z]; omega, HN.out⟩, HT4.out.cellD _⟩
                  case measure => rw [(HDB4.out.setB true).meas, HM.out]; simp; omega
            · have hne : ((m : Int) == (a : Int)) = false := by simp; omega
              clear TXJ
              go_wp2_with fail
              refine NNJ.out.mono ?_
              rintro e1 w1 ⟨rfl, hb1⟩
              have HDB1 := Lib.hid (HDB.out.stay hb1)
              have HT1 := Lib.hid (HT.out.trans (Touch.of_below hb1))
              clear u0 u1 u2 u3 u4 f1 f2 f3
              go_wp2_with fail
              refine (HHJ.out _ HDB1.out).mono ?_
              rintro e2 w2 ⟨⟨rfl, hdb2⟩, ht2⟩
              have HDB2 := Lib.hid hdb2
              have HT2 := Lib.hid (HT1.out.trans ht2)
              clear hdb2 ht2
              go_wp2_with fail
              refine (BBJ.out _ HDB2.out).mono ?_
              rintro e3 w3 ⟨⟨rfl, hdb3⟩, ht3⟩
              have HDB3 := Lib.hid hdb3
              have HT3 := Lib.hid (HT2.out.trans ht3)
              obtain ⟨u0, u1, u2, u3, u4, f1, f2, f3⟩ := HDB3.out.cells
              clear hdb3 ht3
              go_wp2_with fail
              go_roundw
              case rel => exact ⟨t ++ ⟨#[]⟩, none, rfl, ⟨x, hq2, HDB3.out.setB true, by rw [ByteArray.size_append, h0z]; omega, HN.out⟩, HT3.out.cellD _⟩
              case measure => rw [(HDB3.out.setB true).meas, HM.out]; simp; omega
def DkLoop (g : Nat → Nat → MG) (k i l j : Nat) (us : List V) (st : Option (Nat × Nat)) : Prop := match st with
  | some q => mgKids g j i l = some (us, q.1, q.2)
  | none => mgKids g k i l = none
set_option maxHeartbeats 4000000 in
theorem dmany_any (w0 : World) (d : Nat) (hd0 : w0.heap.size ≤ d) (s : ByteArray) (hs : s.size ≤ 1048576) (lo : Bool) (g : Nat → Nat → MG) (hg : ∀ i l, CGood s i l (g i l)) (deep : Int)
    (hV : ∀ (i l : Nat) (W : World), i ≤ s.size → l ≤ 1204 → Below w0.heap.size w0 W → DB W d s i lo (1204 - (l : Int)) false → Calls Tryd.prog 137 #[.pointer (some ⟨d, 0, none⟩), .int .i64 deep] W (DmRet d s lo (g i l) W))
    (k i l : Nat) (hi : i ≤ s.size) (hl : l ≤ 1204) (hk : k < 18446744073709551616) (w : World) (hw : Below w0.heap.size w0 w) (h : DB w d s i lo (1204 - (l : Int)) false) :
    Calls Tryd.prog 208 #[.pointer (some ⟨d, 0, none⟩), .int .u64 k, .int .i64 deep] w (DkRet d s lo (mgKids g k i l) w) := by
  have hdw := lt_of_heap h
  have HU := Lib.hid h
  have HV := Lib.hid (fun (i l : Nat) (W : World) (h1 : i ≤ s.size) (h2 : l ≤ 1204) (hT : Touch (fun x => x = d) (fun x => x = d) w W) => hV i l W h1 h2 (hw.trans (hT.below (fun x hx => by omega) hw.size)))
  have HKG := Lib.hid (fun (j : Nat) => (mgKids_cgood hg j i l hi))
  have HST := Lib.hid (fun (j : Nat) (h : mgKids g j i l = none) (hj : j ≤ k) => mgKids_none h hj)
  have HSM := Lib.hid (fun (j : Nat) (p) (h : mgKids g j i l = some p) (q) (hq : g p.2.1 p.2.2 = some q) => mgKids_some h hq)
  have HSP := Lib.hid (fun (j : Nat) (p) (h : mgKids g j i l = some p) (hq : g p.2.1 p.2.2 = none) => mgKids_stop h hq)
  have HFIN := Lib.hid (show ∀ (us : List V) (sl : Value) (st : Option (Nat × Nat)) (w' : World), DkLoop g k i l k us st → OwnS w' (fun x => w.heap.size ≤ x) sl us → DmSt d s lo st w' → Touch (fun x => x = d) (fun x => x = d) w w' → DkRet d s lo (mgKids g k i l) w (.returned sl) w' from
    fun us sl st w' h1 h2 h3 h4 => by
      cases st with
      | some q => rw [show mgKids g k i l = some (us, q.1, q.2) from h1]; exact ⟨us, sl, rfl, h2, (fun q' e => by injection e with e; rw [← e]), h3, h4⟩
      | none => rw [show mgKids g k i l = none from h1]; exact ⟨us, sl, rfl, h2, (fun q' e => by cases e), h3, h4⟩)
  have HL0 := Lib.hid (show DkLoop g k i l 0 [] (some (i, l)) from rfl)
  clear hV hg h hw
  go_enter Tryd.func208, Tryd.ntmps208
  go_wp2_with fail
  go_loopw [1, 7] (fun n o wr => ∃ (j : Nat) (us : List V) (G : Nat → Prop) (st : Option (Nat × Nat)), j ≤ k ∧ n = .int .u64 ((k : Int) - j) ∧ VRows wr w.heap.size 26 G o us ∧ us.length = j ∧ DkLoop g k i l j us st ∧ DmSt d s lo st wr ∧ Touch (fun x => x = d) (fun x => x = d) w wr) (fun n _ _ => (intOf n).toNat)
  case atStart => exact ⟨0, [], _, some (i, l), by omega, by simp, VRows.made0 (Nat.le_refl _) (heap_alloc_new w _), rfl, HL0.out, HU.out.stay ((Below.refl _ _).alloc (Nat.le_refl _) _), Touch.of_below ((Below.refl _ _).alloc (Nat.le_refl _) _)⟩
  case round =>
    obtain ⟨j, us, G, st, hj, rfl, hrow, hlen, hlp, hst, htw⟩ := hrel
    have hzw := htw.size
    have hdr := hst.lt
    have HR := Lib.hid hrow
    have HT := Lib.hid htw
    have HS := Lib.hid hst
    have HLP := Lib.hid hlp
    obtain ⟨oa, on, oc, rfl⟩ := hrow.slice3
    clear hrow htw hlp
    cases st with
    | none =>
      obtain ⟨p, c, hp, hub⟩ := hst
      obtain ⟨u0, u1, u2, u3, u4, f1, f2, f3⟩ := hub.cells
      have hjk : j = k ∨ j < k := by omega
      have HF := Lib.hid (HFIN.out us (.slice oa on oc) none wr HLP.out HR.out.own HS.out HT.out)
      clear HFIN HL0 HSP HSM HST HKG HV
      rcases hjk with rfl | hlt
      · have t1 : decide ((0 : Int) < (j : Int) - j) = false := decide_eq_false (by omega)
        go_wp2_with fail
        go_ret
        exact HF.out
      · have t1 : decide ((0 : Int) < (k : Int) - j) = true := decide_eq_true (by omega)
        go_wp2_with fail
        go_ret
        exact HF.out
    | some q =>
      obtain ⟨ij, lj⟩ := q
      obtain ⟨u0, u1, u2, u3, u4, f1, f2, f3⟩ := (show DB wr d s ij lo (1204 - (lj : Int)) false from hst).cells
      have hgg := (HKG.out j).1 us ij lj HLP.out
      obtain ⟨hg1, hg2, hg3, hg4⟩ := hgg
      clear hg4
      have hln := szs_length us
      by_cases hlt : j < k
      · have t1 : decide ((0 : Int) < (k : Int) - j) = true := decide_eq_true (by omega)
        have VJ := Lib.hid (fun (W : World) (hW : Below wr.heap.size wr W) => HV.out ij lj W hg2 (by omega) (HT.out.trans (Touch.of_below hW)) (DB.stay (show DB wr d s ij lo (1204 - (lj : Int)) false from HS.out) hW))
        have HN := Lib.hid (show ∀ t, (∀ q, g ij lj = some q → t = q.1) → DkLoop g k i l (j + 1) (us ++ [t]) ((g ij lj).map (·.2)) from fun t ht => by
          cases hgs : g ij lj with
          | none => exact HST.out (j + 1) (HSP.out j _ HLP.out hgs) (by omega)
          | some q => rw [ht q hgs]; exact HSM.out j _ HLP.out _ hgs)
        generalize g ij lj = og at *
        clear HFIN HL0 HSP HSM HST HKG HV
        go_wp2_with fail
        refine (VJ.out _ ((by (with_reducible (repeat' (first | exact Below.refl _ _ | refine below_alloc ?_ _ ?_ | refine Below.setCell ?_ ?_ _ | refine Below.drew ?_ | refine below_drewN ?_ _ | refine below_step ?_ (by assumption) ?_ | refine below_mark ?_ (by assumption) ?_))); all_goals (first | omega | (simp; done) | (simp; omega))))).mono ?_
        rintro x w5 ⟨t, sl, rfl, twf, tow, htq, hst5, ht5⟩
        obtain ⟨ua, un, uc, rfl⟩ : ∃ sa sn sc, sl = .slice sa sn sc := by obtain ⟨p, q, e⟩ := tow.slice; exact ⟨p, _, q, e⟩
        unfold V.agg
        have hz5 := ht5.size
        have HWF := Lib.hid twf
        have HO := Lib.hid tow.bound
        have HT5 := Lib.hid ht5
        have HS5 := Lib.hid hst5
        have HL1 := Lib.hid (HN.out t htq)
        have HR5 := Lib.hid (show VRows w5 w.heap.size 26 G (.slice oa on oc) us from rows_over HR.out ht5 hdw)
        clear tow twf VJ ht5 hst5 htq HN
        go_wp2_with (at_builtin; refine app_own rfl _ _ rfl w.heap.size G (fun x => wr.heap.size ≤ x ∧ x < w5.heap.size) _ us rfl ((HR5.out.keep ((by (with_reducible (repeat' (first | exact Below.refl _ _ | refine below_alloc ?_ _ ?_ | refine Below.setCell ?_ ?_ _ | refine Below.drew ?_ | refine below_drewN ?_ _ | refine below_step ?_ (by assumption) ?_ | refine below_mark ?_ (by assumption) ?_))); all_goals (first | omega | (simp; done) | (simp; omega)))))) t (.slice ua un uc) _ rfl (by first | exact heap_alloc_here _ (by simp) | exact heap_alloc_here _ rfl | exact heap_alloc_new _ _) HWF.out (OwnS.keep HO.out (fun x hx hxs => (heap_alloc_old _ _ hxs))) (fun x hx => by have h1 := hx.1; have h2 := hx.2; exact ⟨by omega, by simp; omega, fun hG => by have := (HR.out.inG x hG).2; omega, fun e => by have := (HR.out.lt x e).2; omega⟩) (by omega) (by simp; omega) ?_; intro v2 w2 hrow2 hg2 hfr2; obtain ⟨va, vn, vc, rfl⟩ := hrow2.slice3; have HG2 := Lib.hid hg2; have HR2 := Lib.hid hrow2; clear hrow2 hg2 hfr2)
        go_roundw
        case rel =>
          refine ⟨j + 1, _, _, _, by omega, by first | (go_num; done) | (congr 1; have := u64w ((k : Int) - j - 1) (by omega) (by omega); rw [this]; omega) | (congr 1; omega), HR2.out, by simp [hlen], HL1.out, HS5.out.keep ?_, ?_⟩
          · rw [HG2.out.block d (by simp; omega) (fun e => by have := (HR.out.lt d e.symm).1; omega)]
            exact heap_alloc_old _ _ HS5.out.lt
          · exact touch_grown ((HT.out.trans HT5.out).trans (Touch.of_below ((by (with_reducible (repeat' (first | exact Below.refl _ _ | refine below_alloc ?_ _ ?_ | refine Below.setCell ?_ ?_ _ | refine Below.drew ?_ | refine below_drewN ?_ _ | refine below_step ?_ (by assumption) ?_ | refine below_mark ?_ (by assumption) ?_))); all_goals (first | omega | (simp; done) | (simp; omega)))))) HG2.out (Nat.le_refl _) (fun x hx => (HR.out.lt x hx).1)
        case measure => simp [intOf]; omega
      · obtain rfl : j = k := by omega
        have t1 : decide ((0 : Int) < (j : Int) - j) = false := decide_eq_false (by omega)
        have HF := Lib.hid (HFIN.out us (.slice oa on oc) (some (ij, lj)) wr HLP.out HR.out.own HS.out HT.out)
        clear HFIN HL0 HSP HSM HST HKG HV
        go_wp2_with fail
        go_ret
        exact HF.out
def DuLoop (d : Nat) (s : ByteArray) (lo : Bool) (g : Nat → Nat → MG) (i l : Nat) (us : List V) (st : Option (Nat × Nat × Nat)) (w : World) : Prop := match st with
  | some q => DB w d s q.1 lo (1204 - (q.2.1 : Int)) false ∧ q.1 ≤ s.size ∧ s.size + 1 ≤ q.2.2 + q.1 ∧ szs us ≤ q.1 ∧ q.2.1 ≤ 1204 ∧ cgUpto s g (s.size + 1) i l = (cgUpto s g q.2.2 q.1 q.2.1).map (fun p => (us ++ p.1, p.2))
  | none => ∃ p c, p ≤ s.size ∧ DB w d s p lo c true ∧ cgUpto s g (s.size + 1) i l = none
theorem DuLoop.lt {d : Nat} {s : ByteArray} {lo : Bool} {g : Nat → Nat → MG} {i l : Nat} {us : List V} {st : Option (Nat × Nat × Nat)} {w : World} (h : DuLoop d s lo g i l us st w) : d < w.heap.size := by
  cases st with
  | some q => exact lt_of_heap h.1
  | none => obtain ⟨p, c, h1, h2, h3⟩ := h; exact lt_of_heap h2
theorem DuLoop.keep {d : Nat} {s : ByteArray} {lo : Bool} {g : Nat → Nat → MG} {i l : Nat} {us : List V} {st : Option (Nat × Nat × Nat)} {w w' : World} (h : DuLoop d s lo g i l us st w) (hb : w'.heap[d]? = w.heap[d]?) : DuLoop d s lo g i l us st w' := by
  cases st with
  | some q => exact ⟨hb.trans h.1, h.2⟩
  | none => obtain ⟨p, c, h1, h2, h3⟩ := h; exact ⟨p, c, h1, hb.trans h2, h3⟩
def duM (s : ByteArray) : Option (Nat × Nat × Nat) → Nat
  | some q => s.size + 1 - q.1
  | none => 0
theorem DuLoop.meas {d : Nat} {s : ByteArray} {lo : Bool} {g : Nat → Nat → MG} {i l : Nat} {us : List V} {st : Option (Nat × Nat × Nat)} {w : World} (h : DuLoop d s lo g i l us st w) : dMeas d s w = duM s st := by
  cases st with
  | some q => rw [h.1.meas]; simp [duM]
  | none => obtain ⟨p, c, h1, h2, h3⟩ := h; rw [h2.meas]; simp [duM]
set_option maxHeartbeats 4000000 in
theorem upTo_any (w0 : World) (d : Nat) (hd0 : w0.heap.size ≤ d) (s : ByteArray) (hs : s.size ≤ 1048576) (g : Nat → Nat → MG) (hg : ∀ i l, CGood s i l (g i l)) (deep : Int)
    (hV : ∀ (i l : Nat) (W : World), i ≤ s.size → l ≤ 1204 → Below w0.heap.size w0 W → DB W d s i true (1204 - (l : Int)) false → Calls Tryd.prog 137 #[.pointer (some ⟨d, 0, none⟩), .int .i64 deep] W (DmRet d s true (g i l) W))
    (i l : Nat) (hi : i ≤ s.size) (hl : l ≤ 1204) (w : World) (hw : Below w0.heap.size w0 w) (h : DB w d s i true (1204 - (l : Int)) false) :
    Calls Tryd.prog 259 #[.pointer (some ⟨d, 0, none⟩), .int .i64 deep] w (DkRet d s true (cgUpto s g (s.size + 1) i l) w) := by
  have hdw := lt_of_heap h
  have HU := Lib.hid h
  have HV := Lib.hid (fun (i l : Nat) (W : World) (h1 : i ≤ s.size) (h2 : l ≤ 1204) (hT : Touch (fun x => x = d) (fun x => x = d) w W) => hV i l W h1 h2 (hw.trans (hT.below (fun x hx => by omega) hw.size)))
  have HCG := Lib.hid hg
  have HK0 := Lib.hid (show cgUpto s g (s.size + 1) i l = (cgUpto s g (s.size + 1) i l).map fun p => (([] : List V) ++ p.1, p.2) by cases cgUpto s g (s.size + 1) i l with
    | none => rfl
    | some p => rfl)
  have HPN := Lib.hid (fun (us : List V) (sl : Value) (w' : World) (h : cgUpto s g (s.size + 1) i l = none) (ho : OwnS w' (fun x => w.heap.size ≤ x) sl us) (hst : DmSt d s true none w') (hT : Touch (fun x => x = d) (fun x => x = d) w w') => show DkRet d s true (cgUpto s g (s.size + 1) i l) w (.returned sl) w' by
    rw [h]; exact ⟨us, sl, rfl, ho, (fun q e => by cases e), hst, hT⟩)
  have HPS := Lib.hid (fun (us : List V) (j m : Nat) (sl : Value) (w' : World) (h : cgUpto s g (s.size + 1) i l = some (us, j, m)) (ho : OwnS w' (fun x => w.heap.size ≤ x) sl us) (hst : DmSt d s true (some (j, m)) w') (hT : Touch (fun x => x = d) (fun x => x = d) w w') => show DkRet d s true (cgUpto s g (s.size + 1) i l) w (.returned sl) w' by
    rw [h]; exact ⟨us, sl, rfl, ho, (fun q e => by injection e with e; rw [← e]), hst, hT⟩)
  have NN := Lib.hid (fun (j : Nat) (c : Int) (hj : j ≤ s.size) (W : World) (h : DB W d s j true c false) (hn : ∀ hi : j < s.size, s[j].toNat ≠ 255) => next_no d s hs j hj true c false 255 W h (.inr (.inr hn)))
  have NY := Lib.hid (fun (j : Nat) (c : Int) (hj : j < s.size) (W : World) (h : DB W d s j true c false) (hn : s[j].toNat = 255) => next_yes d s hs j hj c 255 W h hn)
  clear hV hg h hw
  go_enter Tryd.func259, Tryd.ntmps259
  go_wp2_with fail
  go_loopw [5] (fun o wr => ∃ (us : List V) (G : Nat → Prop) (st : Option (Nat × Nat × Nat)), VRows wr w.heap.size 26 G o us ∧ DuLoop d s true g i l us st wr ∧ Touch (fun x => x = d) (fun x => x = d) w wr) (fun _ wr => dMeas d s wr)
  case atStart => exact ⟨[], _, some (i, l, s.size + 1), VRows.made0 (Nat.le_refl _) (heap_alloc_new w _), ⟨HU.out.stay ((Below.refl _ _).alloc (Nat.le_refl _) _), hi, by simp, by rw [szs]; omega, hl, HK0.out⟩, Touch.of_below ((Below.refl _ _).alloc (Nat.le_refl _) _)⟩
  case round =>
    obtain ⟨us, G, st, hrow, hlp, htw⟩ := hrel
    have hzw := htw.size
    have hdr := hlp.lt
    have HR := Lib.hid hrow
    have HT := Lib.hid htw
    have HM := Lib.hid hlp.meas
    obtain ⟨oa, on, oc, rfl⟩ := hrow.slice3
    clear hrow htw
    cases st with
    | none =>
      obtain ⟨p, c, hp, hub, hck⟩ := hlp
      obtain ⟨u0, u1, u2, u3, u4, f1, f2, f3⟩ := hub.cells
      have HF := Lib.hid (HPN.out us (.slice oa on oc) wr hck HR.out.own ⟨p, c, hp, hub⟩ HT.out)
      clear HPN HPS HK0 NN NY HV HCG hck hub
      go_wp2_with fail
      go_ret
      exact HF.out
    | some q =>
      obtain ⟨ij, lj, f⟩ := q
      obtain ⟨hdb, hij, hf, hsz, hlj, hck⟩ := hlp
      simp only at hdb hij hf hsz hlj hck
      have HDB := Lib.hid hdb
      have HCK := Lib.hid hck
      obtain ⟨f, rfl⟩ : ∃ f', f = f' + 1 := ⟨f - 1, by omega⟩
      obtain ⟨u0, u1, u2, u3, u4, f1, f2, f3⟩ := hdb.cells
      have hln := szs_length us
      clear hdb hck
      by_cases h255 : ∃ hlt : ij < s.size, s[ij].toNat = 255
      · obtain ⟨hlt, h255⟩ := h255
        have HP := Lib.hid (show cgUpto s g (s.size + 1) i l = some (us ++ [], ij + 1, lj) by rw [HCK.out, cu_stop hlt h255]; rfl)
        rw [List.append_nil] at HP
        have NYJ := Lib.hid (NY.out ij _ hlt wr HDB.out h255)
        clear HPN NN NY HV HCG HCK h255 HK0
        go_wp2_with fail
        refine NYJ.out.mono ?_
        rintro e1 w1 ⟨rfl, hdb1, ht1⟩
        have HX := Lib.hid (HPS.out us (ij + 1) lj (.slice oa on oc) w1 HP.out (rows_over HR.out ht1 hdw).own hdb1 (HT.out.trans ht1))
        go_wp2_with fail
        go_ret
        exact HX.out
      · have NNJ := Lib.hid (NN.out ij _ hij wr HDB.out (fun hlt e => h255 ⟨hlt, e⟩))
        have VJ := Lib.hid (fun (W : World) (hW : Below wr.heap.size wr W) => HV.out ij lj W hij hlj (HT.out.trans (Touch.of_below hW)) (DB.stay (show DB wr d s ij true (1204 - (lj : Int)) false from HDB.out) hW))
        have HN := Lib.hid (show ∀ t W, (∀ q, g ij lj = some q → t = q.1) → DmSt d s true ((g ij lj).map (·.2)) W → ∃ st', DuLoop d s true g i l (us ++ [t]) st' W ∧ dMeas d s W < s.size + 1 - ij from fun t W ht hS => by
          cases hgs : g ij lj with
          | none =>
            rw [hgs] at hS
            obtain ⟨p, c, hp, hub⟩ := hS
            refine ⟨none, ⟨p, c, hp, hub, ?_⟩, by rw [hub.meas]; simp; omega⟩
            rw [HCK.out]
            by_cases hlt : ij < s.size
            · rw [cu_none hlt (fun e => h255 ⟨hlt, e⟩) hgs]; rfl
            · rw [cu_end hlt]; rfl
          | some q =>
            obtain ⟨u, iq, lq⟩ := q
            obtain rfl : t = u := ht _ hgs
            rw [hgs] at hS
            have hgd := HCG.out ij lj t iq lq hgs
            obtain ⟨hg1, hg2, hg3, hg4, hg5⟩ := hgd
            have hlt : ij < s.size := by omega
            have hS' : DB W d s iq true (1204 - (lq : Int)) false := hS
            refine ⟨some (iq, lq, f), ⟨hS', hg2, by simp only; omega, by rw [szs_append', szs, szs]; simp only; omega, by simp only; omega, ?_⟩, by rw [hS'.meas]; simp; omega⟩
            rw [HCK.out, cu_ok hlt (fun e => h255 ⟨hlt, e⟩) hgs, cu_go])
        generalize g ij lj = og at *
        clear HPN HPS HK0 NN NY HV HCG HCK h255
        go_wp2_with fail
        refine NNJ.out.mono ?_
        rintro e1 w1 ⟨rfl, hb1⟩
        have hz1 := hb1.size
        have HT1 := Lib.hid (HT.out.trans (Touch.of_below hb1))
        have HR1 := Lib.hid (HR.out.keep hb1)
        clear u0 u1 u2 u3 u4 f1 f2 f3
        go_wp2_with fail
        refine (VJ.out _ hb1).mono ?_
        rintro x w5 ⟨t, sl, rfl, twf, tow, htq, hst5, ht5⟩
        obtain ⟨ua, un, uc, rfl⟩ : ∃ sa sn sc, sl = .slice sa sn sc := by obtain ⟨p, q, e⟩ := tow.slice; exact ⟨p, _, q, e⟩
        unfold V.agg
        have hz5 := ht5.size
        have HWF := Lib.hid twf
        have HO := Lib.hid tow.bound
        have HT5 := Lib.hid (HT1.out.trans ht5)
        have HS5 := Lib.hid (show DmSt d s true (og.map (·.2)) w5 from hst5)
        have HTQ := Lib.hid htq
        have HR5 := Lib.hid (show VRows w5 w.heap.size 26 G (.slice oa on oc) us from rows_over HR1.out ht5 hdw)
        clear tow twf VJ ht5 hst5 htq
        go_wp2_with (at_builtin; refine app_own rfl _ _ rfl w.heap.size G (fun x => w1.heap.size ≤ x ∧ x < w5.heap.size) _ us rfl ((HR5.out.keep ((by (with_reducible (repeat' (first | exact Below.refl _ _ | refine below_alloc ?_ _ ?_ | refine Below.setCell ?_ ?_ _ | refine Below.drew ?_ | refine below_drewN ?_ _ | refine below_step ?_ (by assumption) ?_ | refine below_mark ?_ (by assumption) ?_))); all_goals (first | omega | (simp; done) | (simp; omega)))))) t (.slice ua un uc) _ rfl (by first | exact heap_alloc_here _ (by simp) | exact heap_alloc_here _ rfl | exact heap_alloc_new _ _) HWF.out (OwnS.keep HO.out (fun x hx hxs => (heap_alloc_old _ _ hxs))) (fun x hx => by have h1 := hx.1; have h2 := hx.2; exact ⟨by omega, by simp; omega, fun hG => by have := (HR.out.inG x hG).2; omega, fun e => by have := (HR.out.lt x e).2; omega⟩) (by omega) (by simp; omega) ?_; intro v2 w2 hrow2 hg2 hfr2; obtain ⟨va, vn, vc, rfl⟩ := hrow2.slice3; have HG2 := Lib.hid hg2; have HR2 := Lib.hid hrow2; clear hrow2 hg2 hfr2)
        have HB2 := Lib.hid (show w2.heap[d]? = w5.heap[d]? from by
          rw [HG2.out.block d (by simp; have := HS5.out.lt; omega) (fun e => by have := (HR.out.lt d e.symm).1; omega)]
          exact heap_alloc_old _ _ HS5.out.lt)
        have HX := Lib.hid (HN.out t w2 HTQ.out (HS5.out.keep HB2.out))
        go_roundw
        case rel =>
          obtain ⟨st', h1, h2⟩ := HX.out
          exact ⟨_, _, st', HR2.out, h1, touch_grown (HT5.out.trans (Touch.of_below ((by (with_reducible (repeat' (first | exact Below.refl _ _ | refine below_alloc ?_ _ ?_ | refine Below.setCell ?_ ?_ _ | refine Below.drew ?_ | refine below_drewN ?_ _ | refine below_step ?_ (by assumption) ?_ | refine below_mark ?_ (by assumption) ?_))); all_goals (first | omega | (simp; done) | (simp; omega)))))) HG2.out (Nat.le_refl _) (fun x hx => (HR.out.lt x hx).1)⟩
        case measure =>
          obtain ⟨st', h1, h2⟩ := HX.out
          rw [HM.out]; exact h2
end Go.Proofs.YtgbgeocmjdgmoaaDoor
namespace Go.Proofs.YtgbgeocmjdgmoaaDoor
set_option linter.unusedSimpArgs false
set_option linter.unusedVariables false
set_option maxRecDepth 100000
open Go.RowKit
theorem vb_set5' {B : Nat} {w w' : World} (h : Below B w w') (c : Nat) (hc : B ≤ c) (v0 v1 v2 v3 v4 : Value) : Below B w (set5 w' c v0 v1 v2 v3 v4) := by
  unfold Go.Proofs.YtgbgeocmjdgmoaaDoor.set5
  exact ((((h.setCell (p := ⟨c, _, none⟩) hc _).setCell (p := ⟨c, _, none⟩) hc _).setCell (p := ⟨c, _, none⟩) hc _).setCell (p := ⟨c, _, none⟩) hc _).setCell (p := ⟨c, _, none⟩) hc _
def DlRet (d : Nat) (s : ByteArray) (i : Nat) (lo : Bool) (c : Int) (o : MG) (w : World) (e : Ending) (w' : World) : Prop :=
  ∃ t : V, e = .returned (t.agg (.slice none 0 0)) ∧ t.wf ∧ t.kids = [] ∧ (∀ q, o = some q → t = q.1) ∧ DB w' d s i lo c o.isNone ∧ Touch (fun x => x = d) (fun x => x = d) w w'
theorem dl_none {d : Nat} {s : ByteArray} {i : Nat} {lo : Bool} {c : Int} {w W6 : World} (hb : DB W6 d s i lo c true) (hT : Touch (fun x => x = d) (fun x => x = d) w W6) :
    DlRet d s i lo c none w (.returned (.agg #[.int .i64 0, .int .i64 0, .int .i64 0, .string ⟨#[]⟩, .slice none 0 0])) W6 :=
  ⟨.mk 0 0 0 ⟨#[]⟩ [], rfl, ⟨in0, in0, in0, by show ByteArray.size ⟨#[]⟩ ≤ _; simp [ByteArray.size]⟩, rfl, (fun q e => by cases e), hb, hT⟩
theorem dl_leaf {d : Nat} {s : ByteArray} {i : Nat} {lo : Bool} {c : Int} {w W6 : World} {k n : Int} {x l : Nat} (hk : In64 k) (hn : In64 n) (hb : DB W6 d s i lo c false) (hT : Touch (fun x => x = d) (fun x => x = d) w W6) :
    DlRet d s i lo c (mgLeaf k n 0 x l) w (.returned (.agg #[.int .i64 k, .int .i64 n, .int .i64 0, .string ⟨#[]⟩, .slice none 0 0])) W6 :=
  ⟨.mk k n 0 ⟨#[]⟩ [], rfl, ⟨hk, hn, in0, by show ByteArray.size ⟨#[]⟩ ≤ _; simp [ByteArray.size]⟩, rfl, (fun q e => by have e8 : some (V.mk k n 0 ⟨#[]⟩ [], (x, l)) = some q := e; injection e8 with e8; rw [← e8]), hb, hT⟩
set_option maxHeartbeats 4000000 in
theorem number_any (d : Nat) (s : ByteArray) (i : Nat) (lo : Bool) (c : Int) (a n x l : Nat) (ha : a ≤ 1) (hn : n < 18446744073709551616) (w : World) (h : DB w d s i lo c false) :
    Calls Tryd.prog 206 #[.pointer (some ⟨d, 0, none⟩), .int .i64 a, .int .u64 n] w (DlRet d s i lo c (if 9223372036854775807 < n then none else mgLeaf 3 (if a = 1 then -1 - (n : Int) else n) 0 x l) w) := by
  have hdw := lt_of_heap h
  have HU := Lib.hid h
  obtain ⟨u0, u1, u2, u3, u4, f1, f2, f3⟩ := h.cells
  have hd1 : d ≠ w.heap.size := by omega
  have hd2 : w.heap.size ≠ d := by omega
  have BZ := Lib.hid (Box.new w 0 0 0 ⟨#[]⟩ (.slice none 0 0) 26)
  obtain ⟨z0, z1, z2, z3, z4⟩ := BZ.out.cells
  have zf0 := BZ.out.free (i := 0); have zf1 := BZ.out.free (i := 1); have zf2 := BZ.out.free (i := 2); have zf3 := BZ.out.free (i := 3); have zf4 := BZ.out.free (i := 4)
  clear h
  by_cases hg : 9223372036854775807 < n
  · rw [if_pos hg]
    have t1 : decide ((9223372036854775807 : Int) < (n : Int)) = true := decide_eq_true (by omega)
    go_enter Tryd.func206, Tryd.ntmps206
    go_wp2_with fail
    refine bodyPost_ret (v := .agg #[.int .i64 0, .int .i64 0, .int .i64 0, .string ⟨#[]⟩, .slice none 0 0]) (by simp [results, Tryd.results206, go_sem]) rfl (dl_none ((HU.out.setB true).stay ((by (with_reducible (repeat' (first | exact Below.refl _ _ | refine below_alloc ?_ _ ?_ | refine Below.setCell ?_ ?_ _ | refine Below.drew ?_ | refine below_drewN ?_ _ | refine below_step ?_ (by assumption) ?_ | refine below_mark ?_ (by assumption) ?_))); all_goals (first | omega | (simp; done) | (simp; omega))))) (((Touch.refl _ w).cellD _).trans (Touch.of_below ((by (with_reducible (repeat' (first | exact Below.refl _ _ | refine below_alloc ?_ _ ?_ | refine Below.setCell ?_ ?_ _ | refine Below.drew ?_ | refine below_drewN ?_ _ | refine below_step ?_ (by assumption) ?_ | refine below_mark ?_ (by assumption) ?_))); all_goals (first | omega | (simp; done) | (simp; omega)))))))
  · rw [if_neg hg]
    have t1 : decide ((9223372036854775807 : Int) < (n : Int)) = false := decide_eq_false (by omega)
    have hcv : wrap64 (n : Int) = n := by unfold wrap64; omega
    have ha2 : a = 0 ∨ a = 1 := by omega
    rcases ha2 with rfl | rfl
    · rw [if_neg (by omega)]
      go_enter Tryd.func206, Tryd.ntmps206
      go_wp2_with fail
      refine bodyPost_ret (v := .agg #[.int .i64 3, .int .i64 (n : Int), .int .i64 0, .string ⟨#[]⟩, .slice none 0 0]) (by simp [results, Tryd.results206, go_sem]) rfl (dl_leaf in3 (by unfold In64; omega) (HU.out.stay ((by (with_reducible (repeat' (first | exact Below.refl _ _ | refine below_alloc ?_ _ ?_ | refine Below.setCell ?_ ?_ _ | refine Below.drew ?_ | refine below_drewN ?_ _ | refine below_step ?_ (by assumption) ?_ | refine below_mark ?_ (by assumption) ?_))); all_goals (first | omega | (simp; done) | (simp; omega))))) (Touch.of_below ((by (with_reducible (repeat' (first | exact Below.refl _ _ | refine below_alloc ?_ _ ?_ | refine Below.setCell ?_ ?_ _ | refine Below.drew ?_ | refine below_drewN ?_ _ | refine below_step ?_ (by assumption) ?_ | refine below_mark ?_ (by assumption) ?_))); all_goals (first | omega | (simp; done) | (simp; omega))))))
    · rw [if_pos rfl]
      have hw2 : wrap64 (-1 - (n : Int)) = -1 - (n : Int) := by unfold wrap64; omega
      go_enter Tryd.func206, Tryd.ntmps206
      go_wp2_with fail
      refine bodyPost_ret (v := .agg #[.int .i64 3, .int .i64 (-1 - (n : Int)), .int .i64 0, .string ⟨#[]⟩, .slice none 0 0]) (by simp [results, Tryd.results206, go_sem]) rfl (dl_leaf in3 (by unfold In64; omega) (HU.out.stay ((by (with_reducible (repeat' (first | exact Below.refl _ _ | refine below_alloc ?_ _ ?_ | refine Below.setCell ?_ ?_ _ | refine Below.drew ?_ | refine below_drewN ?_ _ | refine below_step ?_ (by assumption) ?_ | refine below_mark ?_ (by assumption) ?_))); all_goals (first | omega | (simp; done) | (simp; omega))))) (Touch.of_below ((by (with_reducible (repeat' (first | exact Below.refl _ _ | refine below_alloc ?_ _ ?_ | refine Below.setCell ?_ ?_ _ | refine Below.drew ?_ | refine below_drewN ?_ _ | refine below_step ?_ (by assumption) ?_ | refine below_mark ?_ (by assumption) ?_))); all_goals (first | omega | (simp; done) | (simp; omega))))))
set_option maxHeartbeats 4000000 in
theorem simple_any (d : Nat) (s : ByteArray) (i : Nat) (lo : Bool) (c : Int) (n x l : Nat) (hn : n < 18446744073709551616) (w : World) (h : DB w d s i lo c false) :
    Calls Tryd.prog 210 #[.pointer (some ⟨d, 0, none⟩), .int .u64 n] w (DlRet d s i lo c (simR lo n x l) w) := by
  have hdw := lt_of_heap h
  have HU := Lib.hid h
  obtain ⟨u0, u1, u2, u3, u4, f1, f2, f3⟩ := h.cells
  have hd1 : d ≠ w.heap.size := by omega
  have hd2 : w.heap.size ≠ d := by omega
  have BZ := Lib.hid (Box.new w 0 0 0 ⟨#[]⟩ (.slice none 0 0) 26)
  obtain ⟨z0, z1, z2, z3, z4⟩ := BZ.out.cells
  have zf0 := BZ.out.free (i := 0); have zf1 := BZ.out.free (i := 1); have zf2 := BZ.out.free (i := 2); have zf3 := BZ.out.free (i := 3); have zf4 := BZ.out.free (i := 4)
  clear h
  by_cases h0 : n = 20
  · subst h0
    show Calls _ _ _ _ (DlRet d s i lo c (mgLeaf 1 0 0 x l) w)
    go_enter Tryd.func210, Tryd.ntmps210
    go_wp2_with fail
    exact bodyPost_ret (v := .agg #[.int .i64 1, .int .i64 0, .int .i64 0, .string ⟨#[]⟩, .slice none 0 0]) (by simp [results, Tryd.results210, go_sem]) rfl (dl_leaf (k64 1 (by omega) (by omega)) in0 (HU.out.stay ((by (with_reducible (repeat' (first | exact Below.refl _ _ | refine below_alloc ?_ _ ?_ | refine Below.setCell ?_ ?_ _ | refine Below.drew ?_ | refine below_drewN ?_ _ | refine below_step ?_ (by assumption) ?_ | refine below_mark ?_ (by assumption) ?_))); all_goals (first | omega | (simp; done) | (simp; omega))))) (Touch.of_below ((by (with_reducible (repeat' (first | exact Below.refl _ _ | refine below_alloc ?_ _ ?_ | refine Below.setCell ?_ ?_ _ | refine Below.drew ?_ | refine below_drewN ?_ _ | refine below_step ?_ (by assumption) ?_ | refine below_mark ?_ (by assumption) ?_))); all_goals (first | omega | (simp; done) | (simp; omega))))))
  by_cases h1 : n = 21
  · subst h1
    show Calls _ _ _ _ (DlRet d s i lo c (mgLeaf 2 0 0 x l) w)
    go_enter Tryd.func210, Tryd.ntmps210
    go_wp2_with fail
    exact bodyPost_ret (v := .agg #[.int .i64 2, .int .i64 0, .int .i64 0, .string ⟨#[]⟩, .slice none 0 0]) (by simp [results, Tryd.results210, go_sem]) rfl (dl_leaf (k64 2 (by omega) (by omega)) in0 (HU.out.stay ((by (with_reducible (repeat' (first | exact Below.refl _ _ | refine below_alloc ?_ _ ?_ | refine Below.setCell ?_ ?_ _ | refine Below.drew ?_ | refine below_drewN ?_ _ | refine below_step ?_ (by assumption) ?_ | refine below_mark ?_ (by assumption) ?_))); all_goals (first | omega | (simp; done) | (simp; omega))))) (Touch.of_below ((by (with_reducible (repeat' (first | exact Below.refl _ _ | refine below_alloc ?_ _ ?_ | refine Below.setCell ?_ ?_ _ | refine Below.drew ?_ | refine below_drewN ?_ _ | refine below_step ?_ (by assumption) ?_ | refine below_mark ?_ (by assumption) ?_))); all_goals (first | omega | (simp; done) | (simp; omega))))))
  by_cases h2 : n = 22
  · subst h2
    show Calls _ _ _ _ (DlRet d s i lo c (mgLeaf 0 0 0 x l) w)
    go_enter Tryd.func210, Tryd.ntmps210
    go_wp2_with fail
    exact bodyPost_ret (v := .agg #[.int .i64 0, .int .i64 0, .int .i64 0, .string ⟨#[]⟩, .slice none 0 0]) (by simp [results, Tryd.results210, go_sem, z0, z1, z2, z3, z4]) rfl (dl_leaf (k64 0 (by omega) (by omega)) in0 (HU.out.stay ((by (with_reducible (repeat' (first | exact Below.refl _ _ | refine below_alloc ?_ _ ?_ | refine Below.setCell ?_ ?_ _ | refine Below.drew ?_ | refine below_drewN ?_ _ | refine below_step ?_ (by assumption) ?_ | refine below_mark ?_ (by assumption) ?_))); all_goals (first | omega | (simp; done) | (simp; omega))))) (Touch.of_below ((by (with_reducible (repeat' (first | exact Below.refl _ _ | refine below_alloc ?_ _ ?_ | refine Below.setCell ?_ ?_ _ | refine Below.drew ?_ | refine below_drewN ?_ _ | refine below_step ?_ (by assumption) ?_ | refine below_mark ?_ (by assumption) ?_))); all_goals (first | omega | (simp; done) | (simp; omega))))))
  by_cases h3 : n = 23
  · subst h3
    cases lo
    · show Calls _ _ _ _ (DlRet d s i false c none w)
      go_enter Tryd.func210, Tryd.ntmps210
      go_wp2_with fail
      exact bodyPost_ret (v := .agg #[.int .i64 0, .int .i64 0, .int .i64 0, .string ⟨#[]⟩, .slice none 0 0]) (by simp [results, Tryd.results210, go_sem]) rfl (dl_none ((HU.out.setB true).stay ((by (with_reducible (repeat' (first | exact Below.refl _ _ | refine below_alloc ?_ _ ?_ | refine Below.setCell ?_ ?_ _ | refine Below.drew ?_ | refine below_drewN ?_ _ | refine below_step ?_ (by assumption) ?_ | refine below_mark ?_ (by assumption) ?_))); all_goals (first | omega | (simp; done) | (simp; omega))))) (((Touch.refl _ w).cellD _).trans (Touch.of_below ((by (with_reducible (repeat' (first | exact Below.refl _ _ | refine below_alloc ?_ _ ?_ | refine Below.setCell ?_ ?_ _ | refine Below.drew ?_ | refine below_drewN ?_ _ | refine below_step ?_ (by assumption) ?_ | refine below_mark ?_ (by assumption) ?_))); all_goals (first | omega | (simp; done) | (simp; omega)))))))
    · show Calls _ _ _ _ (DlRet d s i true c (mgLeaf 0 0 0 x l) w)
      go_enter Tryd.func210, Tryd.ntmps210
      go_wp2_with fail
      exact bodyPost_ret (v := .agg #[.int .i64 0, .int .i64 0, .int .i64 0, .string ⟨#[]⟩, .slice none 0 0]) (by simp [results, Tryd.results210, go_sem, z0, z1, z2, z3, z4]) rfl (dl_leaf (k64 0 (by omega) (by omega)) in0 (HU.out.stay ((by (with_reducible (repeat' (first | exact Below.refl _ _ | refine below_alloc ?_ _ ?_ | refine Below.setCell ?_ ?_ _ | refine Below.drew ?_ | refine below_drewN ?_ _ | refine below_step ?_ (by assumption) ?_ | refine below_mark ?_ (by assumption) ?_))); all_goals (first | omega | (simp; done) | (simp; omega))))) (Touch.of_below ((by (with_reducible (repeat' (first | exact Below.refl _ _ | refine below_alloc ?_ _ ?_ | refine Below.setCell ?_ ?_ _ | refine Below.drew ?_ | refine below_drewN ?_ _ | refine below_step ?_ (by assumption) ?_ | refine below_mark ?_ (by assumption) ?_))); all_goals (first | omega | (simp; done) | (simp; omega))))))
  have HN := Lib.hid (show simR lo n x l = none by unfold simR; rw [if_neg h0, if_neg h1, if_neg (by omega)])
  have t0 : ((n : Int) == 20) = false := by simp; omega
  have t1 : ((n : Int) == 21) = false := by simp; omega
  have t2 : ((n : Int) == 22) = false := by simp; omega
  have t3 : ((n : Int) == 23) = false := by simp; omega
  rw [HN.out]
  clear h0 h1 h2 h3
  go_enter Tryd.func210, Tryd.ntmps210
  go_wp2_with fail
  exact bodyPost_ret (v := .agg #[.int .i64 0, .int .i64 0, .int .i64 0, .string ⟨#[]⟩, .slice none 0 0]) (by simp [results, Tryd.results210, go_sem]) rfl (dl_none ((HU.out.setB true).stay ((by (with_reducible (repeat' (first | exact Below.refl _ _ | refine below_alloc ?_ _ ?_ | refine Below.setCell ?_ ?_ _ | refine Below.drew ?_ | refine below_drewN ?_ _ | refine below_step ?_ (by assumption) ?_ | refine below_mark ?_ (by assumption) ?_))); all_goals (first | omega | (simp; done) | (simp; omega))))) (((Touch.refl _ w).cellD _).trans (Touch.of_below ((by (with_reducible (repeat' (first | exact Below.refl _ _ | refine below_alloc ?_ _ ?_ | refine Below.setCell ?_ ?_ _ | refine Below.drew ?_ | refine below_drewN ?_ _ | refine below_step ?_ (by assumption) ?_ | refine below_mark ?_ (by assumption) ?_))); all_goals (first | omega | (simp; done) | (simp; omega)))))))

def DoRet (d : Nat) (s : ByteArray) (lo : Bool) (o : MG) (w : World) (e : Ending) (w' : World) : Prop :=
  ∃ (t : V) (sl : Value), e = .returned (.tuple #[t.agg sl, .bool true]) ∧ t.wf ∧ OwnS w' (fun x => w.heap.size ≤ x) sl t.kids ∧ (∀ q, o = some q → t = q.1) ∧ DmSt d s lo (o.map (·.2)) w' ∧ Touch (fun x => x = d) (fun x => x = d) w w'
set_option maxHeartbeats 4000000 in
theorem open_no (d : Nat) (s : ByteArray) (hs : s.size ≤ 1048576) (i : Nat) (hi : i ≤ s.size) (lo : Bool) (c : Int) (bad : Bool) (deep : Int) (w : World) (h : DB w d s i lo c bad) (hn : bad = true ∨ lo = false ∨ ∀ hi : i < s.size, s[i].toNat ≠ 95 ∧ s[i].toNat ≠ 127 ∧ s[i].toNat ≠ 159 ∧ s[i].toNat ≠ 191) :
    Calls Tryd.prog 204 #[.pointer (some ⟨d, 0, none⟩), .int .i64 deep] w fun e w' => e = .returned (.tuple #[.agg #[.int .i64 0, .int .i64 0, .int .i64 0, .string ⟨#[]⟩, .slice none 0 0], .bool false]) ∧ Below w.heap.size w w' := by
  have hdw := lt_of_heap h
  have HU := Lib.hid h
  obtain ⟨u0, u1, u2, u3, u4, f1, f2, f3⟩ := h.cells
  have hd1 : d ≠ w.heap.size := by omega
  have hd2 : w.heap.size ≠ d := by omega
  have BZ := Lib.hid (Box.new w 0 0 0 ⟨#[]⟩ (.slice none 0 0) 26)
  obtain ⟨z0, z1, z2, z3, z4⟩ := BZ.out.cells
  have zf0 := BZ.out.free (i := 0); have zf1 := BZ.out.free (i := 1); have zf2 := BZ.out.free (i := 2); have zf3 := BZ.out.free (i := 3); have zf4 := BZ.out.free (i := 4)
  clear h
  have N95 := Lib.hid (fun W (h : DB W d s i lo c bad) => next_no d s hs i hi lo c bad 95 W h (hn.imp id (fun h => h.imp id (fun h hi => (h hi).1))))
  have N127 := Lib.hid (fun W (h : DB W d s i lo c bad) => next_no d s hs i hi lo c bad 127 W h (hn.imp id (fun h => h.imp id (fun h hi => (h hi).2.1))))
  have N159 := Lib.hid (fun W (h : DB W d s i lo c bad) => next_no d s hs i hi lo c bad 159 W h (hn.imp id (fun h => h.imp id (fun h hi => (h hi).2.2.1))))
  have N191 := Lib.hid (fun W (h : DB W d s i lo c bad) => next_no d s hs i hi lo c bad 191 W h (hn.imp id (fun h => h.imp id (fun h hi => (h hi).2.2.2))))
  have HU1 := Lib.hid (HU.out.stay ((Below.refl _ _).alloc (Nat.le_refl _) (.cells #[.int .i64 0, .int .i64 0, .int .i64 0, .string ⟨#[]⟩, .slice none 0 0] 26)))
  have HB0 := Lib.hid (show Below w.heap.size w (w.alloc (.cells #[.int .i64 0, .int .i64 0, .int .i64 0, .string ⟨#[]⟩, .slice none 0 0] 26)) from (Below.refl _ _).alloc (Nat.le_refl _) _)
  clear hn
  clear z0 z1 z2 z3 z4 zf0 zf1 zf2 zf3 zf4 u0 u1 u2 u3 u4 f1 f2 f3
  go_enter Tryd.func204, Tryd.ntmps204
  go_wp2_with fail
  refine (N95.out _ HU1.out).mono ?_
  rintro e1 w1 ⟨rfl, hb1⟩
  have HU2 := Lib.hid (HU1.out.stay hb1)
  go_wp2_with fail
  refine (N127.out _ HU2.out).mono ?_
  rintro e2 w2 ⟨rfl, hb2⟩
  have HU3 := Lib.hid (HU2.out.stay hb2)
  go_wp2_with fail
  refine (N159.out _ HU3.out).mono ?_
  rintro e3 w3 ⟨rfl, hb3⟩
  have HU4 := Lib.hid (HU3.out.stay hb3)
  go_wp2_with fail
  refine (N191.out _ HU4.out).mono ?_
  rintro e4 w4 ⟨rfl, hb4⟩
  have hb14 : Below (w.alloc (.cells #[.int .i64 0, .int .i64 0, .int .i64 0, .string ⟨#[]⟩, .slice none 0 0] 26)).heap.size (w.alloc (.cells #[.int .i64 0, .int .i64 0, .int .i64 0, .string ⟨#[]⟩, .slice none 0 0] 26)) w4 := ((hb1.trans (hb2.mono hb1.size)).trans (hb3.mono (Nat.le_trans hb1.size hb2.size))).trans (hb4.mono (Nat.le_trans (Nat.le_trans hb1.size hb2.size) hb3.size))
  have BZ4 := Lib.hid (BZ.out.stay hb14)
  have HB4 := Lib.hid (HB0.out.trans (hb14.mono HB0.out.size))
  have hz4 := hb14.size
  obtain ⟨z0, z1, z2, z3, z4⟩ := BZ4.out.cells
  have zf0 := BZ4.out.free (i := 0); have zf1 := BZ4.out.free (i := 1); have zf2 := BZ4.out.free (i := 2); have zf3 := BZ4.out.free (i := 3); have zf4 := BZ4.out.free (i := 4)
  clear hb1 hb2 hb3 hb4 hb14
  go_wp2_with fail
  refine bodyPost_ret (v := .tuple #[.agg #[.int .i64 0, .int .i64 0, .int .i64 0, .string ⟨#[]⟩, .slice none 0 0], .bool false]) (by simp [results, Tryd.results204, go_sem, z0, z1, z2, z3, z4]) rfl ⟨rfl, vb_set5' HB4.out _ (Nat.le_refl _) _ _ _ _ _⟩

set_option maxHeartbeats 4000000 in
theorem open_2 (w0 : World) (hE : Env w0) (d : Nat) (hd0 : w0.heap.size ≤ d) (s : ByteArray) (hs : s.size ≤ 1048576) (g : Nat → Nat → MG) (hg : ∀ i l, CGood s i l (g i l)) (deep : Int) (hdp : 0 ≤ deep ∧ deep ≤ 100)
    (hV : ∀ (i l : Nat) (W : World), i ≤ s.size → l ≤ 1204 → Below w0.heap.size w0 W → DB W d s i true (1204 - (l : Int)) false → Calls Tryd.prog 137 #[.pointer (some ⟨d, 0, none⟩), .int .i64 (deep + 1)] W (DmRet d s true (g i l) W))
    (i l : Nat) (hi : i < s.size) (hl : l ≤ 1204) (hb : s[i].toNat = 95) (w : World) (hw : Below w0.heap.size w0 w) (h : DB w d s i true (1204 - (l : Int)) false) :
    Calls Tryd.prog 204 #[.pointer (some ⟨d, 0, none⟩), .int .i64 deep] w (DoRet d s true ((cgChunks s 2 (s.size + 1) (i + 1)).map fun p => (V.mk 6 0 0 p.1 [], p.2, l)) w) := by
  have hdw := lt_of_heap h
  have HU := Lib.hid h
  obtain ⟨u0, u1, u2, u3, u4, f1, f2, f3⟩ := h.cells
  have hd1 : d ≠ w.heap.size := by omega
  have hd2 : w.heap.size ≠ d := by omega
  have BZ := Lib.hid (Box.new w 0 0 0 ⟨#[]⟩ (.slice none 0 0) 26)
  obtain ⟨z0, z1, z2, z3, z4⟩ := BZ.out.cells
  have zf0 := BZ.out.free (i := 0); have zf1 := BZ.out.free (i := 1); have zf2 := BZ.out.free (i := 2); have zf3 := BZ.out.free (i := 3); have zf4 := BZ.out.free (i := 4)
  obtain ⟨c, hc⟩ : ∃ c : Int, c = 1204 - (l : Int) := ⟨_, rfl⟩
  rw [← hc] at h HU
  have hwd : wrap64 (deep + 1) = deep + 1 := by unfold wrap64; omega
  clear u0 u1 u2 u3 u4 f1 f2 f3
  have NY := Lib.hid (fun W (h : DB W d s i true c false) => next_yes d s hs i hi c 95 W h hb)
  have CX := Lib.hid (fun W (hW : Below w0.heap.size w0 W) (h : DB W d s (i + 1) true c false) => chunks_any w0 hE d hd0 s hs 2 (by omega) (i + 1) l (by omega) W hW (by rw [← hc]; exact h))
  have HU1 := Lib.hid (HU.out.stay ((Below.refl _ _).alloc (Nat.le_refl _) (.cells #[.int .i64 0, .int .i64 0, .int .i64 0, .string ⟨#[]⟩, .slice none 0 0] 26)))
  have HT1 := Lib.hid (show Touch (fun x => x = d) (fun x => x = d) w (w.alloc (.cells #[.int .i64 0, .int .i64 0, .int .i64 0, .string ⟨#[]⟩, .slice none 0 0] 26)) from Touch.of_below ((Below.refl _ _).alloc (Nat.le_refl _) _))
  have HBL := Lib.hid (fun W (hT : Touch (fun x => x = d) (fun x => x = d) w W) => hw.trans (hT.below (fun x hx => by omega) hw.size))
  have hz1 : (w.alloc (.cells #[.int .i64 0, .int .i64 0, .int .i64 0, .string ⟨#[]⟩, .slice none 0 0] 26)).heap.size = w.heap.size + 1 := by simp
  clear h hb hc hV hg hE hw z0 z1 z2 z3 z4 zf0 zf1 zf2 zf3 zf4
  generalize cgChunks s 2 (s.size + 1) (i + 1) = o at *
  go_enter Tryd.func204, Tryd.ntmps204
  go_wp2_with fail
  have BZ1 := BZ
  refine (NY.out _ HU1.out).mono ?_
  rintro e7 w7 ⟨rfl, hu7, ht7⟩
  have HU7 := Lib.hid hu7
  have HT7 := Lib.hid (HT1.out.trans ht7)
  have hz7 := ht7.size
  have hlt7 : w.heap.size < w7.heap.size := by omega
  have BZ7 := Lib.hid (show Box w7 w.heap.size 0 0 0 ⟨#[]⟩ (.slice none 0 0) 26 from (ht7.block w.heap.size (by omega) hd2).trans BZ1.out)
  clear hu7 ht7
  go_wp2_with fail
  refine (CX.out _ (HBL.out _ HT7.out) HU7.out).mono ?_
  rintro e8 w8 ⟨tt, rfl, ttz, htq, hst, ht8⟩
  have HT8 := Lib.hid (HT7.out.trans ht8)
  have hz8 := ht8.size
  have BZ8 := Lib.hid (show Box w8 w.heap.size 0 0 0 ⟨#[]⟩ (.slice none 0 0) 26 from (ht8.block w.heap.size (by omega) hd2).trans BZ7.out)
  obtain ⟨z0, z1, z2, z3, z4⟩ := BZ8.out.cells
  have zf0 := BZ8.out.free (i := 0); have zf1 := BZ8.out.free (i := 1); have zf2 := BZ8.out.free (i := 2); have zf3 := BZ8.out.free (i := 3); have zf4 := BZ8.out.free (i := 4)
  have HP := Lib.hid (fun v0 v1 v2 v3 v4 => show DoRet d s true (o.map fun p => (V.mk 6 0 0 p.1 [], p.2, l)) w (.returned (.tuple #[.agg #[.int .i64 6, .int .i64 0, .int .i64 0, .string tt, .slice none 0 0], .bool true])) (set5 w8 w.heap.size v0 v1 v2 v3 v4) from
    ⟨.mk 6 0 0 tt [], .slice none 0 0, rfl, ⟨k64 6 (by omega) (by omega), in0, in0, by show tt.size ≤ _; omega⟩, OwnS.nil _ _, (fun q e => by
      cases o with
      | none => cases e
      | some p => have e2 : some (V.mk 6 0 0 p.1 [], p.2, l) = some q := e; injection e2 with e2; rw [← e2, htq p rfl]), (by
      have h9 : DmSt d s true (o.map fun q => (q.2, l)) (set5 w8 w.heap.size v0 v1 v2 v3 v4) := hst.keep (heap_set5 _ _ _ _ _ _ _ _ hd1)
      cases o <;> exact h9), HT8.out.set5 w.heap.size (Nat.le_refl _) _ _ _ _ _⟩)
  clear hst ht8 htq
  go_wp2_with fail
  refine bodyPost_ret (v := .tuple #[.agg #[.int .i64 6, .int .i64 0, .int .i64 0, .string tt, .slice none 0 0], .bool true]) (by simp [results, Tryd.results204, go_sem, z0, z1, z2, z3, z4]) rfl (HP.out _ _ _ _ _)

set_option maxHeartbeats 4000000 in
theorem open_3 (w0 : World) (hE : Env w0) (d : Nat) (hd0 : w0.heap.size ≤ d) (s : ByteArray) (hs : s.size ≤ 1048576) (g : Nat → Nat → MG) (hg : ∀ i l, CGood s i l (g i l)) (deep : Int) (hdp : 0 ≤ deep ∧ deep ≤ 100)
    (hV : ∀ (i l : Nat) (W : World), i ≤ s.size → l ≤ 1204 → Below w0.heap.size w0 W → DB W d s i true (1204 - (l : Int)) false → Calls Tryd.prog 137 #[.pointer (some ⟨d, 0, none⟩), .int .i64 (deep + 1)] W (DmRet d s true (g i l) W))
    (i l : Nat) (hi : i < s.size) (hl : l ≤ 1204) (hb : s[i].toNat = 127) (w : World) (hw : Below w0.heap.size w0 w) (h : DB w d s i true (1204 - (l : Int)) false) :
    Calls Tryd.prog 204 #[.pointer (some ⟨d, 0, none⟩), .int .i64 deep] w (DoRet d s true ((cgChunks s 3 (s.size + 1) (i + 1)).map fun p => (V.mk 5 0 0 p.1 [], p.2, l)) w) := by
  have hdw := lt_of_heap h
  have HU := Lib.hid h
  obtain ⟨u0, u1, u2, u3, u4, f1, f2, f3⟩ := h.cells
  have hd1 : d ≠ w.heap.size := by omega
  have hd2 : w.heap.size ≠ d := by omega
  have BZ := Lib.hid (Box.new w 0 0 0 ⟨#[]⟩ (.slice none 0 0) 26)
  obtain ⟨z0, z1, z2, z3, z4⟩ := BZ.out.cells
  have zf0 := BZ.out.free (i := 0); have zf1 := BZ.out.free (i := 1); have zf2 := BZ.out.free (i := 2); have zf3 := BZ.out.free (i := 3); have zf4 := BZ.out.free (i := 4)
  obtain ⟨c, hc⟩ : ∃ c : Int, c = 1204 - (l : Int) := ⟨_, rfl⟩
  rw [← hc] at h HU
  have hwd : wrap64 (deep + 1) = deep + 1 := by unfold wrap64; omega
  clear u0 u1 u2 u3 u4 f1 f2 f3
  have N95 := Lib.hid (fun W (h : DB W d s i true c false) => next_no d s hs i (by omega) true c false 95 W h (.inr (.inr (fun _ => by omega))))
  have NY := Lib.hid (fun W (h : DB W d s i true c false) => next_yes d s hs i hi c 127 W h hb)
  have CX := Lib.hid (fun W (hW : Below w0.heap.size w0 W) (h : DB W d s (i + 1) true c false) => chunks_any w0 hE d hd0 s hs 3 (by omega) (i + 1) l (by omega) W hW (by rw [← hc]; exact h))
  have HU1 := Lib.hid (HU.out.stay ((Below.refl _ _).alloc (Nat.le_refl _) (.cells #[.int .i64 0, .int .i64 0, .int .i64 0, .string ⟨#[]⟩, .slice none 0 0] 26)))
  have HT1 := Lib.hid (show Touch (fun x => x = d) (fun x => x = d) w (w.alloc (.cells #[.int .i64 0, .int .i64 0, .int .i64 0, .string ⟨#[]⟩, .slice none 0 0] 26)) from Touch.of_below ((Below.refl _ _).alloc (Nat.le_refl _) _))
  have HBL := Lib.hid (fun W (hT : Touch (fun x => x = d) (fun x => x = d) w W) => hw.trans (hT.below (fun x hx => by omega) hw.size))
  have hz1 : (w.alloc (.cells #[.int .i64 0, .int .i64 0, .int .i64 0, .string ⟨#[]⟩, .slice none 0 0] 26)).heap.size = w.heap.size + 1 := by simp
  clear h hb hc hV hg hE hw z0 z1 z2 z3 z4 zf0 zf1 zf2 zf3 zf4
  generalize cgChunks s 3 (s.size + 1) (i + 1) = o at *
  go_enter Tryd.func204, Tryd.ntmps204
  go_wp2_with fail
  have BZ1 := BZ
  refine (N95.out _ HU1.out).mono ?_
  rintro e2 w2 ⟨rfl, hb2⟩
  have HU2 := Lib.hid (HU1.out.stay hb2)
  have HT2 := Lib.hid (HT1.out.trans (Touch.of_below hb2))
  have BZ2 := Lib.hid (BZ1.out.stay hb2)
  have hz2 := hb2.size
  clear hb2
  go_wp2_with fail
  refine (NY.out _ HU2.out).mono ?_
  rintro e7 w7 ⟨rfl, hu7, ht7⟩
  have HU7 := Lib.hid hu7
  have HT7 := Lib.hid (HT2.out.trans ht7)
  have hz7 := ht7.size
  have hlt7 : w.heap.size < w7.heap.size := by omega
  have BZ7 := Lib.hid (show Box w7 w.heap.size 0 0 0 ⟨#[]⟩ (.slice none 0 0) 26 from (ht7.block w.heap.size (by omega) hd2).trans BZ2.out)
  clear hu7 ht7
  go_wp2_with fail
  refine (CX.out _ (HBL.out _ HT7.out) HU7.out).mono ?_
  rintro e8 w8 ⟨tt, rfl, ttz, htq, hst, ht8⟩
  have HT8 := Lib.hid (HT7.out.trans ht8)
  have hz8 := ht8.size
  have BZ8 := Lib.hid (show Box w8 w.heap.size 0 0 0 ⟨#[]⟩ (.slice none 0 0) 26 from (ht8.block w.heap.size (by omega) hd2).trans BZ7.out)
  obtain ⟨z0, z1, z2, z3, z4⟩ := BZ8.out.cells
  have zf0 := BZ8.out.free (i := 0); have zf1 := BZ8.out.free (i := 1); have zf2 := BZ8.out.free (i := 2); have zf3 := BZ8.out.free (i := 3); have zf4 := BZ8.out.free (i := 4)
  have HP := Lib.hid (fun v0 v1 v2 v3 v4 => show DoRet d s true (o.map fun p => (V.mk 5 0 0 p.1 [], p.2, l)) w (.returned (.tuple #[.agg #[.int .i64 5, .int .i64 0, .int .i64 0, .string tt, .slice none 0 0], .bool true])) (set5 w8 w.heap.size v0 v1 v2 v3 v4) from
    ⟨.mk 5 0 0 tt [], .slice none 0 0, rfl, ⟨k64 5 (by omega) (by omega), in0, in0, by show tt.size ≤ _; omega⟩, OwnS.nil _ _, (fun q e => by
      cases o with
      | none => cases e
      | some p => have e2 : some (V.mk 5 0 0 p.1 [], p.2, l) = some q := e; injection e2 with e2; rw [← e2, htq p rfl]), (by
      have h9 : DmSt d s true (o.map fun q => (q.2, l)) (set5 w8 w.heap.size v0 v1 v2 v3 v4) := hst.keep (heap_set5 _ _ _ _ _ _ _ _ hd1)
      cases o <;> exact h9), HT8.out.set5 w.heap.size (Nat.le_refl _) _ _ _ _ _⟩)
  clear hst ht8 htq
  go_wp2_with fail
  refine bodyPost_ret (v := .tuple #[.agg #[.int .i64 5, .int .i64 0, .int .i64 0, .string tt, .slice none 0 0], .bool true]) (by simp [results, Tryd.results204, go_sem, z0, z1, z2, z3, z4]) rfl (HP.out _ _ _ _ _)

set_option maxHeartbeats 4000000 in
theorem open_4 (w0 : World) (hE : Env w0) (d : Nat) (hd0 : w0.heap.size ≤ d) (s : ByteArray) (hs : s.size ≤ 1048576) (g : Nat → Nat → MG) (hg : ∀ i l, CGood s i l (g i l)) (deep : Int) (hdp : 0 ≤ deep ∧ deep ≤ 100)
    (hV : ∀ (i l : Nat) (W : World), i ≤ s.size → l ≤ 1204 → Below w0.heap.size w0 W → DB W d s i true (1204 - (l : Int)) false → Calls Tryd.prog 137 #[.pointer (some ⟨d, 0, none⟩), .int .i64 (deep + 1)] W (DmRet d s true (g i l) W))
    (i l : Nat) (hi : i < s.size) (hl : l ≤ 1204) (hb : s[i].toNat = 159) (w : World) (hw : Below w0.heap.size w0 w) (h : DB w d s i true (1204 - (l : Int)) false) :
    Calls Tryd.prog 204 #[.pointer (some ⟨d, 0, none⟩), .int .i64 deep] w (DoRet d s true (mgNode 7 0 (cgUpto s g (s.size + 1) (i + 1) l)) w) := by
  have hdw := lt_of_heap h
  have HU := Lib.hid h
  obtain ⟨u0, u1, u2, u3, u4, f1, f2, f3⟩ := h.cells
  have hd1 : d ≠ w.heap.size := by omega
  have hd2 : w.heap.size ≠ d := by omega
  have BZ := Lib.hid (Box.new w 0 0 0 ⟨#[]⟩ (.slice none 0 0) 26)
  obtain ⟨z0, z1, z2, z3, z4⟩ := BZ.out.cells
  have zf0 := BZ.out.free (i := 0); have zf1 := BZ.out.free (i := 1); have zf2 := BZ.out.free (i := 2); have zf3 := BZ.out.free (i := 3); have zf4 := BZ.out.free (i := 4)
  obtain ⟨c, hc⟩ : ∃ c : Int, c = 1204 - (l : Int) := ⟨_, rfl⟩
  rw [← hc] at h HU
  have hwd : wrap64 (deep + 1) = deep + 1 := by unfold wrap64; omega
  clear u0 u1 u2 u3 u4 f1 f2 f3
  have N95 := Lib.hid (fun W (h : DB W d s i true c false) => next_no d s hs i (by omega) true c false 95 W h (.inr (.inr (fun _ => by omega))))
  have N127 := Lib.hid (fun W (h : DB W d s i true c false) => next_no d s hs i (by omega) true c false 127 W h (.inr (.inr (fun _ => by omega))))
  have NY := Lib.hid (fun W (h : DB W d s i true c false) => next_yes d s hs i hi c 159 W h hb)
  have CX := Lib.hid (fun W (hW : Below w0.heap.size w0 W) (h : DB W d s (i + 1) true c false) => upTo_any w0 d hd0 s hs g hg (deep + 1) hV (i + 1) l (by omega) hl W hW (by rw [← hc]; exact h))
  have HU1 := Lib.hid (HU.out.stay ((Below.refl _ _).alloc (Nat.le_refl _) (.cells #[.int .i64 0, .int .i64 0, .int .i64 0, .string ⟨#[]⟩, .slice none 0 0] 26)))
  have HT1 := Lib.hid (show Touch (fun x => x = d) (fun x => x = d) w (w.alloc (.cells #[.int .i64 0, .int .i64 0, .int .i64 0, .string ⟨#[]⟩, .slice none 0 0] 26)) from Touch.of_below ((Below.refl _ _).alloc (Nat.le_refl _) _))
  have HBL := Lib.hid (fun W (hT : Touch (fun x => x = d) (fun x => x = d) w W) => hw.trans (hT.below (fun x hx => by omega) hw.size))
  have hz1 : (w.alloc (.cells #[.int .i64 0, .int .i64 0, .int .i64 0, .string ⟨#[]⟩, .slice none 0 0] 26)).heap.size = w.heap.size + 1 := by simp
  clear h hb hc hV hg hE hw z0 z1 z2 z3 z4 zf0 zf1 zf2 zf3 zf4
  generalize cgUpto s g (s.size + 1) (i + 1) l = o at *
  go_enter Tryd.func204, Tryd.ntmps204
  go_wp2_with fail
  have BZ1 := BZ
  refine (N95.out _ HU1.out).mono ?_
  rintro e2 w2 ⟨rfl, hb2⟩
  have HU2 := Lib.hid (HU1.out.stay hb2)
  have HT2 := Lib.hid (HT1.out.trans (Touch.of_below hb2))
  have BZ2 := Lib.hid (BZ1.out.stay hb2)
  have hz2 := hb2.size
  clear hb2
  go_wp2_with fail
  refine (N127.out _ HU2.out).mono ?_
  rintro e3 w3 ⟨rfl, hb3⟩
  have HU3 := Lib.hid (HU2.out.stay hb3)
  have HT3 := Lib.hid (HT2.out.trans (Touch.of_below hb3))
  have BZ3 := Lib.hid (BZ2.out.stay hb3)
  have hz3 := hb3.size
  clear hb3
  go_wp2_with fail
  refine (NY.out _ HU3.out).mono ?_
  rintro e7 w7 ⟨rfl, hu7, ht7⟩
  have HU7 := Lib.hid hu7
  have HT7 := Lib.hid (HT3.out.trans ht7)
  have hz7 := ht7.size
  have hlt7 : w.heap.size < w7.heap.size := by omega
  have BZ7 := Lib.hid (show Box w7 w.heap.size 0 0 0 ⟨#[]⟩ (.slice none 0 0) 26 from (ht7.block w.heap.size (by omega) hd2).trans BZ3.out)
  clear hu7 ht7
  go_wp2_with fail
  refine (CX.out _ (HBL.out _ HT7.out) HU7.out).mono ?_
  rintro e8 w8 ⟨us, sl, rfl, ow, htq, hst, ht8⟩
  obtain ⟨ua, un, uc, rfl⟩ : ∃ sa sn sc, sl = .slice sa sn sc := by obtain ⟨p, q, e⟩ := ow.slice; exact ⟨p, _, q, e⟩
  have HT8 := Lib.hid (HT7.out.trans ht8)
  have hz8 := ht8.size
  have BZ8 := Lib.hid (show Box w8 w.heap.size 0 0 0 ⟨#[]⟩ (.slice none 0 0) 26 from (ht8.block w.heap.size (by omega) hd2).trans BZ7.out)
  obtain ⟨z0, z1, z2, z3, z4⟩ := BZ8.out.cells
  have zf0 := BZ8.out.free (i := 0); have zf1 := BZ8.out.free (i := 1); have zf2 := BZ8.out.free (i := 2); have zf3 := BZ8.out.free (i := 3); have zf4 := BZ8.out.free (i := 4)
  have HP := Lib.hid (fun v0 v1 v2 v3 v4 => show DoRet d s true (mgNode 7 0 o) w (.returned (.tuple #[.agg #[.int .i64 7, .int .i64 0, .int .i64 0, .string ⟨#[]⟩, .slice ua un uc], .bool true])) (set5 w8 w.heap.size v0 v1 v2 v3 v4) from
    ⟨.mk 7 0 0 ⟨#[]⟩ us, .slice ua un uc, rfl, ⟨k64 7 (by omega) (by omega), in0, in0, by show ByteArray.size ⟨#[]⟩ ≤ _; simp [ByteArray.size]⟩, OwnS.mono (OwnS.set5 ow w.heap.size (fun hx => by have hx' : w7.heap.size ≤ w.heap.size := hx; omega) _ _ _ _ _) (fun x hx => by have hx' : w7.heap.size ≤ x := hx; omega), (fun q e => by
      cases o with
      | none => cases e
      | some p => have e2 : some (V.mk 7 0 0 ⟨#[]⟩ p.1, p.2) = some q := e; injection e2 with e2; rw [← e2, htq p rfl]), (by
      have h9 : DmSt d s true (o.map (·.2)) (set5 w8 w.heap.size v0 v1 v2 v3 v4) := hst.keep (heap_set5 _ _ _ _ _ _ _ _ hd1)
      cases o <;> exact h9), HT8.out.set5 w.heap.size (Nat.le_refl _) _ _ _ _ _⟩)
  clear hst ht8 htq ow
  go_wp2_with fail
  refine bodyPost_ret (v := .tuple #[.agg #[.int .i64 7, .int .i64 0, .int .i64 0, .string ⟨#[]⟩, .slice ua un uc], .bool true]) (by simp [results, Tryd.results204, go_sem, z0, z1, z2, z3, z4]) rfl (HP.out _ _ _ _ _)

set_option maxHeartbeats 4000000 in
theorem open_5 (w0 : World) (hE : Env w0) (d : Nat) (hd0 : w0.heap.size ≤ d) (s : ByteArray) (hs : s.size ≤ 1048576) (g : Nat → Nat → MG) (hg : ∀ i l, CGood s i l (g i l)) (deep : Int) (hdp : 0 ≤ deep ∧ deep ≤ 100)
    (hV : ∀ (i l : Nat) (W : World), i ≤ s.size → l ≤ 1204 → Below w0.heap.size w0 W → DB W d s i true (1204 - (l : Int)) false → Calls Tryd.prog 137 #[.pointer (some ⟨d, 0, none⟩), .int .i64 (deep + 1)] W (DmRet d s true (g i l) W))
    (i l : Nat) (hi : i < s.size) (hl : l ≤ 1204) (hb : s[i].toNat = 191) (w : World) (hw : Below w0.heap.size w0 w) (h : DB w d s i true (1204 - (l : Int)) false) :
    Calls Tryd.prog 204 #[.pointer (some ⟨d, 0, none⟩), .int .i64 deep] w (DoRet d s true (mgNode 8 0 (cgUpto s g (s.size + 1) (i + 1) l)) w) := by
  have hdw := lt_of_heap h
  have HU := Lib.hid h
  obtain ⟨u0, u1, u2, u3, u4, f1, f2, f3⟩ := h.cells
  have hd1 : d ≠ w.heap.size := by omega
  have hd2 : w.heap.size ≠ d := by omega
  have BZ := Lib.hid (Box.new w 0 0 0 ⟨#[]⟩ (.slice none 0 0) 26)
  obtain ⟨z0, z1, z2, z3, z4⟩ := BZ.out.cells
  have zf0 := BZ.out.free (i := 0); have zf1 := BZ.out.free (i := 1); have zf2 := BZ.out.free (i := 2); have zf3 := BZ.out.free (i := 3); have zf4 := BZ.out.free (i := 4)
  obtain ⟨c, hc⟩ : ∃ c : Int, c = 1204 - (l : Int) := ⟨_, rfl⟩
  rw [← hc] at h HU
  have hwd : wrap64 (deep + 1) = deep + 1 := by unfold wrap64; omega
  clear u0 u1 u2 u3 u4 f1 f2 f3
  have N95 := Lib.hid (fun W (h : DB W d s i true c false) => next_no d s hs i (by omega) true c false 95 W h (.inr (.inr (fun _ => by omega))))
  have N127 := Lib.hid (fun W (h : DB W d s i true c false) => next_no d s hs i (by omega) true c false 127 W h (.inr (.inr (fun _ => by omega))))
  have N159 := Lib.hid (fun W (h : DB W d s i true c false) => next_no d s hs i (by omega) true c false 159 W h (.inr (.inr (fun _ => by omega))))
  have NY := Lib.hid (fun W (h : DB W d s i true c false) => next_yes d s hs i hi c 191 W h hb)
  have CX := Lib.hid (fun W (hW : Below w0.heap.size w0 W) (h : DB W d s (i + 1) true c false) => upTo_any w0 d hd0 s hs g hg (deep + 1) hV (i + 1) l (by omega) hl W hW (by rw [← hc]; exact h))
  have HU1 := Lib.hid (HU.out.stay ((Below.refl _ _).alloc (Nat.le_refl _) (.cells #[.int .i64 0, .int .i64 0, .int .i64 0, .string ⟨#[]⟩, .slice none 0 0] 26)))
  have HT1 := Lib.hid (show Touch (fun x => x = d) (fun x => x = d) w (w.alloc (.cells #[.int .i64 0, .int .i64 0, .int .i64 0, .string ⟨#[]⟩, .slice none 0 0] 26)) from Touch.of_below ((Below.refl _ _).alloc (Nat.le_refl _) _))
  have HBL := Lib.hid (fun W (hT : Touch (fun x => x = d) (fun x => x = d) w W) => hw.trans (hT.below (fun x hx => by omega) hw.size))
  have hz1 : (w.alloc (.cells #[.int .i64 0, .int .i64 0, .int .i64 0, .string ⟨#[]⟩, .slice none 0 0] 26)).heap.size = w.heap.size + 1 := by simp
  clear h hb hc hV hg hE hw z0 z1 z2 z3 z4 zf0 zf1 zf2 zf3 zf4
  generalize cgUpto s g (s.size + 1) (i + 1) l = o at *
  go_enter Tryd.func204, Tryd.ntmps204
  go_wp2_with fail
  have BZ1 := BZ
  refine (N95.out _ HU1.out).mono ?_
  rintro e2 w2 ⟨rfl, hb2⟩
  have HU2 := Lib.hid (HU1.out.stay hb2)
  have HT2 := Lib.hid (HT1.out.trans (Touch.of_below hb2))
  have BZ2 := Lib.hid (BZ1.out.stay hb2)
  have hz2 := hb2.size
  clear hb2
  go_wp2_with fail
  refine (N127.out _ HU2.out).mono ?_
  rintro e3 w3 ⟨rfl, hb3⟩
  have HU3 := Lib.hid (HU2.out.stay hb3)
  have HT3 := Lib.hid (HT2.out.trans (Touch.of_below hb3))
  have BZ3 := Lib.hid (BZ2.out.stay hb3)
  have hz3 := hb3.size
  clear hb3
  go_wp2_with fail
  refine (N159.out _ HU3.out).mono ?_
  rintro e4 w4 ⟨rfl, hb4⟩
  have HU4 := Lib.hid (HU3.out.stay hb4)
  have HT4 := Lib.hid (HT3.out.trans (Touch.of_below hb4))
  have BZ4 := Lib.hid (BZ3.out.stay hb4)
  have hz4 := hb4.size
  clear hb4
  go_wp2_with fail
  refine (NY.out _ HU4.out).mono ?_
  rintro e7 w7 ⟨rfl, hu7, ht7⟩
  have HU7 := Lib.hid hu7
  have HT7 := Lib.hid (HT4.out.trans ht7)
  have hz7 := ht7.size
  have hlt7 : w.heap.size < w7.heap.size := by omega
  have BZ7 := Lib.hid (show Box w7 w.heap.size 0 0 0 ⟨#[]⟩ (.slice none 0 0) 26 from (ht7.block w.heap.size (by omega) hd2).trans BZ4.out)
  clear hu7 ht7
  go_wp2_with fail
  refine (CX.out _ (HBL.out _ HT7.out) HU7.out).mono ?_
  rintro e8 w8 ⟨us, sl, rfl, ow, htq, hst, ht8⟩
  obtain ⟨ua, un, uc, rfl⟩ : ∃ sa sn sc, sl = .slice sa sn sc := by obtain ⟨p, q, e⟩ := ow.slice; exact ⟨p, _, q, e⟩
  have HT8 := Lib.hid (HT7.out.trans ht8)
  have hz8 := ht8.size
  have BZ8 := Lib.hid (show Box w8 w.heap.size 0 0 0 ⟨#[]⟩ (.slice none 0 0) 26 from (ht8.block w.heap.size (by omega) hd2).trans BZ7.out)
  obtain ⟨z0, z1, z2, z3, z4⟩ := BZ8.out.cells
  have zf0 := BZ8.out.free (i := 0); have zf1 := BZ8.out.free (i := 1); have zf2 := BZ8.out.free (i := 2); have zf3 := BZ8.out.free (i := 3); have zf4 := BZ8.out.free (i := 4)
  have HP := Lib.hid (fun v0 v1 v2 v3 v4 => show DoRet d s true (mgNode 8 0 o) w (.returned (.tuple #[.agg #[.int .i64 8, .int .i64 0, .int .i64 0, .string ⟨#[]⟩, .slice ua un uc], .bool true])) (set5 w8 w.heap.size v0 v1 v2 v3 v4) from
    ⟨.mk 8 0 0 ⟨#[]⟩ us, .slice ua un uc, rfl, ⟨k64 8 (by omega) (by omega), in0, in0, by show ByteArray.size ⟨#[]⟩ ≤ _; simp [ByteArray.size]⟩, OwnS.mono (OwnS.set5 ow w.heap.size (fun hx => by have hx' : w7.heap.size ≤ w.heap.size := hx; omega) _ _ _ _ _) (fun x hx => by have hx' : w7.heap.size ≤ x := hx; omega), (fun q e => by
      cases o with
      | none => cases e
      | some p => have e2 : some (V.mk 8 0 0 ⟨#[]⟩ p.1, p.2) = some q := e; injection e2 with e2; rw [← e2, htq p rfl]), (by
      have h9 : DmSt d s true (o.map (·.2)) (set5 w8 w.heap.size v0 v1 v2 v3 v4) := hst.keep (heap_set5 _ _ _ _ _ _ _ _ hd1)
      cases o <;> exact h9), HT8.out.set5 w.heap.size (Nat.le_refl _) _ _ _ _ _⟩)
  clear hst ht8 htq ow
  go_wp2_with fail
  refine bodyPost_ret (v := .tuple #[.agg #[.int .i64 8, .int .i64 0, .int .i64 0, .string ⟨#[]⟩, .slice ua un uc], .bool true]) (by simp [results, Tryd.results204, go_sem, z0, z1, z2, z3, z4]) rfl (HP.out _ _ _ _ _)
end Go.Proofs.YtgbgeocmjdgmoaaDoor
namespace Go.Proofs.YtgbgeocmjdgmoaaDoor
set_option linter.unusedSimpArgs false
set_option linter.unusedVariables false
set_option maxRecDepth 100000
open Go.RowKit
def DqRet (d : Nat) (s : ByteArray) (i : Nat) (lo : Bool) (c : Int) (bad : Bool) (o : MG) (w : World) (e : Ending) (w' : World) : Prop :=
  ∃ t : V, e = .returned (t.agg (.slice none 0 0)) ∧ t.wf ∧ t.kids = [] ∧ (∀ q, o = some q → t = q.1) ∧ DB w' d s i lo c (bad || o.isNone) ∧ Touch (fun x => x = d) (fun x => x = d) w w'
theorem dq_none {d : Nat} {s : ByteArray} {i : Nat} {lo : Bool} {c : Int} {w W6 : World} (bad : Bool) (hb : DB W6 d s i lo c true) (hT : Touch (fun x => x = d) (fun x => x = d) w W6) :
    DqRet d s i lo c bad none w (.returned (.agg #[.int .i64 0, .int .i64 0, .int .i64 0, .string ⟨#[]⟩, .slice none 0 0])) W6 := by
  obtain ⟨t, h1, h2, h3, h4, h5, h6⟩ := dl_none hb hT
  exact ⟨t, h1, h2, h3, h4, by rw [show (bad || (none : MG).isNone) = true by simp]; exact h5, h6⟩
theorem dec_fin {d : Nat} {s : ByteArray} {lo : Bool} {W : World} {o : MG} {t t' : V} {p j m : Nat} {cc : Int} {bad : Bool} (hj : ∀ q, o = some q → t = q.1 ∧ j = q.2.1 ∧ m = q.2.2 ∧ p = j ∧ cc = 1204 - (m : Int) ∧ bad = false) (hn : o = none → bad = true) (hp : p ≤ s.size)
    (hq : ∀ q', decOf (t, j, m) = some q' → t' = q'.1) (hb : DB W d s p lo cc (bad || (decOf (t, j, m)).isNone)) : (∀ q, o.bind (cgTag 4) = some q → t' = q.1) ∧ DmSt d s lo ((o.bind (cgTag 4)).map (·.2)) W := by
  cases o with
  | none =>
    refine ⟨(fun q e => by cases e), ⟨p, cc, hp, ?_⟩⟩
    rw [hn rfl] at hb; exact hb
  | some q =>
    obtain ⟨u, j', m'⟩ := q
    obtain ⟨rfl, rfl, rfl, rfl, rfl, rfl⟩ := hj _ rfl
    rw [Option.bind_some, show cgTag 4 (t, p, m) = decOf (t, p, m) by unfold cgTag; rw [if_pos rfl]]
    refine ⟨hq, ?_⟩
    cases hd : decOf (t, p, m) with
    | none => rw [hd] at hb; exact ⟨p, _, hp, hb⟩
    | some q' =>
      rw [hd] at hb
      obtain ⟨v, a, b⟩ := q'
      obtain ⟨n1, e1, s1, x1, y1, e, -, -, -⟩ := decOf_some hd
      simp only [Prod.mk.injEq] at e
      obtain ⟨-, rfl, rfl⟩ := e
      exact hb
set_option maxHeartbeats 4000000 in
theorem decimal_any (d : Nat) (s : ByteArray) (i : Nat) (lo : Bool) (c : Int) (t : V) (sl : Value) (j m : Nat) (w : World) (hr : RepS w sl t.kids) (bad : Bool) (h : DB w d s i lo c bad) :
    Calls Tryd.prog 209 #[.pointer (some ⟨d, 0, none⟩), t.agg sl] w (DqRet d s i lo c bad (decOf (t, j, m)) w) := by
  have hdw := lt_of_heap h
  have HU := Lib.hid h
  obtain ⟨u0, u1, u2, u3, u4, f1, f2, f3⟩ := h.cells
  have hd1 : d ≠ w.heap.size := by omega
  have hd2 : w.heap.size ≠ d := by omega
  have hd3 : d ≠ w.heap.size + 1 := by omega
  have hd4 : w.heap.size + 1 ≠ d := by omega
  obtain ⟨sa, cap, rfl⟩ := hr.slice
  have BB := Lib.hid (Box.new w t.k t.n t.e t.s (.slice sa t.kids.length cap) 26)
  have BZ := Lib.hid (show Box ((w.alloc (.cells #[.int .i64 t.k, .int .i64 t.n, .int .i64 t.e, .string t.s, .slice sa t.kids.length cap] 26)).alloc (.cells #[.int .i64 0, .int .i64 0, .int .i64 0, .string ⟨#[]⟩, .slice none 0 0] 26)) (w.heap.size + 1) 0 0 0 ⟨#[]⟩ (.slice none 0 0) 26 from heap_alloc_here _ (by simp))
  obtain ⟨z0, z1, z2, z3, z4⟩ := BZ.out.cells
  have zf0 := BZ.out.free (i := 0); have zf1 := BZ.out.free (i := 1); have zf2 := BZ.out.free (i := 2); have zf3 := BZ.out.free (i := 3); have zf4 := BZ.out.free (i := 4)
  have HB2 := Lib.hid (show Below w.heap.size w ((w.alloc (.cells #[.int .i64 t.k, .int .i64 t.n, .int .i64 t.e, .string t.s, .slice sa t.kids.length cap] 26)).alloc (.cells #[.int .i64 0, .int .i64 0, .int .i64 0, .string ⟨#[]⟩, .slice none 0 0] 26)) from (by (with_reducible (repeat' (first | exact Below.refl _ _ | refine below_alloc ?_ _ ?_ | refine Below.setCell ?_ ?_ _ | refine Below.drew ?_ | refine below_drewN ?_ _ | refine below_step ?_ (by assumption) ?_ | refine below_mark ?_ (by assumption) ?_))); all_goals (first | omega | (simp; done) | (simp; omega))))
  clear h
  unfold V.agg
  by_cases h7 : t.k = 7
  · by_cases hl : t.kids.length = 2
    · obtain ⟨x, y, hxy⟩ : ∃ x y, t.kids = [x, y] := by
        match hk : t.kids, hl with
        | [x, y], _ => exact ⟨x, y, rfl⟩
      rw [decOf_2 h7 hxy]
      rw [hxy] at hr hl HB2 z0 z1 z2 z3 z4 zf0 zf1 zf2 zf3 zf4 BZ BB ⊢
      obtain ⟨b, off, cap', e, hb, hwx, hwy, c0, c1, c2, c3⟩ := rep_two hr
      simp only [Value.slice.injEq] at e
      obtain ⟨rfl, -, rfl⟩ := e
      clear hr hl
      have hb1 : b ≠ w.heap.size := by omega
      have hb2 : w.heap.size ≠ b := by omega
      have hb3 : b ≠ w.heap.size + 1 := by omega
      have hb4 : w.heap.size + 1 ≠ b := by omega
      rw [h7] at HB2 z0 z1 z2 z3 z4 zf0 zf1 zf2 zf3 zf4 BZ BB ⊢
      by_cases hx : x.k = 3
      · by_cases hy : y.k = 3
        · rw [if_pos ⟨hx, hy⟩]
          rw [hx] at c0
          rw [hy] at c2
          have HL := Lib.hid (fun (W : World) (hW : Below w.heap.size w W) => show DqRet d s i lo c bad (mgLeaf 4 y.n x.n j m) w (.returned (.agg #[.int .i64 4, .int .i64 y.n, .int .i64 x.n, .string ⟨#[]⟩, .slice none 0 0])) W from
            ⟨.mk 4 y.n x.n ⟨#[]⟩ [], rfl, ⟨k64 4 (by omega) (by omega), hwy.2.1, hwx.2.1, by show ByteArray.size ⟨#[]⟩ ≤ _; simp [ByteArray.size]⟩, rfl, (fun q e => by have e8 : some (V.mk 4 y.n x.n ⟨#[]⟩ [], (j, m)) = some q := e; injection e8 with e8; rw [← e8]), (by rw [show (bad || (mgLeaf 4 y.n x.n j m).isNone) = bad by simp [mgLeaf]]; exact HU.out.stay hW), Touch.of_below hW⟩)
          clear hx hy hwx hwy
          go_enter Tryd.func209, Tryd.ntmps209
          go_wp2_with fail
          go_region
          all_goals go_wp2_with fail
          all_goals exact bodyPost_ret (v := .agg #[.int .i64 4, .int .i64 y.n, .int .i64 x.n, .string ⟨#[]⟩, .slice none 0 0]) (by simp [results, Tryd.results209, go_sem]) rfl (HL.out _ ((by (with_reducible (repeat' (first | exact Below.refl _ _ | refine below_alloc ?_ _ ?_ | refine Below.setCell ?_ ?_ _ | refine Below.drew ?_ | refine below_drewN ?_ _ | refine below_step ?_ (by assumption) ?_ | refine below_mark ?_ (by assumption) ?_))); all_goals (first | omega | (simp; done) | (simp; omega)))))
        · rw [if_neg (fun hc => hy hc.2)]
          rw [hx] at c0
          have t1 : (y.k == 3) = false := by simpa using hy
          clear hx hy hwx hwy
          go_enter Tryd.func209, Tryd.ntmps209
          go_wp2_with fail
          exact bodyPost_ret (v := .agg #[.int .i64 0, .int .i64 0, .int .i64 0, .string ⟨#[]⟩, .slice none 0 0]) (by simp [results, Tryd.results209, go_sem]) rfl (dq_none bad ((HU.out.setB true).stay ((by (with_reducible (repeat' (first | exact Below.refl _ _ | refine below_alloc ?_ _ ?_ | refine Below.setCell ?_ ?_ _ | refine Below.drew ?_ | refine below_drewN ?_ _ | refine below_step ?_ (by assumption) ?_ | refine below_mark ?_ (by assumption) ?_))); all_goals (first | omega | (simp; done) | (simp; omega))))) (((Touch.refl _ w).cellD _).trans (Touch.of_below ((by (with_reducible (repeat' (first | exact Below.refl _ _ | refine below_alloc ?_ _ ?_ | refine Below.setCell ?_ ?_ _ | refine Below.drew ?_ | refine below_drewN ?_ _ | refine below_step ?_ (by assumption) ?_ | refine below_mark ?_ (by assumption) ?_))); all_goals (first | omega | (simp; done) | (simp; omega)))))))
      · rw [if_neg (fun hc => hx hc.1)]
        have t1 : (x.k == 3) = false := by simpa using hx
        clear hx hwx hwy
        go_enter Tryd.func209, Tryd.ntmps209
        go_wp2_with fail
        exact bodyPost_ret (v := .agg #[.int .i64 0, .int .i64 0, .int .i64 0, .string ⟨#[]⟩, .slice none 0 0]) (by simp [results, Tryd.results209, go_sem]) rfl (dq_none bad ((HU.out.setB true).stay ((by (with_reducible (repeat' (first | exact Below.refl _ _ | refine below_alloc ?_ _ ?_ | refine Below.setCell ?_ ?_ _ | refine Below.drew ?_ | refine below_drewN ?_ _ | refine below_step ?_ (by assumption) ?_ | refine below_mark ?_ (by assumption) ?_))); all_goals (first | omega | (simp; done) | (simp; omega))))) (((Touch.refl _ w).cellD _).trans (Touch.of_below ((by (with_reducible (repeat' (first | exact Below.refl _ _ | refine below_alloc ?_ _ ?_ | refine Below.setCell ?_ ?_ _ | refine Below.drew ?_ | refine below_drewN ?_ _ | refine below_step ?_ (by assumption) ?_ | refine below_mark ?_ (by assumption) ?_))); all_goals (first | omega | (simp; done) | (simp; omega)))))))
    · rw [decOf_l hl]
      rw [h7] at HB2 z0 z1 z2 z3 z4 zf0 zf1 zf2 zf3 zf4 BZ BB ⊢
      have t1 : ¬ ((t.kids.length : Int) = 2) := by omega
      clear hr
      generalize t.kids.length = kl at *
      go_enter Tryd.func209, Tryd.ntmps209
      go_wp2_with fail
      exact bodyPost_ret (v := .agg #[.int .i64 0, .int .i64 0, .int .i64 0, .string ⟨#[]⟩, .slice none 0 0]) (by simp [results, Tryd.results209, go_sem]) rfl (dq_none bad ((HU.out.setB true).stay ((by (with_reducible (repeat' (first | exact Below.refl _ _ | refine below_alloc ?_ _ ?_ | refine Below.setCell ?_ ?_ _ | refine Below.drew ?_ | refine below_drewN ?_ _ | refine below_step ?_ (by assumption) ?_ | refine below_mark ?_ (by assumption) ?_))); all_goals (first | omega | (simp; done) | (simp; omega))))) (((Touch.refl _ w).cellD _).trans (Touch.of_below ((by (with_reducible (repeat' (first | exact Below.refl _ _ | refine below_alloc ?_ _ ?_ | refine Below.setCell ?_ ?_ _ | refine Below.drew ?_ | refine below_drewN ?_ _ | refine below_step ?_ (by assumption) ?_ | refine below_mark ?_ (by assumption) ?_))); all_goals (first | omega | (simp; done) | (simp; omega)))))))
  · rw [decOf_7 h7]
    clear hr
    go_enter Tryd.func209, Tryd.ntmps209
    go_wp2_with fail
    exact bodyPost_ret (v := .agg #[.int .i64 0, .int .i64 0, .int .i64 0, .string ⟨#[]⟩, .slice none 0 0]) (by simp [results, Tryd.results209, go_sem]) rfl (dq_none bad ((HU.out.setB true).stay ((by (with_reducible (repeat' (first | exact Below.refl _ _ | refine below_alloc ?_ _ ?_ | refine Below.setCell ?_ ?_ _ | refine Below.drew ?_ | refine below_drewN ?_ _ | refine below_step ?_ (by assumption) ?_ | refine below_mark ?_ (by assumption) ?_))); all_goals (first | omega | (simp; done) | (simp; omega))))) (((Touch.refl _ w).cellD _).trans (Touch.of_below ((by (with_reducible (repeat' (first | exact Below.refl _ _ | refine below_alloc ?_ _ ?_ | refine Below.setCell ?_ ?_ _ | refine Below.drew ?_ | refine below_drewN ?_ _ | refine below_step ?_ (by assumption) ?_ | refine below_mark ?_ (by assumption) ?_))); all_goals (first | omega | (simp; done) | (simp; omega)))))))
end Go.Proofs.YtgbgeocmjdgmoaaDoor
