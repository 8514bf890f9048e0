/- Lemmas for the statement of the last text of this claim: texts joined. -/
import Derived.Test.YtgbgeocmjdgmoaaDoorCbK02
import Derived.Test.YtgbgeocmjdgmoaaDoorCbK05
import Derived.Test.YtgbgeocmjdgmoaaDoorCbK06
namespace Go.Proofs.YtgbgeocmjdgmoaaDoor
set_option linter.unusedSimpArgs false
set_option linter.unusedVariables false
set_option maxRecDepth 100000
open Go.RowKit
def RC (w : World) (r : Nat) (s : ByteArray) (lo : Bool) (l : Int) : Prop := w.heap[r]? = some (.cells #[.string s, .bool lo, .int .i64 l] 134 (0, 0))
theorem RC.move {w w' : World} {r : Nat} {s : ByteArray} {lo : Bool} {l : Int} (h : RC w r s lo l) (hb : Below (r + 1) w w') : RC w' r s lo l := (hb.block r (Nat.lt_succ_self r)).trans h
theorem RC.lt {w : World} {r : Nat} {s : ByteArray} {lo : Bool} {l : Int} (h : RC w r s lo l) : r < w.heap.size := lt_of_heap h
theorem RC.stay {w w' : World} {r : Nat} {s : ByteArray} {lo : Bool} {l : Int} (h : RC w r s lo l) (hb : Below w.heap.size w w') : RC w' r s lo l := h.move (hb.mono h.lt)
theorem RC.cells {w : World} {r : Nat} {s : ByteArray} {lo : Bool} {l : Int} (h : RC w r s lo l) : w.cell? ⟨r, 0, none⟩ = some (.string s) ∧ w.cell? ⟨r, 1, none⟩ = some (.bool lo) ∧ w.cell? ⟨r, 2, none⟩ = some (.int .i64 l) ∧ w.frozen? ⟨r, 2, none⟩ = false :=
  ⟨by rw [cell_of_row _ _ _ _ _ (0, 0) h]; rfl, by rw [cell_of_row _ _ _ _ _ (0, 0) h]; rfl, by rw [cell_of_row _ _ _ _ _ (0, 0) h]; rfl, frozen_of_row w r 2 _ _ h⟩
theorem RC.set {w : World} {r : Nat} {s : ByteArray} {lo : Bool} {l : Int} (h : RC w r s lo l) (l' : Int) : RC (w.setCell ⟨r, 2, none⟩ (.int .i64 l')) r s lo l' := by
  unfold RC at *
  rw [heap_setCell_same w r 2 _ _ _ h]; rfl
def CgRet (r : Nat) (s : ByteArray) (lo : Bool) (o : MG) (w : World) (e : Ending) (w' : World) : Prop := (match o with
  | some q => ∃ sl, e = .returned (.tuple #[q.1.agg sl, .int .i64 (q.2.1 : Int)]) ∧ q.1.wf ∧ OwnS w' (fun x => w.heap.size ≤ x) sl q.1.kids ∧ RC w' r s lo q.2.2
  | none => ∃ (t : V) (a : Option Addr) (n c : Nat), e = .returned (.tuple #[t.agg (.slice a n c), .int .i64 (-1)])) ∧ Touch (fun x => x = r) (fun x => x = r) w w'
def CkRet (r : Nat) (s : ByteArray) (lo : Bool) (o : Option (List V × Nat × Nat)) (w : World) (e : Ending) (w' : World) : Prop := (match o with
  | some q => ∃ sl, e = .returned (.tuple #[sl, .int .i64 (q.2.1 : Int)]) ∧ OwnS w' (fun x => w.heap.size ≤ x) sl q.1 ∧ RC w' r s lo q.2.2
  | none => ∃ (a : Option Addr) (n c : Nat), e = .returned (.tuple #[.slice a n c, .int .i64 (-1)])) ∧ Touch (fun x => x = r) (fun x => x = r) w w'
def HdRet (o : Option (Nat × Nat × Nat)) (e : Ending) : Prop := match o with
  | some q => e = .returned (.tuple #[.int .i64 (q.1 : Int), .int .u64 (q.2.1 : Int), .int .i64 (q.2.2 : Int)])
  | none => e = .returned (.tuple #[.int .i64 (-1), .int .u64 0, .int .i64 (-1)])
theorem hdR_out {lo : Bool} {s : ByteArray} {i : Nat} {e : Ending} (h : Head3 (if lo then anyH s i else getH s i).1 (if lo then anyH s i else getH s i).2.1 (if lo then anyH s i else getH s i).2.2 e) : HdRet (hdR lo s i) e := by
  cases hr : hdR lo s i with
  | some q =>
    obtain ⟨a, n, x⟩ := q
    have := (hdR_some hr).2.2.2.2
    rw [this] at h
    exact h
  | none =>
    have hf := anyH_found s (i : Int)
    unfold hdR at hr
    generalize hq : (if lo then anyH s i else getH s i) = q at *
    have hr2 : q = anyH s i ∨ q = (-1, 0, -1) := by
      rw [← hq]
      cases lo
      · simp only [Bool.false_eq_true, if_false, getH]; split <;> simp
      · simp
    split at hr
    · rename_i h3
      rcases hr2 with e2 | e2
      · rcases hf with f | ⟨a', n', x', f, hF⟩
        · rw [e2, f] at h; exact h
        · rw [f] at e2
          rw [e2] at h3
          have := hF.x0; have := hF.i0
          simp only at h3; omega
      · rw [e2] at h; exact h
    · cases hr
set_option maxHeartbeats 4000000 in
theorem l05Head_any (r : Nat) (s : ByteArray) (hs : s.size ≤ 1048576) (lo : Bool) (i : Nat) (hi : i ≤ s.size) (l : Int) (w : World) (hR : RC w r s lo l) :
    Calls Tryd.prog 212 #[.pointer (some ⟨r, 0, none⟩), .int .i64 i] w fun e w' => HdRet (hdR lo s i) e ∧ Below w.heap.size w w' := by
  obtain ⟨m0, m1, m2, mf⟩ := hR.cells
  cases lo
  · have HA := Lib.hid (fun W => GetHead_spec s i W (by omega) (by omega) (by omega))
    go_enter Tryd.func212, Tryd.ntmps212
    go_wp2_with fail
    refine (HA.out _).mono ?_
    rintro e1 w1 ⟨he, hb1⟩
    have HH := Lib.hid (hdR_out (lo := false) (e := e1) he)
    obtain rfl := he
    go_wp2_with fail
    go_ret3
    exact ⟨HH.out, hb1⟩
  · have HA := Lib.hid (fun W => any_spec s i W (by omega) (by omega) (by omega))
    go_enter Tryd.func212, Tryd.ntmps212
    go_wp2_with fail
    refine (HA.out _).mono ?_
    rintro e1 w1 ⟨he, hb1⟩
    have HH := Lib.hid (hdR_out (lo := true) (e := e1) he)
    obtain rfl := he
    go_wp2_with fail
    go_ret3
    exact ⟨HH.out, hb1⟩
def LfRet (o : MG) (w : World) (e : Ending) (w' : World) : Prop := (match o with
  | some q => e = .returned (.tuple #[q.1.agg (.slice none 0 0), .bool true]) ∧ q.1.wf ∧ q.1.kids = []
  | none => e = .returned (.tuple #[.agg #[.int .i64 0, .int .i64 0, .int .i64 0, .string ⟨#[]⟩, .slice none 0 0], .bool false])) ∧ Below w.heap.size w w'
theorem whole_conv (n : Nat) (h : n ≤ 9223372036854775807) : wrap64 (n : Int) = n := by unfold wrap64; omega
set_option maxHeartbeats 4000000 in
theorem l05Whole_any (a n x l : Nat) (ha : a ≤ 1) (hn : n < 18446744073709551616) (w : World) :
    Calls Tryd.prog 213 #[.int .i64 a, .int .u64 n] w (LfRet (if 9223372036854775807 < n then none else mgLeaf 3 (if a = 1 then -1 - (n : Int) else n) 0 x l) w) := by
  have BZ := Lib.hid (Box.new w 0 0 0 ⟨#[]⟩ (.slice none 0 0) 26)
  obtain ⟨z0, z1, z2, z3, z4⟩ := BZ.out.cells
  have zf0 := BZ.out.free (i := 0); have zf1 := BZ.out.free (i := 1); have zf2 := BZ.out.free (i := 2); have zf3 := BZ.out.free (i := 3); have zf4 := BZ.out.free (i := 4)
  by_cases h : 9223372036854775807 < n
  · rw [if_pos h]
    have hd : decide ((9223372036854775807 : Int) < (n : Int)) = true := decide_eq_true (by omega)
    go_enter Tryd.func213, Tryd.ntmps213
    go_wp2_with fail
    refine bodyPost_ret (v := .tuple #[.agg #[.int .i64 0, .int .i64 0, .int .i64 0, .string ⟨#[]⟩, .slice none 0 0], .bool false]) (by simp [results, Tryd.results213, go_sem, z0, z1, z2, z3, z4]) rfl ⟨rfl, (by (with_reducible (repeat' (first | exact Below.refl _ _ | refine below_alloc ?_ _ ?_ | refine Below.setCell ?_ ?_ _ | refine Below.drew ?_ | refine below_drewN ?_ _ | refine below_step ?_ (by assumption) ?_ | refine below_mark ?_ (by assumption) ?_))); all_goals (first | omega | (simp; done) | (simp; omega)))⟩
  · rw [if_neg h]
    have hd : decide ((9223372036854775807 : Int) < (n : Int)) = false := decide_eq_false (by omega)
    have hc := whole_conv n (by omega)
    have ha : a = 0 ∨ a = 1 := by omega
    rcases ha with rfl | rfl
    · have LI := Lib.hid (fun W => l02Int_any (n : Int) W)
      go_enter Tryd.func213, Tryd.ntmps213
      go_wp2_with fail
      refine (LI.out _).mono ?_
      rintro e w2 ⟨rfl, hb2⟩
      have BZ2 := Lib.hid ((BZ.out).stay hb2)
      clear z0 z1 z2 z3 z4 zf0 zf1 zf2 zf3 zf4
      obtain ⟨z0, z1, z2, z3, z4⟩ := BZ2.out.cells
      have zf0 := BZ2.out.free (i := 0); have zf1 := BZ2.out.free (i := 1); have zf2 := BZ2.out.free (i := 2); have zf3 := BZ2.out.free (i := 3); have zf4 := BZ2.out.free (i := 4)
      have hbw2 : Below w.heap.size w w2 := (by (with_reducible (repeat' (first | exact Below.refl _ _ | refine below_alloc ?_ _ ?_ | refine Below.setCell ?_ ?_ _ | refine Below.drew ?_ | refine below_drewN ?_ _ | refine below_step ?_ (by assumption) ?_ | refine below_mark ?_ (by assumption) ?_))); all_goals (first | omega | (simp; done) | (simp; omega)))
      go_wp2_with fail
      refine bodyPost_ret (v := .tuple #[.agg #[.int .i64 3, .int .i64 (n : Int), .int .i64 0, .string ⟨#[]⟩, .slice none 0 0], .bool true]) (by simp [results, Tryd.results213, go_sem, z0, z1, z2, z3, z4]) rfl ⟨⟨rfl, ⟨in3, by show In64 (n : Int); unfold In64; omega, in0, by show ByteArray.size ⟨#[]⟩ ≤ _; simp [ByteArray.size]⟩, rfl⟩, (by (with_reducible (repeat' (first | exact Below.refl _ _ | refine below_alloc ?_ _ ?_ | refine Below.setCell ?_ ?_ _ | refine Below.drew ?_ | refine below_drewN ?_ _ | refine below_step ?_ (by assumption) ?_ | refine below_mark ?_ (by assumption) ?_))); all_goals (first | omega | (simp; done) | (simp; omega)))⟩
    · have hw2 : wrap64 (-1 - (n : Int)) = -1 - (n : Int) := by unfold wrap64; omega
      have LI := Lib.hid (fun W => l02Int_any (-1 - (n : Int)) W)
      go_enter Tryd.func213, Tryd.ntmps213
      go_wp2_with fail
      refine (LI.out _).mono ?_
      rintro e w2 ⟨rfl, hb2⟩
      have BZ2 := Lib.hid ((BZ.out).stay hb2)
      clear z0 z1 z2 z3 z4 zf0 zf1 zf2 zf3 zf4
      obtain ⟨z0, z1, z2, z3, z4⟩ := BZ2.out.cells
      have zf0 := BZ2.out.free (i := 0); have zf1 := BZ2.out.free (i := 1); have zf2 := BZ2.out.free (i := 2); have zf3 := BZ2.out.free (i := 3); have zf4 := BZ2.out.free (i := 4)
      have hbw2 : Below w.heap.size w w2 := (by (with_reducible (repeat' (first | exact Below.refl _ _ | refine below_alloc ?_ _ ?_ | refine Below.setCell ?_ ?_ _ | refine Below.drew ?_ | refine below_drewN ?_ _ | refine below_step ?_ (by assumption) ?_ | refine below_mark ?_ (by assumption) ?_))); all_goals (first | omega | (simp; done) | (simp; omega)))
      go_wp2_with fail
      refine bodyPost_ret (v := .tuple #[.agg #[.int .i64 3, .int .i64 (-1 - (n : Int)), .int .i64 0, .string ⟨#[]⟩, .slice none 0 0], .bool true]) (by simp [results, Tryd.results213, go_sem, z0, z1, z2, z3, z4]) rfl ⟨⟨rfl, ⟨in3, by show In64 (-1 - (n : Int)); unfold In64; omega, in0, by show ByteArray.size ⟨#[]⟩ ≤ _; simp [ByteArray.size]⟩, rfl⟩, (by (with_reducible (repeat' (first | exact Below.refl _ _ | refine below_alloc ?_ _ ?_ | refine Below.setCell ?_ ?_ _ | refine Below.drew ?_ | refine below_drewN ?_ _ | refine below_step ?_ (by assumption) ?_ | refine below_mark ?_ (by assumption) ?_))); all_goals (first | omega | (simp; done) | (simp; omega)))⟩
structure CAcc (r : Nat) (w W : World) (us : List V) (o : Value) (G : Nat → Prop) : Prop where
  rows : VRows W w.heap.size 26 G o us
  touch : Touch (fun x => x = r) (fun x => x = r) w W
  hr : r < w.heap.size
theorem CAcc.over {r : Nat} {w W W' : World} {us : List V} {o : Value} {G : Nat → Prop} (h : CAcc r w W us o G) (ht : Touch (fun x => x = r) (fun x => x = r) W W') : CAcc r w W' us o G := by
  have hr := h.hr
  refine ⟨h.rows.move ht.size (fun x hx => ht.block x ?_ ?_), h.touch.trans (ht.mono (fun x hx => hx) (fun x hx => .inl hx)), h.hr⟩
  · rcases hx with hx | hx
    · exact (h.rows.inG x hx).2
    · exact (h.rows.lt x hx).2
  · rcases hx with hx | hx
    · have := (h.rows.inG x hx).1; omega
    · have := (h.rows.lt x hx).1; omega
theorem CAcc.same {r : Nat} {w W W1 W2 : World} {us : List V} {o : Value} {G : Nat → Prop} (h : CAcc r w W us o G) (hW : Below W.heap.size W W1) (hg : W1.grownBy W2 o.ownBlock) :
    ∀ x, x < w.heap.size → W2.heap[x]? = W.heap[x]? := fun x hx => by
  have h1 := h.touch.size
  have h3 := hW.size
  rw [hg.block x (by omega) (fun e => by have := (h.rows.lt x e.symm).1; omega)]
  exact hW.block x (by omega)
theorem CAcc.lower {r : Nat} {w W W1 W2 : World} {us : List V} {o : Value} {G : Nat → Prop} (h : CAcc r w W us o G) (hW : Below W.heap.size W W1) (hg : W1.grownBy W2 o.ownBlock) : Below (r + 1) W W2 := by
  have hr := h.hr
  have z1 := hW.size
  have z2 := hg.size
  exact ⟨hg.os.trans hW.os, hg.tape.trans hW.tape, hg.output.trans hW.output, by omega, fun x hx => h.same hW hg x (by omega)⟩
theorem CAcc.put {r : Nat} {w W W1 W2 : World} {us us2 : List V} {o v2 : Value} {G G2 : Nat → Prop} (h : CAcc r w W us o G) (hW : Below W.heap.size W W1) (hg : W1.grownBy W2 o.ownBlock) (hr2 : VRows W2 w.heap.size 26 G2 v2 us2) :
    CAcc r w W2 us2 v2 G2 := by
  have z1 := hW.size
  have z2 := hg.size
  have hz := h.touch.size
  exact ⟨hr2, ⟨hg.os.trans (hW.os.trans h.touch.os), hg.tape.trans (hW.tape.trans h.touch.tape), hg.output.trans (hW.output.trans h.touch.output), by omega, fun x hx hn => (h.same hW hg x hx).trans (h.touch.block x hx hn), h.touch.new⟩, h.hr⟩
set_option maxHeartbeats 4000000 in
theorem l05Kids_any (r : Nat) (s : ByteArray) (hs : s.size ≤ 1048576) (lo : Bool) (g : Nat → Nat → MG) (hg : ∀ i l, CGood s i l (g i l)) (deep : Int) (hd : 0 ≤ deep ∧ deep ≤ 100)
    (hG : ∀ (i l : Nat) (W : World), i ≤ s.size → l ≤ 1204 → RC W r s lo l → Calls Tryd.prog 138 #[.pointer (some ⟨r, 0, none⟩), .int .i64 i, .int .i64 (deep + 1)] W (CgRet r s lo (g i l) W))
    (many i l : Nat) (hi : i ≤ s.size) (hl : l ≤ 1204) (w : World) (hR : RC w r s lo l) (hm : many ≤ 600) :
    Calls Tryd.prog 214 #[.pointer (some ⟨r, 0, none⟩), .int .i64 i, .int .i64 many, .int .i64 deep] w (CkRet r s lo (mgKids g many i l) w) := by
  have hrw := hR.lt
  have HR := Lib.hid hR
  have HG := Lib.hid hG
  have hwd : wrap64 (deep + 1) = deep + 1 := by unfold wrap64; omega
  have HKG := Lib.hid (fun (j : Nat) => (mgKids_cgood hg j i l hi).1)
  have HST := Lib.hid (fun (j : Nat) (h : mgKids g j i l = none) (hj : j ≤ many) => mgKids_none h hj)
  have HSM := Lib.hid (fun (j : Nat) (p) (h : mgKids g j i l = some p) (q) (hq : g p.2.1 p.2.2 = some q) => mgKids_some h hq)
  have HSP := Lib.hid (fun (j : Nat) (p) (h : mgKids g j i l = some p) (hq : g p.2.1 p.2.2 = none) => mgKids_stop h hq)
  have HK0 := Lib.hid (show mgKids g 0 i l = some ([], i, l) from rfl)
  have HPN := Lib.hid (show mgKids g many i l = none → ∀ e w', (∃ (a : Option Addr) (n c : Nat), e = .returned (.tuple #[.slice a n c, .int .i64 (-1)])) → Touch (fun x => x = r) (fun x => x = r) w w' → CkRet r s lo (mgKids g many i l) w e w' from
    fun hn e w' h1 h2 => by rw [hn]; exact ⟨h1, h2⟩)
  have HPS := Lib.hid (show ∀ us j m, mgKids g many i l = some (us, j, m) → ∀ e w', (∃ sl, e = .returned (.tuple #[sl, .int .i64 (j : Int)]) ∧ OwnS w' (fun x => w.heap.size ≤ x) sl us ∧ RC w' r s lo m) → Touch (fun x => x = r) (fun x => x = r) w w' → CkRet r s lo (mgKids g many i l) w e w' from
    fun us j m hn e w' h1 h4 => by rw [hn]; exact ⟨h1, h4⟩)
  have R0 := Lib.hid (show CAcc r w (w.alloc (.cells #[] 26)) [] (.slice (some ⟨w.heap.size, 0, none⟩) 0 0) (fun _ => False) from
    ⟨VRows.made0 (Nat.le_refl _) (heap_alloc_new w (.cells #[] 26)), Touch.of_below ((Below.refl _ _).alloc (Nat.le_refl _) _), hrw⟩)
  have HRC := Lib.hid (show RC (w.alloc (.cells #[] 26)) r s lo l from hR.stay ((Below.refl _ _).alloc (Nat.le_refl _) _))
  clear hG hg hR
  go_enter Tryd.func214, Tryd.ntmps214
  go_wp2_with fail
  generalize (w.alloc (.cells #[] 26)) = W3 at *
  go_loopw [11, 1, 10, 12, 13] (fun kk ii aa _ _ wr => ∃ (j ij lj : Nat) (G : Nat → Prop) (L1 : List V), j ≤ many ∧ kk = .int .i64 j ∧ ii = .int .i64 ij ∧ mgKids g j i l = some (L1, ij, lj) ∧ CAcc r w wr L1 aa G ∧ RC wr r s lo lj) (fun kk _ _ _ _ _ => many + 1 - (intOf kk).toNat)
  case atStart => exact ⟨0, i, l, _, [], by omega, rfl, rfl, HK0.out, R0.out, HRC.out⟩
  case round =>
    obtain ⟨j, ij, lj, G, L1, hj, rfl, rfl, hkd, hacc, hrb⟩ := hrel
    have HACC := Lib.hid hacc; have HKD := Lib.hid hkd; have HRJ := Lib.hid hrb; clear hacc hkd hrb
    have hz9 := HACC.out.touch.size
    have hgd := HKG.out j L1 ij lj HKD.out
    obtain ⟨hg1, hg2, hg3, hg4⟩ := hgd
    have hln := szs_length L1
    clear hg4
    by_cases hlt : j < many
    · have VJ := Lib.hid (fun (W : World) (hW : Below wr.heap.size wr W) => HG.out ij lj W hg2 (by omega) (HRJ.out.stay hW))
      cases hgs : g ij lj with
      | none =>
        have HN := Lib.hid (HPN.out (HST.out (j + 1) (HSP.out j _ HKD.out hgs) (by omega)))
        rw [hgs] at VJ
        clear HSP HSM HST HPS HPN HKG HK0 hgs
        go_wp2_with fail
        refine (VJ.out _ ((by (with_reducible (repeat' (first | exact Below.refl _ _ | refine below_alloc ?_ _ ?_ | refine Below.setCell ?_ ?_ _ | refine Below.drew ?_ | refine below_drewN ?_ _ | refine below_step ?_ (by assumption) ?_ | refine below_mark ?_ (by assumption) ?_))); all_goals (first | omega | (simp; done) | (simp; omega))))).mono ?_
        rintro x w5 ⟨⟨t', sa, sn, sc, rfl⟩, ht5⟩
        unfold V.agg
        have hz5 := ht5.size
        have HTX := Lib.hid (HACC.out.touch.trans ht5)
        clear ht5 HACC
        go_wp2_with fail
        refine bodyPost_ret (v := .tuple #[.slice none 0 0, .int .i64 (-1)]) (by simp [results, Tryd.results214, go_sem]) rfl (HN.out _ _ ⟨none, 0, 0, rfl⟩ (HTX.out.trans (Touch.of_below ((by (with_reducible (repeat' (first | exact Below.refl _ _ | refine below_alloc ?_ _ ?_ | refine Below.setCell ?_ ?_ _ | refine Below.drew ?_ | refine below_drewN ?_ _ | refine below_step ?_ (by assumption) ?_ | refine below_mark ?_ (by assumption) ?_))); all_goals (first | omega | (simp; done) | (simp; omega)))))))
      | some q =>
        obtain ⟨u, iq, lq⟩ := q
        have HTJ := Lib.hid (HSM.out j _ HKD.out _ hgs)
        rw [hgs] at VJ
        clear HSP HSM HST HPS HPN HK0 hgs
        go_wp2_with fail
        refine (VJ.out _ ((by (with_reducible (repeat' (first | exact Below.refl _ _ | refine below_alloc ?_ _ ?_ | refine Below.setCell ?_ ?_ _ | refine Below.drew ?_ | refine below_drewN ?_ _ | refine below_step ?_ (by assumption) ?_ | refine below_mark ?_ (by assumption) ?_))); all_goals (first | omega | (simp; done) | (simp; omega))))).mono ?_
        rintro x w5 ⟨⟨us, rfl, uwf, uo, hrb5⟩, ht5⟩
        obtain ⟨ua, un, uc, rfl⟩ : ∃ sa sn sc, us = .slice sa sn sc := by obtain ⟨p, q, e⟩ := uo.slice; exact ⟨p, _, q, e⟩
        unfold V.agg
        have hz5 := ht5.size
        have HWF := Lib.hid uwf
        have HO := Lib.hid uo.bound
        have HRB := Lib.hid hrb5
        have HACC2 := Lib.hid (HACC.out.over ht5)
        have hin : (0 : Int) ≤ (iq : Int) := by omega
        clear uo uwf VJ hrb5 ht5 HRJ
        go_wp2_with (at_builtin; refine app_own rfl _ _ rfl w.heap.size G (fun x => wr.heap.size ≤ x ∧ x < w5.heap.size) _ L1 rfl (HACC2.out.rows.keep ((by (with_reducible (repeat' (first | exact Below.refl _ _ | refine below_alloc ?_ _ ?_ | refine Below.setCell ?_ ?_ _ | refine Below.drew ?_ | refine below_drewN ?_ _ | refine below_step ?_ (by assumption) ?_ | refine below_mark ?_ (by assumption) ?_))); all_goals (first | omega | (simp; done) | (simp; omega))))) u (.slice ua un uc) _ rfl (by first | exact heap_alloc_here _ (by simp) | exact heap_alloc_here _ rfl) HWF.out (OwnS.keep HO.out (fun x hx hxs => (heap_alloc_old _ _ (by simp; omega)).trans (heap_alloc_old _ _ hxs))) (fun x hx => by have h1 := hx.1; have h2 := hx.2; exact ⟨by omega, by simp; omega, fun hG => by have := (HACC.out.rows.inG x hG).2; omega, fun e => by have := (HACC.out.rows.lt x e).2; omega⟩) (by omega) (by simp; omega) ?_; intro v2 w2 hrow2 hg2 hfr2; obtain ⟨va, vn, vc, rfl⟩ := hrow2.slice3; have HG2 := Lib.hid hg2; have HR2 := Lib.hid hrow2; clear hrow2 hg2 hfr2)
        have hb5n : Below w5.heap.size w5 ((w5.alloc (.cells #[.int .i64 u.k, .int .i64 u.n, .int .i64 u.e, .string u.s, .slice ua un uc] 26)).alloc (.cells #[.int .i64 u.k, .int .i64 u.n, .int .i64 u.e, .string u.s, .slice ua un uc] 26)) := (by (with_reducible (repeat' (first | exact Below.refl _ _ | refine below_alloc ?_ _ ?_ | refine Below.setCell ?_ ?_ _ | refine Below.drew ?_ | refine below_drewN ?_ _ | refine below_step ?_ (by assumption) ?_ | refine below_mark ?_ (by assumption) ?_))); all_goals (first | omega | (simp; done) | (simp; omega)))
        go_roundw
        case rel => exact ⟨j + 1, iq, lq, _, _, by omega, by go_num, rfl, HTJ.out, HACC2.out.put hb5n HG2.out HR2.out, HRB.out.move (HACC2.out.lower hb5n HG2.out)⟩
        case measure => simp [intOf]; omega
    · obtain rfl : j = many := by omega
      have HP := Lib.hid (HPS.out _ _ _ HKD.out)
      obtain ⟨oa, on, oc, rfl⟩ := HACC.out.rows.slice3
      have HO := Lib.hid HACC.out.rows.own
      have HTZ := Lib.hid HACC.out.touch
      clear HACC HG HKG HST HSM HSP HK0 HPN HPS
      go_wp2_with fail
      refine bodyPost_ret (v := .tuple #[.slice oa on oc, .int .i64 ij]) (by simp [results, Tryd.results214, go_sem]) rfl (HP.out _ _ ⟨_, rfl, HO.out, HRJ.out⟩ HTZ.out)
end Go.Proofs.YtgbgeocmjdgmoaaDoor
namespace Go.Proofs.YtgbgeocmjdgmoaaDoor
set_option linter.unusedSimpArgs false
set_option linter.unusedVariables false
set_option maxRecDepth 100000
open Go.RowKit
def PtRet (s : ByteArray) (o : Option (ByteArray × Nat)) (w : World) (e : Ending) (w' : World) : Prop := (match o with
  | some p => e = .returned (.tuple #[.string p.1, .int .i64 (p.2 : Int)]) ∧ p.1.size ≤ s.size
  | none => e = .returned (.tuple #[.string ⟨#[]⟩, .int .i64 (-1)])) ∧ Below w.heap.size w w'
theorem ba_app0 (t : ByteArray) : t ++ (⟨#[]⟩ : ByteArray) = t := by apply ByteArray.ext; simp [ByteArray.data_append]
theorem ba_0app (t : ByteArray) : (⟨#[]⟩ : ByteArray) ++ t = t := by apply ByteArray.ext; simp [ByteArray.data_append]
theorem ck_stop {s : ByteArray} {a f i : Nat} (h : i < s.size) (h2 : s[i].toNat = 255) : cgChunks s a (f + 1) i = some (⟨#[]⟩, i + 1) := by rw [cgChunks, dif_pos h, if_pos h2]
theorem ck_end {s : ByteArray} {a f i : Nat} (h : ¬ i < s.size) : cgChunks s a (f + 1) i = none := by rw [cgChunks, dif_neg h]
theorem ck_none {s : ByteArray} {a f i : Nat} (h : i < s.size) (h2 : ¬ s[i].toNat = 255) (h3 : hdR true s i = none) : cgChunks s a (f + 1) i = none := by rw [cgChunks, dif_pos h, if_neg h2, h3]
theorem ck_bad {s : ByteArray} {a f i m n x : Nat} (h : i < s.size) (h2 : ¬ s[i].toNat = 255) (h3 : hdR true s i = some (m, n, x)) (h4 : ¬ (m = a ∧ x + n ≤ s.size ∧ (a = 3 → txt (s.extract x (x + n)) = true))) : cgChunks s a (f + 1) i = none := by rw [cgChunks, dif_pos h, if_neg h2, h3]; simp only; rw [if_neg h4]
theorem ck_ok {s : ByteArray} {a f i m n x : Nat} (h : i < s.size) (h2 : ¬ s[i].toNat = 255) (h3 : hdR true s i = some (m, n, x)) (h4 : m = a ∧ x + n ≤ s.size ∧ (a = 3 → txt (s.extract x (x + n)) = true)) : cgChunks s a (f + 1) i = (cgChunks s a f (x + n)).map fun p => (s.extract x (x + n) ++ p.1, p.2) := by rw [cgChunks, dif_pos h, if_neg h2, h3]; simp only; rw [if_pos h4]
theorem ck_go {o : Option (ByteArray × Nat)} {a b : ByteArray} : (o.map fun p => (b ++ p.1, p.2)).map (fun p => (a ++ p.1, p.2)) = o.map fun p => (a ++ b ++ p.1, p.2) := by
  cases o with
  | none => rfl
  | some p => simp [ByteArray.append_assoc]
set_option maxHeartbeats 4000000 in
theorem l05Parts_any (r : Nat) (s : ByteArray) (hs : s.size ≤ 1048576) (lo : Bool) (a : Nat) (ha : a = 2 ∨ a = 3) (i : Nat) (hi : i ≤ s.size) (l : Int) (w : World) (hR : RC w r s lo l) :
    Calls Tryd.prog 260 #[.pointer (some ⟨r, 0, none⟩), .int .i64 i, .int .i64 a] w (PtRet s (cgChunks s a (s.size + 1) i) w) := by
  have HR := Lib.hid hR
  have HK0 := Lib.hid (show cgChunks s a (s.size + 1) i = (cgChunks s a (s.size + 1) i).map fun p => ((⟨#[]⟩ : ByteArray) ++ p.1, p.2) by cases cgChunks s a (s.size + 1) i with
    | none => rfl
    | some p => simp only [Option.map_some, ba_0app])
  have HPN := Lib.hid (fun (h : cgChunks s a (s.size + 1) i = none) (w' : World) (hb : Below w.heap.size w w') => show PtRet s (cgChunks s a (s.size + 1) i) w (.returned (.tuple #[.string ⟨#[]⟩, .int .i64 (-1)])) w' by rw [h]; exact ⟨rfl, hb⟩)
  have HPS := Lib.hid (fun t j (h : cgChunks s a (s.size + 1) i = some (t, j)) (w' : World) (hb : Below w.heap.size w w') => show PtRet s (cgChunks s a (s.size + 1) i) w (.returned (.tuple #[.string t, .int .i64 (j : Int)])) w' by
    have := cgChunks_good _ _ _ _ h
    rw [h]; exact ⟨⟨rfl, by show t.size ≤ _; omega⟩, hb⟩)
  have HA := Lib.hid (fun (i : Nat) (hi : i ≤ s.size) W => (any_spec s i W (by omega) (by omega) (by omega)).mono fun e w' h => And.intro (hdR_out (lo := true) (e := e) h.1) h.2)
  clear hR
  go_enter Tryd.func260, Tryd.ntmps260
  go_wp2_with fail
  go_loopw [1, 8, 9, 10, 11, 12] (fun ii oo _ _ _ _ wr => ∃ (ij f : Nat) (t : ByteArray), ii = .int .i64 ij ∧ oo = .string t ∧ ij ≤ s.size ∧ s.size + 1 ≤ f + ij ∧ t.size ≤ ij ∧ cgChunks s a (s.size + 1) i = (cgChunks s a f ij).map (fun p => (t ++ p.1, p.2)) ∧ Below w.heap.size w wr) (fun ii _ _ _ _ _ _ => s.size + 1 - (intOf ii).toNat)
  case atStart => exact ⟨i, s.size + 1, ⟨#[]⟩, rfl, rfl, hi, by omega, by show ByteArray.size ⟨#[]⟩ ≤ _; simp [ByteArray.size], HK0.out, (by (with_reducible (repeat' (first | exact Below.refl _ _ | refine below_alloc ?_ _ ?_ | refine Below.setCell ?_ ?_ _ | refine Below.drew ?_ | refine below_drewN ?_ _ | refine below_step ?_ (by assumption) ?_ | refine below_mark ?_ (by assumption) ?_))); all_goals (first | omega | (simp; done) | (simp; omega)))⟩
  case round =>
    obtain ⟨ij, f, t, rfl, rfl, hij, hf, ht, hck, hbl⟩ := hrel
    obtain ⟨f, rfl⟩ : ∃ f', f = f' + 1 := ⟨f - 1, by omega⟩
    have HRJ := Lib.hid (HR.out.stay hbl)
    obtain ⟨m0, m1, m2, mf⟩ := HRJ.out.cells
    have HCK := Lib.hid hck; have HBL := Lib.hid hbl
    have hzl := hbl.size
    clear hck hbl
    by_cases hlt : ij < s.size
    · by_cases h255 : s[ij].toNat = 255
      · have HP := Lib.hid (HPS.out (t ++ ⟨#[]⟩) (ij + 1) (by rw [HCK.out, ck_stop hlt h255]; rfl))
        have h255' : ((s[ij].toNat : Nat) : Int) = 255 := by omega
        have hte : t ++ (⟨#[]⟩ : ByteArray) = t := ba_app0 t
        rw [hte] at HP
        clear HPS HPN HCK HA h255 hte
        go_wp2_with fail
        refine bodyPost_ret (v := .tuple #[.string t, .int .i64 ((ij + 1 : Nat) : Int)]) (by simp [results, Tryd.results260, go_sem]) rfl (HP.out _ (by have := HBL.out; exact (by (with_reducible (repeat' (first | exact Below.refl _ _ | refine below_alloc ?_ _ ?_ | refine Below.setCell ?_ ?_ _ | refine Below.drew ?_ | refine below_drewN ?_ _ | refine below_step ?_ (by assumption) ?_ | refine below_mark ?_ (by assumption) ?_))); all_goals (first | omega | (simp; done) | (simp; omega)))))
      · have AJ := Lib.hid (fun W => HA.out ij hij W)
        have h255' : ¬ ((s[ij].toNat : Nat) : Int) = 255 := by omega
        cases hh : hdR true s ij with
        | none =>
          have HN := Lib.hid (HPN.out (by rw [HCK.out, ck_none hlt h255 hh]; rfl))
          rw [hh] at AJ
          clear HPS HPN HCK HA h255 hh
          go_wp2_with fail
          refine (AJ.out _).mono ?_
          rintro e1 w1 ⟨he, hb1⟩
          obtain rfl := he
          have HR1 := Lib.hid (HRJ.out.stay hb1)
          clear m0 m1 m2 mf
          obtain ⟨m0, m1, m2, mf⟩ := HR1.out.cells
          go_wp2_with fail
          refine bodyPost_ret (v := .tuple #[.string ⟨#[]⟩, .int .i64 (-1)]) (by simp [results, Tryd.results260, go_sem]) rfl (HN.out _ (by have := HBL.out; exact (by (with_reducible (repeat' (first | exact Below.refl _ _ | refine below_alloc ?_ _ ?_ | refine Below.setCell ?_ ?_ _ | refine Below.drew ?_ | refine below_drewN ?_ _ | refine below_step ?_ (by assumption) ?_ | refine below_mark ?_ (by assumption) ?_))); all_goals (first | omega | (simp; done) | (simp; omega)))))
        | some q =>
          obtain ⟨m, n, x⟩ := q
          have hq := hdR_some hh
          have hx0 : decide ((x : Int) < 0) = false := decide_eq_false (by omega)
          obtain ⟨hq1, hq2, hq3, hq4, hq5⟩ := hq
          clear hq5
          rw [hh] at AJ
          by_cases hm : m = a
          · by_cases hn : x + n ≤ s.size
            · have hd : decide (((s.size : Int) - (x : Int)) < (n : Int)) = false := decide_eq_false (by omega)
              have hx : (s.extract x (x + n)).size = n := by rw [ByteArray.size_extract]; omega
              have VT := Lib.hid (fun W => textOk_spec (s.extract x (x + n)) W (by omega))
              have hm := hm.symm
              subst hm
              rcases ha with ha | ha
              · have hd3 : ((a : Int) == (3 : Int)) = false := by subst ha; rfl
                have HT := Lib.hid (show cgChunks s a (s.size + 1) i = (cgChunks s a f (x + n)).map (fun p => (t ++ s.extract x (x + n) ++ p.1, p.2)) by rw [HCK.out, ck_ok hlt h255 hh ⟨rfl, hn, fun h => by omega⟩, ck_go])
                clear HPS HPN HCK HA h255 hh ha
                go_wp2_with fail
                refine (AJ.out _).mono ?_
                rintro e1 w1 ⟨he, hb1⟩
                obtain rfl := he
                have HR1 := Lib.hid (HRJ.out.stay hb1)
                clear m0 m1 m2 mf
                obtain ⟨m0, m1, m2, mf⟩ := HR1.out.cells
                go_wp2_with fail
                go_roundw
                case rel => exact ⟨x + n, f, t ++ s.extract x (x + n), by go_num, rfl, hn, by omega, by rw [ByteArray.size_append]; omega, HT.out, by have := HBL.out; exact (by (with_reducible (repeat' (first | exact Below.refl _ _ | refine below_alloc ?_ _ ?_ | refine Below.setCell ?_ ?_ _ | refine Below.drew ?_ | refine below_drewN ?_ _ | refine below_step ?_ (by assumption) ?_ | refine below_mark ?_ (by assumption) ?_))); all_goals (first | omega | (simp; done) | (simp; omega)))⟩
                case measure => simp [intOf]; omega
              · have hd3 : ((a : Int) == (3 : Int)) = true := by subst ha; rfl
                cases hv : txt (s.extract x (x + n)) with
                | false =>
                  have HN := Lib.hid (HPN.out (by rw [HCK.out, ck_bad hlt h255 hh (fun h => by have := h.2.2 ha; rw [hv] at this; cases this)]; rfl))
                  rw [hv] at VT
                  clear HPS HPN HCK HA h255 hh ha
                  go_wp2_with fail
                  refine (AJ.out _).mono ?_
                  rintro e1 w1 ⟨he, hb1⟩
                  obtain rfl := he
                  have HR1 := Lib.hid (HRJ.out.stay hb1)
                  clear m0 m1 m2 mf
                  obtain ⟨m0, m1, m2, mf⟩ := HR1.out.cells
                  go_wp2_with fail
                  refine (VT.out _).mono ?_
                  rintro e2 w2 ⟨rfl, hb2⟩
                  go_wp2_with fail
                  refine bodyPost_ret (v := .tuple #[.string ⟨#[]⟩, .int .i64 (-1)]) (by simp [results, Tryd.results260, go_sem]) rfl (HN.out _ (by have := HBL.out; exact (by (with_reducible (repeat' (first | exact Below.refl _ _ | refine below_alloc ?_ _ ?_ | refine Below.setCell ?_ ?_ _ | refine Below.drew ?_ | refine below_drewN ?_ _ | refine below_step ?_ (by assumption) ?_ | refine below_mark ?_ (by assumption) ?_))); all_goals (first | omega | (simp; done) | (simp; omega)))))
                | true =>
                  have HT := Lib.hid (show cgChunks s a (s.size + 1) i = (cgChunks s a f (x + n)).map (fun p => (t ++ s.extract x (x + n) ++ p.1, p.2)) by rw [HCK.out, ck_ok hlt h255 hh ⟨rfl, hn, fun _ => hv⟩, ck_go])
                  rw [hv] at VT
                  clear HPS HPN HCK HA h255 hh ha
                  go_wp2_with fail
                  refine (AJ.out _).mono ?_
                  rintro e1 w1 ⟨he, hb1⟩
                  obtain rfl := he
                  have HR1 := Lib.hid (HRJ.out.stay hb1)
                  clear m0 m1 m2 mf
                  obtain ⟨m0, m1, m2, mf⟩ := HR1.out.cells
                  go_wp2_with fail
                  refine (VT.out _).mono ?_
                  rintro e2 w2 ⟨rfl, hb2⟩
                  have HR2 := Lib.hid (HR1.out.stay hb2)
                  clear m0 m1 m2 mf
                  obtain ⟨m0, m1, m2, mf⟩ := HR2.out.cells
                  go_wp2_with fail
                  go_roundw
                  case rel => exact ⟨x + n, f, t ++ s.extract x (x + n), by go_num, rfl, hn, by omega, by rw [ByteArray.size_append]; omega, HT.out, by have := HBL.out; exact (by (with_reducible (repeat' (first | exact Below.refl _ _ | refine below_alloc ?_ _ ?_ | refine Below.setCell ?_ ?_ _ | refine Below.drew ?_ | refine below_drewN ?_ _ | refine below_step ?_ (by assumption) ?_ | refine below_mark ?_ (by assumption) ?_))); all_goals (first | omega | (simp; done) | (simp; omega)))⟩
                  case measure => simp [intOf]; omega
            · have hd : decide (((s.size : Int) - (x : Int)) < (n : Int)) = true := decide_eq_true (by omega)
              have HN := Lib.hid (HPN.out (by rw [HCK.out, ck_bad hlt h255 hh (by omega)]; rfl))
              clear HPS HPN HCK HA h255 hh
              subst hm
              go_wp2_with fail
              refine (AJ.out _).mono ?_
              rintro e1 w1 ⟨he, hb1⟩
              obtain rfl := he
              have HR1 := Lib.hid (HRJ.out.stay hb1)
              clear m0 m1 m2 mf
              obtain ⟨m0, m1, m2, mf⟩ := HR1.out.cells
              go_wp2_with fail
              refine bodyPost_ret (v := .tuple #[.string ⟨#[]⟩, .int .i64 (-1)]) (by simp [results, Tryd.results260, go_sem]) rfl (HN.out _ (by have := HBL.out; exact (by (with_reducible (repeat' (first | exact Below.refl _ _ | refine below_alloc ?_ _ ?_ | refine Below.setCell ?_ ?_ _ | refine Below.drew ?_ | refine below_drewN ?_ _ | refine below_step ?_ (by assumption) ?_ | refine below_mark ?_ (by assumption) ?_))); all_goals (first | omega | (simp; done) | (simp; omega)))))
          · have hd : ((m : Int) == (a : Int)) = false := by simp; omega
            have HN := Lib.hid (HPN.out (by rw [HCK.out, ck_bad hlt h255 hh (by omega)]; rfl))
            clear HPS HPN HCK HA h255 hh
            go_wp2_with fail
            refine (AJ.out _).mono ?_
            rintro e1 w1 ⟨he, hb1⟩
            obtain rfl := he
            have HR1 := Lib.hid (HRJ.out.stay hb1)
            clear m0 m1 m2 mf
            obtain ⟨m0, m1, m2, mf⟩ := HR1.out.cells
            go_wp2_with fail
            refine bodyPost_ret (v := .tuple #[.string ⟨#[]⟩, .int .i64 (-1)]) (by simp [results, Tryd.results260, go_sem]) rfl (HN.out _ (by have := HBL.out; exact (by (with_reducible (repeat' (first | exact Below.refl _ _ | refine below_alloc ?_ _ ?_ | refine Below.setCell ?_ ?_ _ | refine Below.drew ?_ | refine below_drewN ?_ _ | refine below_step ?_ (by assumption) ?_ | refine below_mark ?_ (by assumption) ?_))); all_goals (first | omega | (simp; done) | (simp; omega)))))
    · obtain rfl : ij = s.size := by omega
      have HN := Lib.hid (HPN.out (by rw [HCK.out, ck_end (by omega)]; rfl))
      clear HPS HPN HCK HA
      go_wp2_with fail
      refine bodyPost_ret (v := .tuple #[.string ⟨#[]⟩, .int .i64 (-1)]) (by simp [results, Tryd.results260, go_sem]) rfl (HN.out _ (by have := HBL.out; exact (by (with_reducible (repeat' (first | exact Below.refl _ _ | refine below_alloc ?_ _ ?_ | refine Below.setCell ?_ ?_ _ | refine Below.drew ?_ | refine below_drewN ?_ _ | refine below_step ?_ (by assumption) ?_ | refine below_mark ?_ (by assumption) ?_))); all_goals (first | omega | (simp; done) | (simp; omega)))))
end Go.Proofs.YtgbgeocmjdgmoaaDoor
namespace Go.Proofs.YtgbgeocmjdgmoaaDoor
set_option linter.unusedSimpArgs false
set_option linter.unusedVariables false
set_option maxRecDepth 100000
open Go.RowKit
theorem lf_some {k : Int} {x l : Nat} {w w' : World} (hk : In64 k) (hb : Below w.heap.size w w') : LfRet (mgLeaf k 0 0 x l) w (.returned (.tuple #[.agg #[.int .i64 k, .int .i64 0, .int .i64 0, .string ⟨#[]⟩, .slice none 0 0], .bool true])) w' :=
  ⟨⟨rfl, ⟨hk, in0, in0, by show ByteArray.size ⟨#[]⟩ ≤ _; simp [ByteArray.size]⟩, rfl⟩, hb⟩
theorem lf_none {w w' : World} (hb : Below w.heap.size w w') : LfRet none w (.returned (.tuple #[.agg #[.int .i64 0, .int .i64 0, .int .i64 0, .string ⟨#[]⟩, .slice none 0 0], .bool false])) w' := ⟨rfl, hb⟩
def simR (lo : Bool) (n x l : Nat) : MG := if n = 20 then mgLeaf 1 0 0 x l else if n = 21 then mgLeaf 2 0 0 x l else if n = 22 ∨ (n = 23 ∧ lo = true) then mgLeaf 0 0 0 x l else none
set_option maxHeartbeats 4000000 in
theorem l05Simple_any (r : Nat) (s : ByteArray) (lo : Bool) (n x l : Nat) (hn : n < 18446744073709551616) (c : Int) (w : World) (hR : RC w r s lo c) :
    Calls Tryd.prog 216 #[.pointer (some ⟨r, 0, none⟩), .int .u64 n] w (LfRet (simR lo n x l) w) := by
  have hrw := hR.lt
  have HR := Lib.hid hR
  obtain ⟨m0, m1, m2, mf⟩ := hR.cells
  clear hR
  have hr1 : r ≠ w.heap.size := by omega
  have hr2 : w.heap.size ≠ r := by omega
  have BZ := Lib.hid (Box.new w 0 0 0 ⟨#[]⟩ (.slice none 0 0) 26)
  obtain ⟨z0, z1, z2, z3, z4⟩ := BZ.out.cells
  have zf0 := BZ.out.free (i := 0); have zf1 := BZ.out.free (i := 1); have zf2 := BZ.out.free (i := 2); have zf3 := BZ.out.free (i := 3); have zf4 := BZ.out.free (i := 4)
  by_cases h0 : n = 20
  · subst h0
    go_enter Tryd.func216, Tryd.ntmps216
    go_wp2_with fail
    exact bodyPost_ret (v := .tuple #[.agg #[.int .i64 1, .int .i64 0, .int .i64 0, .string ⟨#[]⟩, .slice none 0 0], .bool true]) (by simp [results, Tryd.results216, go_sem]) rfl (lf_some (k64 1 (by omega) (by omega)) ((by (with_reducible (repeat' (first | exact Below.refl _ _ | refine below_alloc ?_ _ ?_ | refine Below.setCell ?_ ?_ _ | refine Below.drew ?_ | refine below_drewN ?_ _ | refine below_step ?_ (by assumption) ?_ | refine below_mark ?_ (by assumption) ?_))); all_goals (first | omega | (simp; done) | (simp; omega)))))
  by_cases h1 : n = 21
  · subst h1
    go_enter Tryd.func216, Tryd.ntmps216
    go_wp2_with fail
    exact bodyPost_ret (v := .tuple #[.agg #[.int .i64 2, .int .i64 0, .int .i64 0, .string ⟨#[]⟩, .slice none 0 0], .bool true]) (by simp [results, Tryd.results216, go_sem]) rfl (lf_some (k64 2 (by omega) (by omega)) ((by (with_reducible (repeat' (first | exact Below.refl _ _ | refine below_alloc ?_ _ ?_ | refine Below.setCell ?_ ?_ _ | refine Below.drew ?_ | refine below_drewN ?_ _ | refine below_step ?_ (by assumption) ?_ | refine below_mark ?_ (by assumption) ?_))); all_goals (first | omega | (simp; done) | (simp; omega)))))
  by_cases h2 : n = 22
  · subst h2
    go_enter Tryd.func216, Tryd.ntmps216
    go_wp2_with fail
    exact bodyPost_ret (v := .tuple #[.agg #[.int .i64 0, .int .i64 0, .int .i64 0, .string ⟨#[]⟩, .slice none 0 0], .bool true]) (by simp [results, Tryd.results216, go_sem, z0, z1, z2, z3, z4]) rfl (lf_some in0 ((by (with_reducible (repeat' (first | exact Below.refl _ _ | refine below_alloc ?_ _ ?_ | refine Below.setCell ?_ ?_ _ | refine Below.drew ?_ | refine below_drewN ?_ _ | refine below_step ?_ (by assumption) ?_ | refine below_mark ?_ (by assumption) ?_))); all_goals (first | omega | (simp; done) | (simp; omega)))))
  by_cases h3 : n = 23
  · subst h3
    cases lo
    · go_enter Tryd.func216, Tryd.ntmps216
      go_wp2_with fail
      exact bodyPost_ret (v := .tuple #[.agg #[.int .i64 0, .int .i64 0, .int .i64 0, .string ⟨#[]⟩, .slice none 0 0], .bool false]) (by simp [results, Tryd.results216, go_sem, z0, z1, z2, z3, z4]) rfl (lf_none ((by (with_reducible (repeat' (first | exact Below.refl _ _ | refine below_alloc ?_ _ ?_ | refine Below.setCell ?_ ?_ _ | refine Below.drew ?_ | refine below_drewN ?_ _ | refine below_step ?_ (by assumption) ?_ | refine below_mark ?_ (by assumption) ?_))); all_goals (first | omega | (simp; done) | (simp; omega)))))
    · go_enter Tryd.func216, Tryd.ntmps216
      go_wp2_with fail
      exact bodyPost_ret (v := .tuple #[.agg #[.int .i64 0, .int .i64 0, .int .i64 0, .string ⟨#[]⟩, .slice none 0 0], .bool true]) (by simp [results, Tryd.results216, go_sem, z0, z1, z2, z3, z4]) rfl (lf_some in0 ((by (with_reducible (repeat' (first | exact Below.refl _ _ | refine below_alloc ?_ _ ?_ | refine Below.setCell ?_ ?_ _ | refine Below.drew ?_ | refine below_drewN ?_ _ | refine below_step ?_ (by assumption) ?_ | refine below_mark ?_ (by assumption) ?_))); all_goals (first | omega | (simp; done) | (simp; omega)))))
  have HN := Lib.hid (show simR lo n x l = none by unfold simR; rw [if_neg h0, if_neg h1, if_neg (by omega)])
  have t0 : ((n : Int) == 20) = false := by simp; omega
  have t1 : ((n : Int) == 21) = false := by simp; omega
  have t2 : ((n : Int) == 22) = false := by simp; omega
  have t3 : ((n : Int) == 23) = false := by simp; omega
  rw [HN.out]
  clear h0 h1 h2 h3
  go_enter Tryd.func216, Tryd.ntmps216
  go_wp2_with fail
  exact bodyPost_ret (v := .tuple #[.agg #[.int .i64 0, .int .i64 0, .int .i64 0, .string ⟨#[]⟩, .slice none 0 0], .bool false]) (by simp [results, Tryd.results216, go_sem, z0, z1, z2, z3, z4]) rfl (lf_none ((by (with_reducible (repeat' (first | exact Below.refl _ _ | refine below_alloc ?_ _ ?_ | refine Below.setCell ?_ ?_ _ | refine Below.drew ?_ | refine below_drewN ?_ _ | refine below_step ?_ (by assumption) ?_ | refine below_mark ?_ (by assumption) ?_))); all_goals (first | omega | (simp; done) | (simp; omega)))))
end Go.Proofs.YtgbgeocmjdgmoaaDoor
namespace Go.Proofs.YtgbgeocmjdgmoaaDoor
set_option linter.unusedSimpArgs false
set_option linter.unusedVariables false
set_option maxRecDepth 100000
open Go.RowKit
theorem below2 (w : World) (o : Obj) : Below w.heap.size w ((w.alloc o).alloc o) := ((Below.refl _ _).alloc (Nat.le_refl _) o).alloc (by simp) o
theorem tag_own {w5 : World} {B z : Nat} {u : V} {ua : Option Addr} {un uc : Nat} (hwf : u.wf) (ho : OwnS w5 (fun x => B ≤ x ∧ x < w5.heap.size) (.slice ua un uc) u.kids) (hz : z < B) (hB : B ≤ w5.heap.size) (v0 v1 v2 v3 v4 : Value) :
    OwnS (((set5 w5 z v0 v1 v2 v3 v4).alloc (.cells #[.int .i64 u.k, .int .i64 u.n, .int .i64 u.e, .string u.s, .slice ua un uc] 26)).alloc (.cells #[.int .i64 u.k, .int .i64 u.n, .int .i64 u.e, .string u.s, .slice ua un uc] 26)) (fun x => B ≤ x) (.slice (some ⟨w5.heap.size + 1, 0, none⟩) 1 1) [u] := by
  have h1 := ho.set5 z (fun hx => by have := hx.1; omega) v0 v1 v2 v3 v4
  have h2 := h1.keep (w' := ((set5 w5 z v0 v1 v2 v3 v4).alloc (.cells #[.int .i64 u.k, .int .i64 u.n, .int .i64 u.e, .string u.s, .slice ua un uc] 26)).alloc (.cells #[.int .i64 u.k, .int .i64 u.n, .int .i64 u.e, .string u.s, .slice ua un uc] 26)) (fun x hx hxs => (below2 _ _).block x hxs)
  refine OwnS.mono (own_one (E := 26) (b := w5.heap.size + 1) (sl := .slice ua un uc) (heap_alloc_here _ (by simp [])) hwf h2 (fun hx => by have := hx.2; omega)) (fun x hx => hx.elim (fun h => h.1) (fun h => by omega))
set_option maxHeartbeats 4000000 in
theorem l05Tagged_far (r : Nat) (s : ByteArray) (lo : Bool) (i n : Nat) (deep : Int) (h : 1000000 < n) (w : World) :
    Calls Tryd.prog 215 #[.pointer (some ⟨r, 0, none⟩), .int .i64 i, .int .u64 n, .int .i64 deep] w (CgRet r s lo none w) := by
  have hd : decide ((1000000 : Int) < (n : Int)) = true := decide_eq_true (by omega)
  have BZ := Lib.hid (Box.new w 0 0 0 ⟨#[]⟩ (.slice none 0 0) 26)
  obtain ⟨z0, z1, z2, z3, z4⟩ := BZ.out.cells
  have zf0 := BZ.out.free (i := 0); have zf1 := BZ.out.free (i := 1); have zf2 := BZ.out.free (i := 2); have zf3 := BZ.out.free (i := 3); have zf4 := BZ.out.free (i := 4)
  go_enter Tryd.func215, Tryd.ntmps215
  go_wp2_with fail
  refine bodyPost_ret (v := .tuple #[.agg #[.int .i64 0, .int .i64 0, .int .i64 0, .string ⟨#[]⟩, .slice none 0 0], .int .i64 (-1)]) (by simp [results, Tryd.results215, go_sem, z0, z1, z2, z3, z4]) rfl ⟨⟨.mk 0 0 0 ⟨#[]⟩ [], none, 0, 0, rfl⟩, Touch.of_below ((by (with_reducible (repeat' (first | exact Below.refl _ _ | refine below_alloc ?_ _ ?_ | refine Below.setCell ?_ ?_ _ | refine Below.drew ?_ | refine below_drewN ?_ _ | refine below_step ?_ (by assumption) ?_ | refine below_mark ?_ (by assumption) ?_))); all_goals (first | omega | (simp; done) | (simp; omega))))⟩
set_option maxHeartbeats 4000000 in
theorem l05Tagged_plain (r : Nat) (s : ByteArray) (lo : Bool) (i n l : Nat) (deep : Int) (hd : 0 ≤ deep ∧ deep ≤ 100) (h : n ≤ 1000000) (h4 : n ≠ 4) (o : MG) (w : World) (hR : RC w r s lo l)
    (hG : ∀ (W : World), RC W r s lo l → Calls Tryd.prog 138 #[.pointer (some ⟨r, 0, none⟩), .int .i64 i, .int .i64 (deep + 1)] W (CgRet r s lo o W)) :
    Calls Tryd.prog 215 #[.pointer (some ⟨r, 0, none⟩), .int .i64 i, .int .u64 n, .int .i64 deep] w (CgRet r s lo (o.bind (cgTag n)) w) := by
  have hrw := hR.lt
  have hwd : wrap64 (deep + 1) = deep + 1 := by unfold wrap64; omega
  have hdn : decide ((1000000 : Int) < (n : Int)) = false := decide_eq_false (by omega)
  have t4 : ((n : Int) == 4) = false := by simp; omega
  have BZ := Lib.hid (Box.new w 0 0 0 ⟨#[]⟩ (.slice none 0 0) 26)
  have hz0 : (w.alloc (.cells #[.int .i64 0, .int .i64 0, .int .i64 0, .string ⟨#[]⟩, .slice none 0 0] 26)).heap.size = w.heap.size + 1 := by simp
  have CL := Lib.hid (hG (w.alloc (.cells #[.int .i64 0, .int .i64 0, .int .i64 0, .string ⟨#[]⟩, .slice none 0 0] 26)) (hR.stay ((Below.refl _ _).alloc (Nat.le_refl _) _)))
  clear hG hR
  cases o with
  | none =>
    go_enter Tryd.func215, Tryd.ntmps215
    go_wp2_with fail
    refine CL.out.mono ?_
    rintro x w5 ⟨⟨t', sa, sn, sc, rfl⟩, ht5⟩
    unfold V.agg
    have hz5 := ht5.size
    rw [hz0] at hz5
    have BZ5 := Lib.hid (show Box w5 w.heap.size 0 0 0 ⟨#[]⟩ (.slice none 0 0) 26 from (ht5.block w.heap.size (by omega) (by omega)).trans BZ.out)
    obtain ⟨z0, z1, z2, z3, z4⟩ := BZ5.out.cells
    have zf0 := BZ5.out.free (i := 0); have zf1 := BZ5.out.free (i := 1); have zf2 := BZ5.out.free (i := 2); have zf3 := BZ5.out.free (i := 3); have zf4 := BZ5.out.free (i := 4)
    have hm1 : w.heap.size ≠ w5.heap.size := by omega
    have hm2 : w5.heap.size ≠ w.heap.size := by omega
    have hm3 : w.heap.size < w5.heap.size := by omega
    have HT := Lib.hid (show Touch (fun x => x = r) (fun x => x = r) w w5 from (Touch.of_below ((Below.refl _ _).alloc (Nat.le_refl _) _)).trans ht5)
    clear ht5 CL
    go_wp2_with fail
    refine bodyPost_ret (v := .tuple #[.agg #[.int .i64 0, .int .i64 0, .int .i64 0, .string ⟨#[]⟩, .slice none 0 0], .int .i64 (-1)]) (by simp [results, Tryd.results215, go_sem, z0, z1, z2, z3, z4, hm3]) rfl ⟨⟨.mk 0 0 0 ⟨#[]⟩ [], none, 0, 0, rfl⟩, (HT.out.set5 w.heap.size (Nat.le_refl _) _ _ _ _ _).trans (Touch.of_below ((Below.refl _ _).alloc (Nat.le_refl _) _))⟩
  | some q =>
    obtain ⟨u, iq, lq⟩ := q
    have HE := Lib.hid (show (some (u, iq, lq) : MG).bind (cgTag n) = some (.mk 9 n 0 ⟨#[]⟩ [u], iq, lq) by
      rw [Option.bind_some]; unfold cgTag; rw [if_neg h4, show min n 4294967296 = n by omega])
    rw [HE.out]
    clear HE h4
    go_enter Tryd.func215, Tryd.ntmps215
    go_wp2_with fail
    refine CL.out.mono ?_
    rintro x w5 ⟨⟨us, rfl, uwf, uo, hrb5⟩, ht5⟩
    obtain ⟨ua, un, uc, rfl⟩ : ∃ sa sn sc, us = .slice sa sn sc := by obtain ⟨p, q, e⟩ := uo.slice; exact ⟨p, _, q, e⟩
    unfold V.agg
    have hz5 := ht5.size
    rw [hz0] at hz5 uo
    have BZ5 := Lib.hid (show Box w5 w.heap.size 0 0 0 ⟨#[]⟩ (.slice none 0 0) 26 from (ht5.block w.heap.size (by omega) (by omega)).trans BZ.out)
    obtain ⟨z0, z1, z2, z3, z4⟩ := BZ5.out.cells
    have zf0 := BZ5.out.free (i := 0); have zf1 := BZ5.out.free (i := 1); have zf2 := BZ5.out.free (i := 2); have zf3 := BZ5.out.free (i := 3); have zf4 := BZ5.out.free (i := 4)
    have hm1 : w.heap.size ≠ w5.heap.size := by omega
    have hm2 : w5.heap.size ≠ w.heap.size := by omega
    have hm3 : w.heap.size < w5.heap.size := by omega
    have hin : decide ((iq : Int) < 0) = false := decide_eq_false (by omega)
    have HT := Lib.hid (show Touch (fun x => x = r) (fun x => x = r) w w5 from (Touch.of_below ((Below.refl _ _).alloc (Nat.le_refl _) _)).trans ht5)
    have HWF := Lib.hid uwf; have HO := Lib.hid uo.bound; have HRC := Lib.hid hrb5
    have HP := Lib.hid (fun v0 v1 v2 v3 v4 => show CgRet r s lo (some (.mk 9 n 0 ⟨#[]⟩ [u], iq, lq)) w (.returned (.tuple #[.agg #[.int .i64 9, .int .i64 n, .int .i64 0, .string ⟨#[]⟩, .slice (some ⟨w5.heap.size + 1, 0, none⟩) 1 1], .int .i64 (iq : Int)])) (((set5 w5 w.heap.size v0 v1 v2 v3 v4).alloc (.cells #[.int .i64 u.k, .int .i64 u.n, .int .i64 u.e, .string u.s, .slice ua un uc] 26)).alloc (.cells #[.int .i64 u.k, .int .i64 u.n, .int .i64 u.e, .string u.s, .slice ua un uc] 26)) from
      ⟨⟨_, rfl, ⟨k64 9 (by omega) (by omega), k64 n (by omega) (by omega), in0, by show ByteArray.size ⟨#[]⟩ ≤ _; simp [ByteArray.size]⟩, OwnS.mono (tag_own HWF.out HO.out (z := w.heap.size) (by omega) (by omega) v0 v1 v2 v3 v4) (fun x hx => by omega), (HRC.out.move ((below_set5 _ _ _ _ _ _ _).mono (by omega))).stay (below2 _ _)⟩, (HT.out.set5 w.heap.size (Nat.le_refl _) _ _ _ _ _).trans (Touch.of_below (below2 _ _))⟩)
    clear ht5 CL uo uwf hrb5
    go_wp2_with fail
    refine bodyPost_ret (v := .tuple #[.agg #[.int .i64 9, .int .i64 n, .int .i64 0, .string ⟨#[]⟩, .slice (some ⟨w5.heap.size + 1, 0, none⟩) 1 1], .int .i64 (iq : Int)]) (by simp [results, Tryd.results215, go_sem, z0, z1, z2, z3, z4, hm3]) rfl (HP.out _ _ _ _ _)
end Go.Proofs.YtgbgeocmjdgmoaaDoor
namespace Go.Proofs.YtgbgeocmjdgmoaaDoor
set_option linter.unusedSimpArgs false
set_option linter.unusedVariables false
set_option maxRecDepth 100000
open Go.RowKit
theorem decOf_7 {t : V} {j m : Nat} (h : t.k ≠ 7) : decOf (t, j, m) = none := by
  obtain ⟨k, n, e, s, ks⟩ := t
  unfold decOf
  split
  · rename_i he
    simp only [Prod.mk.injEq, V.mk.injEq] at he
    obtain ⟨⟨rfl, -, -, -, -⟩, -⟩ := he
    rw [if_neg (fun hc => h hc.1)]
  · rfl
theorem decOf_l {t : V} {j m : Nat} (h : t.kids.length ≠ 2) : decOf (t, j, m) = none := by
  obtain ⟨k, n, e, s, ks⟩ := t
  unfold decOf
  split
  · rename_i he
    simp only [Prod.mk.injEq, V.mk.injEq] at he
    obtain ⟨⟨-, -, -, -, rfl⟩, -⟩ := he
    exact absurd rfl h
  · rfl
theorem decOf_2 {t x y : V} {j m : Nat} (h7 : t.k = 7) (h : t.kids = [x, y]) : decOf (t, j, m) = if x.k = 3 ∧ y.k = 3 then mgLeaf 4 y.n x.n j m else none := by
  obtain ⟨k, n, e, s, ks⟩ := t
  obtain rfl : k = 7 := h7
  obtain rfl : ks = [x, y] := h
  show (if (7 : Int) = 7 ∧ x.k = 3 ∧ y.k = 3 then mgLeaf 4 y.n x.n j m else none) = _
  simp
theorem rep_two {w : World} {sl : Value} {x y : V} (h : RepS w sl [x, y]) : ∃ b off cap, sl = .slice (some ⟨b, off, none⟩) 2 cap ∧ b < w.heap.size ∧ x.wf ∧ y.wf ∧ w.cell? ⟨b, off, none⟩ = some (.int .i64 x.k) ∧ w.cell? ⟨b, off + 1, none⟩ = some (.int .i64 x.n) ∧ w.cell? ⟨b, off + 5, none⟩ = some (.int .i64 y.k) ∧ w.cell? ⟨b, off + 5 + 1, none⟩ = some (.int .i64 y.n) := by
  generalize hts : [x, y] = ts at h
  cases h with
  | mk a b off cap ts sls ha hc hm hbb cells wfs kids =>
    subst hts
    have ha' := ha (by simp)
    subst ha'
    have c0 := cells 0 (by simp)
    have c1 := cells 1 (by simp)
    have w0 := wfs 0 (by simp)
    have w1 := wfs 1 (by simp)
    obtain ⟨p0, p1, -⟩ := c0
    obtain ⟨q0, q1, -⟩ := c1
    refine ⟨b, off, cap, rfl, hbb (by simp), w0, w1, by simpa using p0, by simpa using p1, by simpa using q0, by simpa using q1⟩
set_option maxHeartbeats 4000000 in
theorem l05Tagged_four (r : Nat) (s : ByteArray) (lo : Bool) (i l : Nat) (deep : Int) (hd : 0 ≤ deep ∧ deep ≤ 100) (o : MG) (w : World) (hR : RC w r s lo l)
    (hG : ∀ (W : World), RC W r s lo l → Calls Tryd.prog 138 #[.pointer (some ⟨r, 0, none⟩), .int .i64 i, .int .i64 (deep + 1)] W (CgRet r s lo o W)) :
    Calls Tryd.prog 215 #[.pointer (some ⟨r, 0, none⟩), .int .i64 i, .int .u64 4, .int .i64 deep] w (CgRet r s lo (o.bind (cgTag 4)) w) := by
  have hrw := hR.lt
  have hwd : wrap64 (deep + 1) = deep + 1 := by unfold wrap64; omega
  have BZ := Lib.hid (Box.new w 0 0 0 ⟨#[]⟩ (.slice none 0 0) 26)
  have hz0 : (w.alloc (.cells #[.int .i64 0, .int .i64 0, .int .i64 0, .string ⟨#[]⟩, .slice none 0 0] 26)).heap.size = w.heap.size + 1 := by simp
  have CL := Lib.hid (hG (w.alloc (.cells #[.int .i64 0, .int .i64 0, .int .i64 0, .string ⟨#[]⟩, .slice none 0 0] 26)) (hR.stay ((Below.refl _ _).alloc (Nat.le_refl _) _)))
  clear hG hR
  cases o with
  | none =>
    go_enter Tryd.func215, Tryd.ntmps215
    go_wp2_with fail
    refine CL.out.mono ?_
    rintro x w5 ⟨⟨t', sa, sn, sc, rfl⟩, ht5⟩
    unfold V.agg
    have hz5 := ht5.size
    rw [hz0] at hz5
    have BZ5 := Lib.hid (show Box w5 w.heap.size 0 0 0 ⟨#[]⟩ (.slice none 0 0) 26 from (ht5.block w.heap.size (by omega) (by omega)).trans BZ.out)
    obtain ⟨z0, z1, z2, z3, z4⟩ := BZ5.out.cells
    have zf0 := BZ5.out.free (i := 0); have zf1 := BZ5.out.free (i := 1); have zf2 := BZ5.out.free (i := 2); have zf3 := BZ5.out.free (i := 3); have zf4 := BZ5.out.free (i := 4)
    have hm1 : w.heap.size ≠ w5.heap.size := by omega
    have hm2 : w5.heap.size ≠ w.heap.size := by omega
    have hm3 : w.heap.size < w5.heap.size := by omega
    have HT := Lib.hid (show Touch (fun x => x = r) (fun x => x = r) w w5 from (Touch.of_below ((Below.refl _ _).alloc (Nat.le_refl _) _)).trans ht5)
    clear ht5 CL
    go_wp2_with fail
    refine bodyPost_ret (v := .tuple #[.agg #[.int .i64 0, .int .i64 0, .int .i64 0, .string ⟨#[]⟩, .slice none 0 0], .int .i64 (-1)]) (by simp [results, Tryd.results215, go_sem, z0, z1, z2, z3, z4, hm3]) rfl ⟨⟨.mk 0 0 0 ⟨#[]⟩ [], none, 0, 0, rfl⟩, (HT.out.set5 w.heap.size (Nat.le_refl _) _ _ _ _ _).trans (Touch.of_below ((Below.refl _ _).alloc (Nat.le_refl _) _))⟩
  | some q =>
    obtain ⟨u, iq, lq⟩ := q
    rw [show (some (u, iq, lq) : MG).bind (cgTag 4) = decOf (u, iq, lq) by rw [Option.bind_some]; unfold cgTag; rw [if_pos rfl]]
    have HMID : ∀ (w5 : World) (ua : Option Addr) (un uc : Nat), u.wf → OwnS w5 (fun x => w.heap.size + 1 ≤ x) (.slice ua un uc) u.kids → RC w5 r s lo lq → Touch (fun x => x = r) (fun x => x = r) (w.alloc (.cells #[.int .i64 0, .int .i64 0, .int .i64 0, .string ⟨#[]⟩, .slice none 0 0] 26)) w5 →
        u.wf ∧ RepS w5 (.slice ua un uc) u.kids ∧ Box w5 w.heap.size 0 0 0 ⟨#[]⟩ (.slice none 0 0) 26 ∧ Touch (fun x => x = r) (fun x => x = r) w w5 ∧ w.heap.size < w5.heap.size := by
      intro w5 ua un uc h1 h2 h3 h4
      have hz5 := h4.size
      rw [hz0] at hz5
      exact ⟨h1, h2.rep, (h4.block w.heap.size (by omega) (by omega)).trans BZ.out, (Touch.of_below ((Below.refl _ _).alloc (Nat.le_refl _) _)).trans h4, by omega⟩
    have HMID := Lib.hid HMID
    have HNONE := Lib.hid (fun (w5 : World) (hT : Touch (fun x => x = r) (fun x => x = r) w w5) (ob : Obj) (v0 v1 v2 v3 v4 : Value) => show CgRet r s lo none w (.returned (.tuple #[.agg #[.int .i64 0, .int .i64 0, .int .i64 0, .string ⟨#[]⟩, .slice none 0 0], .int .i64 (-1)])) ((set5 w5 w.heap.size v0 v1 v2 v3 v4).alloc ob) from
      ⟨⟨.mk 0 0 0 ⟨#[]⟩ [], none, 0, 0, rfl⟩, (hT.set5 w.heap.size (Nat.le_refl _) _ _ _ _ _).trans (Touch.of_below ((Below.refl _ _).alloc (Nat.le_refl _) _))⟩)
    by_cases h7 : u.k = 7
    · by_cases hl : u.kids.length = 2
      · obtain ⟨x, y, hxy⟩ : ∃ x y, u.kids = [x, y] := by
          match hk : u.kids, hl with
          | [x, y], _ => exact ⟨x, y, rfl⟩
        rw [decOf_2 h7 hxy]
        clear hl
        by_cases hx : x.k = 3
        · by_cases hy : y.k = 3
          · rw [if_pos ⟨hx, hy⟩]
            go_enter Tryd.func215, Tryd.ntmps215
            go_wp2_with fail
            refine CL.out.mono ?_
            rintro x9 w5 ⟨⟨us, rfl, uwf, uo, hrb5⟩, ht5⟩
            obtain ⟨ua, un, uc, rfl⟩ : ∃ sa sn sc, us = .slice sa sn sc := by obtain ⟨p, q, e⟩ := uo.slice; exact ⟨p, _, q, e⟩
            have HM := HMID.out w5 ua un uc uwf (by rw [hz0] at uo; exact uo) hrb5 ht5
            clear uwf uo ht5
            obtain ⟨uwf, hrep, hbz, htt, hlt⟩ := HM
            unfold V.agg
            have BZ5 := Lib.hid hbz
            have HT := Lib.hid htt
            have HRC := Lib.hid hrb5
            obtain ⟨z0, z1, z2, z3, z4⟩ := BZ5.out.cells
            have zf0 := BZ5.out.free (i := 0); have zf1 := BZ5.out.free (i := 1); have zf2 := BZ5.out.free (i := 2); have zf3 := BZ5.out.free (i := 3); have zf4 := BZ5.out.free (i := 4)
            have hm1 : w.heap.size ≠ w5.heap.size := by omega
            have hm2 : w5.heap.size ≠ w.heap.size := by omega
            have hin : decide ((iq : Int) < 0) = false := decide_eq_false (by omega)
            clear hbz htt CL HMID hrb5
            obtain ⟨b, off, cap', e, hb, hwx, hwy, c0, c1, c2, c3⟩ := rep_two (by rw [hxy] at hrep; exact hrep)
            simp only [Value.slice.injEq] at e
            obtain ⟨rfl, rfl, rfl⟩ := e
            clear hrep
            have hb1 : b ≠ w5.heap.size := by omega
            have hb2 : w5.heap.size ≠ b := by omega
            rw [hx] at c0
            rw [hy] at c2
            have HP := Lib.hid (fun (v0 v1 v2 v3 v4 : Value) => show CgRet r s lo (mgLeaf 4 y.n x.n iq lq) w (.returned (.tuple #[.agg #[.int .i64 4, .int .i64 y.n, .int .i64 x.n, .string ⟨#[]⟩, .slice none 0 0], .int .i64 (iq : Int)])) ((set5 w5 w.heap.size v0 v1 v2 v3 v4).alloc (.cells #[.int .i64 7, .int .i64 u.n, .int .i64 u.e, .string u.s, .slice (some ⟨b, off, none⟩) 2 uc] 26)).drew from
              ⟨⟨.slice none 0 0, rfl, ⟨k64 4 (by omega) (by omega), hwy.2.1, hwx.2.1, by show ByteArray.size ⟨#[]⟩ ≤ _; simp [ByteArray.size]⟩, OwnS.nil _ _, (show RC (set5 w5 w.heap.size v0 v1 v2 v3 v4) r s lo lq from (heap_set5 _ _ _ _ _ _ _ _ (by omega)).trans HRC.out).stay (((Below.refl _ _).alloc (Nat.le_refl _) _).drew)⟩, (HT.out.set5 w.heap.size (Nat.le_refl _) _ _ _ _ _).trans (Touch.of_below (((Below.refl _ _).alloc (Nat.le_refl _) _).drew))⟩)
            clear HNONE hx hy hwx hwy
            rw [h7] at *
            go_wp2_with fail
            go_region
            all_goals go_wp2_with fail
            all_goals exact bodyPost_ret (v := .tuple #[.agg #[.int .i64 4, .int .i64 y.n, .int .i64 x.n, .string ⟨#[]⟩, .slice none 0 0], .int .i64 (iq : Int)]) (by simp [results, Tryd.results215, go_sem, z0, z1, z2, z3, z4, hlt]) rfl (HP.out _ _ _ _ _)
          · rw [if_neg (fun hc => hy hc.2)]
            go_enter Tryd.func215, Tryd.ntmps215
            go_wp2_with fail
            refine CL.out.mono ?_
            rintro x9 w5 ⟨⟨us, rfl, uwf, uo, hrb5⟩, ht5⟩
            obtain ⟨ua, un, uc, rfl⟩ : ∃ sa sn sc, us = .slice sa sn sc := by obtain ⟨p, q, e⟩ := uo.slice; exact ⟨p, _, q, e⟩
            have HM := HMID.out w5 ua un uc uwf (by rw [hz0] at uo; exact uo) hrb5 ht5
            clear uwf uo ht5
            obtain ⟨uwf, hrep, hbz, htt, hlt⟩ := HM
            unfold V.agg
            have BZ5 := Lib.hid hbz
            have HT := Lib.hid htt
            have HRC := Lib.hid hrb5
            obtain ⟨z0, z1, z2, z3, z4⟩ := BZ5.out.cells
            have zf0 := BZ5.out.free (i := 0); have zf1 := BZ5.out.free (i := 1); have zf2 := BZ5.out.free (i := 2); have zf3 := BZ5.out.free (i := 3); have zf4 := BZ5.out.free (i := 4)
            have hm1 : w.heap.size ≠ w5.heap.size := by omega
            have hm2 : w5.heap.size ≠ w.heap.size := by omega
            have hin : decide ((iq : Int) < 0) = false := decide_eq_false (by omega)
            clear hbz htt CL HMID hrb5
            obtain ⟨b, off, cap', e, hb, hwx, hwy, c0, c1, c2, c3⟩ := rep_two (by rw [hxy] at hrep; exact hrep)
            simp only [Value.slice.injEq] at e
            obtain ⟨rfl, rfl, rfl⟩ := e
            clear hrep
            have hb1 : b ≠ w5.heap.size := by omega
            have hb2 : w5.heap.size ≠ b := by omega
            rw [hx] at c0
            have t1 : (y.k == 3) = false := by simpa using hy
            clear hx hy hwx hwy
            rw [h7] at *
            go_wp2_with fail
            refine bodyPost_ret (v := .tuple #[.agg #[.int .i64 0, .int .i64 0, .int .i64 0, .string ⟨#[]⟩, .slice none 0 0], .int .i64 (-1)]) (by simp [results, Tryd.results215, go_sem, z0, z1, z2, z3, z4, hlt]) rfl (HNONE.out _ HT.out _ _ _ _ _ _)
        · rw [if_neg (fun hc => hx hc.1)]
          go_enter Tryd.func215, Tryd.ntmps215
          go_wp2_with fail
          refine CL.out.mono ?_
          rintro x9 w5 ⟨⟨us, rfl, uwf, uo, hrb5⟩, ht5⟩
          obtain ⟨ua, un, uc, rfl⟩ : ∃ sa sn sc, us = .slice sa sn sc := by obtain ⟨p, q, e⟩ := uo.slice; exact ⟨p, _, q, e⟩
          have HM := HMID.out w5 ua un uc uwf (by rw [hz0] at uo; exact uo) hrb5 ht5
          clear uwf uo ht5
          obtain ⟨uwf, hrep, hbz, htt, hlt⟩ := HM
          unfold V.agg
          have BZ5 := Lib.hid hbz
          have HT := Lib.hid htt
          have HRC := Lib.hid hrb5
          obtain ⟨z0, z1, z2, z3, z4⟩ := BZ5.out.cells
          have zf0 := BZ5.out.free (i := 0); have zf1 := BZ5.out.free (i := 1); have zf2 := BZ5.out.free (i := 2); have zf3 := BZ5.out.free (i := 3); have zf4 := BZ5.out.free (i := 4)
          have hm1 : w.heap.size ≠ w5.heap.size := by omega
          have hm2 : w5.heap.size ≠ w.heap.size := by omega
          have hin : decide ((iq : Int) < 0) = false := decide_eq_false (by omega)
          clear hbz htt CL HMID hrb5
          obtain ⟨b, off, cap', e, hb, hwx, hwy, c0, c1, c2, c3⟩ := rep_two (by rw [hxy] at hrep; exact hrep)
          simp only [Value.slice.injEq] at e
          obtain ⟨rfl, rfl, rfl⟩ := e
          clear hrep
          have hb1 : b ≠ w5.heap.size := by omega
          have hb2 : w5.heap.size ≠ b := by omega
          have t1 : (x.k == 3) = false := by simpa using hx
          clear hx hwx hwy
          rw [h7] at *
          go_wp2_with fail
          refine bodyPost_ret (v := .tuple #[.agg #[.int .i64 0, .int .i64 0, .int .i64 0, .string ⟨#[]⟩, .slice none 0 0], .int .i64 (-1)]) (by simp [results, Tryd.results215, go_sem, z0, z1, z2, z3, z4, hlt]) rfl (HNONE.out _ HT.out _ _ _ _ _ _)
      · rw [decOf_l hl]
        go_enter Tryd.func215, Tryd.ntmps215
        go_wp2_with fail
        refine CL.out.mono ?_
        rintro x9 w5 ⟨⟨us, rfl, uwf, uo, hrb5⟩, ht5⟩
        obtain ⟨ua, un, uc, rfl⟩ : ∃ sa sn sc, us = .slice sa sn sc := by obtain ⟨p, q, e⟩ := uo.slice; exact ⟨p, _, q, e⟩
        have HM := HMID.out w5 ua un uc uwf (by rw [hz0] at uo; exact uo) hrb5 ht5
        clear uwf uo ht5
        obtain ⟨uwf, hrep, hbz, htt, hlt⟩ := HM
        unfold V.agg
        have BZ5 := Lib.hid hbz
        have HT := Lib.hid htt
        have HRC := Lib.hid hrb5
        obtain ⟨z0, z1, z2, z3, z4⟩ := BZ5.out.cells
        have zf0 := BZ5.out.free (i := 0); have zf1 := BZ5.out.free (i := 1); have zf2 := BZ5.out.free (i := 2); have zf3 := BZ5.out.free (i := 3); have zf4 := BZ5.out.free (i := 4)
        have hm1 : w.heap.size ≠ w5.heap.size := by omega
        have hm2 : w5.heap.size ≠ w.heap.size := by omega
        have hin : decide ((iq : Int) < 0) = false := decide_eq_false (by omega)
        clear hbz htt CL HMID hrb5
        have hlen : un = u.kids.length := by obtain ⟨p, q, e⟩ := hrep.slice; injection e
        have t1 : ¬ ((un : Int) = 2) := by omega
        have t2 : ¬ (un = 2) := by omega
        clear hl hrep hlen
        rw [h7] at *
        go_wp2_with fail
        refine bodyPost_ret (v := .tuple #[.agg #[.int .i64 0, .int .i64 0, .int .i64 0, .string ⟨#[]⟩, .slice none 0 0], .int .i64 (-1)]) (by simp [results, Tryd.results215, go_sem, z0, z1, z2, z3, z4, hlt]) rfl (HNONE.out _ HT.out _ _ _ _ _ _)
    · rw [decOf_7 h7]
      go_enter Tryd.func215, Tryd.ntmps215
      go_wp2_with fail
      refine CL.out.mono ?_
      rintro x9 w5 ⟨⟨us, rfl, uwf, uo, hrb5⟩, ht5⟩
      obtain ⟨ua, un, uc, rfl⟩ : ∃ sa sn sc, us = .slice sa sn sc := by obtain ⟨p, q, e⟩ := uo.slice; exact ⟨p, _, q, e⟩
      have HM := HMID.out w5 ua un uc uwf (by rw [hz0] at uo; exact uo) hrb5 ht5
      clear uwf uo ht5
      obtain ⟨uwf, hrep, hbz, htt, hlt⟩ := HM
      unfold V.agg
      have BZ5 := Lib.hid hbz
      have HT := Lib.hid htt
      have HRC := Lib.hid hrb5
      obtain ⟨z0, z1, z2, z3, z4⟩ := BZ5.out.cells
      have zf0 := BZ5.out.free (i := 0); have zf1 := BZ5.out.free (i := 1); have zf2 := BZ5.out.free (i := 2); have zf3 := BZ5.out.free (i := 3); have zf4 := BZ5.out.free (i := 4)
      have hm1 : w.heap.size ≠ w5.heap.size := by omega
      have hm2 : w5.heap.size ≠ w.heap.size := by omega
      have hin : decide ((iq : Int) < 0) = false := decide_eq_false (by omega)
      clear hbz htt CL HMID hrb5
      clear hrep
      go_wp2_with fail
      refine bodyPost_ret (v := .tuple #[.agg #[.int .i64 0, .int .i64 0, .int .i64 0, .string ⟨#[]⟩, .slice none 0 0], .int .i64 (-1)]) (by simp [results, Tryd.results215, go_sem, z0, z1, z2, z3, z4, hlt]) rfl (HNONE.out _ HT.out _ _ _ _ _ _)
end Go.Proofs.YtgbgeocmjdgmoaaDoor
namespace Go.Proofs.YtgbgeocmjdgmoaaDoor
set_option linter.unusedSimpArgs false
set_option linter.unusedVariables false
set_option maxRecDepth 100000
open Go.RowKit
set_option maxHeartbeats 4000000 in
theorem l05Open_2 (r : Nat) (s : ByteArray) (hs : s.size ≤ 1048576) (lo : Bool) (i l : Nat) (deep : Int) (hi : i < s.size) (hb : s[i].toNat / 32 = 2) (w : World) (hR : RC w r s lo l) :
    Calls Tryd.prog 211 #[.pointer (some ⟨r, 0, none⟩), .int .i64 i, .int .i64 deep] w (CgRet r s lo ((cgChunks s 2 (s.size + 1) (i + 1)).map fun p => ((V.mk 6 0 0 p.1 []), p.2, l)) w) := by
  have hrw := hR.lt
  have HR := Lib.hid hR
  obtain ⟨m0, m1, m2, mf⟩ := hR.cells
  clear hR
  have hr1 : r ≠ w.heap.size := by omega
  have hr2 : w.heap.size ≠ r := by omega
  have BZ := Lib.hid (Box.new w 0 0 0 ⟨#[]⟩ (.slice none 0 0) 26)
  obtain ⟨z0, z1, z2, z3, z4⟩ := BZ.out.cells
  have zf0 := BZ.out.free (i := 0); have zf1 := BZ.out.free (i := 1); have zf2 := BZ.out.free (i := 2); have zf3 := BZ.out.free (i := 3); have zf4 := BZ.out.free (i := 4)
  have hdiv : ((s[i].toNat : Nat) : Int) / 32 = 2 := by omega
  have hdiv2 : Int.tdiv ((s[i].toNat : Nat) : Int) 32 = 2 := by rw [Int.tdiv_eq_ediv_of_nonneg (by omega)]; omega
  have CL := Lib.hid (l05Parts_any r s hs lo 2 (.inl rfl) (i + 1) (by omega) l (w.alloc (.cells #[.int .i64 0, .int .i64 0, .int .i64 0, .string ⟨#[]⟩, .slice none 0 0] 26)) (HR.out.stay ((Below.refl _ _).alloc (Nat.le_refl _) _)))
  clear hb
  clear BZ
  cases ho : cgChunks s 2 (s.size + 1) (i + 1) with
  | none =>
    rw [ho] at CL
    rw [Option.map_none]
    go_enter Tryd.func211, Tryd.ntmps211
    go_wp2_with fail
    refine CL.out.mono ?_
    rintro e1 w5 ⟨rfl, hb5⟩
    have BZ5 := Lib.hid ((Box.new w 0 0 0 ⟨#[]⟩ (.slice none 0 0) 26).stay hb5)
    clear z0 z1 z2 z3 z4 zf0 zf1 zf2 zf3 zf4
    obtain ⟨z0, z1, z2, z3, z4⟩ := BZ5.out.cells
    have zf0 := BZ5.out.free (i := 0); have zf1 := BZ5.out.free (i := 1); have zf2 := BZ5.out.free (i := 2); have zf3 := BZ5.out.free (i := 3); have zf4 := BZ5.out.free (i := 4)
    have hz5 := hb5.size
    rw [show (w.alloc (.cells #[.int .i64 0, .int .i64 0, .int .i64 0, .string ⟨#[]⟩, .slice none 0 0] 26)).heap.size = w.heap.size + 1 by simp] at hz5
    have hm1 : w.heap.size ≠ w5.heap.size := by omega
    have hm2 : w5.heap.size ≠ w.heap.size := by omega
    have hm3 : w.heap.size < w5.heap.size := by omega
    go_wp2_with fail
    refine bodyPost_ret (v := .tuple #[.agg #[.int .i64 6, .int .i64 0, .int .i64 0, .string ⟨#[]⟩, .slice none 0 0], .int .i64 (-1)]) (by simp [results, Tryd.results211, go_sem, z0, z1, z2, z3, z4, hm3]) rfl ⟨⟨.mk 6 0 0 ⟨#[]⟩ [], none, 0, 0, rfl⟩, Touch.of_below ((by (with_reducible (repeat' (first | exact Below.refl _ _ | refine below_alloc ?_ _ ?_ | refine Below.setCell ?_ ?_ _ | refine Below.drew ?_ | refine below_drewN ?_ _ | refine below_step ?_ (by assumption) ?_ | refine below_mark ?_ (by assumption) ?_))); all_goals (first | omega | (simp; done) | (simp; omega))))⟩
  | some p =>
    obtain ⟨t, j⟩ := p
    rw [ho] at CL
    rw [Option.map_some]
    go_enter Tryd.func211, Tryd.ntmps211
    go_wp2_with fail
    refine CL.out.mono ?_
    rintro e1 w5 ⟨⟨rfl, htz⟩, hb5⟩
    have BZ5 := Lib.hid ((Box.new w 0 0 0 ⟨#[]⟩ (.slice none 0 0) 26).stay hb5)
    clear z0 z1 z2 z3 z4 zf0 zf1 zf2 zf3 zf4
    obtain ⟨z0, z1, z2, z3, z4⟩ := BZ5.out.cells
    have zf0 := BZ5.out.free (i := 0); have zf1 := BZ5.out.free (i := 1); have zf2 := BZ5.out.free (i := 2); have zf3 := BZ5.out.free (i := 3); have zf4 := BZ5.out.free (i := 4)
    have hz5 := hb5.size
    rw [show (w.alloc (.cells #[.int .i64 0, .int .i64 0, .int .i64 0, .string ⟨#[]⟩, .slice none 0 0] 26)).heap.size = w.heap.size + 1 by simp] at hz5
    have hm1 : w.heap.size ≠ w5.heap.size := by omega
    have hm2 : w5.heap.size ≠ w.heap.size := by omega
    have hm3 : w.heap.size < w5.heap.size := by omega
    go_wp2_with fail
    refine bodyPost_ret (v := .tuple #[.agg #[.int .i64 6, .int .i64 0, .int .i64 0, .string t, .slice none 0 0], .int .i64 (j : Int)]) (by simp [results, Tryd.results211, go_sem, z0, z1, z2, z3, z4, hm3]) rfl ?_
    have hbw : Below w.heap.size w w5 := (by (with_reducible (repeat' (first | exact Below.refl _ _ | refine below_alloc ?_ _ ?_ | refine Below.setCell ?_ ?_ _ | refine Below.drew ?_ | refine below_drewN ?_ _ | refine below_step ?_ (by assumption) ?_ | refine below_mark ?_ (by assumption) ?_))); all_goals (first | omega | (simp; done) | (simp; omega)))
    refine ⟨⟨.slice none 0 0, rfl, ⟨k64 6 (by omega) (by omega), in0, in0, by show t.size ≤ _; omega⟩, OwnS.nil _ _, HR.out.stay ((by (with_reducible (repeat' (first | exact Below.refl _ _ | refine below_alloc ?_ _ ?_ | refine Below.setCell ?_ ?_ _ | refine Below.drew ?_ | refine below_drewN ?_ _ | refine below_step ?_ (by assumption) ?_ | refine below_mark ?_ (by assumption) ?_))); all_goals (first | omega | (simp; done) | (simp; omega))))⟩, Touch.of_below ((by (with_reducible (repeat' (first | exact Below.refl _ _ | refine below_alloc ?_ _ ?_ | refine Below.setCell ?_ ?_ _ | refine Below.drew ?_ | refine below_drewN ?_ _ | refine below_step ?_ (by assumption) ?_ | refine below_mark ?_ (by assumption) ?_))); all_goals (first | omega | (simp; done) | (simp; omega))))⟩
set_option maxHeartbeats 4000000 in
theorem l05Open_3 (r : Nat) (s : ByteArray) (hs : s.size ≤ 1048576) (lo : Bool) (i l : Nat) (deep : Int) (hi : i < s.size) (hb : s[i].toNat / 32 = 3) (w : World) (hR : RC w r s lo l) :
    Calls Tryd.prog 211 #[.pointer (some ⟨r, 0, none⟩), .int .i64 i, .int .i64 deep] w (CgRet r s lo ((cgChunks s 3 (s.size + 1) (i + 1)).map fun p => ((V.mk 5 0 0 p.1 []), p.2, l)) w) := by
  have hrw := hR.lt
  have HR := Lib.hid hR
  obtain ⟨m0, m1, m2, mf⟩ := hR.cells
  clear hR
  have hr1 : r ≠ w.heap.size := by omega
  have hr2 : w.heap.size ≠ r := by omega
  have BZ := Lib.hid (Box.new w 0 0 0 ⟨#[]⟩ (.slice none 0 0) 26)
  obtain ⟨z0, z1, z2, z3, z4⟩ := BZ.out.cells
  have zf0 := BZ.out.free (i := 0); have zf1 := BZ.out.free (i := 1); have zf2 := BZ.out.free (i := 2); have zf3 := BZ.out.free (i := 3); have zf4 := BZ.out.free (i := 4)
  have hdiv : ((s[i].toNat : Nat) : Int) / 32 = 3 := by omega
  have hdiv2 : Int.tdiv ((s[i].toNat : Nat) : Int) 32 = 3 := by rw [Int.tdiv_eq_ediv_of_nonneg (by omega)]; omega
  have CL := Lib.hid (l05Parts_any r s hs lo 3 (.inr rfl) (i + 1) (by omega) l (w.alloc (.cells #[.int .i64 0, .int .i64 0, .int .i64 0, .string ⟨#[]⟩, .slice none 0 0] 26)) (HR.out.stay ((Below.refl _ _).alloc (Nat.le_refl _) _)))
  clear hb
  clear BZ
  cases ho : cgChunks s 3 (s.size + 1) (i + 1) with
  | none =>
    rw [ho] at CL
    rw [Option.map_none]
    go_enter Tryd.func211, Tryd.ntmps211
    go_wp2_with fail
    refine CL.out.mono ?_
    rintro e1 w5 ⟨rfl, hb5⟩
    have BZ5 := Lib.hid ((Box.new w 0 0 0 ⟨#[]⟩ (.slice none 0 0) 26).stay hb5)
    clear z0 z1 z2 z3 z4 zf0 zf1 zf2 zf3 zf4
    obtain ⟨z0, z1, z2, z3, z4⟩ := BZ5.out.cells
    have zf0 := BZ5.out.free (i := 0); have zf1 := BZ5.out.free (i := 1); have zf2 := BZ5.out.free (i := 2); have zf3 := BZ5.out.free (i := 3); have zf4 := BZ5.out.free (i := 4)
    have hz5 := hb5.size
    rw [show (w.alloc (.cells #[.int .i64 0, .int .i64 0, .int .i64 0, .string ⟨#[]⟩, .slice none 0 0] 26)).heap.size = w.heap.size + 1 by simp] at hz5
    have hm1 : w.heap.size ≠ w5.heap.size := by omega
    have hm2 : w5.heap.size ≠ w.heap.size := by omega
    have hm3 : w.heap.size < w5.heap.size := by omega
    go_wp2_with fail
    refine bodyPost_ret (v := .tuple #[.agg #[.int .i64 5, .int .i64 0, .int .i64 0, .string ⟨#[]⟩, .slice none 0 0], .int .i64 (-1)]) (by simp [results, Tryd.results211, go_sem, z0, z1, z2, z3, z4, hm3]) rfl ⟨⟨.mk 5 0 0 ⟨#[]⟩ [], none, 0, 0, rfl⟩, Touch.of_below ((by (with_reducible (repeat' (first | exact Below.refl _ _ | refine below_alloc ?_ _ ?_ | refine Below.setCell ?_ ?_ _ | refine Below.drew ?_ | refine below_drewN ?_ _ | refine below_step ?_ (by assumption) ?_ | refine below_mark ?_ (by assumption) ?_))); all_goals (first | omega | (simp; done) | (simp; omega))))⟩
  | some p =>
    obtain ⟨t, j⟩ := p
    rw [ho] at CL
    rw [Option.map_some]
    go_enter Tryd.func211, Tryd.ntmps211
    go_wp2_with fail
    refine CL.out.mono ?_
    rintro e1 w5 ⟨⟨rfl, htz⟩, hb5⟩
    have BZ5 := Lib.hid ((Box.new w 0 0 0 ⟨#[]⟩ (.slice none 0 0) 26).stay hb5)
    clear z0 z1 z2 z3 z4 zf0 zf1 zf2 zf3 zf4
    obtain ⟨z0, z1, z2, z3, z4⟩ := BZ5.out.cells
    have zf0 := BZ5.out.free (i := 0); have zf1 := BZ5.out.free (i := 1); have zf2 := BZ5.out.free (i := 2); have zf3 := BZ5.out.free (i := 3); have zf4 := BZ5.out.free (i := 4)
    have hz5 := hb5.size
    rw [show (w.alloc (.cells #[.int .i64 0, .int .i64 0, .int .i64 0, .string ⟨#[]⟩, .slice none 0 0] 26)).heap.size = w.heap.size + 1 by simp] at hz5
    have hm1 : w.heap.size ≠ w5.heap.size := by omega
    have hm2 : w5.heap.size ≠ w.heap.size := by omega
    have hm3 : w.heap.size < w5.heap.size := by omega
    go_wp2_with fail
    refine bodyPost_ret (v := .tuple #[.agg #[.int .i64 5, .int .i64 0, .int .i64 0, .string t, .slice none 0 0], .int .i64 (j : Int)]) (by simp [results, Tryd.results211, go_sem, z0, z1, z2, z3, z4, hm3]) rfl ?_
    have hbw : Below w.heap.size w w5 := (by (with_reducible (repeat' (first | exact Below.refl _ _ | refine below_alloc ?_ _ ?_ | refine Below.setCell ?_ ?_ _ | refine Below.drew ?_ | refine below_drewN ?_ _ | refine below_step ?_ (by assumption) ?_ | refine below_mark ?_ (by assumption) ?_))); all_goals (first | omega | (simp; done) | (simp; omega)))
    refine ⟨⟨.slice none 0 0, rfl, ⟨k64 5 (by omega) (by omega), in0, in0, by show t.size ≤ _; omega⟩, OwnS.nil _ _, HR.out.stay ((by (with_reducible (repeat' (first | exact Below.refl _ _ | refine below_alloc ?_ _ ?_ | refine Below.setCell ?_ ?_ _ | refine Below.drew ?_ | refine below_drewN ?_ _ | refine below_step ?_ (by assumption) ?_ | refine below_mark ?_ (by assumption) ?_))); all_goals (first | omega | (simp; done) | (simp; omega))))⟩, Touch.of_below ((by (with_reducible (repeat' (first | exact Below.refl _ _ | refine below_alloc ?_ _ ?_ | refine Below.setCell ?_ ?_ _ | refine Below.drew ?_ | refine below_drewN ?_ _ | refine below_step ?_ (by assumption) ?_ | refine below_mark ?_ (by assumption) ?_))); all_goals (first | omega | (simp; done) | (simp; omega))))⟩
end Go.Proofs.YtgbgeocmjdgmoaaDoor
namespace Go.Proofs.YtgbgeocmjdgmoaaDoor
set_option linter.unusedSimpArgs false
set_option linter.unusedVariables false
set_option maxRecDepth 100000
open Go.RowKit
theorem cg_fail {r : Nat} {s : ByteArray} {lo : Bool} {w w' : World} (hT : Touch (fun x => x = r) (fun x => x = r) w w') :
    CgRet r s lo none w (.returned (.tuple #[.agg #[.int .i64 0, .int .i64 0, .int .i64 0, .string ⟨#[]⟩, .slice none 0 0], .int .i64 (-1)])) w' :=
  ⟨⟨.mk 0 0 0 ⟨#[]⟩ [], none, 0, 0, rfl⟩, hT⟩
set_option maxHeartbeats 4000000 in
theorem l05Get_stop (r : Nat) (s : ByteArray) (hs : s.size ≤ 1048576) (lo : Bool) (deep : Int) (hd : 0 ≤ deep ∧ deep ≤ 15) (i l : Nat) (hi : i ≤ s.size) (hl : l ≤ 1204) (w : World) (hRB : RC w r s lo l) (h : l = 0 ∨ deep = 15 ∨ i = s.size) :
    Calls Tryd.prog 138 #[.pointer (some ⟨r, 0, none⟩), .int .i64 i, .int .i64 deep] w (CgRet r s lo none w) := by
  have hrw := hRB.lt
  have HR := Lib.hid hRB
  obtain ⟨m0, m1, m2, mf⟩ := HR.out.cells
  have hr1 : r ≠ w.heap.size := by omega
  have hr2 : w.heap.size ≠ r := by omega
  have BZ := Lib.hid (Box.new w 0 0 0 ⟨#[]⟩ (.slice none 0 0) 26)
  obtain ⟨z0, z1, z2, z3, z4⟩ := BZ.out.cells
  have zf0 := BZ.out.free (i := 0); have zf1 := BZ.out.free (i := 1); have zf2 := BZ.out.free (i := 2); have zf3 := BZ.out.free (i := 3); have zf4 := BZ.out.free (i := 4)
  by_cases hl0 : l = 0
  · clear h
    subst hl0
    clear hRB
    go_enter Tryd.func138, Tryd.ntmps138
    go_wp2_with fail
    refine bodyPost_ret (v := .tuple #[.agg #[.int .i64 0, .int .i64 0, .int .i64 0, .string ⟨#[]⟩, .slice none 0 0], .int .i64 (-1)]) (by simp [results, Tryd.results138, go_sem]) rfl (cg_fail (((Touch.refl _ w).cellD _).trans (Touch.of_below ((by (with_reducible (repeat' (first | exact Below.refl _ _ | refine below_alloc ?_ _ ?_ | refine Below.setCell ?_ ?_ _ | refine Below.drew ?_ | refine below_drewN ?_ _ | refine below_step ?_ (by assumption) ?_ | refine below_mark ?_ (by assumption) ?_))); all_goals (first | omega | (simp; done) | (simp; omega)))))))
  · obtain ⟨l', rfl⟩ : ∃ l', l = l' + 1 := ⟨l - 1, by omega⟩
    clear hRB hl0
    by_cases hd3 : deep = 15
    · clear h
      subst hd3
      go_enter Tryd.func138, Tryd.ntmps138
      go_wp2_with fail
      refine bodyPost_ret (v := .tuple #[.agg #[.int .i64 0, .int .i64 0, .int .i64 0, .string ⟨#[]⟩, .slice none 0 0], .int .i64 (-1)]) (by simp [results, Tryd.results138, go_sem]) rfl (cg_fail (((Touch.refl _ w).cellD _).trans (Touch.of_below ((by (with_reducible (repeat' (first | exact Below.refl _ _ | refine below_alloc ?_ _ ?_ | refine Below.setCell ?_ ?_ _ | refine Below.drew ?_ | refine below_drewN ?_ _ | refine below_step ?_ (by assumption) ?_ | refine below_mark ?_ (by assumption) ?_))); all_goals (first | omega | (simp; done) | (simp; omega)))))))
    · obtain rfl : i = s.size := by omega
      have hd4 : deep ≤ 14 := by omega
      clear h hd3
      go_enter Tryd.func138, Tryd.ntmps138
      go_wp2_with fail
      refine bodyPost_ret (v := .tuple #[.agg #[.int .i64 0, .int .i64 0, .int .i64 0, .string ⟨#[]⟩, .slice none 0 0], .int .i64 (-1)]) (by simp [results, Tryd.results138, go_sem]) rfl (cg_fail (((Touch.refl _ w).cellD _).trans (Touch.of_below ((by (with_reducible (repeat' (first | exact Below.refl _ _ | refine below_alloc ?_ _ ?_ | refine Below.setCell ?_ ?_ _ | refine Below.drew ?_ | refine below_drewN ?_ _ | refine below_step ?_ (by assumption) ?_ | refine below_mark ?_ (by assumption) ?_))); all_goals (first | omega | (simp; done) | (simp; omega)))))))
end Go.Proofs.YtgbgeocmjdgmoaaDoor
namespace Go.Proofs.YtgbgeocmjdgmoaaDoor
set_option linter.unusedSimpArgs false
set_option linter.unusedVariables false
set_option maxRecDepth 100000
open Go.RowKit
theorem cu_stop {s : ByteArray} {g : Nat → Nat → MG} {f i l : Nat} (h : i < s.size) (h2 : s[i].toNat = 255) : cgUpto s g (f + 1) i l = some ([], i + 1, l) := by rw [cgUpto, dif_pos h, if_pos h2]
theorem cu_end {s : ByteArray} {g : Nat → Nat → MG} {f i l : Nat} (h : ¬ i < s.size) : cgUpto s g (f + 1) i l = none := by rw [cgUpto, dif_neg h]
theorem cu_none {s : ByteArray} {g : Nat → Nat → MG} {f i l : Nat} (h : i < s.size) (h2 : ¬ s[i].toNat = 255) (h3 : g i l = none) : cgUpto s g (f + 1) i l = none := by rw [cgUpto, dif_pos h, if_neg h2, h3]; rfl
theorem cu_ok {s : ByteArray} {g : Nat → Nat → MG} {f i l : Nat} {u : V} {j m : Nat} (h : i < s.size) (h2 : ¬ s[i].toNat = 255) (h3 : g i l = some (u, j, m)) : cgUpto s g (f + 1) i l = (cgUpto s g f j m).map fun p => (u :: p.1, p.2) := by rw [cgUpto, dif_pos h, if_neg h2, h3]; rfl
theorem cu_go {o : Option (List V × Nat × Nat)} {a : List V} {u : V} : (o.map fun p => (u :: p.1, p.2)).map (fun p => (a ++ p.1, p.2)) = o.map fun p => ((a ++ [u]) ++ p.1, p.2) := by
  cases o with
  | none => rfl
  | some p => simp
set_option maxHeartbeats 8000000 in
theorem l05Open_4 (r : Nat) (s : ByteArray) (hs : s.size ≤ 1048576) (lo : Bool) (g : Nat → Nat → MG) (hg : ∀ i l, CGood s i l (g i l)) (deep : Int) (hd : 0 ≤ deep ∧ deep ≤ 100)
    (hG : ∀ (i l : Nat) (W : World), i ≤ s.size → l ≤ 1204 → RC W r s lo l → Calls Tryd.prog 138 #[.pointer (some ⟨r, 0, none⟩), .int .i64 i, .int .i64 (deep + 1)] W (CgRet r s lo (g i l) W))
    (i l : Nat) (hi : i < s.size) (hb : s[i].toNat / 32 = 4) (hl : l ≤ 1204) (w : World) (hR : RC w r s lo l) :
    Calls Tryd.prog 211 #[.pointer (some ⟨r, 0, none⟩), .int .i64 i, .int .i64 deep] w (CgRet r s lo (mgNode 7 0 (cgUpto s g (s.size + 1) (i + 1) l)) w) := by
  have hrw := hR.lt
  have HR := Lib.hid hR
  have HG := Lib.hid hG
  have hwd : wrap64 (deep + 1) = deep + 1 := by unfold wrap64; omega
  have hdiv : ((s[i].toNat : Nat) : Int) / 32 = 4 := by omega
  have hdiv2 : Int.tdiv ((s[i].toNat : Nat) : Int) 32 = 4 := by rw [Int.tdiv_eq_ediv_of_nonneg (by omega)]; omega
  clear hb
  have HCG := Lib.hid hg
  have HK0 := Lib.hid (show cgUpto s g (s.size + 1) (i + 1) l = (cgUpto s g (s.size + 1) (i + 1) l).map fun p => (([] : List V) ++ p.1, p.2) by cases cgUpto s g (s.size + 1) (i + 1) l with
    | none => rfl
    | some p => rfl)
  have hwf : ∀ us : List V, (V.mk 7 0 0 ⟨#[]⟩ us).wf := fun us => ⟨k64 7 (by omega) (by omega), in0, in0, by show ByteArray.size ⟨#[]⟩ ≤ _; simp [ByteArray.size]⟩
  have HPN := Lib.hid (show cgUpto s g (s.size + 1) (i + 1) l = none → ∀ w', Touch (fun x => x = r) (fun x => x = r) w w' → CgRet r s lo (mgNode 7 0 (cgUpto s g (s.size + 1) (i + 1) l)) w (.returned (.tuple #[.agg #[.int .i64 0, .int .i64 0, .int .i64 0, .string ⟨#[]⟩, .slice none 0 0], .int .i64 (-1)])) w' from
    fun hn w' h2 => by rw [hn]; exact ⟨⟨.mk 0 0 0 ⟨#[]⟩ [], none, 0, 0, rfl⟩, h2⟩)
  have HPS := Lib.hid (show ∀ us j m, cgUpto s g (s.size + 1) (i + 1) l = some (us, j, m) → ∀ e w', (∃ sl, e = .returned (.tuple #[.agg #[.int .i64 7, .int .i64 0, .int .i64 0, .string ⟨#[]⟩, sl], .int .i64 (j : Int)]) ∧ OwnS w' (fun x => w.heap.size ≤ x) sl us ∧ RC w' r s lo m) → Touch (fun x => x = r) (fun x => x = r) w w' → CgRet r s lo (mgNode 7 0 (cgUpto s g (s.size + 1) (i + 1) l)) w e w' from
    fun us j m hn e w' ⟨sl, h1, h2, h3⟩ h4 => by rw [hn]; exact ⟨⟨sl, h1, hwf us, h2, h3⟩, h4⟩)
  have BZ := Lib.hid (show Box (((w.alloc (.cells #[.int .i64 0, .int .i64 0, .int .i64 0, .string ⟨#[]⟩, .slice none 0 0] 26)).alloc (.cells #[.int .i64 7, .int .i64 8] 3)).alloc (.cells #[.int .i64 7, .int .i64 0, .int .i64 0, .string ⟨#[]⟩, .slice none 0 0] 26)) w.heap.size 0 0 0 ⟨#[]⟩ (.slice none 0 0) 26 from ((Box.new w _ _ _ _ _ _).alloc _).alloc _)
  have BO := Lib.hid (show Box (((w.alloc (.cells #[.int .i64 0, .int .i64 0, .int .i64 0, .string ⟨#[]⟩, .slice none 0 0] 26)).alloc (.cells #[.int .i64 7, .int .i64 8] 3)).alloc (.cells #[.int .i64 7, .int .i64 0, .int .i64 0, .string ⟨#[]⟩, .slice none 0 0] 26)) (w.heap.size + 1 + 1) 7 0 0 ⟨#[]⟩ (.slice none 0 0) 26 from heap_alloc_here _ (by simp))
  have HBW := Lib.hid (show Below w.heap.size w (((w.alloc (.cells #[.int .i64 0, .int .i64 0, .int .i64 0, .string ⟨#[]⟩, .slice none 0 0] 26)).alloc (.cells #[.int .i64 7, .int .i64 8] 3)).alloc (.cells #[.int .i64 7, .int .i64 0, .int .i64 0, .string ⟨#[]⟩, .slice none 0 0] 26)) from (by (with_reducible (repeat' (first | exact Below.refl _ _ | refine below_alloc ?_ _ ?_ | refine Below.setCell ?_ ?_ _ | refine Below.drew ?_ | refine below_drewN ?_ _ | refine below_step ?_ (by assumption) ?_ | refine below_mark ?_ (by assumption) ?_))); all_goals (first | omega | (simp; done) | (simp; omega))))
  have HZW := Lib.hid (show ((((w.alloc (.cells #[.int .i64 0, .int .i64 0, .int .i64 0, .string ⟨#[]⟩, .slice none 0 0] 26)).alloc (.cells #[.int .i64 7, .int .i64 8] 3)).alloc (.cells #[.int .i64 7, .int .i64 0, .int .i64 0, .string ⟨#[]⟩, .slice none 0 0] 26))).heap.size = w.heap.size + 1 + 1 + 1 by simp)
  obtain ⟨m0, m1, m2, mf⟩ := (HR.out.stay HBW.out).cells
  obtain ⟨n0, n1, n2, nf⟩ := HR.out.cells
  obtain ⟨y0, y1, y2, yf⟩ := (HR.out.stay ((Below.refl _ _).alloc (Nat.le_refl _) (.cells #[.int .i64 0, .int .i64 0, .int .i64 0, .string ⟨#[]⟩, .slice none 0 0] 26))).cells
  clear hG hg hR hwf
  go_enter Tryd.func211, Tryd.ntmps211
  go_wp2_with fail
  generalize (((w.alloc (.cells #[.int .i64 0, .int .i64 0, .int .i64 0, .string ⟨#[]⟩, .slice none 0 0] 26)).alloc (.cells #[.int .i64 7, .int .i64 8] 3)).alloc (.cells #[.int .i64 7, .int .i64 0, .int .i64 0, .string ⟨#[]⟩, .slice none 0 0] 26)) = W3 at *
  clear n0 n1 n2 nf y0 y1 y2 yf m0 m1 m2 mf
  go_loopw [1, 12, 13] (fun ii _ _ wr => ∃ (ij f lj : Nat) (G : Nat → Prop) (o : Value) (L1 : List V), ii = .int .i64 ij ∧ ij ≤ s.size ∧ s.size + 1 ≤ f + ij ∧ lj ≤ 1204 ∧ szs L1 ≤ ij ∧ cgUpto s g (s.size + 1) (i + 1) l = (cgUpto s g f ij lj).map (fun p => (L1 ++ p.1, p.2)) ∧ RAcc r W3 wr (w.heap.size + 1 + 1) 7 0 0 ⟨#[]⟩ L1 o G ∧ RC wr r s lo lj) (fun ii _ _ _ => s.size + 1 - (intOf ii).toNat)
  case atStart => exact ⟨i + 1, s.size + 1, l, _, _, [], by go_num, by omega, by omega, hl, by rw [szs]; omega, HK0.out, RAcc.nil BO.out HZW.out (by omega), HR.out.stay HBW.out⟩
  case round =>
    obtain ⟨ij, f, lj, G, o, L1, rfl, hij, hf, hlj, hsz1, hkd, hacc, hrb⟩ := hrel
    obtain ⟨f, rfl⟩ : ∃ f', f = f' + 1 := ⟨f - 1, by omega⟩
    have HACC := Lib.hid hacc; have HKD := Lib.hid hkd; have HRJ := Lib.hid hrb; clear hacc hkd hrb
    have hz9 := HACC.out.touch.size
    have hzw := HZW.out
    have hln := szs_length L1
    have BZw := Lib.hid (show Box wr w.heap.size 0 0 0 ⟨#[]⟩ (.slice none 0 0) 26 from (HACC.out.touch.block w.heap.size (by omega) (by omega)).trans BZ.out)
    have HTW := Lib.hid (show Touch (fun x => x = r) (fun x => x = r) w wr from ⟨HACC.out.touch.os.trans HBW.out.os, HACC.out.touch.tape.trans HBW.out.tape, HACC.out.touch.output.trans HBW.out.output, by omega, fun x hx hn => (HACC.out.touch.block x (by omega) (by omega)).trans (HBW.out.block x hx), fun x hx => .inl hx⟩)
    obtain ⟨m0, m1, m2, mf⟩ := HRJ.out.cells
    by_cases hlt : ij < s.size
    · by_cases h255 : s[ij].toNat = 255
      · have HP := Lib.hid (show cgUpto s g (s.size + 1) (i + 1) l = some (L1 ++ [], ij + 1, lj) by rw [HKD.out, cu_stop hlt h255]; rfl)
        rw [List.append_nil] at HP
        have h255' : ((s[ij].toNat : Nat) : Int) = 255 := by omega
        clear h255 HKD HPN HCG HG HK0
        obtain ⟨oa, on, oc, rfl⟩ := HACC.out.rows.slice3
        have hon := HACC.out.rows.own.slice
        obtain ⟨g0, g1, g2, g3, g4⟩ := HACC.out.box.cells
        obtain ⟨z0, z1, z2, z3, z4⟩ := BZw.out.cells
        have zf0 := BZw.out.free (i := 0); have zf1 := BZw.out.free (i := 1); have zf2 := BZw.out.free (i := 2); have zf3 := BZw.out.free (i := 3); have zf4 := BZw.out.free (i := 4)
        have HO := Lib.hid (OwnS.mono (HACC.out.rows.own.set5 w.heap.size (by omega) (.int .i64 7) (.int .i64 0) (.int .i64 0) (.string ⟨#[]⟩) (.slice oa on oc)) (F' := fun x => w.heap.size ≤ x) (fun x hx => by omega))
        have HRZ := Lib.hid (show RC (set5 wr w.heap.size (.int .i64 7) (.int .i64 0) (.int .i64 0) (.string ⟨#[]⟩) (.slice oa on oc)) r s lo lj from (heap_set5 _ _ _ _ _ _ _ _ (by omega)).trans HRJ.out)
        have HTZ := Lib.hid (HTW.out.set5 w.heap.size (Nat.le_refl _) (.int .i64 7) (.int .i64 0) (.int .i64 0) (.string ⟨#[]⟩) (.slice oa on oc))
        clear HACC HRJ HTW BZw BO BZ HBW
        go_wp2_with fail
        refine bodyPost_ret (v := .tuple #[.agg #[.int .i64 7, .int .i64 0, .int .i64 0, .string ⟨#[]⟩, .slice oa on oc], .int .i64 ((ij + 1 : Nat) : Int)]) (by simp [results, Tryd.results211, go_sem, z0, z1, z2, z3, z4]) rfl (HPS.out _ _ _ HP.out _ _ ⟨_, rfl, HO.out, HRZ.out⟩ HTZ.out)
      · have VJ := Lib.hid (fun (W : World) (hW : Below wr.heap.size wr W) => HG.out ij lj W (by omega) (by omega) (HRJ.out.stay hW))
        have h255' : ¬ ((s[ij].toNat : Nat) : Int) = 255 := by omega
        cases hgs : g ij lj with
        | none =>
          have HN := Lib.hid (HPN.out (by rw [HKD.out, cu_none hlt h255 hgs]; rfl))
          rw [hgs] at VJ
          clear HPS HPN HKD HCG HK0 hgs h255
          go_wp2_with fail
          refine (VJ.out _ ((by (with_reducible (repeat' (first | exact Below.refl _ _ | refine below_alloc ?_ _ ?_ | refine Below.setCell ?_ ?_ _ | refine Below.drew ?_ | refine below_drewN ?_ _ | refine below_step ?_ (by assumption) ?_ | refine below_mark ?_ (by assumption) ?_))); all_goals (first | omega | (simp; done) | (simp; omega))))).mono ?_
          rintro x w5 ⟨⟨t', sa, sn, sc, rfl⟩, ht5⟩
          unfold V.agg
          have hz5 := ht5.size
          have HACC2 := Lib.hid (HACC.out.over ht5)
          have BZr := Lib.hid (show Box w5 w.heap.size 0 0 0 ⟨#[]⟩ (.slice none 0 0) 26 from (ht5.block w.heap.size (by omega) (by omega)).trans BZw.out)
          obtain ⟨g0, g1, g2, g3, g4⟩ := HACC2.out.box.cells
          obtain ⟨z0, z1, z2, z3, z4⟩ := BZr.out.cells
          have zf0 := BZr.out.free (i := 0); have zf1 := BZr.out.free (i := 1); have zf2 := BZr.out.free (i := 2); have zf3 := BZr.out.free (i := 3); have zf4 := BZr.out.free (i := 4)
          have hm1 : w.heap.size ≠ w5.heap.size := by omega
          have hm2 : w5.heap.size ≠ w.heap.size := by omega
          have hm3 : w.heap.size < w5.heap.size := by omega
          have HTX := Lib.hid (HTW.out.trans ht5)
          clear ht5 HACC2 BZw BZr HACC m0 m1 m2 mf
          go_wp2_with fail
          refine bodyPost_ret (v := .tuple #[.agg #[.int .i64 0, .int .i64 0, .int .i64 0, .string ⟨#[]⟩, .slice none 0 0], .int .i64 (-1)]) (by simp [results, Tryd.results211, go_sem, z0, z1, z2, z3, z4, hm3]) rfl (HN.out _ ((HTX.out.set5 w.heap.size (Nat.le_refl _) _ _ _ _ _).trans (Touch.of_below ((Below.refl _ _).alloc (Nat.le_refl _) _))))
        | some q =>
          obtain ⟨u, iq, lq⟩ := q
          have hgd := HCG.out ij lj u iq lq hgs
          obtain ⟨hg1, hg2, hg3, hg4, hg5⟩ := hgd
          clear hg5
          have HTJ := Lib.hid (show cgUpto s g (s.size + 1) (i + 1) l = (cgUpto s g f iq lq).map (fun p => ((L1 ++ [u]) ++ p.1, p.2)) by rw [HKD.out, cu_ok hlt h255 hgs, cu_go])
          have hsz2 : szs (L1 ++ [u]) ≤ iq := by rw [szs_append', szs, szs]; omega
          rw [hgs] at VJ
          clear HPS HPN HKD HCG HK0 hgs h255
          go_wp2_with fail
          refine (VJ.out _ ((by (with_reducible (repeat' (first | exact Below.refl _ _ | refine below_alloc ?_ _ ?_ | refine Below.setCell ?_ ?_ _ | refine Below.drew ?_ | refine below_drewN ?_ _ | refine below_step ?_ (by assumption) ?_ | refine below_mark ?_ (by assumption) ?_))); all_goals (first | omega | (simp; done) | (simp; omega))))).mono ?_
          rintro x w5 ⟨⟨us, rfl, uwf, uo, hrb5⟩, ht5⟩
          obtain ⟨ua, un, uc, rfl⟩ : ∃ sa sn sc, us = .slice sa sn sc := by obtain ⟨p, q, e⟩ := uo.slice; exact ⟨p, _, q, e⟩
          unfold V.agg
          have hz5 := ht5.size
          have HWF := Lib.hid uwf
          have HO := Lib.hid uo.bound
          have HRB := Lib.hid hrb5
          have HACC2 := Lib.hid (HACC.out.over ht5)
          have hin : (0 : Int) ≤ (iq : Int) := by omega
          obtain ⟨g0, g1, g2, g3, g4⟩ := HACC2.out.box.cells
          have hm4 : w.heap.size + 1 + 1 ≠ w5.heap.size := by omega
          have hm5 : w5.heap.size ≠ w.heap.size + 1 + 1 := by omega
          have hm6 : w.heap.size + 1 + 1 < w5.heap.size := by omega
          clear uo uwf VJ hrb5 ht5 HTW BZw HRJ m0 m1 m2 mf
          go_wp2_with (at_builtin; refine app_own rfl _ _ rfl (w.heap.size + 1 + 1 + 1) G (fun x => wr.heap.size ≤ x ∧ x < w5.heap.size) _ L1 rfl ((HACC2.out.stay ((by (with_reducible (repeat' (first | exact Below.refl _ _ | refine below_alloc ?_ _ ?_ | refine Below.setCell ?_ ?_ _ | refine Below.drew ?_ | refine below_drewN ?_ _ | refine below_step ?_ (by assumption) ?_ | refine below_mark ?_ (by assumption) ?_))); all_goals (first | omega | (simp; done) | (simp; omega))))).rows) u (.slice ua un uc) _ rfl (by first | exact heap_alloc_here _ (by simp) | exact heap_alloc_here _ rfl) HWF.out (OwnS.keep HO.out (fun x hx hxs => (heap_alloc_old _ _ (by simp; omega)).trans (heap_alloc_old _ _ hxs))) (fun x hx => by have h1 := hx.1; have h2 := hx.2; exact ⟨by omega, by simp; omega, fun hG => by have := (HACC.out.rows.inG x hG).2; omega, fun e => by have := (HACC.out.rows.lt x e).2; omega⟩) (by omega) (by simp; omega) ?_; intro v2 w2 hrow2 hg2 hfr2; obtain ⟨va, vn, vc, rfl⟩ := hrow2.slice3; have HG2 := Lib.hid hg2; have HR2 := Lib.hid hrow2; have HB2 := Lib.hid (show Box w2 (w.heap.size + 1 + 1) 7 0 0 ⟨#[]⟩ o 26 from (hg2.block (w.heap.size + 1 + 1) (by simp; omega) (fun e => by have := (HACC2.out.rows.lt _ e.symm).1; omega)).trans (HACC2.out.stay ((by (with_reducible (repeat' (first | exact Below.refl _ _ | refine below_alloc ?_ _ ?_ | refine Below.setCell ?_ ?_ _ | refine Below.drew ?_ | refine below_drewN ?_ _ | refine below_step ?_ (by assumption) ?_ | refine below_mark ?_ (by assumption) ?_))); all_goals (first | omega | (simp; done) | (simp; omega))))).box); have hfz := HB2.out.free (i := 4); have hcc := HB2.out.cells.2.2.2.2; clear hrow2 hg2 hfr2)
          have hb5n : Below w5.heap.size w5 ((w5.alloc (.cells #[.int .i64 u.k, .int .i64 u.n, .int .i64 u.e, .string u.s, .slice ua un uc] 26)).alloc (.cells #[.int .i64 u.k, .int .i64 u.n, .int .i64 u.e, .string u.s, .slice ua un uc] 26)) := (by (with_reducible (repeat' (first | exact Below.refl _ _ | refine below_alloc ?_ _ ?_ | refine Below.setCell ?_ ?_ _ | refine Below.drew ?_ | refine below_drewN ?_ _ | refine below_step ?_ (by assumption) ?_ | refine below_mark ?_ (by assumption) ?_))); all_goals (first | omega | (simp; done) | (simp; omega)))
          go_roundw
          case rel => exact ⟨iq, f, lq, _, _, _, rfl, by omega, by omega, by omega, hsz2, HTJ.out, HACC2.out.put hb5n HG2.out HR2.out, (HACC2.out.same hb5n HG2.out (.slice va vn vc) r (by omega) (by omega)).trans HRB.out⟩
          case measure => simp [intOf]; omega
    · obtain rfl : ij = s.size := by omega
      have HN := Lib.hid (HPN.out (by rw [HKD.out, cu_end (by omega)]; rfl))
      clear HPS HPN HKD HCG HK0 HG
      obtain ⟨oa, on, oc, rfl⟩ := HACC.out.rows.slice3
      obtain ⟨g0, g1, g2, g3, g4⟩ := HACC.out.box.cells
      obtain ⟨z0, z1, z2, z3, z4⟩ := BZw.out.cells
      have zf0 := BZw.out.free (i := 0); have zf1 := BZw.out.free (i := 1); have zf2 := BZw.out.free (i := 2); have zf3 := BZw.out.free (i := 3); have zf4 := BZw.out.free (i := 4)
      have HTZ := Lib.hid (HTW.out.set5 w.heap.size (Nat.le_refl _) (.int .i64 0) (.int .i64 0) (.int .i64 0) (.string ⟨#[]⟩) (.slice none 0 0))
      clear HACC HRJ HTW BZw BO BZ HBW
      go_wp2_with fail
      refine bodyPost_ret (v := .tuple #[.agg #[.int .i64 0, .int .i64 0, .int .i64 0, .string ⟨#[]⟩, .slice none 0 0], .int .i64 (-1)]) (by simp [results, Tryd.results211, go_sem, z0, z1, z2, z3, z4]) rfl (HN.out _ HTZ.out)
set_option maxHeartbeats 8000000 in
theorem l05Open_5 (r : Nat) (s : ByteArray) (hs : s.size ≤ 1048576) (lo : Bool) (g : Nat → Nat → MG) (hg : ∀ i l, CGood s i l (g i l)) (deep : Int) (hd : 0 ≤ deep ∧ deep ≤ 100)
    (hG : ∀ (i l : Nat) (W : World), i ≤ s.size → l ≤ 1204 → RC W r s lo l → Calls Tryd.prog 138 #[.pointer (some ⟨r, 0, none⟩), .int .i64 i, .int .i64 (deep + 1)] W (CgRet r s lo (g i l) W))
    (i l : Nat) (hi : i < s.size) (hb : s[i].toNat / 32 = 5) (hl : l ≤ 1204) (w : World) (hR : RC w r s lo l) :
    Calls Tryd.prog 211 #[.pointer (some ⟨r, 0, none⟩), .int .i64 i, .int .i64 deep] w (CgRet r s lo (mgNode 8 0 (evenK true (cgUpto s g (s.size + 1) (i + 1) l))) w) := by
  have hrw := hR.lt
  have HR := Lib.hid hR
  have HG := Lib.hid hG
  have hwd : wrap64 (deep + 1) = deep + 1 := by unfold wrap64; omega
  have hdiv : ((s[i].toNat : Nat) : Int) / 32 = 5 := by omega
  have hdiv2 : Int.tdiv ((s[i].toNat : Nat) : Int) 32 = 5 := by rw [Int.tdiv_eq_ediv_of_nonneg (by omega)]; omega
  clear hb
  have HCG := Lib.hid hg
  have HK0 := Lib.hid (show cgUpto s g (s.size + 1) (i + 1) l = (cgUpto s g (s.size + 1) (i + 1) l).map fun p => (([] : List V) ++ p.1, p.2) by cases cgUpto s g (s.size + 1) (i + 1) l with
    | none => rfl
    | some p => rfl)
  have hwf : ∀ us : List V, (V.mk 8 0 0 ⟨#[]⟩ us).wf := fun us => ⟨k64 8 (by omega) (by omega), in0, in0, by show ByteArray.size ⟨#[]⟩ ≤ _; simp [ByteArray.size]⟩
  have HPN := Lib.hid (show cgUpto s g (s.size + 1) (i + 1) l = none → ∀ w', Touch (fun x => x = r) (fun x => x = r) w w' → CgRet r s lo (mgNode 8 0 (evenK true (cgUpto s g (s.size + 1) (i + 1) l))) w (.returned (.tuple #[.agg #[.int .i64 0, .int .i64 0, .int .i64 0, .string ⟨#[]⟩, .slice none 0 0], .int .i64 (-1)])) w' from
    fun hn w' h2 => by rw [hn]; exact ⟨⟨.mk 0 0 0 ⟨#[]⟩ [], none, 0, 0, rfl⟩, h2⟩)
  have HPO := Lib.hid (show ∀ us j m, cgUpto s g (s.size + 1) (i + 1) l = some (us, j, m) → us.length % 2 = 1 → ∀ w', Touch (fun x => x = r) (fun x => x = r) w w' → CgRet r s lo (mgNode 8 0 (evenK true (cgUpto s g (s.size + 1) (i + 1) l))) w (.returned (.tuple #[.agg #[.int .i64 0, .int .i64 0, .int .i64 0, .string ⟨#[]⟩, .slice none 0 0], .int .i64 (-1)])) w' from
    fun us j m hn ho w' h2 => by rw [hn, show evenK true (some (us, j, m)) = none by simp [evenK, ho]]; exact ⟨⟨.mk 0 0 0 ⟨#[]⟩ [], none, 0, 0, rfl⟩, h2⟩)
  have HPS := Lib.hid (show ∀ us j m, cgUpto s g (s.size + 1) (i + 1) l = some (us, j, m) → us.length % 2 = 0 → ∀ e w', (∃ sl, e = .returned (.tuple #[.agg #[.int .i64 8, .int .i64 0, .int .i64 0, .string ⟨#[]⟩, sl], .int .i64 (j : Int)]) ∧ OwnS w' (fun x => w.heap.size ≤ x) sl us ∧ RC w' r s lo m) → Touch (fun x => x = r) (fun x => x = r) w w' → CgRet r s lo (mgNode 8 0 (evenK true (cgUpto s g (s.size + 1) (i + 1) l))) w e w' from
    fun us j m hn he e w' ⟨sl, h1, h2, h3⟩ h4 => by rw [hn, show evenK true (some (us, j, m)) = some (us, j, m) by simp [evenK, he]]; exact ⟨⟨sl, h1, hwf us, h2, h3⟩, h4⟩)
  have BZ := Lib.hid (show Box (((w.alloc (.cells #[.int .i64 0, .int .i64 0, .int .i64 0, .string ⟨#[]⟩, .slice none 0 0] 26)).alloc (.cells #[.int .i64 7, .int .i64 8] 3)).alloc (.cells #[.int .i64 8, .int .i64 0, .int .i64 0, .string ⟨#[]⟩, .slice none 0 0] 26)) w.heap.size 0 0 0 ⟨#[]⟩ (.slice none 0 0) 26 from ((Box.new w _ _ _ _ _ _).alloc _).alloc _)
  have BO := Lib.hid (show Box (((w.alloc (.cells #[.int .i64 0, .int .i64 0, .int .i64 0, .string ⟨#[]⟩, .slice none 0 0] 26)).alloc (.cells #[.int .i64 7, .int .i64 8] 3)).alloc (.cells #[.int .i64 8, .int .i64 0, .int .i64 0, .string ⟨#[]⟩, .slice none 0 0] 26)) (w.heap.size + 1 + 1) 8 0 0 ⟨#[]⟩ (.slice none 0 0) 26 from heap_alloc_here _ (by simp))
  have HBW := Lib.hid (show Below w.heap.size w (((w.alloc (.cells #[.int .i64 0, .int .i64 0, .int .i64 0, .string ⟨#[]⟩, .slice none 0 0] 26)).alloc (.cells #[.int .i64 7, .int .i64 8] 3)).alloc (.cells #[.int .i64 8, .int .i64 0, .int .i64 0, .string ⟨#[]⟩, .slice none 0 0] 26)) from (by (with_reducible (repeat' (first | exact Below.refl _ _ | refine below_alloc ?_ _ ?_ | refine Below.setCell ?_ ?_ _ | refine Below.drew ?_ | refine below_drewN ?_ _ | refine below_step ?_ (by assumption) ?_ | refine below_mark ?_ (by assumption) ?_))); all_goals (first | omega | (simp; done) | (simp; omega))))
  have HZW := Lib.hid (show ((((w.alloc (.cells #[.int .i64 0, .int .i64 0, .int .i64 0, .string ⟨#[]⟩, .slice none 0 0] 26)).alloc (.cells #[.int .i64 7, .int .i64 8] 3)).alloc (.cells #[.int .i64 8, .int .i64 0, .int .i64 0, .string ⟨#[]⟩, .slice none 0 0] 26))).heap.size = w.heap.size + 1 + 1 + 1 by simp)
  obtain ⟨m0, m1, m2, mf⟩ := (HR.out.stay HBW.out).cells
  obtain ⟨n0, n1, n2, nf⟩ := HR.out.cells
  obtain ⟨y0, y1, y2, yf⟩ := (HR.out.stay ((Below.refl _ _).alloc (Nat.le_refl _) (.cells #[.int .i64 0, .int .i64 0, .int .i64 0, .string ⟨#[]⟩, .slice none 0 0] 26))).cells
  clear hG hg hR hwf
  go_enter Tryd.func211, Tryd.ntmps211
  go_wp2_with fail
  generalize (((w.alloc (.cells #[.int .i64 0, .int .i64 0, .int .i64 0, .string ⟨#[]⟩, .slice none 0 0] 26)).alloc (.cells #[.int .i64 7, .int .i64 8] 3)).alloc (.cells #[.int .i64 8, .int .i64 0, .int .i64 0, .string ⟨#[]⟩, .slice none 0 0] 26)) = W3 at *
  clear n0 n1 n2 nf y0 y1 y2 yf m0 m1 m2 mf
  go_loopw [1, 12, 13] (fun ii _ _ wr => ∃ (ij f lj : Nat) (G : Nat → Prop) (o : Value) (L1 : List V), ii = .int .i64 ij ∧ ij ≤ s.size ∧ s.size + 1 ≤ f + ij ∧ lj ≤ 1204 ∧ szs L1 ≤ ij ∧ cgUpto s g (s.size + 1) (i + 1) l = (cgUpto s g f ij lj).map (fun p => (L1 ++ p.1, p.2)) ∧ RAcc r W3 wr (w.heap.size + 1 + 1) 8 0 0 ⟨#[]⟩ L1 o G ∧ RC wr r s lo lj) (fun ii _ _ _ => s.size + 1 - (intOf ii).toNat)
  case atStart => exact ⟨i + 1, s.size + 1, l, _, _, [], by go_num, by omega, by omega, hl, by rw [szs]; omega, HK0.out, RAcc.nil BO.out HZW.out (by omega), HR.out.stay HBW.out⟩
  case round =>
    obtain ⟨ij, f, lj, G, o, L1, rfl, hij, hf, hlj, hsz1, hkd, hacc, hrb⟩ := hrel
    obtain ⟨f, rfl⟩ : ∃ f', f = f' + 1 := ⟨f - 1, by omega⟩
    have HACC := Lib.hid hacc; have HKD := Lib.hid hkd; have HRJ := Lib.hid hrb; clear hacc hkd hrb
    have hz9 := HACC.out.touch.size
    have hzw := HZW.out
    have hln := szs_length L1
    have BZw := Lib.hid (show Box wr w.heap.size 0 0 0 ⟨#[]⟩ (.slice none 0 0) 26 from (HACC.out.touch.block w.heap.size (by omega) (by omega)).trans BZ.out)
    have HTW := Lib.hid (show Touch (fun x => x = r) (fun x => x = r) w wr from ⟨HACC.out.touch.os.trans HBW.out.os, HACC.out.touch.tape.trans HBW.out.tape, HACC.out.touch.output.trans HBW.out.output, by omega, fun x hx hn => (HACC.out.touch.block x (by omega) (by omega)).trans (HBW.out.block x hx), fun x hx => .inl hx⟩)
    obtain ⟨m0, m1, m2, mf⟩ := HRJ.out.cells
    by_cases hlt : ij < s.size
    · by_cases h255 : s[ij].toNat = 255
      · have HP := Lib.hid (show cgUpto s g (s.size + 1) (i + 1) l = some (L1 ++ [], ij + 1, lj) by rw [HKD.out, cu_stop hlt h255]; rfl)
        rw [List.append_nil] at HP
        have h255' : ((s[ij].toNat : Nat) : Int) = 255 := by omega
        clear h255 HKD HPN HCG HG HK0
        obtain ⟨oa, on, oc, rfl⟩ := HACC.out.rows.slice3
        have hon := HACC.out.rows.own.slice
        obtain ⟨g0, g1, g2, g3, g4⟩ := HACC.out.box.cells
        obtain ⟨z0, z1, z2, z3, z4⟩ := BZw.out.cells
        have zf0 := BZw.out.free (i := 0); have zf1 := BZw.out.free (i := 1); have zf2 := BZw.out.free (i := 2); have zf3 := BZw.out.free (i := 3); have zf4 := BZw.out.free (i := 4)
        obtain rfl : on = L1.length := by obtain ⟨p, q, e⟩ := hon; injection e
        clear hon
        by_cases hev : L1.length % 2 = 0
        · have HFX := Lib.hid (HPS.out _ _ _ HP.out hev)
          have t2 : (((L1.length : Nat) : Int) % 2 == 1) = false := by simp; omega
          have t3 : (Int.tmod ((L1.length : Nat) : Int) 2 == 1) = false := by rw [Int.tmod_eq_emod_of_nonneg (by omega)]; simp; omega
          clear HPS HPO HP hev
          have HO := Lib.hid (OwnS.mono (HACC.out.rows.own.set5 w.heap.size (by omega) (.int .i64 8) (.int .i64 0) (.int .i64 0) (.string ⟨#[]⟩) (.slice oa L1.length oc)) (F' := fun x => w.heap.size ≤ x) (fun x hx => by omega))
          have HRZ := Lib.hid (show RC (set5 wr w.heap.size (.int .i64 8) (.int .i64 0) (.int .i64 0) (.string ⟨#[]⟩) (.slice oa L1.length oc)) r s lo lj from (heap_set5 _ _ _ _ _ _ _ _ (by omega)).trans HRJ.out)
          have HTZ := Lib.hid (HTW.out.set5 w.heap.size (Nat.le_refl _) (.int .i64 8) (.int .i64 0) (.int .i64 0) (.string ⟨#[]⟩) (.slice oa L1.length oc))
          clear HACC HRJ HTW BZw BO BZ HBW
          go_wp2_with fail
          refine bodyPost_ret (v := .tuple #[.agg #[.int .i64 8, .int .i64 0, .int .i64 0, .string ⟨#[]⟩, .slice oa L1.length oc], .int .i64 ((ij + 1 : Nat) : Int)]) (by simp [results, Tryd.results211, go_sem, z0, z1, z2, z3, z4]) rfl (HFX.out _ _ ⟨_, rfl, HO.out, HRZ.out⟩ HTZ.out)
        · have HFX := Lib.hid (HPO.out _ _ _ HP.out (by omega))
          have t2 : (((L1.length : Nat) : Int) % 2 == 1) = true := by simp; omega
          have t3 : (Int.tmod ((L1.length : Nat) : Int) 2 == 1) = true := by rw [Int.tmod_eq_emod_of_nonneg (by omega)]; simp; omega
          clear HPS HPO HP hev
          have HTZ := Lib.hid (HTW.out.set5 w.heap.size (Nat.le_refl _) (.int .i64 0) (.int .i64 0) (.int .i64 0) (.string ⟨#[]⟩) (.slice none 0 0))
          clear HACC HRJ HTW BZw BO BZ HBW
          go_wp2_with fail
          refine bodyPost_ret (v := .tuple #[.agg #[.int .i64 0, .int .i64 0, .int .i64 0, .string ⟨#[]⟩, .slice none 0 0], .int .i64 (-1)]) (by simp [results, Tryd.results211, go_sem, z0, z1, z2, z3, z4]) rfl (HFX.out _ HTZ.out)
      · have VJ := Lib.hid (fun (W : World) (hW : Below wr.heap.size wr W) => HG.out ij lj W (by omega) (by omega) (HRJ.out.stay hW))
        have h255' : ¬ ((s[ij].toNat : Nat) : Int) = 255 := by omega
        cases hgs : g ij lj with
        | none =>
          have HN := Lib.hid (HPN.out (by rw [HKD.out, cu_none hlt h255 hgs]; rfl))
          rw [hgs] at VJ
          clear HPS HPO HPN HKD HCG HK0 hgs h255
          go_wp2_with fail
          refine (VJ.out _ ((by (with_reducible (repeat' (first | exact Below.refl _ _ | refine below_alloc ?_ _ ?_ | refine Below.setCell ?_ ?_ _ | refine Below.drew ?_ | refine below_drewN ?_ _ | refine below_step ?_ (by assumption) ?_ | refine below_mark ?_ (by assumption) ?_))); all_goals (first | omega | (simp; done) | (simp; omega))))).mono ?_
          rintro x w5 ⟨⟨t', sa, sn, sc, rfl⟩, ht5⟩
          unfold V.agg
          have hz5 := ht5.size
          have HACC2 := Lib.hid (HACC.out.over ht5)
          have BZr := Lib.hid (show Box w5 w.heap.size 0 0 0 ⟨#[]⟩ (.slice none 0 0) 26 from (ht5.block w.heap.size (by omega) (by omega)).trans BZw.out)
          obtain ⟨g0, g1, g2, g3, g4⟩ := HACC2.out.box.cells
          obtain ⟨z0, z1, z2, z3, z4⟩ := BZr.out.cells
          have zf0 := BZr.out.free (i := 0); have zf1 := BZr.out.free (i := 1); have zf2 := BZr.out.free (i := 2); have zf3 := BZr.out.free (i := 3); have zf4 := BZr.out.free (i := 4)
          have hm1 : w.heap.size ≠ w5.heap.size := by omega
          have hm2 : w5.heap.size ≠ w.heap.size := by omega
          have hm3 : w.heap.size < w5.heap.size := by omega
          have HTX := Lib.hid (HTW.out.trans ht5)
          clear ht5 HACC2 BZw BZr HACC m0 m1 m2 mf
          go_wp2_with fail
          refine bodyPost_ret (v := .tuple #[.agg #[.int .i64 0, .int .i64 0, .int .i64 0, .string ⟨#[]⟩, .slice none 0 0], .int .i64 (-1)]) (by simp [results, Tryd.results211, go_sem, z0, z1, z2, z3, z4, hm3]) rfl (HN.out _ ((HTX.out.set5 w.heap.size (Nat.le_refl _) _ _ _ _ _).trans (Touch.of_below ((Below.refl _ _).alloc (Nat.le_refl _) _))))
        | some q =>
          obtain ⟨u, iq, lq⟩ := q
          have hgd := HCG.out ij lj u iq lq hgs
          obtain ⟨hg1, hg2, hg3, hg4, hg5⟩ := hgd
          clear hg5
          have HTJ := Lib.hid (show cgUpto s g (s.size + 1) (i + 1) l = (cgUpto s g f iq lq).map (fun p => ((L1 ++ [u]) ++ p.1, p.2)) by rw [HKD.out, cu_ok hlt h255 hgs, cu_go])
          have hsz2 : szs (L1 ++ [u]) ≤ iq := by rw [szs_append', szs, szs]; omega
          rw [hgs] at VJ
          clear HPS HPO HPN HKD HCG HK0 hgs h255
          go_wp2_with fail
          refine (VJ.out _ ((by (with_reducible (repeat' (first | exact Below.refl _ _ | refine below_alloc ?_ _ ?_ | refine Below.setCell ?_ ?_ _ | refine Below.drew ?_ | refine below_drewN ?_ _ | refine below_step ?_ (by assumption) ?_ | refine below_mark ?_ (by assumption) ?_))); all_goals (first | omega | (simp; done) | (simp; omega))))).mono ?_
          rintro x w5 ⟨⟨us, rfl, uwf, uo, hrb5⟩, ht5⟩
          obtain ⟨ua, un, uc, rfl⟩ : ∃ sa sn sc, us = .slice sa sn sc := by obtain ⟨p, q, e⟩ := uo.slice; exact ⟨p, _, q, e⟩
          unfold V.agg
          have hz5 := ht5.size
          have HWF := Lib.hid uwf
          have HO := Lib.hid uo.bound
          have HRB := Lib.hid hrb5
          have HACC2 := Lib.hid (HACC.out.over ht5)
          have hin : (0 : Int) ≤ (iq : Int) := by omega
          obtain ⟨g0, g1, g2, g3, g4⟩ := HACC2.out.box.cells
          have hm4 : w.heap.size + 1 + 1 ≠ w5.heap.size := by omega
          have hm5 : w5.heap.size ≠ w.heap.size + 1 + 1 := by omega
          have hm6 : w.heap.size + 1 + 1 < w5.heap.size := by omega
          clear uo uwf VJ hrb5 ht5 HTW BZw HRJ m0 m1 m2 mf
          go_wp2_with (at_builtin; refine app_own rfl _ _ rfl (w.heap.size + 1 + 1 + 1) G (fun x => wr.heap.size ≤ x ∧ x < w5.heap.size) _ L1 rfl ((HACC2.out.stay ((by (with_reducible (repeat' (first | exact Below.refl _ _ | refine below_alloc ?_ _ ?_ | refine Below.setCell ?_ ?_ _ | refine Below.drew ?_ | refine below_drewN ?_ _ | refine below_step ?_ (by assumption) ?_ | refine below_mark ?_ (by assumption) ?_))); all_goals (first | omega | (simp; done) | (simp; omega))))).rows) u (.slice ua un uc) _ rfl (by first | exact heap_alloc_here _ (by simp) | exact heap_alloc_here _ rfl) HWF.out (OwnS.keep HO.out (fun x hx hxs => (heap_alloc_old _ _ (by simp; omega)).trans (heap_alloc_old _ _ hxs))) (fun x hx => by have h1 := hx.1; have h2 := hx.2; exact ⟨by omega, by simp; omega, fun hG => by have := (HACC.out.rows.inG x hG).2; omega, fun e => by have := (HACC.out.rows.lt x e).2; omega⟩) (by omega) (by simp; omega) ?_; intro v2 w2 hrow2 hg2 hfr2; obtain ⟨va, vn, vc, rfl⟩ := hrow2.slice3; have HG2 := Lib.hid hg2; have HR2 := Lib.hid hrow2; have HB2 := Lib.hid (show Box w2 (w.heap.size + 1 + 1) 8 0 0 ⟨#[]⟩ o 26 from (hg2.block (w.heap.size + 1 + 1) (by simp; omega) (fun e => by have := (HACC2.out.rows.lt _ e.symm).1; omega)).trans (HACC2.out.stay ((by (with_reducible (repeat' (first | exact Below.refl _ _ | refine below_alloc ?_ _ ?_ | refine Below.setCell ?_ ?_ _ | refine Below.drew ?_ | refine below_drewN ?_ _ | refine below_step ?_ (by assumption) ?_ | refine below_mark ?_ (by assumption) ?_))); all_goals (first | omega | (simp; done) | (simp; omega))))).box); have hfz := HB2.out.free (i := 4); have hcc := HB2.out.cells.2.2.2.2; clear hrow2 hg2 hfr2)
          have hb5n : Below w5.heap.size w5 ((w5.alloc (.cells #[.int .i64 u.k, .int .i64 u.n, .int .i64 u.e, .string u.s, .slice ua un uc] 26)).alloc (.cells #[.int .i64 u.k, .int .i64 u.n, .int .i64 u.e, .string u.s, .slice ua un uc] 26)) := (by (with_reducible (repeat' (first | exact Below.refl _ _ | refine below_alloc ?_ _ ?_ | refine Below.setCell ?_ ?_ _ | refine Below.drew ?_ | refine below_drewN ?_ _ | refine below_step ?_ (by assumption) ?_ | refine below_mark ?_ (by assumption) ?_))); all_goals (first | omega | (simp; done) | (simp; omega)))
          go_roundw
          case rel => exact ⟨iq, f, lq, _, _, _, rfl, by omega, by omega, by omega, hsz2, HTJ.out, HACC2.out.put hb5n HG2.out HR2.out, (HACC2.out.same hb5n HG2.out (.slice va vn vc) r (by omega) (by omega)).trans HRB.out⟩
          case measure => simp [intOf]; omega
    · obtain rfl : ij = s.size := by omega
      have HN := Lib.hid (HPN.out (by rw [HKD.out, cu_end (by omega)]; rfl))
      clear HPS HPO HPN HKD HCG HK0 HG
      obtain ⟨oa, on, oc, rfl⟩ := HACC.out.rows.slice3
      obtain ⟨g0, g1, g2, g3, g4⟩ := HACC.out.box.cells
      obtain ⟨z0, z1, z2, z3, z4⟩ := BZw.out.cells
      have zf0 := BZw.out.free (i := 0); have zf1 := BZw.out.free (i := 1); have zf2 := BZw.out.free (i := 2); have zf3 := BZw.out.free (i := 3); have zf4 := BZw.out.free (i := 4)
      have HTZ := Lib.hid (HTW.out.set5 w.heap.size (Nat.le_refl _) (.int .i64 0) (.int .i64 0) (.int .i64 0) (.string ⟨#[]⟩) (.slice none 0 0))
      clear HACC HRJ HTW BZw BO BZ HBW
      go_wp2_with fail
      refine bodyPost_ret (v := .tuple #[.agg #[.int .i64 0, .int .i64 0, .int .i64 0, .string ⟨#[]⟩, .slice none 0 0], .int .i64 (-1)]) (by simp [results, Tryd.results211, go_sem, z0, z1, z2, z3, z4]) rfl (HN.out _ HTZ.out)
end Go.Proofs.YtgbgeocmjdgmoaaDoor
