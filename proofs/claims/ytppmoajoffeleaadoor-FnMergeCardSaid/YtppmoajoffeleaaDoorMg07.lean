/- Lemmas for the statement of the last text of this claim: texts joined. -/
import Derived.Test.YtppmoajoffeleaaDoorMg01
import Derived.Test.YtppmoajoffeleaaDoorMg02
import Derived.Test.YtppmoajoffeleaaDoorMg03
import Derived.Test.YtppmoajoffeleaaDoorMg06
import Derived.IntWalk
import Derived.Deep.RegionHeld3
import Derived.ChangeSlices
import Derived.Deep.RegionLaw
import Derived.Deep.DeepCutAuto
import Derived.WalkSpells
import Derived.Lib.Hide
import Derived.Deep.RegionWith
import Derived.StillTailTactics
import Derived.Test.YtppmoajoffeleaaDoorTie
import Derived.Test.YtppmoajoffeleaaDoorCards
import Derived.PinnedBridge
import Derived.Lay
import Derived.LaidOnce
import Derived.SevenTiedAt
import Derived.Lib.LaidU8T
import Derived.Lib.LaidIn
namespace Go.Proofs.YtppmoajoffeleaaDoor
set_option linter.unusedSimpArgs false
set_option linter.unusedVariables false
set_option maxRecDepth 100000
open Go.RowKit
set_option maxHeartbeats 8000000 in
theorem make_zero (w0 : World) (c : Nat) (v : Value) (N : Nat) (hD : Drw w0 v N) (deep : Int) (hd : -1000 ≤ deep ∧ deep ≤ 0) (pl : Bool) (w : World) (h : CuX w0 c v N w) :
    Calls Tryd.prog 64 #[.pointer (some ⟨c, 0, none⟩), .int .i64 deep, .bool pl] w (DVal w0 c v N 20 w) := by
  have LF := Lib.hid (fun (W : World) (h : CuX w0 c v N W) => l02Leaf_any w0 c v N hD pl W h)
  have BZ := Lib.hid (Box.new w 0 0 0 ⟨#[]⟩ (.slice none 0 0) 26)
  have hcw := h.lt
  have HD0 := Lib.hid (show DX w0 c v N w (w.alloc (.cells #[.int .i64 0, .int .i64 0, .int .i64 0, .string ⟨#[]⟩, .slice none 0 0] 26)) from (DX.refl h).stay ((Below.refl _ _).alloc (Nat.le_refl _) _))
  have hnc : ¬ w.heap.size = c := by omega
  have hz0 : w.heap.size + 1 = (w.alloc (.cells #[.int .i64 0, .int .i64 0, .int .i64 0, .string ⟨#[]⟩, .slice none 0 0] 26)).heap.size := by simp
  clear h hD
  go_enter Tryd.func64, Tryd.ntmps64
  go_wp2_with fail
  generalize (w.alloc (.cells #[.int .i64 0, .int .i64 0, .int .i64 0, .string ⟨#[]⟩, .slice none 0 0] 26)) = W0 at *
  refine (LF.out W0 HD0.out.1).mono ?_
  rintro e1 w1 ⟨t, sl, G, rfl, hwf, hsz, ho, hgl, hd1⟩
  obtain ⟨sa, sn, sc, rfl⟩ : ∃ sa sn sc, sl = .slice sa sn sc := by obtain ⟨p, q, e⟩ := ho.slice; exact ⟨p, _, q, e⟩
  have HD1 := Lib.hid (HD0.out.trans hd1)
  have BZ1 := Lib.hid (BZ.out.overC hd1.2 hnc)
  have HW := Lib.hid hwf; have HO := Lib.hid ho; have HGL := Lib.hid hgl
  clear hd1 hwf ho hgl
  unfold V.agg
  obtain ⟨z0, z1, z2, z3, z4⟩ := BZ1.out.cells
  have zf0 := BZ1.out.free (i := 0); have zf1 := BZ1.out.free (i := 1); have zf2 := BZ1.out.free (i := 2); have zf3 := BZ1.out.free (i := 3); have zf4 := BZ1.out.free (i := 4)
  go_wp2_with fail
  refine bodyPost_ret (v := t.agg (.slice sa sn sc)) (by simp [results, Tryd.results64, go_sem, z0, z1, z2, z3, z4, V.agg]) rfl ⟨t, _, G, rfl, HW.out, hsz, (HO.out.set5 (by omega) (fun x hx => by have := HGL.out x hx; omega) _ _ _ _ _).low (by omega), (fun x hx => by have := HGL.out x hx; omega), (((((HD1.out.cell (Nat.le_refl _) hcw).cell (Nat.le_refl _) hcw).cell (Nat.le_refl _) hcw).cell (Nat.le_refl _) hcw).cell (Nat.le_refl _) hcw)⟩
theorem touch_low {B : Nat} {P : Nat → Prop} {w0 w W : World} (h : Below B w0 w) (ht : Touch P P w W) (hB : ∀ k, k < B → ¬ P k) (hB2 : B ≤ w.heap.size) : Below B w0 W :=
  ⟨ht.os.trans h.os, ht.tape.trans h.tape, ht.output.trans h.output, Nat.le_trans h.size ht.size, fun k hk => (ht.block k (by omega) (hB k hk)).trans (h.block k hk)⟩
structure MAcc (w0 : World) (c : Nat) (v : Value) (N : Nat) (w w2 W : World) (b : Nat) (k : Int) (us : List V) (o : Value) (G : Nat → Prop) : Prop where
  box : Box W b k 0 0 ⟨#[]⟩ o 26
  rows : PRow W (b + 1) G o us
  gl : ∀ x, G x → b + 1 ≤ x
  touch : Touch (fun x => x = c ∨ x = b) (fun x => x = c ∨ x = b) w2 W
  hwb : w2.heap.size = b + 1
  hcb : c < b
  cu : CuX w0 c v N W
  dx : DX w0 c v N w w2
  lo : w.heap.size < b
  cw : c < w.heap.size
theorem MAcc.dxw {w0 w w2 W : World} {c N b : Nat} {v o : Value} {k : Int} {us : List V} {G : Nat → Prop} (h : MAcc w0 c v N w w2 W b k us o G) : DX w0 c v N w W := by
  have h1 := h.touch
  have h2 := h.dx.2
  have h3 := h.lo
  have h4 := h.hwb
  exact ⟨h.cu, ⟨h1.os.trans h2.os, h1.tape.trans h2.tape, h1.output.trans h2.output, Nat.le_trans h2.size h1.size, fun x hx hn => (h1.block x (by omega) (fun hc => hc.elim hn (fun e => by omega))).trans (h2.block x hx hn), fun x hx => .inl hx⟩⟩
theorem MAcc.up {w0 w w2 W : World} {c N b : Nat} {v o : Value} {k : Int} {us : List V} {G : Nat → Prop} (h : MAcc w0 c v N w w2 W b k us o G) : ∀ x, (G x ∨ o.ownBlock = some x) → b < x := fun x hx => by
  rcases hx with hx | hx
  · have := h.gl x hx; omega
  · have := (h.rows.lt x hx).1; omega
theorem MAcc.over {w0 w w2 W W' : World} {c N b : Nat} {v o : Value} {k : Int} {us : List V} {G : Nat → Prop} (h : MAcc w0 c v N w w2 W b k us o G) (hd : DX w0 c v N W W') : MAcc w0 c v N w w2 W' b k us o G := by
  have hcb := h.hcb
  refine ⟨h.box.overC hd.2 (by omega), h.rows.keep hd.2.size (fun x hx hxs => hd.2.block x hxs (by have := h.up x hx; omega)), h.gl, h.touch.trans (hd.2.mono (fun x hx => .inl hx) (fun x hx => .inl (.inl hx))), h.hwb, h.hcb, hd.1, h.dx, h.lo, h.cw⟩
theorem MAcc.kind {w0 w w2 W : World} {c N b : Nat} {v o : Value} {k : Int} {us : List V} {G : Nat → Prop} (h : MAcc w0 c v N w w2 W b k us o G) (k' : Int) : MAcc w0 c v N w w2 (W.setCell ⟨b, 0, none⟩ (.int .i64 k')) b k' us o G := by
  have hcb := h.hcb
  have hn : ∀ x, x ≠ b → (W.setCell ⟨b, 0, none⟩ (.int .i64 k')).heap[x]? = W.heap[x]? := fun x hx => heap_setCell_other _ _ _ _ (show ¬ x = b from hx)
  have ht : Touch (fun x => x = c ∨ x = b) (fun x => x = c ∨ x = b) w2 (W.setCell ⟨b, 0, none⟩ (.int .i64 k')) :=
    ⟨h.touch.os, h.touch.tape, h.touch.output, by simpa using h.touch.size, fun x hx hx2 => (hn x (fun e => hx2 (.inr e))).trans (h.touch.block x hx hx2), h.touch.new⟩
  have h6 := h.cu.hc
  have h7 := h.dx.1.below
  refine ⟨?_, h.rows.keep (by simp) (fun x hx _ => hn x (by have := h.up x hx; omega)), h.gl, ht, h.hwb, h.hcb, h.cu.over (hn c (by omega)) (touch_low h7 ht (fun k hk hc => by rcases hc with e | e <;> omega) h7.size), h.dx, h.lo, h.cw⟩
  have hb := h.box
  unfold Box at *
  rw [heap_setCell_same W b 0 _ _ _ hb]; rfl
theorem MAcc.put {w0 w w2 W W1 W2 : World} {c N b : Nat} {v o v2 : Value} {k : Int} {us us2 : List V} {G G2 : Nat → Prop} (h : MAcc w0 c v N w w2 W b k us o G) (hW : Below W.heap.size W W1) (hg : W1.grownBy W2 o.ownBlock) (hr2 : PRow W2 (b + 1) G2 v2 us2) (hG2 : ∀ x, G2 x → b + 1 ≤ x) :
    MAcc w0 c v N w w2 (W2.setCell ⟨b, 4, none⟩ v2) b k us2 v2 G2 := by
  have hcb := h.hcb
  have hl := h.box.lt
  have z1 := hW.size
  have z2 := hg.size
  have hz := h.touch.size
  have hzb := h.hwb
  have hn : ∀ x, x < W.heap.size → x ≤ b → W2.heap[x]? = W.heap[x]? := fun x hx hxb => (hg.block x (by omega) (fun e => by have := (h.rows.lt x e.symm).1; omega)).trans (hW.block x hx)
  have hs : ∀ x, x ≠ b → (W2.setCell ⟨b, 4, none⟩ v2).heap[x]? = W2.heap[x]? := fun x hx => heap_setCell_other _ _ _ _ (show ¬ x = b from hx)
  have B2 : Box W2 b k 0 0 ⟨#[]⟩ o 26 := (hn b hl (Nat.le_refl _)).trans h.box
  have ht : Touch (fun x => x = c ∨ x = b) (fun x => x = c ∨ x = b) w2 (W2.setCell ⟨b, 4, none⟩ v2) :=
    ⟨hg.os.trans (hW.os.trans h.touch.os), hg.tape.trans (hW.tape.trans h.touch.tape), hg.output.trans (hW.output.trans h.touch.output), by simp; omega, fun x hx hx2 => ((hs x (fun e => hx2 (.inr e))).trans (hn x (by omega) (by omega))).trans (h.touch.block x hx hx2), h.touch.new⟩
  have h6 := h.cu.hc
  have h7 := h.dx.1.below
  refine ⟨B2.set4, hr2.keep (by simp) (fun x hx _ => hs x ?_), hG2, ht, h.hwb, h.hcb, h.cu.over ((hs c (by omega)).trans (hn c (by omega) (by omega))) (touch_low h7 ht (fun k hk hc => by rcases hc with e | e <;> omega) h7.size), h.dx, h.lo, h.cw⟩
  rcases hx with hx | hx
  · have := hG2 x hx; omega
  · have := (hr2.lt x hx).1; omega
theorem vsrc_lit {w : World} {F : Nat → Prop} {T : TypeId} (us : List V) (sms : List Value) (hl : sms.length = us.length) (hw : ∀ i (h : i < us.length), us[i].wf) (hk : ∀ i (h : i < us.length), RepF w F (sms.getD i undef) us[i].kids) (cs : Array Value) (hcs : cs = (flat us sms).toArray) (n m : Nat) (hn : n = us.length) :
    VSrc (w.alloc (.cells cs T)) F (.slice (some ⟨w.heap.size, 0, none⟩) n m) us sms := by
  subst hcs hn
  refine ⟨Src.ofSlice _ Tryd.underlying24 _ _ _ _ (by rw [flat_length _ _ hl]) ?_ (flat_one us sms ?_), hl, hw, ?_⟩
  · intro j u hu
    rw [addr_add _ _ rfl, Nat.zero_add]
    have hh := heap_alloc_new w (.cells (flat us sms).toArray T)
    rw [cell_of_row _ _ _ _ _ (0, 0) hh]
    simpa using hu
  · intro s hs
    obtain ⟨i, hi, rfl⟩ := List.getElem_of_mem hs
    obtain ⟨a, cap, e⟩ := (hk i (by omega)).slice
    rw [List.getD_eq_getElem?_getD, List.getElem?_eq_getElem hi] at e
    exact ⟨a, _, cap, e⟩
  · intro i hi
    exact (hk i hi).stay ((Below.refl _ _).alloc (Nat.le_refl _) _)
theorem box_s5 {w : World} {b : Nat} {k n e : Int} {s : ByteArray} {sl : Value} {T : TypeId} (h : Box w b k n e s sl T) (k' n' e' : Int) (s' : ByteArray) (sl' : Value) : Box (set5 w b (.int .i64 k') (.int .i64 n') (.int .i64 e') (.string s') sl') b k' n' e' s' sl' T := by
  unfold Box at *
  unfold set5
  have h0 := heap_setCell_same w b 0 _ _ (.int .i64 k') h
  have h1 := heap_setCell_same _ b 1 _ _ (.int .i64 n') h0
  have h2 := heap_setCell_same _ b 2 _ _ (.int .i64 e') h1
  have h3 := heap_setCell_same _ b 3 _ _ (.string s') h2
  have h4 := heap_setCell_same _ b 4 _ _ sl' h3
  exact h4
theorem prow_one {w : World} {F : Nat → Prop} {g base : Nat} {t : V} {sl : Value} (hg : w.heap.size = g) (hb : base ≤ g) (hw : t.wf) (h : RepF w F sl t.kids) (hF : ∀ x, F x → x < g) :
    PRow (w.alloc (.cells #[.int .i64 t.k, .int .i64 t.n, .int .i64 t.e, .string t.s, sl] 26)) base F (.slice (some ⟨g, 0, none⟩) 1 1) [t] := by
  subst hg
  have hr := World.ownsRow_lit (w := w) (base := base) (e := 26) (size := 5) (flat [t] [sl]).toArray 1 hb (by simp only [maxLen]; omega) (by simp [flat])
  refine ⟨[sl], ⟨hr, rfl, ?_, ?_, ?_, ?_⟩⟩
  · intro i hi
    obtain rfl : i = 0 := by simpa using hi
    exact hw
  · intro i hi
    obtain rfl : i = 0 := by simpa using hi
    exact h.stay ((Below.refl _ _).alloc (Nat.le_refl _) _)
  · intro x hx hf
    have e : some w.heap.size = some x := hx
    simp only [Option.some.injEq] at e
    have := hF x hf; omega
  · intro x hx
    have := hF x hx
    simp; omega
theorem key_lit (i : Nat) (hi : i < 4) (T : TypeId) : ∃ ks : ByteArray, ks.size ≤ 10 ∧ ∀ W : World, (W.alloc (.cells #[.string ⟨#[110, 97, 109, 101]⟩, .string ⟨#[105, 100]⟩, .string ⟨#[108, 105, 115, 116]⟩, .string ⟨#[99, 111, 109, 109, 111, 110, 32, 107, 101, 121]⟩] T)).cell? ⟨W.heap.size, i, none⟩ = some (.string ks) := by
  have hc : i = 0 ∨ i = 1 ∨ i = 2 ∨ i = 3 := by omega
  rcases hc with rfl | rfl | rfl | rfl
  · exact ⟨⟨#[110, 97, 109, 101]⟩, by decide, fun W => by simp⟩
  · exact ⟨⟨#[105, 100]⟩, by decide, fun W => by simp⟩
  · exact ⟨⟨#[108, 105, 115, 116]⟩, by decide, fun W => by simp⟩
  · exact ⟨⟨#[99, 111, 109, 109, 111, 110, 32, 107, 101, 121]⟩, by decide, fun W => by simp⟩
set_option maxHeartbeats 16000000 in
theorem make_step (w0 : World) (c : Nat) (v : Value) (N : Nat) (hD : Drw w0 v N) (B : Nat) (hB : 20 ≤ B ∧ B ≤ 100000) (deep : Int) (hd : 1 ≤ deep ∧ deep ≤ 100)
    (hIH : ∀ (pl : Bool) (W : World), CuX w0 c v N W → Calls Tryd.prog 64 #[.pointer (some ⟨c, 0, none⟩), .int .i64 (deep - 1), .bool pl] W (DVal w0 c v N B W)) (pl : Bool) (w : World) (h : CuX w0 c v N w) :
    Calls Tryd.prog 64 #[.pointer (some ⟨c, 0, none⟩), .int .i64 deep, .bool pl] w (DVal w0 c v N (5 * B) w) := by
  have LF := Lib.hid (fun (W : World) (h : CuX w0 c v N W) => l02Leaf_any w0 c v N hD pl W h)
  have BL := Lib.hid (fun (q : Int) (hq : In64 q) (W : World) (h : CuX w0 c v N W) => Below1_any w0 c v N hD q hq W h)
  have ON := Lib.hid (fun (q : Int) (hq : In64 q) (W : World) (h : CuX w0 c v N W) => Once_any w0 c v N hD q hq W h)
  have PI := Lib.hid (fun (W : World) (h : CuX w0 c v N W) => PickI_any w0 c v N hD [0, 1, 24, 1000, 1000000] 3 (by unfold In64; decide) (by decide) 5 5 rfl W h _ rfl)
  have MK := Lib.hid (hIH pl)
  have BZ := Lib.hid (Box.new w 0 0 0 ⟨#[]⟩ (.slice none 0 0) 26)
  have hcw := h.lt
  have HD0 := Lib.hid (show DX w0 c v N w (w.alloc (.cells #[.int .i64 0, .int .i64 0, .int .i64 0, .string ⟨#[]⟩, .slice none 0 0] 26)) from (DX.refl h).stay ((Below.refl _ _).alloc (Nat.le_refl _) _))
  have hnc : ¬ w.heap.size = c := by omega
  have hz0 : w.heap.size + 1 = (w.alloc (.cells #[.int .i64 0, .int .i64 0, .int .i64 0, .string ⟨#[]⟩, .slice none 0 0] 26)).heap.size := by simp
  clear h hD hIH
  go_enter Tryd.func64, Tryd.ntmps64
  go_wp2_with fail
  generalize (w.alloc (.cells #[.int .i64 0, .int .i64 0, .int .i64 0, .string ⟨#[]⟩, .slice none 0 0] 26)) = W0 at *
  refine (ON.out 3 (by unfold In64; omega) W0 HD0.out.1).mono ?_
  rintro e1 w1 ⟨x, rfl, hd1⟩
  have HD1 := Lib.hid (HD0.out.trans hd1)
  have BZ1 := Lib.hid (BZ.out.overC hd1.2 hnc)
  have hz1 := hd1.2.size
  clear hd1
  cases x with
  | true =>
    go_wp2_with fail
    refine (LF.out w1 HD1.out.1).mono ?_
    rintro e2 w2 ⟨t, sl, G, rfl, hwf, hsz, ho, hgl, hd2⟩
    obtain ⟨sa, sn, sc, rfl⟩ : ∃ sa sn sc, sl = .slice sa sn sc := by obtain ⟨p, q, e⟩ := ho.slice; exact ⟨p, _, q, e⟩
    have HD2 := Lib.hid (HD1.out.trans hd2)
    have BZ2 := Lib.hid (BZ1.out.overC hd2.2 hnc)
    have HW := Lib.hid hwf; have HO := Lib.hid ho; have HGL := Lib.hid hgl
    clear hd2 hwf ho hgl
    unfold V.agg
    obtain ⟨z0, z1, z2, z3, z4⟩ := BZ2.out.cells
    have zf0 := BZ2.out.free (i := 0); have zf1 := BZ2.out.free (i := 1); have zf2 := BZ2.out.free (i := 2); have zf3 := BZ2.out.free (i := 3); have zf4 := BZ2.out.free (i := 4)
    go_wp2_with fail
    exact bodyPost_ret (v := t.agg (.slice sa sn sc)) (by simp [results, Tryd.results64, go_sem, z0, z1, z2, z3, z4, V.agg]) rfl ⟨t, _, G, rfl, HW.out, by omega, (HO.out.set5 (by omega) (fun x hx => by have := HGL.out x hx; omega) _ _ _ _ _).low (by omega), (fun x hx => by have := HGL.out x hx; omega), (((((HD2.out.cell (Nat.le_refl _) hcw).cell (Nat.le_refl _) hcw).cell (Nat.le_refl _) hcw).cell (Nat.le_refl _) hcw).cell (Nat.le_refl _) hcw)⟩
  | false =>
    have BV := Lib.hid (Box.new w1 7 0 0 ⟨#[]⟩ (.slice none 0 0) 26)
    have BY := Lib.hid (BZ1.out.alloc (.cells #[.int .i64 7, .int .i64 0, .int .i64 0, .string ⟨#[]⟩, .slice none 0 0] 26))
    have HD2 := Lib.hid (show DX w0 c v N w (w1.alloc (.cells #[.int .i64 7, .int .i64 0, .int .i64 0, .string ⟨#[]⟩, .slice none 0 0] 26)) from HD1.out.stay ((Below.refl _ _).alloc (Nat.le_refl _) _))
    have hz2 : w1.heap.size + 1 = (w1.alloc (.cells #[.int .i64 7, .int .i64 0, .int .i64 0, .string ⟨#[]⟩, .slice none 0 0] 26)).heap.size := by simp
    go_wp2_with fail
    generalize (w1.alloc (.cells #[.int .i64 7, .int .i64 0, .int .i64 0, .string ⟨#[]⟩, .slice none 0 0] 26)) = W2 at *
    have MA := Lib.hid (show MAcc w0 c v N w W2 W2 w1.heap.size 7 [] (.slice none 0 0) (fun _ => False) from ⟨BV.out, PRow.nil _ _, fun _ h => h.elim, Touch.refl _ _, hz2.symm, by omega, HD2.out.1, HD2.out, by omega, hcw⟩)
    refine (BL.out 4 (by unfold In64; omega) W2 HD2.out.1).mono ?_
    rintro e3 w3 ⟨n, rfl, hn0, hn1, hd3⟩
    have hn4 : n < 4 := by omega
    clear hn1
    have MA3 := Lib.hid (MA.out.over hd3)
    have hz3 := hd3.2.size
    clear hd3
    go_wp2_with fail
    refine (BL.out 5 (by unfold In64; omega) w3 MA3.out.cu).mono ?_
    rintro e4 w4 ⟨x, rfl, hx0, hx1, hd4⟩
    have MA4 := Lib.hid (MA3.out.over hd4)
    have hz4 := hd4.2.size
    have BZ4 := Lib.hid (show Box w4 w.heap.size 0 0 0 ⟨#[]⟩ (.slice none 0 0) 26 from (MA4.out.touch.block w.heap.size (by omega) (by omega)).trans BY.out)
    have HD4 := Lib.hid MA4.out.dxw
    clear hd4
    have hx5 : (x = 0 ∧ pl = false) ∨ (x = 1 ∨ x = 2) ∨ ((x = 0 ∧ pl = true) ∨ (¬ x = 0 ∧ ¬ x = 1 ∧ ¬ x = 2)) := by cases pl <;> simp <;> omega
    clear hx0 hx1 BL HD0 HD1 HD2 BZ BZ1 BV MA MA3
    rcases hx5 with ⟨rfl, rfl⟩ | hx5 | hx5
    · go_wp2_with fail
      refine (PI.out w4 HD4.out.1).mono ?_
      rintro e5 w5 ⟨z, rfl, hz, hd5⟩
      have HZ := Lib.hid hz
      have HD5 := Lib.hid (HD4.out.trans hd5)
      have BZ5 := Lib.hid (BZ4.out.overC hd5.2 hnc)
      have hz5 := hd5.2.size
      clear hd5 hz
      go_wp2_with fail
      refine (MK.out w5 HD5.out.1).mono ?_
      rintro e6 w6 ⟨t, sl, G, rfl, hwf, hsz, ho, hgl, hd6⟩
      obtain ⟨sa, sn, sc, rfl⟩ : ∃ sa sn sc, sl = .slice sa sn sc := by obtain ⟨p, q, e⟩ := ho.slice; exact ⟨p, _, q, e⟩
      have HD6 := Lib.hid (HD5.out.trans hd6)
      have BZ6 := Lib.hid (BZ5.out.overC hd6.2 hnc)
      have hz6 := hd6.2.size
      have HW := Lib.hid hwf
      have HO := Lib.hid (ho.repF.mono (G' := fun x => w5.heap.size ≤ x ∧ x < w6.heap.size) (fun x hx hxs => ⟨hx.elim (fun h => hgl x h) (fun h => (ho.lt x h).1), hxs⟩))
      clear hd6 hwf ho hgl
      unfold V.agg
      obtain ⟨z0, z1, z2, z3, z4⟩ := BZ6.out.cells
      have zf0 := BZ6.out.free (i := 0); have zf1 := BZ6.out.free (i := 1); have zf2 := BZ6.out.free (i := 2); have zf3 := BZ6.out.free (i := 3); have zf4 := BZ6.out.free (i := 4)
      have hm1 : w.heap.size ≠ w6.heap.size := by omega
      have hm2 : w6.heap.size ≠ w.heap.size := by omega
      have hm3 : w.heap.size < w6.heap.size := by omega
      have HWT := Lib.hid (show (V.mk 9 z 0 ⟨#[]⟩ [t]).wf from ⟨by show In64 9; unfold In64; omega, HZ.out, in0, by show ByteArray.size ⟨#[]⟩ ≤ _; simp [ByteArray.size]⟩)
      have HST := Lib.hid (show (V.mk 9 z 0 ⟨#[]⟩ [t]).sz ≤ 5 * B from by rw [V.sz, szs, szs]; simp only [ByteArray.size, List.size_toArray, List.length_nil]; omega)
      have HPT := Lib.hid (show PRow ((set5 w6 w.heap.size (.int .i64 9) (.int .i64 z) (.int .i64 0) (.string ⟨#[]⟩) (.slice (some ⟨w6.heap.size, 0, none⟩) 1 1)).alloc (.cells #[.int .i64 t.k, .int .i64 t.n, .int .i64 t.e, .string t.s, .slice sa sn sc] 26)) w.heap.size (fun x => w5.heap.size ≤ x ∧ x < w6.heap.size) (.slice (some ⟨w6.heap.size, 0, none⟩) 1 1) [t] from
        prow_one (by rw [size_set5]) (by omega) HW.out (HO.out.keep (by rw [size_set5]; exact Nat.le_refl _) (fun x hx _ => heap_set5 _ _ _ _ _ _ _ _ (by have := hx.1; omega))) (fun x hx => hx.2))
      have HDT := Lib.hid (show DX w0 c v N w ((set5 w6 w.heap.size (.int .i64 9) (.int .i64 z) (.int .i64 0) (.string ⟨#[]⟩) (.slice (some ⟨w6.heap.size, 0, none⟩) 1 1)).alloc (.cells #[.int .i64 t.k, .int .i64 t.n, .int .i64 t.e, .string t.s, .slice sa sn sc] 26)) from
        ((((((HD6.out.cell (Nat.le_refl _) hcw).cell (Nat.le_refl _) hcw).cell (Nat.le_refl _) hcw).cell (Nat.le_refl _) hcw).cell (Nat.le_refl _) hcw)).stay ((Below.refl _ _).alloc (Nat.le_refl _) _))
      go_wp2_with fail
      exact bodyPost_ret (v := .agg #[.int .i64 9, .int .i64 z, .int .i64 0, .string ⟨#[]⟩, .slice (some ⟨w6.heap.size, 0, none⟩) 1 1]) (by simp [results, Tryd.results64, go_sem, z0, z1, z2, z3, z4, hm1, hm2, hm3]) rfl ⟨.mk 9 z 0 ⟨#[]⟩ [t], _, _, rfl, HWT.out, HST.out, HPT.out, (fun x hx => by have := hx.1; omega), HDT.out⟩
    · have MA8 := Lib.hid (MA4.out.kind 8)
      obtain ⟨g0, g1, g2, g3, g4⟩ := MA4.out.box.cells
      have gf0 := MA4.out.box.free (i := 0)
      clear PI LF
      rcases hx5 with rfl | rfl
      all_goals
        go_wp2_with fail
        go_loopw [9, 10] (fun ii _ wr => ∃ (i : Nat) (L1 : List V) (o : Value) (G : Nat → Prop), ii = .int .i64 i ∧ (i : Int) ≤ n ∧ L1.length = 2 * i ∧ szs L1 ≤ i * (B + 12) ∧ MAcc w0 c v N w W2 wr w1.heap.size 8 L1 o G) (fun ii _ _ => (n - intOf ii).toNat)
        case atStart => exact ⟨0, [], _, _, rfl, by omega, rfl, by rw [szs]; omega, MA8.out⟩
        case round =>
          obtain ⟨i, L1, o, G, rfl, hin, hL, hsz, hma⟩ := hrel
          have HMA := Lib.hid hma
          have HS := Lib.hid hsz
          have hzr := hma.touch.size
          have BZw := Lib.hid (show Box wr w.heap.size 0 0 0 ⟨#[]⟩ (.slice none 0 0) 26 from (hma.touch.block w.heap.size (by omega) (by omega)).trans BY.out)
          clear hma hsz
          by_cases hlt : (i : Int) < n
          · obtain ⟨oa, on, oc, rfl⟩ := HMA.out.rows.slice3
            obtain ⟨ks, hks, hkc⟩ := key_lit i (by omega) 9
            have hkc := hkc wr
            go_wp2_with fail
            refine (l02Str_any ks _).mono ?_
            rintro e4k w4k ⟨rfl, hb4k⟩
            have hz4k := hb4k.size
            simp at hz4k
            have HDa := Lib.hid (show DX w0 c v N wr w4k from (DX.refl HMA.out.cu).stay ((by (with_reducible (repeat' (first | exact Below.refl _ _ | refine below_alloc ?_ _ ?_ | refine Below.setCell ?_ ?_ _ | refine Below.drew ?_ | refine below_drewN ?_ _ | refine below_step ?_ (by assumption) ?_ | refine below_mark ?_ (by assumption) ?_))); all_goals (first | omega | (simp; done) | (simp; omega)))))
            have KB := Lib.hid (Box.new w4k 5 0 0 ks (.slice none 0 0) 26)
            have HDb := Lib.hid (show DX w0 c v N wr (w4k.alloc (.cells #[.int .i64 5, .int .i64 0, .int .i64 0, .string ks, .slice none 0 0] 26)) from HDa.out.stay ((Below.refl _ _).alloc (Nat.le_refl _) _))
            clear hb4k hkc
            go_wp2_with fail
            refine (ON.out 8 (by unfold In64; omega) _ HDb.out.1).mono ?_
            rintro e6 w6 ⟨bb, rfl, hd6⟩
            have HD6 := Lib.hid (HDb.out.trans hd6)
            have KB6 := Lib.hid (KB.out.overC hd6.2 (by omega))
            have hz6 := hd6.2.size
            clear hd6
            have hbp : (bb = true ∧ pl = false) ∨ (bb = true ∧ pl = true) ∨ bb = false := by cases bb <;> cases pl <;> simp
            rcases hbp with ⟨rfl, rfl⟩ | ⟨rfl, rfl⟩ | rfl
            · go_wp2_with fail
              refine (l02Int_any i w6).mono ?_
              rintro e7 w7 ⟨rfl, hb7⟩
              have HD7 := Lib.hid (HD6.out.stay hb7)
              have KB7 := Lib.hid (KB6.out.stay hb7)
              obtain ⟨y0, y1, y2, y3, y4⟩ := KB7.out.cells
              have yf0 := KB7.out.free (i := 0); have yf1 := KB7.out.free (i := 1); have yf2 := KB7.out.free (i := 2); have yf3 := KB7.out.free (i := 3); have yf4 := KB7.out.free (i := 4)
              have KB8 := Lib.hid (box_s5 KB7.out 3 i 0 ⟨#[]⟩ (.slice none 0 0))
              have hcwr : c < wr.heap.size := by omega
              have hz4w : wr.heap.size ≤ w4k.heap.size := by omega
              have HD8 := Lib.hid (show DX w0 c v N wr (set5 w7 w4k.heap.size (.int .i64 3) (.int .i64 i) (.int .i64 0) (.string ⟨#[]⟩) (.slice none 0 0)) from (((((HD7.out.cell hz4w hcwr).cell hz4w hcwr).cell hz4w hcwr).cell hz4w hcwr).cell hz4w hcwr))
              go_upto_region 18 with fail
              have hz9 : wr.heap.size + 1 ≤ (set5 w7 w4k.heap.size (.int .i64 3) (.int .i64 i) (.int .i64 0) (.string ⟨#[]⟩) (.slice none 0 0)).drew.heap.size := by have h1 := HD8.out.2.size; have h2 := KB8.out.lt; show _ ≤ (set5 w7 w4k.heap.size (.int .i64 3) (.int .i64 i) (.int .i64 0) (.string ⟨#[]⟩) (.slice none 0 0)).heap.size; omega
              have KB9 := Lib.hid (show Box (set5 w7 w4k.heap.size (.int .i64 3) (.int .i64 i) (.int .i64 0) (.string ⟨#[]⟩) (.slice none 0 0)).drew w4k.heap.size 3 i 0 ⟨#[]⟩ (.slice none 0 0) 26 from KB8.out)
              have DX9 := Lib.hid (show DX w0 c v N wr (set5 w7 w4k.heap.size (.int .i64 3) (.int .i64 i) (.int .i64 0) (.string ⟨#[]⟩) (.slice none 0 0)).drew from HD8.out.stay (Below.refl _ _).drew)
              have hkb9 : w4k.heap.size < (set5 w7 w4k.heap.size (.int .i64 3) (.int .i64 i) (.int .i64 0) (.string ⟨#[]⟩) (.slice none 0 0)).drew.heap.size := KB9.out.lt
              have HMD := Lib.hid (show MAcc w0 c v N w W2 (set5 w7 w4k.heap.size (.int .i64 3) (.int .i64 i) (.int .i64 0) (.string ⟨#[]⟩) (.slice none 0 0)).drew w1.heap.size 8 L1 (.slice oa on oc) G from HMA.out.over DX9.out)
              have HCU := Lib.hid HMD.out.cu
              have HKW := Lib.hid (show (V.mk 3 i 0 ⟨#[]⟩ []).wf from ⟨by show In64 3; unfold In64; omega, by show In64 i; unfold In64; omega, in0, by show ByteArray.size ⟨#[]⟩ ≤ _; first | omega | simp [ByteArray.size]⟩)
              have HKZ := Lib.hid (show (V.mk 3 i 0 ⟨#[]⟩ []).sz ≤ 10 from by rw [V.sz, szs]; first | omega | simp [ByteArray.size])
              obtain ⟨g0, g1, g2, g3, g4⟩ := HMD.out.box.cells
              obtain ⟨y0, y1, y2, y3, y4⟩ := KB9.out.cells
              have gf4 := HMD.out.box.free (i := 4)
              have hwd : IntKind.i64.wrap (deep - 1) = deep - 1 := IntWalk.i64_in _ (by omega)
              go_wp2_with fail
              go_region_law (first | (refine step_vals rfl _ _ rfl (w1.heap.size + 1) G (fun x => (set5 w7 w4k.heap.size (.int .i64 3) (.int .i64 i) (.int .i64 0) (.string ⟨#[]⟩) (.slice none 0 0)).drew.heap.size ≤ x ∧ x < w5.heap.size) _ L1 [V.mk 3 i 0 ⟨#[]⟩ [], u] [.slice none 0 0, .slice ua un uc] rfl (HM5.out.rows.stay ((by (with_reducible (repeat' (first | exact Below.refl _ _ | refine below_alloc ?_ _ ?_ | refine Below.setCell ?_ ?_ _ | refine Below.drew ?_ | refine below_drewN ?_ _ | refine below_step ?_ (by assumption) ?_ | refine below_mark ?_ (by assumption) ?_))); all_goals (first | omega | (simp; done) | (simp; omega))))) _ rfl (vsrc_lit [V.mk 3 i 0 ⟨#[]⟩ [], u] [.slice none 0 0, .slice ua un uc] rfl (fun j hj => by rcases (show j = 0 ∨ j = 1 by simp at hj; omega) with rfl | rfl; exact HKW.out; exact HWF.out) (fun j hj => by rcases (show j = 0 ∨ j = 1 by simp at hj; omega) with rfl | rfl; exact RepF.nil _ _; exact HO.out) _ rfl _ _ rfl) (fun x hx => by have h1 := hx.1; have h2 := hx.2; exact ⟨by simp; omega, fun e => by have := (HMA.out.rows.lt x e).2; omega⟩) (by simp; omega) (by simp; omega) ?_; intro v2 w2 hrow2 hg2 hfr2; obtain ⟨va, vn, vc, rfl⟩ := hrow2.slice3; have HG2 := Lib.hid hg2; have HR2 := Lib.hid hrow2; have HB2 := Lib.hid (show Box w2 w1.heap.size 8 0 0 ⟨#[]⟩ (.slice oa on oc) 26 from (hg2.block w1.heap.size (by simp; omega) (fun e => by have := (HM5.out.rows.lt _ e.symm).1; omega)).trans (HM5.out.box.stay ((by (with_reducible (repeat' (first | exact Below.refl _ _ | refine below_alloc ?_ _ ?_ | refine Below.setCell ?_ ?_ _ | refine Below.drew ?_ | refine below_drewN ?_ _ | refine below_step ?_ (by assumption) ?_ | refine below_mark ?_ (by assumption) ?_))); all_goals (first | omega | (simp; done) | (simp; omega)))))); have hfz := HB2.out.free (i := 4); have hcc := HB2.out.cells.2.2.2.2; clear hrow2 hg2 hfr2) | (go_simp; go_at_call 64; refine (MK.out _ HCU.out).mono ?_; rintro e5 w5 ⟨u, us, Gu, rfl, uwf, usz, uo, ugl, hd5⟩; obtain ⟨ua, un, uc, rfl⟩ : ∃ sa sn sc, us = .slice sa sn sc := (by obtain ⟨p, q, e⟩ := uo.slice; exact ⟨p, _, q, e⟩); unfold V.agg; have HM5 := Lib.hid (HMD.out.over hd5); have HWF := Lib.hid uwf; have HO := Lib.hid (uo.repF.mono (G' := fun x => (set5 w7 w4k.heap.size (.int .i64 3) (.int .i64 i) (.int .i64 0) (.string ⟨#[]⟩) (.slice none 0 0)).drew.heap.size ≤ x ∧ x < w5.heap.size) (fun x hx hxs => ⟨hx.elim (fun h => ugl x h) (fun h => (uo.lt x h).1), hxs⟩)); have HUZ := Lib.hid usz; have hz5 : (set5 w7 w4k.heap.size (.int .i64 3) (.int .i64 i) (.int .i64 0) (.string ⟨#[]⟩) (.slice none 0 0)).drew.heap.size ≤ w5.heap.size := hd5.2.size; have KB5 := Lib.hid (KB9.out.overC hd5.2 (by omega)); clear uwf usz uo ugl hd5; obtain ⟨y0, y1, y2, y3, y4⟩ := KB5.out.cells; obtain ⟨g0, g1, g2, g3, g4⟩ := HM5.out.box.cells; have gf4 := HM5.out.box.free (i := 4); have hm4 : w1.heap.size ≠ w5.heap.size := (by omega); have hm5 : w5.heap.size ≠ w1.heap.size := (by omega); have hm6 : w1.heap.size < w5.heap.size := (by omega); have hm7 : w4k.heap.size ≠ w5.heap.size := (by omega); have hm8 : w5.heap.size ≠ w4k.heap.size := (by omega); have hm9 : w4k.heap.size < w5.heap.size := (by omega)))
              all_goals
                go_wp2_with fail
                have hb5n : Below w5.heap.size w5 (w5.alloc (.cells #[.int .i64 3, .int .i64 i, .int .i64 0, .string ⟨#[]⟩, .slice none 0 0, .int .i64 u.k, .int .i64 u.n, .int .i64 u.e, .string u.s, .slice ua un uc] 26)) := (by (with_reducible (repeat' (first | exact Below.refl _ _ | refine below_alloc ?_ _ ?_ | refine Below.setCell ?_ ?_ _ | refine Below.drew ?_ | refine below_drewN ?_ _ | refine below_step ?_ (by assumption) ?_ | refine below_mark ?_ (by assumption) ?_))); all_goals (first | omega | (simp; done) | (simp; omega)))
                go_roundw
                case rel => exact ⟨i + 1, L1 ++ [V.mk 3 i 0 ⟨#[]⟩ [], u], _, _, by push_cast; rfl, by omega, by rw [List.length_append]; simp; omega, by
                  have h1 := HS.out
                  have h2 := HUZ.out
                  have h3 := Nat.add_mul i 1 (B + 12)
                  have h4 := HKZ.out
                  rw [szs_append, szs, szs, szs]; omega, HM5.out.put hb5n HG2.out HR2.out (fun x hx => by
                    rcases hx with hx | hx
                    · exact HMA.out.gl x hx
                    · have := hx.1; omega)⟩
                case measure => simp only [intOf]; omega
            all_goals
              go_upto_region 18 with fail
              have hz9 : wr.heap.size + 1 ≤ w6.drew.heap.size := by have h1 := HD6.out.2.size; have h2 := KB6.out.lt; show _ ≤ w6.heap.size; omega
              have KB9 := Lib.hid (show Box w6.drew w4k.heap.size 5 0 0 ks (.slice none 0 0) 26 from KB6.out)
              have DX9 := Lib.hid (show DX w0 c v N wr w6.drew from HD6.out.stay (Below.refl _ _).drew)
              have hkb9 : w4k.heap.size < w6.drew.heap.size := KB9.out.lt
              have HMD := Lib.hid (show MAcc w0 c v N w W2 w6.drew w1.heap.size 8 L1 (.slice oa on oc) G from HMA.out.over DX9.out)
              have HCU := Lib.hid HMD.out.cu
              have HKW := Lib.hid (show (V.mk 5 0 0 ks []).wf from ⟨by show In64 5; unfold In64; omega, by show In64 0; unfold In64; omega, in0, by show ByteArray.size ks ≤ _; first | omega | simp [ByteArray.size]⟩)
              have HKZ := Lib.hid (show (V.mk 5 0 0 ks []).sz ≤ 10 from by rw [V.sz, szs]; first | omega | simp [ByteArray.size])
              obtain ⟨g0, g1, g2, g3, g4⟩ := HMD.out.box.cells
              obtain ⟨y0, y1, y2, y3, y4⟩ := KB9.out.cells
              have gf4 := HMD.out.box.free (i := 4)
              have hwd : IntKind.i64.wrap (deep - 1) = deep - 1 := IntWalk.i64_in _ (by omega)
              go_wp2_with fail
              go_region_law (first | (refine step_vals rfl _ _ rfl (w1.heap.size + 1) G (fun x => w6.drew.heap.size ≤ x ∧ x < w5.heap.size) _ L1 [V.mk 5 0 0 ks [], u] [.slice none 0 0, .slice ua un uc] rfl (HM5.out.rows.stay ((by (with_reducible (repeat' (first | exact Below.refl _ _ | refine below_alloc ?_ _ ?_ | refine Below.setCell ?_ ?_ _ | refine Below.drew ?_ | refine below_drewN ?_ _ | refine below_step ?_ (by assumption) ?_ | refine below_mark ?_ (by assumption) ?_))); all_goals (first | omega | (simp; done) | (simp; omega))))) _ rfl (vsrc_lit [V.mk 5 0 0 ks [], u] [.slice none 0 0, .slice ua un uc] rfl (fun j hj => by rcases (show j = 0 ∨ j = 1 by simp at hj; omega) with rfl | rfl; exact HKW.out; exact HWF.out) (fun j hj => by rcases (show j = 0 ∨ j = 1 by simp at hj; omega) with rfl | rfl; exact RepF.nil _ _; exact HO.out) _ rfl _ _ rfl) (fun x hx => by have h1 := hx.1; have h2 := hx.2; exact ⟨by simp; omega, fun e => by have := (HMA.out.rows.lt x e).2; omega⟩) (by simp; omega) (by simp; omega) ?_; intro v2 w2 hrow2 hg2 hfr2; obtain ⟨va, vn, vc, rfl⟩ := hrow2.slice3; have HG2 := Lib.hid hg2; have HR2 := Lib.hid hrow2; have HB2 := Lib.hid (show Box w2 w1.heap.size 8 0 0 ⟨#[]⟩ (.slice oa on oc) 26 from (hg2.block w1.heap.size (by simp; omega) (fun e => by have := (HM5.out.rows.lt _ e.symm).1; omega)).trans (HM5.out.box.stay ((by (with_reducible (repeat' (first | exact Below.refl _ _ | refine below_alloc ?_ _ ?_ | refine Below.setCell ?_ ?_ _ | refine Below.drew ?_ | refine below_drewN ?_ _ | refine below_step ?_ (by assumption) ?_ | refine below_mark ?_ (by assumption) ?_))); all_goals (first | omega | (simp; done) | (simp; omega)))))); have hfz := HB2.out.free (i := 4); have hcc := HB2.out.cells.2.2.2.2; clear hrow2 hg2 hfr2) | (go_simp; go_at_call 64; refine (MK.out _ HCU.out).mono ?_; rintro e5 w5 ⟨u, us, Gu, rfl, uwf, usz, uo, ugl, hd5⟩; obtain ⟨ua, un, uc, rfl⟩ : ∃ sa sn sc, us = .slice sa sn sc := (by obtain ⟨p, q, e⟩ := uo.slice; exact ⟨p, _, q, e⟩); unfold V.agg; have HM5 := Lib.hid (HMD.out.over hd5); have HWF := Lib.hid uwf; have HO := Lib.hid (uo.repF.mono (G' := fun x => w6.drew.heap.size ≤ x ∧ x < w5.heap.size) (fun x hx hxs => ⟨hx.elim (fun h => ugl x h) (fun h => (uo.lt x h).1), hxs⟩)); have HUZ := Lib.hid usz; have hz5 : w6.drew.heap.size ≤ w5.heap.size := hd5.2.size; have KB5 := Lib.hid (KB9.out.overC hd5.2 (by omega)); clear uwf usz uo ugl hd5; obtain ⟨y0, y1, y2, y3, y4⟩ := KB5.out.cells; obtain ⟨g0, g1, g2, g3, g4⟩ := HM5.out.box.cells; have gf4 := HM5.out.box.free (i := 4); have hm4 : w1.heap.size ≠ w5.heap.size := (by omega); have hm5 : w5.heap.size ≠ w1.heap.size := (by omega); have hm6 : w1.heap.size < w5.heap.size := (by omega); have hm7 : w4k.heap.size ≠ w5.heap.size := (by omega); have hm8 : w5.heap.size ≠ w4k.heap.size := (by omega); have hm9 : w4k.heap.size < w5.heap.size := (by omega)))
              all_goals
                go_wp2_with fail
                have hb5n : Below w5.heap.size w5 (w5.alloc (.cells #[.int .i64 5, .int .i64 0, .int .i64 0, .string ks, .slice none 0 0, .int .i64 u.k, .int .i64 u.n, .int .i64 u.e, .string u.s, .slice ua un uc] 26)) := (by (with_reducible (repeat' (first | exact Below.refl _ _ | refine below_alloc ?_ _ ?_ | refine Below.setCell ?_ ?_ _ | refine Below.drew ?_ | refine below_drewN ?_ _ | refine below_step ?_ (by assumption) ?_ | refine below_mark ?_ (by assumption) ?_))); all_goals (first | omega | (simp; done) | (simp; omega)))
                go_roundw
                case rel => exact ⟨i + 1, L1 ++ [V.mk 5 0 0 ks [], u], _, _, by push_cast; rfl, by omega, by rw [List.length_append]; simp; omega, by
                  have h1 := HS.out
                  have h2 := HUZ.out
                  have h3 := Nat.add_mul i 1 (B + 12)
                  have h4 := HKZ.out
                  rw [szs_append, szs, szs, szs]; omega, HM5.out.put hb5n HG2.out HR2.out (fun x hx => by
                    rcases hx with hx | hx
                    · exact HMA.out.gl x hx
                    · have := hx.1; omega)⟩
                case measure => simp only [intOf]; omega
          · obtain rfl : (i : Int) = n := by omega
            obtain ⟨oa, on, oc, rfl⟩ := HMA.out.rows.slice3
            obtain ⟨g0, g1, g2, g3, g4⟩ := HMA.out.box.cells
            obtain ⟨z0, z1, z2, z3, z4⟩ := BZw.out.cells
            have zf0 := BZw.out.free (i := 0); have zf1 := BZw.out.free (i := 1); have zf2 := BZw.out.free (i := 2); have zf3 := BZw.out.free (i := 3); have zf4 := BZw.out.free (i := 4)
            have HWZ := Lib.hid (show (V.mk 8 0 0 ⟨#[]⟩ L1).wf from ⟨by show In64 8; unfold In64; omega, in0, in0, by show ByteArray.size ⟨#[]⟩ ≤ _; simp [ByteArray.size]⟩)
            have HSZ := Lib.hid (show (V.mk 8 0 0 ⟨#[]⟩ L1).sz ≤ 5 * B from by
              have h1 := HS.out
              have h2 : i * (B + 12) ≤ 3 * (B + 12) := Nat.mul_le_mul_right _ (by omega)
              rw [V.sz]; simp only [ByteArray.size, List.size_toArray, List.length_nil]; omega)
            go_wp2_with fail
            exact bodyPost_ret (v := .agg #[.int .i64 8, .int .i64 0, .int .i64 0, .string ⟨#[]⟩, .slice oa on oc]) (by simp [results, Tryd.results64, go_sem, z0, z1, z2, z3, z4]) rfl ⟨.mk 8 0 0 ⟨#[]⟩ L1, _, G, rfl, HWZ.out, HSZ.out, (HMA.out.rows.set5 (by omega) (fun x hx => by have := HMA.out.gl x hx; omega) _ _ _ _ _).low (by omega), (fun x hx => by have := HMA.out.gl x hx; omega), (((((HMA.out.dxw.cell (Nat.le_refl _) hcw).cell (Nat.le_refl _) hcw).cell (Nat.le_refl _) hcw).cell (Nat.le_refl _) hcw).cell (Nat.le_refl _) hcw)⟩
    · rcases hx5 with ⟨rfl, rfl⟩ | hx5
      · clear PI LF ON
        go_wp2_with fail
        go_loopw [11] (fun ii wr => ∃ (i : Nat) (L1 : List V) (o : Value) (G : Nat → Prop), ii = .int .i64 i ∧ (i : Int) ≤ n ∧ L1.length = i ∧ szs L1 ≤ i * (B + 12) ∧ MAcc w0 c v N w W2 wr w1.heap.size 7 L1 o G) (fun ii _ => (n - intOf ii).toNat)
        case atStart => exact ⟨0, [], _, _, rfl, by omega, rfl, by rw [szs]; omega, MA4.out⟩
        case round =>
          obtain ⟨i, L1, o, G, rfl, hin, hL, hsz, hma⟩ := hrel
          have HMA := Lib.hid hma
          have HS := Lib.hid hsz
          have hzr := hma.touch.size
          have BZw := Lib.hid (show Box wr w.heap.size 0 0 0 ⟨#[]⟩ (.slice none 0 0) 26 from (hma.touch.block w.heap.size (by omega) (by omega)).trans BY.out)
          clear hma hsz
          by_cases hlt : (i : Int) < n
          · obtain ⟨oa, on, oc, rfl⟩ := HMA.out.rows.slice3
            obtain ⟨g0, g1, g2, g3, g4⟩ := HMA.out.box.cells
            have gf4 := HMA.out.box.free (i := 4)
            obtain ⟨W9, hW9⟩ : ∃ W9 : World, W9 = wr.drew := ⟨_, rfl⟩
            have hz9 : wr.heap.size = W9.heap.size := by rw [hW9]; rfl
            have HMD := Lib.hid (show MAcc w0 c v N w W2 W9 w1.heap.size 7 L1 (.slice oa on oc) G from HMA.out.over (by rw [hW9]; exact (DX.refl HMA.out.cu).stay (Below.refl _ _).drew))
            have HCU := Lib.hid HMD.out.cu
            have HWD := Lib.hid hW9
            subst hW9
            have hwd : IntKind.i64.wrap (deep - 1) = deep - 1 := IntWalk.i64_in _ (by omega)
            go_wp2_with fail
            go_region_law (first | (refine step_vals rfl _ _ rfl (w1.heap.size + 1) G (fun x => wr.drew.heap.size ≤ x ∧ x < w5.heap.size) _ L1 [u] [.slice ua un uc] rfl (HM5.out.rows.stay ((by (with_reducible (repeat' (first | exact Below.refl _ _ | refine below_alloc ?_ _ ?_ | refine Below.setCell ?_ ?_ _ | refine Below.drew ?_ | refine below_drewN ?_ _ | refine below_step ?_ (by assumption) ?_ | refine below_mark ?_ (by assumption) ?_))); all_goals (first | omega | (simp; done) | (simp; omega))))) _ rfl (vsrc_lit [u] [.slice ua un uc] rfl (fun j hj => by obtain rfl : j = 0 := (by simpa using hj); exact HWF.out) (fun j hj => by obtain rfl : j = 0 := (by simpa using hj); exact HO.out) _ rfl _ _ rfl) (fun x hx => by have h1 := hx.1; have h2 := hx.2; exact ⟨by simp; omega, fun e => by have := (HMA.out.rows.lt x e).2; omega⟩) (by simp; omega) (by simp; omega) ?_; intro v2 w2 hrow2 hg2 hfr2; obtain ⟨va, vn, vc, rfl⟩ := hrow2.slice3; have HG2 := Lib.hid hg2; have HR2 := Lib.hid hrow2; have HB2 := Lib.hid (show Box w2 w1.heap.size 7 0 0 ⟨#[]⟩ (.slice oa on oc) 26 from (hg2.block w1.heap.size (by simp; omega) (fun e => by have := (HM5.out.rows.lt _ e.symm).1; omega)).trans (HM5.out.box.stay ((by (with_reducible (repeat' (first | exact Below.refl _ _ | refine below_alloc ?_ _ ?_ | refine Below.setCell ?_ ?_ _ | refine Below.drew ?_ | refine below_drewN ?_ _ | refine below_step ?_ (by assumption) ?_ | refine below_mark ?_ (by assumption) ?_))); all_goals (first | omega | (simp; done) | (simp; omega)))))); have hfz := HB2.out.free (i := 4); have hcc := HB2.out.cells.2.2.2.2; clear hrow2 hg2 hfr2) | (go_simp; go_at_call 64; refine (MK.out _ HCU.out).mono ?_; rintro e5 w5 ⟨u, us, Gu, rfl, uwf, usz, uo, ugl, hd5⟩; obtain ⟨ua, un, uc, rfl⟩ : ∃ sa sn sc, us = .slice sa sn sc := (by obtain ⟨p, q, e⟩ := uo.slice; exact ⟨p, _, q, e⟩); unfold V.agg; have HM5 := Lib.hid (HMD.out.over hd5); have HWF := Lib.hid uwf; have HO := Lib.hid (uo.repF.mono (G' := fun x => wr.drew.heap.size ≤ x ∧ x < w5.heap.size) (fun x hx hxs => ⟨hx.elim (fun h => ugl x h) (fun h => (uo.lt x h).1), hxs⟩)); have HUZ := Lib.hid usz; have hz5 : wr.drew.heap.size ≤ w5.heap.size := hd5.2.size; clear uwf usz uo ugl hd5; obtain ⟨g0, g1, g2, g3, g4⟩ := HM5.out.box.cells; have gf4 := HM5.out.box.free (i := 4); have hm4 : w1.heap.size ≠ w5.heap.size := (by omega); have hm5 : w5.heap.size ≠ w1.heap.size := (by omega); have hm6 : w1.heap.size < w5.heap.size := (by omega)))
            all_goals
              go_wp2_with fail
              have hb5n : Below w5.heap.size w5 (w5.alloc (.cells #[.int .i64 u.k, .int .i64 u.n, .int .i64 u.e, .string u.s, .slice ua un uc] 26)) := (by (with_reducible (repeat' (first | exact Below.refl _ _ | refine below_alloc ?_ _ ?_ | refine Below.setCell ?_ ?_ _ | refine Below.drew ?_ | refine below_drewN ?_ _ | refine below_step ?_ (by assumption) ?_ | refine below_mark ?_ (by assumption) ?_))); all_goals (first | omega | (simp; done) | (simp; omega)))
              go_roundw
              case rel => exact ⟨i + 1, L1 ++ [u], _, _, by push_cast; rfl, by omega, by rw [List.length_append]; simp; omega, by
                have h1 := HS.out
                have h2 := HUZ.out
                have h3 := Nat.add_mul i 1 (B + 12)
                rw [szs_append, szs, szs]; omega, HM5.out.put hb5n HG2.out HR2.out (fun x hx => by
                  rcases hx with hx | hx
                  · exact HMA.out.gl x hx
                  · have := hx.1; omega)⟩
              case measure => simp only [intOf]; omega
          · obtain rfl : (i : Int) = n := by omega
            obtain ⟨oa, on, oc, rfl⟩ := HMA.out.rows.slice3
            obtain ⟨g0, g1, g2, g3, g4⟩ := HMA.out.box.cells
            obtain ⟨z0, z1, z2, z3, z4⟩ := BZw.out.cells
            have zf0 := BZw.out.free (i := 0); have zf1 := BZw.out.free (i := 1); have zf2 := BZw.out.free (i := 2); have zf3 := BZw.out.free (i := 3); have zf4 := BZw.out.free (i := 4)
            have HWZ := Lib.hid (show (V.mk 7 0 0 ⟨#[]⟩ L1).wf from ⟨by show In64 7; unfold In64; omega, in0, in0, by show ByteArray.size ⟨#[]⟩ ≤ _; simp [ByteArray.size]⟩)
            have HSZ := Lib.hid (show (V.mk 7 0 0 ⟨#[]⟩ L1).sz ≤ 5 * B from by
              have h1 := HS.out
              have h2 : i * (B + 12) ≤ 3 * (B + 12) := Nat.mul_le_mul_right _ (by omega)
              rw [V.sz]; simp only [ByteArray.size, List.size_toArray, List.length_nil]; omega)
            go_wp2_with fail
            exact bodyPost_ret (v := .agg #[.int .i64 7, .int .i64 0, .int .i64 0, .string ⟨#[]⟩, .slice oa on oc]) (by simp [results, Tryd.results64, go_sem, z0, z1, z2, z3, z4]) rfl ⟨.mk 7 0 0 ⟨#[]⟩ L1, _, G, rfl, HWZ.out, HSZ.out, (HMA.out.rows.set5 (by omega) (fun x hx => by have := HMA.out.gl x hx; omega) _ _ _ _ _).low (by omega), (fun x hx => by have := HMA.out.gl x hx; omega), (((((HMA.out.dxw.cell (Nat.le_refl _) hcw).cell (Nat.le_refl _) hcw).cell (Nat.le_refl _) hcw).cell (Nat.le_refl _) hcw).cell (Nat.le_refl _) hcw)⟩
      · have e0 : (x == 0) = false := by simpa using hx5.1
        have e1 : (x == 1) = false := by simpa using hx5.2.1
        have e2 : (x == 2) = false := by simpa using hx5.2.2
        clear hx5 PI LF ON
        go_wp2_with fail
        go_loopw [11] (fun ii wr => ∃ (i : Nat) (L1 : List V) (o : Value) (G : Nat → Prop), ii = .int .i64 i ∧ (i : Int) ≤ n ∧ L1.length = i ∧ szs L1 ≤ i * (B + 12) ∧ MAcc w0 c v N w W2 wr w1.heap.size 7 L1 o G) (fun ii _ => (n - intOf ii).toNat)
        case atStart => exact ⟨0, [], _, _, rfl, by omega, rfl, by rw [szs]; omega, MA4.out⟩
        case round =>
          obtain ⟨i, L1, o, G, rfl, hin, hL, hsz, hma⟩ := hrel
          have HMA := Lib.hid hma
          have HS := Lib.hid hsz
          have hzr := hma.touch.size
          have BZw := Lib.hid (show Box wr w.heap.size 0 0 0 ⟨#[]⟩ (.slice none 0 0) 26 from (hma.touch.block w.heap.size (by omega) (by omega)).trans BY.out)
          clear hma hsz
          by_cases hlt : (i : Int) < n
          · obtain ⟨oa, on, oc, rfl⟩ := HMA.out.rows.slice3
            obtain ⟨g0, g1, g2, g3, g4⟩ := HMA.out.box.cells
            have gf4 := HMA.out.box.free (i := 4)
            obtain ⟨W9, hW9⟩ : ∃ W9 : World, W9 = wr.drew := ⟨_, rfl⟩
            have hz9 : wr.heap.size = W9.heap.size := by rw [hW9]; rfl
            have HMD := Lib.hid (show MAcc w0 c v N w W2 W9 w1.heap.size 7 L1 (.slice oa on oc) G from HMA.out.over (by rw [hW9]; exact (DX.refl HMA.out.cu).stay (Below.refl _ _).drew))
            have HCU := Lib.hid HMD.out.cu
            have HWD := Lib.hid hW9
            subst hW9
            have hwd : IntKind.i64.wrap (deep - 1) = deep - 1 := IntWalk.i64_in _ (by omega)
            go_wp2_with fail
            go_region_law (first | (refine step_vals rfl _ _ rfl (w1.heap.size + 1) G (fun x => wr.drew.heap.size ≤ x ∧ x < w5.heap.size) _ L1 [u] [.slice ua un uc] rfl (HM5.out.rows.stay ((by (with_reducible (repeat' (first | exact Below.refl _ _ | refine below_alloc ?_ _ ?_ | refine Below.setCell ?_ ?_ _ | refine Below.drew ?_ | refine below_drewN ?_ _ | refine below_step ?_ (by assumption) ?_ | refine below_mark ?_ (by assumption) ?_))); all_goals (first | omega | (simp; done) | (simp; omega))))) _ rfl (vsrc_lit [u] [.slice ua un uc] rfl (fun j hj => by obtain rfl : j = 0 := (by simpa using hj); exact HWF.out) (fun j hj => by obtain rfl : j = 0 := (by simpa using hj); exact HO.out) _ rfl _ _ rfl) (fun x hx => by have h1 := hx.1; have h2 := hx.2; exact ⟨by simp; omega, fun e => by have := (HMA.out.rows.lt x e).2; omega⟩) (by simp; omega) (by simp; omega) ?_; intro v2 w2 hrow2 hg2 hfr2; obtain ⟨va, vn, vc, rfl⟩ := hrow2.slice3; have HG2 := Lib.hid hg2; have HR2 := Lib.hid hrow2; have HB2 := Lib.hid (show Box w2 w1.heap.size 7 0 0 ⟨#[]⟩ (.slice oa on oc) 26 from (hg2.block w1.heap.size (by simp; omega) (fun e => by have := (HM5.out.rows.lt _ e.symm).1; omega)).trans (HM5.out.box.stay ((by (with_reducible (repeat' (first | exact Below.refl _ _ | refine below_alloc ?_ _ ?_ | refine Below.setCell ?_ ?_ _ | refine Below.drew ?_ | refine below_drewN ?_ _ | refine below_step ?_ (by assumption) ?_ | refine below_mark ?_ (by assumption) ?_))); all_goals (first | omega | (simp; done) | (simp; omega)))))); have hfz := HB2.out.free (i := 4); have hcc := HB2.out.cells.2.2.2.2; clear hrow2 hg2 hfr2) | (go_simp; go_at_call 64; refine (MK.out _ HCU.out).mono ?_; rintro e5 w5 ⟨u, us, Gu, rfl, uwf, usz, uo, ugl, hd5⟩; obtain ⟨ua, un, uc, rfl⟩ : ∃ sa sn sc, us = .slice sa sn sc := (by obtain ⟨p, q, e⟩ := uo.slice; exact ⟨p, _, q, e⟩); unfold V.agg; have HM5 := Lib.hid (HMD.out.over hd5); have HWF := Lib.hid uwf; have HO := Lib.hid (uo.repF.mono (G' := fun x => wr.drew.heap.size ≤ x ∧ x < w5.heap.size) (fun x hx hxs => ⟨hx.elim (fun h => ugl x h) (fun h => (uo.lt x h).1), hxs⟩)); have HUZ := Lib.hid usz; have hz5 : wr.drew.heap.size ≤ w5.heap.size := hd5.2.size; clear uwf usz uo ugl hd5; obtain ⟨g0, g1, g2, g3, g4⟩ := HM5.out.box.cells; have gf4 := HM5.out.box.free (i := 4); have hm4 : w1.heap.size ≠ w5.heap.size := (by omega); have hm5 : w5.heap.size ≠ w1.heap.size := (by omega); have hm6 : w1.heap.size < w5.heap.size := (by omega)))
            all_goals
              go_wp2_with fail
              have hb5n : Below w5.heap.size w5 (w5.alloc (.cells #[.int .i64 u.k, .int .i64 u.n, .int .i64 u.e, .string u.s, .slice ua un uc] 26)) := (by (with_reducible (repeat' (first | exact Below.refl _ _ | refine below_alloc ?_ _ ?_ | refine Below.setCell ?_ ?_ _ | refine Below.drew ?_ | refine below_drewN ?_ _ | refine below_step ?_ (by assumption) ?_ | refine below_mark ?_ (by assumption) ?_))); all_goals (first | omega | (simp; done) | (simp; omega)))
              go_roundw
              case rel => exact ⟨i + 1, L1 ++ [u], _, _, by push_cast; rfl, by omega, by rw [List.length_append]; simp; omega, by
                have h1 := HS.out
                have h2 := HUZ.out
                have h3 := Nat.add_mul i 1 (B + 12)
                rw [szs_append, szs, szs]; omega, HM5.out.put hb5n HG2.out HR2.out (fun x hx => by
                  rcases hx with hx | hx
                  · exact HMA.out.gl x hx
                  · have := hx.1; omega)⟩
              case measure => simp only [intOf]; omega
          · obtain rfl : (i : Int) = n := by omega
            obtain ⟨oa, on, oc, rfl⟩ := HMA.out.rows.slice3
            obtain ⟨g0, g1, g2, g3, g4⟩ := HMA.out.box.cells
            obtain ⟨z0, z1, z2, z3, z4⟩ := BZw.out.cells
            have zf0 := BZw.out.free (i := 0); have zf1 := BZw.out.free (i := 1); have zf2 := BZw.out.free (i := 2); have zf3 := BZw.out.free (i := 3); have zf4 := BZw.out.free (i := 4)
            have HWZ := Lib.hid (show (V.mk 7 0 0 ⟨#[]⟩ L1).wf from ⟨by show In64 7; unfold In64; omega, in0, in0, by show ByteArray.size ⟨#[]⟩ ≤ _; simp [ByteArray.size]⟩)
            have HSZ := Lib.hid (show (V.mk 7 0 0 ⟨#[]⟩ L1).sz ≤ 5 * B from by
              have h1 := HS.out
              have h2 : i * (B + 12) ≤ 3 * (B + 12) := Nat.mul_le_mul_right _ (by omega)
              rw [V.sz]; simp only [ByteArray.size, List.size_toArray, List.length_nil]; omega)
            go_wp2_with fail
            exact bodyPost_ret (v := .agg #[.int .i64 7, .int .i64 0, .int .i64 0, .string ⟨#[]⟩, .slice oa on oc]) (by simp [results, Tryd.results64, go_sem, z0, z1, z2, z3, z4]) rfl ⟨.mk 7 0 0 ⟨#[]⟩ L1, _, G, rfl, HWZ.out, HSZ.out, (HMA.out.rows.set5 (by omega) (fun x hx => by have := HMA.out.gl x hx; omega) _ _ _ _ _).low (by omega), (fun x hx => by have := HMA.out.gl x hx; omega), (((((HMA.out.dxw.cell (Nat.le_refl _) hcw).cell (Nat.le_refl _) hcw).cell (Nat.le_refl _) hcw).cell (Nat.le_refl _) hcw).cell (Nat.le_refl _) hcw)⟩
end Go.Proofs.YtppmoajoffeleaaDoor
namespace Go.Proofs.YtppmoajoffeleaaDoor
set_option linter.unusedSimpArgs false
set_option linter.unusedVariables false
set_option maxRecDepth 100000
open Go.RowKit
theorem l02Make_any (w0 : World) (c : Nat) (v : Value) (N : Nat) (hD : Drw w0 v N) : ∀ (d : Nat), d ≤ 5 → ∀ (deep : Int), -1000 ≤ deep → deep ≤ d → ∀ (pl : Bool) (w : World), CuX w0 c v N w →
    Calls Tryd.prog 64 #[.pointer (some ⟨c, 0, none⟩), .int .i64 deep, .bool pl] w (DVal w0 c v N (20 * 5 ^ d) w) := by
  intro d
  induction d with
  | zero =>
    intro _ deep h1 h2 pl w h
    exact make_zero w0 c v N hD deep ⟨h1, by omega⟩ pl w h
  | succ d ih =>
    intro hd5 deep h1 h2 pl w h
    have hp : 1 ≤ 5 ^ d := Nat.one_le_pow _ _ (by omega)
    have hq : 5 ^ d ≤ 5 ^ 4 := Nat.pow_le_pow_right (by omega) (by omega)
    have hr : 5 ^ (d + 1) = 5 * 5 ^ d := by rw [Nat.pow_succ]; omega
    by_cases h0 : deep ≤ 0
    · refine (make_zero w0 c v N hD deep ⟨h1, h0⟩ pl w h).mono ?_
      rintro e w' ⟨t, sl, G, he, hw, hz, rest⟩
      exact ⟨t, sl, G, he, hw, by omega, rest⟩
    · have hs := make_step w0 c v N hD (20 * 5 ^ d) (by omega) deep (by omega) (fun pl W hW => ih (by omega) (deep - 1) (by omega) (by omega) pl W hW) pl w h
      rw [show 5 * (20 * 5 ^ d) = 20 * 5 ^ (d + 1) by omega] at hs
      exact hs
theorem DX.grown {w0 w W W2 : World} {c N : Nat} {v : Value} {g : Option Nat} (h : DX w0 c v N w W) (hg : W.grownBy W2 g) (hc : c < w.heap.size) (ho : ∀ k, g = some k → w.heap.size ≤ k) : DX w0 c v N w W2 := by
  have hz := h.2.size
  have hn : ∀ x, x < w.heap.size → W2.heap[x]? = W.heap[x]? := fun x hx => hg.block x (by omega) (fun e => by have := ho x e.symm; omega)
  have hb := h.1.below
  have h6 := h.1.hc
  refine ⟨h.1.over (hn c hc) ⟨hg.os.trans hb.os, hg.tape.trans hb.tape, hg.output.trans hb.output, Nat.le_trans hb.size hg.size, fun k hk => (hn k (by omega)).trans (hb.block k hk)⟩, ?_⟩
  exact ⟨hg.os.trans h.2.os, hg.tape.trans h.2.tape, hg.output.trans h.2.output, Nat.le_trans hz hg.size, fun x hx hx2 => (hn x hx).trans (h.2.block x hx hx2), h.2.new⟩
structure AAcc (w0 : World) (c : Nat) (v : Value) (N : Nat) (w W : World) (b : Nat) (t : V) (sl : Value) (G : Nat → Prop) : Prop where
  res : Box W w.heap.size 0 0 0 ⟨#[]⟩ (.slice none 0 0) 26
  box : Box W b t.k t.n t.e t.s sl 26
  wf : t.wf
  rows : PRow W (w.heap.size + 1) G sl t.kids
  gl : ∀ x, G x → w.heap.size + 1 ≤ x ∧ x ≠ b
  own : ∀ x, sl.ownBlock = some x → x ≠ b
  dx : DX w0 c v N w W
  lo : w.heap.size < b
  cw : c < w.heap.size
theorem AAcc.over {w0 w W W' : World} {c N b : Nat} {v sl : Value} {t : V} {G : Nat → Prop} (h : AAcc w0 c v N w W b t sl G) (hd : DX w0 c v N W W') : AAcc w0 c v N w W' b t sl G := by
  have hlo := h.lo
  have hcw := h.cw
  refine ⟨h.res.overC hd.2 (by omega), h.box.overC hd.2 (by omega), h.wf, h.rows.keep hd.2.size (fun x hx hxs => hd.2.block x hxs ?_), h.gl, h.own, h.dx.trans hd, h.lo, h.cw⟩
  rcases hx with hx | hx
  · have := (h.gl x hx).1; omega
  · have := (h.rows.lt x hx).1; omega
theorem AAcc.done {w0 w W : World} {c N b fn fc : Nat} {fa : Option Addr} {v : Value} {t : V} {G : Nat → Prop} (h : AAcc w0 c v N w W b t (.slice fa fn fc) G) (hs : t.sz ≤ 4000) :
    DVal w0 c v N 4000 w (.returned (.agg #[.int .i64 t.k, .int .i64 t.n, .int .i64 t.e, .string t.s, .slice fa fn fc])) (set5 W w.heap.size (.int .i64 t.k) (.int .i64 t.n) (.int .i64 t.e) (.string t.s) (.slice fa fn fc)) :=
  ⟨t, _, G, rfl, h.wf, hs, (h.rows.set5 (by omega) (fun x hx => by have := (h.gl x hx).1; omega) _ _ _ _ _).low (by omega), (fun x hx => by have := (h.gl x hx).1; omega),
    (((((h.dx.cell (Nat.le_refl _) h.cw).cell (Nat.le_refl _) h.cw).cell (Nat.le_refl _) h.cw).cell (Nat.le_refl _) h.cw).cell (Nat.le_refl _) h.cw)⟩
theorem AAcc.cellK {w0 w W : World} {c N b : Nat} {v sl : Value} {t : V} {G : Nat → Prop} (h : AAcc w0 c v N w W b t sl G) (k : Int) (hk : In64 k) : AAcc w0 c v N w (W.setCell ⟨b, 0, none⟩ (.int .i64 k)) b (.mk k t.n t.e t.s t.kids) sl G := by
  have hlo := h.lo
  have hn : ∀ x, x ≠ b → (W.setCell ⟨b, 0, none⟩ (.int .i64 k)).heap[x]? = W.heap[x]? := fun x hx => heap_setCell_other _ _ _ _ (show ¬ x = b from hx)
  refine ⟨(hn _ (by omega)).trans h.res, ?_, ⟨hk, h.wf.2.1, h.wf.2.2.1, h.wf.2.2.2⟩, h.rows.keep (by simp) (fun x hx _ => hn x (hx.elim (fun h1 => (h.gl x h1).2) (fun h1 => h.own x h1))), h.gl, h.own, h.dx.cell (by omega) h.cw, h.lo, h.cw⟩
  have hb := h.box
  unfold Box at *
  rw [heap_setCell_same W b 0 _ _ _ hb]; rfl
theorem AAcc.cellN {w0 w W : World} {c N b : Nat} {v sl : Value} {t : V} {G : Nat → Prop} (h : AAcc w0 c v N w W b t sl G) (k : Int) (hk : In64 k) : AAcc w0 c v N w (W.setCell ⟨b, 1, none⟩ (.int .i64 k)) b (.mk t.k k t.e t.s t.kids) sl G := by
  have hlo := h.lo
  have hn : ∀ x, x ≠ b → (W.setCell ⟨b, 1, none⟩ (.int .i64 k)).heap[x]? = W.heap[x]? := fun x hx => heap_setCell_other _ _ _ _ (show ¬ x = b from hx)
  refine ⟨(hn _ (by omega)).trans h.res, ?_, ⟨h.wf.1, hk, h.wf.2.2.1, h.wf.2.2.2⟩, h.rows.keep (by simp) (fun x hx _ => hn x (hx.elim (fun h1 => (h.gl x h1).2) (fun h1 => h.own x h1))), h.gl, h.own, h.dx.cell (by omega) h.cw, h.lo, h.cw⟩
  have hb := h.box
  unfold Box at *
  rw [heap_setCell_same W b 1 _ _ _ hb]; rfl
theorem AAcc.put {w0 w W W1 W2 : World} {c N b : Nat} {v sl v2 : Value} {t : V} {us2 : List V} {G G2 : Nat → Prop} (h : AAcc w0 c v N w W b t sl G) (hW : Below W.heap.size W W1) (hg : W1.grownBy W2 sl.ownBlock) (hfr : FreshOr W1 sl v2) (hr2 : PRow W2 (w.heap.size + 1) G2 v2 us2) (hG2 : ∀ x, G2 x → w.heap.size + 1 ≤ x ∧ x ≠ b) :
    AAcc w0 c v N w (W2.setCell ⟨b, 4, none⟩ v2) b (.mk t.k t.n t.e t.s us2) v2 G2 := by
  have hlo := h.lo
  have hbl := h.box.lt
  have z1 := hW.size
  have hn : ∀ x, x < W.heap.size → sl.ownBlock ≠ some x → W2.heap[x]? = W.heap[x]? := fun x hx hxo => (hg.block x (by omega) (fun e => hxo e.symm)).trans (hW.block x hx)
  have hs : ∀ x, x ≠ b → (W2.setCell ⟨b, 4, none⟩ v2).heap[x]? = W2.heap[x]? := fun x hx => heap_setCell_other _ _ _ _ (show ¬ x = b from hx)
  have hob : sl.ownBlock ≠ some b := fun e => h.own b e rfl
  have hor : sl.ownBlock ≠ some w.heap.size := fun e => by have := (h.rows.lt _ e).1; omega
  have hv2 : ∀ x, v2.ownBlock = some x → x ≠ b := fun x hx e => by
    subst e
    rcases hfr with h1 | h1
    · exact hob (h1.symm.trans hx)
    · have h2 := h1.symm.trans hx
      simp only [Option.some.injEq] at h2
      omega
  have B2 : Box W2 b t.k t.n t.e t.s sl 26 := (hn b hbl hob).trans h.box
  refine ⟨((hs _ (by omega)).trans (hn _ h.res.lt hor)).trans h.res, B2.set4, h.wf, hr2.keep (by simp) (fun x hx _ => hs x (hx.elim (fun h1 => (hG2 x h1).2) (fun h1 => hv2 x h1))), hG2, hv2, ?_, h.lo, h.cw⟩
  exact ((h.dx.stay hW).grown hg h.cw (fun k hk => by have := (h.rows.lt k hk).1; omega)).cell (by omega) h.cw
theorem AAcc.wrap {w0 w W : World} {c N b : Nat} {v sl : Value} {t : V} {G : Nat → Prop} (h : AAcc w0 c v N w W b t sl G) :
    AAcc w0 c v N w ((set5 W b (.int .i64 7) (.int .i64 0) (.int .i64 0) (.string ⟨#[]⟩) (.slice (some ⟨W.heap.size, 0, none⟩) 1 1)).alloc (.cells #[.int .i64 t.k, .int .i64 t.n, .int .i64 t.e, .string t.s, sl] 26)) b (.mk 7 0 0 ⟨#[]⟩ [t]) (.slice (some ⟨W.heap.size, 0, none⟩) 1 1) (fun x => (G x ∨ sl.ownBlock = some x) ∧ x < W.heap.size) := by
  have hlo := h.lo
  have hbl := h.box.lt
  have hne : ∀ x, (G x ∨ sl.ownBlock = some x) → w.heap.size + 1 ≤ x ∧ x ≠ b := fun x hx => hx.elim (fun h1 => h.gl x h1) (fun h1 => ⟨(h.rows.lt x h1).1, h.own x h1⟩)
  refine ⟨?_, ?_, ?_, prow_one (by rw [size_set5]) (by omega) h.wf ((h.rows.repF.bound).keep (by rw [size_set5]; exact Nat.le_refl _) (fun x hx _ => heap_set5 _ _ _ _ _ _ _ _ (hne x hx.1).2)) (fun x hx => hx.2), fun x hx => hne x hx.1, ?_, ?_, h.lo, h.cw⟩
  · exact Box.alloc ((heap_set5 _ _ _ _ _ _ _ _ (by omega)).trans h.res) _
  · exact Box.alloc (box_s5 h.box 7 0 0 ⟨#[]⟩ _) _
  · exact ⟨by show In64 7; unfold In64; omega, in0, in0, by show ByteArray.size ⟨#[]⟩ ≤ _; simp [ByteArray.size]⟩
  · intro x hx
    have e : some W.heap.size = some x := hx
    simp only [Option.some.injEq] at e
    omega
  · exact (((((h.dx.cell (by omega) h.cw).cell (by omega) h.cw).cell (by omega) h.cw).cell (by omega) h.cw).cell (by omega) h.cw).stay ((Below.refl _ _).alloc (Nat.le_refl _) _)
theorem AAcc.empty {w0 w W : World} {c N b : Nat} {v sl : Value} {t : V} {G : Nat → Prop} (h : AAcc w0 c v N w W b t sl G) :
    AAcc w0 c v N w (set5 W b (.int .i64 7) (.int .i64 0) (.int .i64 0) (.string ⟨#[]⟩) (.slice none 0 0)) b (.mk 7 0 0 ⟨#[]⟩ []) (.slice none 0 0) (fun _ => False) := by
  have hlo := h.lo
  exact ⟨(heap_set5 _ _ _ _ _ _ _ _ (by omega)).trans h.res, box_s5 h.box 7 0 0 ⟨#[]⟩ _, ⟨by show In64 7; unfold In64; omega, in0, in0, by show ByteArray.size ⟨#[]⟩ ≤ _; simp [ByteArray.size]⟩, PRow.nil _ _, fun _ h => h.elim, fun x hx => (by simp [Value.ownBlock] at hx),
    (((((h.dx.cell (by omega) h.cw).cell (by omega) h.cw).cell (by omega) h.cw).cell (by omega) h.cw).cell (by omega) h.cw), h.lo, h.cw⟩
theorem leaf_ok (k n : Int) (s : ByteArray) (hk : In64 k) (hn : In64 n) (hs : s.size ≤ 100) : (V.mk k n 0 s []).wf ∧ (V.mk k n 0 s []).kids = [] := ⟨⟨hk, hn, in0, by show s.size ≤ _; omega⟩, rfl⟩
theorem prow_leafs {w : World} {g base : Nat} (us : List V) (hg : w.heap.size = g) (hb : base ≤ g) (hu : ∀ u ∈ us, u.wf ∧ u.kids = []) (hl : us.length ≤ 1000) (cs : Array Value) (hcs : cs = (flat us (us.map fun _ => .slice none 0 0)).toArray) (n : Nat) (hn : n = us.length) :
    PRow (w.alloc (.cells cs 26)) base (fun _ => False) (.slice (some ⟨g, 0, none⟩) n n) us := by
  subst hg hcs hn
  have hfl : (flat us (us.map fun _ => Value.slice none 0 0)).length = us.length * 5 := flat_length _ _ (by simp)
  have hr := World.ownsRow_lit (w := w) (base := base) (e := 26) (size := 5) (flat us (us.map fun _ => Value.slice none 0 0)).toArray us.length hb (by simp only [maxLen]; omega) (by simp [hfl])
  refine ⟨us.map fun _ => Value.slice none 0 0, ⟨by simpa using hr, by simp, fun i hi => (hu _ (List.getElem_mem hi)).1, ?_, fun _ _ h => h, fun _ h => h.elim⟩⟩
  intro i hi
  rw [(hu _ (List.getElem_mem hi)).2, List.getD_eq_getElem?_getD, List.getElem?_map, List.getElem?_eq_getElem hi]
  exact RepF.nil _ _
set_option maxHeartbeats 16000000 in
theorem l02Any_any (w0 : World) (c : Nat) (v : Value) (N : Nat) (hD : Drw w0 v N) (w : World) (h : CuX w0 c v N w) :
    Calls Tryd.prog 63 #[.pointer (some ⟨c, 0, none⟩)] w (DVal w0 c v N 4000 w) := by
  have LF := Lib.hid (fun (W : World) (h : CuX w0 c v N W) => l02Leaf_any w0 c v N hD false W h)
  have BL := Lib.hid (fun (q : Int) (hq : In64 q) (W : World) (h : CuX w0 c v N W) => Below1_any w0 c v N hD q hq W h)
  have ON := Lib.hid (fun (q : Int) (hq : In64 q) (W : World) (h : CuX w0 c v N W) => Once_any w0 c v N hD q hq W h)
  have PI := Lib.hid (fun (W : World) (h : CuX w0 c v N W) => PickI_any w0 c v N hD [1, 10, -1, 1000001] 3 (by unfold In64; decide) (by decide) 4 4 rfl W h _ rfl)
  have MK := Lib.hid (fun (pl : Bool) (W : World) (h : CuX w0 c v N W) => l02Make_any w0 c v N hD 3 (by omega) 3 (by omega) (by omega) pl W h)
  have BZ := Lib.hid (Box.new w 0 0 0 ⟨#[]⟩ (.slice none 0 0) 26)
  have hcw := h.lt
  have HD0 := Lib.hid (show DX w0 c v N w (w.alloc (.cells #[.int .i64 0, .int .i64 0, .int .i64 0, .string ⟨#[]⟩, .slice none 0 0] 26)) from (DX.refl h).stay ((Below.refl _ _).alloc (Nat.le_refl _) _))
  have hnc : ¬ w.heap.size = c := by omega
  have hz0 : w.heap.size + 1 = (w.alloc (.cells #[.int .i64 0, .int .i64 0, .int .i64 0, .string ⟨#[]⟩, .slice none 0 0] 26)).heap.size := by simp
  clear h hD
  go_enter Tryd.func63, Tryd.ntmps63
  go_wp2_with fail
  generalize (w.alloc (.cells #[.int .i64 0, .int .i64 0, .int .i64 0, .string ⟨#[]⟩, .slice none 0 0] 26)) = W0 at *
  refine (ON.out 3 (by unfold In64; omega) W0 HD0.out.1).mono ?_
  rintro e1 w1 ⟨bb, rfl, hd1⟩
  have HD1 := Lib.hid (HD0.out.trans hd1)
  have BZ1 := Lib.hid (BZ.out.overC hd1.2 hnc)
  have hz1 := hd1.2.size
  clear hd1
  go_wp2_with fail
  refine (MK.out bb w1 HD1.out.1).mono ?_
  rintro e2 w2 ⟨t, sl, G, rfl, hwf, hsz, ho, hgl, hd2⟩
  obtain ⟨sa, sn, sc, rfl⟩ : ∃ sa sn sc, sl = .slice sa sn sc := by obtain ⟨p, q, e⟩ := ho.slice; exact ⟨p, _, q, e⟩
  have hz2 := hd2.2.size
  have A2 := Lib.hid (show AAcc w0 c v N w (w2.alloc (.cells #[.int .i64 t.k, .int .i64 t.n, .int .i64 t.e, .string t.s, .slice sa sn sc] 26)) w2.heap.size t (.slice sa sn sc) G from
    ⟨(BZ1.out.overC hd2.2 hnc).alloc _, Box.new w2 _ _ _ _ _ _, hwf, (ho.low (by omega)).stay ((Below.refl _ _).alloc (Nat.le_refl _) _), fun x hx => ⟨by have := hgl x hx; omega, by have := ho.inG x hx; omega⟩, fun x hx => by have := (ho.lt x hx).2; omega, (HD1.out.trans hd2).stay ((Below.refl _ _).alloc (Nat.le_refl _) _), by omega, hcw⟩)
  have HSZ := Lib.hid (show t.sz ≤ 2500 from hsz)
  clear hd2 hwf ho hgl hsz BZ BZ1 HD0 HD1
  unfold V.agg
  go_wp2_with fail
  generalize (w2.alloc (.cells #[.int .i64 t.k, .int .i64 t.n, .int .i64 t.e, .string t.s, .slice sa sn sc] 26)) = W3 at *
  refine (BL.out 24 (by unfold In64; omega) W3 A2.out.dx.1).mono ?_
  rintro e3 w3 ⟨x, rfl, hx0, hx1, hd3⟩
  have A3 := Lib.hid (A2.out.over hd3)
  have hz3 := hd3.2.size
  clear hd3 A2
  have hx5 : x = 0 ∨ x = 1 ∨ x = 2 ∨ x = 3 ∨ x = 4 ∨ x = 5 ∨ ((x == 0) = false ∧ (x == 1) = false ∧ (x == 2) = false ∧ (x == 3) = false ∧ (x == 4) = false ∧ (x == 5) = false) := by simp; omega
  clear hx0 hx1
  rcases hx5 with rfl | rfl | rfl | rfl | rfl | rfl | ⟨e0, e1, e2, e3, e4, e5⟩
  · go_wp2_with fail
    refine (BL.out 12 (by unfold In64; omega) w3 A3.out.dx.1).mono ?_
    rintro e4 w4 ⟨y, rfl, hy0, hy1, hd4⟩
    have hy : y ≤ 11 := by omega
    clear hy1
    have A4 := Lib.hid (A3.out.over hd4)
    obtain ⟨g0, g1, g2, g3, g4⟩ := A4.out.box.cells
    have gf0 := A4.out.box.free (i := 0)
    clear hd4 A3
    have HX := Lib.hid (show ∃ (t2 : V) (sl2 : Value) (G2 : Nat → Prop), AAcc w0 c v N w (w4.setCell ⟨w2.heap.size, 0, none⟩ (.int .i64 (y - 1))) w2.heap.size t2 sl2 G2 ∧ t2.sz ≤ 4000 from ⟨_, _, _, A4.out.cellK (y - 1) (by unfold In64; omega), by have := HSZ.out; rw [V.sz_eq] at this ⊢; simp only [V.s, V.kids] at *; omega⟩)
    go_upto_region 24 with fail
    generalize (w4.setCell ⟨w2.heap.size, 0, none⟩ (.int .i64 (y - 1))) = W5 at *
    obtain ⟨t2, sl2, G2, ha5, hs5⟩ := HX.out
    have A5 := Lib.hid ha5; have HS5 := Lib.hid hs5
    clear ha5 hs5 HX BL LF PI MK g0 g1 g2 g3 g4 gf0
    obtain ⟨fa, fn, fc, rfl⟩ := A5.out.rows.slice3
    obtain ⟨z0, z1, z2, z3, z4⟩ := A5.out.res.cells
    have zf0 := A5.out.res.free (i := 0); have zf1 := A5.out.res.free (i := 1); have zf2 := A5.out.res.free (i := 2); have zf3 := A5.out.res.free (i := 3); have zf4 := A5.out.res.free (i := 4)
    obtain ⟨q0, q1, q2, q3, q4⟩ := A5.out.box.cells
    have HF := Lib.hid (A5.out.done HS5.out)
    go_wp2_with fail
    exact bodyPost_ret (v := .agg #[.int .i64 t2.k, .int .i64 t2.n, .int .i64 t2.e, .string t2.s, .slice fa fn fc]) (by simp [results, Tryd.results63, go_sem, z0, z1, z2, z3, z4]) rfl HF.out
  · go_wp2_with fail
    refine (PI.out w3 A3.out.dx.1).mono ?_
    rintro e4 w4 ⟨y, rfl, hy, hd4⟩
    have A4 := Lib.hid (A3.out.over hd4)
    have HY := Lib.hid hy
    obtain ⟨g0, g1, g2, g3, g4⟩ := A4.out.box.cells
    have gf1 := A4.out.box.free (i := 1)
    clear hd4 A3 hy
    have HX := Lib.hid (show ∃ (t2 : V) (sl2 : Value) (G2 : Nat → Prop), AAcc w0 c v N w (w4.setCell ⟨w2.heap.size, 1, none⟩ (.int .i64 y)) w2.heap.size t2 sl2 G2 ∧ t2.sz ≤ 4000 from ⟨_, _, _, A4.out.cellN y HY.out, by have := HSZ.out; rw [V.sz_eq] at this ⊢; simp only [V.s, V.kids] at *; omega⟩)
    go_upto_region 24 with fail
    generalize (w4.setCell ⟨w2.heap.size, 1, none⟩ (.int .i64 y)) = W5 at *
    obtain ⟨t2, sl2, G2, ha5, hs5⟩ := HX.out
    have A5 := Lib.hid ha5; have HS5 := Lib.hid hs5
    clear ha5 hs5 HX BL LF PI MK g0 g1 g2 g3 g4 gf1
    obtain ⟨fa, fn, fc, rfl⟩ := A5.out.rows.slice3
    obtain ⟨z0, z1, z2, z3, z4⟩ := A5.out.res.cells
    have zf0 := A5.out.res.free (i := 0); have zf1 := A5.out.res.free (i := 1); have zf2 := A5.out.res.free (i := 2); have zf3 := A5.out.res.free (i := 3); have zf4 := A5.out.res.free (i := 4)
    obtain ⟨q0, q1, q2, q3, q4⟩ := A5.out.box.cells
    have HF := Lib.hid (A5.out.done HS5.out)
    go_wp2_with fail
    exact bodyPost_ret (v := .agg #[.int .i64 t2.k, .int .i64 t2.n, .int .i64 t2.e, .string t2.s, .slice fa fn fc]) (by simp [results, Tryd.results63, go_sem, z0, z1, z2, z3, z4]) rfl HF.out
  · have HKL := Lib.hid (show t.kids.length ≤ 2500 from by have := HSZ.out; rw [V.sz_eq] at this; have h2 := szs_length t.kids; omega)
    obtain ⟨g0, g1, g2, g3, g4⟩ := A3.out.box.cells
    have gf4 := A3.out.box.free (i := 4)
    have hb3 : w2.heap.size < w3.heap.size := A3.out.box.lt
    have hlo := A3.out.lo
    have hz9 : w3.heap.size = w3.drew.heap.size := rfl
    have A4 := Lib.hid (show AAcc w0 c v N w w3.drew w2.heap.size t (.slice sa sn sc) G from A3.out.over ((DX.refl A3.out.dx.1).stay (Below.refl _ _).drew))
    have HCU := Lib.hid A4.out.dx.1
    go_wp2_with fail
    go_region_law (first | (refine step_vals rfl _ _ rfl (w.heap.size + 1) G (fun x => w3.drew.heap.size ≤ x ∧ x < w5.heap.size) _ t.kids [u] [.slice ua un uc] rfl (A5.out.rows.stay ((by (with_reducible (repeat' (first | exact Below.refl _ _ | refine below_alloc ?_ _ ?_ | refine Below.setCell ?_ ?_ _ | refine Below.drew ?_ | refine below_drewN ?_ _ | refine below_step ?_ (by assumption) ?_ | refine below_mark ?_ (by assumption) ?_))); all_goals (first | omega | (simp; done) | (simp; omega))))) _ rfl (vsrc_lit [u] [.slice ua un uc] rfl (fun j hj => by obtain rfl : j = 0 := (by simpa using hj); exact HWF.out) (fun j hj => by obtain rfl : j = 0 := (by simpa using hj); exact HO.out) _ rfl _ _ rfl) (fun x hx => by have h1 := hx.1; have h2 := hx.2; exact ⟨by simp; omega, fun e => by have := (A3.out.rows.lt x e).2; have h9 : w3.heap.size ≤ x := h1; omega⟩) (by have := HKL.out; simp; omega) (by simp; omega) ?_; intro v2 w6 hrow2 hg2 hfr2; obtain ⟨va, vn, vc, rfl⟩ := hrow2.slice3; have HG2 := Lib.hid hg2; have HR2 := Lib.hid hrow2; have HF2 := Lib.hid hfr2; have HB2 := Lib.hid (show Box w6 w2.heap.size t.k t.n t.e t.s (.slice sa sn sc) 26 from (hg2.block w2.heap.size (by simp; omega) (fun e => A5.out.own _ e.symm rfl)).trans (A5.out.box.stay ((by (with_reducible (repeat' (first | exact Below.refl _ _ | refine below_alloc ?_ _ ?_ | refine Below.setCell ?_ ?_ _ | refine Below.drew ?_ | refine below_drewN ?_ _ | refine below_step ?_ (by assumption) ?_ | refine below_mark ?_ (by assumption) ?_))); all_goals (first | omega | (simp; done) | (simp; omega)))))); have hfz := HB2.out.free (i := 4); have hcc := HB2.out.cells.2.2.2.2; clear hrow2 hg2 hfr2) | (go_simp; go_at_call 92; refine (LF.out _ HCU.out).mono ?_; rintro e5 w5 ⟨u, us, Gu, rfl, uwf, usz, uo, ugl, hd5⟩; obtain ⟨ua, un, uc, rfl⟩ : ∃ sa sn sc, us = .slice sa sn sc := (by obtain ⟨p, q, e⟩ := uo.slice; exact ⟨p, _, q, e⟩); unfold V.agg; have A5 := Lib.hid (A4.out.over hd5); have HWF := Lib.hid uwf; have HO := Lib.hid (uo.repF.mono (G' := fun x => w3.drew.heap.size ≤ x ∧ x < w5.heap.size) (fun x hx hxs => ⟨hx.elim (fun h => ugl x h) (fun h => (uo.lt x h).1), hxs⟩)); have HUZ := Lib.hid usz; have hz5 : w3.drew.heap.size ≤ w5.heap.size := hd5.2.size; clear uwf usz uo ugl hd5; obtain ⟨g0, g1, g2, g3, g4⟩ := A5.out.box.cells; have gf4 := A5.out.box.free (i := 4); have hm4 : w2.heap.size ≠ w5.heap.size := (by omega); have hm5 : w5.heap.size ≠ w2.heap.size := (by omega); have hm6 : w2.heap.size < w5.heap.size := (by omega)))
    all_goals
      have hb5n : Below w5.heap.size w5 (w5.alloc (.cells #[.int .i64 u.k, .int .i64 u.n, .int .i64 u.e, .string u.s, .slice ua un uc] 26)) := (by (with_reducible (repeat' (first | exact Below.refl _ _ | refine below_alloc ?_ _ ?_ | refine Below.setCell ?_ ?_ _ | refine Below.drew ?_ | refine below_drewN ?_ _ | refine below_step ?_ (by assumption) ?_ | refine below_mark ?_ (by assumption) ?_))); all_goals (first | omega | (simp; done) | (simp; omega)))
      have HX := Lib.hid (show ∃ (t2 : V) (sl2 : Value) (G2 : Nat → Prop), AAcc w0 c v N w (w6.setCell ⟨w2.heap.size, 4, none⟩ (.slice va vn vc)) w2.heap.size t2 sl2 G2 ∧ t2.sz ≤ 4000 from ⟨_, _, _, A5.out.put hb5n HG2.out HF2.out HR2.out (fun x hx => by
            rcases hx with hx | hx
            · exact A3.out.gl x hx
            · have h1 := hx.1; have h9 : w3.heap.size ≤ x := h1; exact ⟨by omega, by omega⟩), by
              have h1 := HSZ.out
              have h2 := HUZ.out
              rw [V.sz_eq] at h1 ⊢
              simp only [V.s, V.kids] at *
              rw [szs_append, szs, szs]; omega⟩)
      go_upto_region 24 with fail
      generalize (w6.setCell ⟨w2.heap.size, 4, none⟩ (.slice va vn vc)) = W5 at *
      obtain ⟨t2, sl2, G2, ha5, hs5⟩ := HX.out
      have A7 := Lib.hid ha5; have HS5 := Lib.hid hs5
      clear ha5 hs5 HX
      obtain ⟨fa, fn, fc, rfl⟩ := A7.out.rows.slice3
      obtain ⟨z0, z1, z2, z3, z4⟩ := A7.out.res.cells
      have zf0 := A7.out.res.free (i := 0); have zf1 := A7.out.res.free (i := 1); have zf2 := A7.out.res.free (i := 2); have zf3 := A7.out.res.free (i := 3); have zf4 := A7.out.res.free (i := 4)
      obtain ⟨q0, q1, q2, q3, q4⟩ := A7.out.box.cells
      have HF := Lib.hid (A7.out.done HS5.out)
      go_wp2_with fail
      exact bodyPost_ret (v := .agg #[.int .i64 t2.k, .int .i64 t2.n, .int .i64 t2.e, .string t2.s, .slice fa fn fc]) (by simp [results, Tryd.results63, go_sem, z0, z1, z2, z3, z4]) rfl HF.out
  · have R3 := Lib.hid A3.out.res
    have D3 := Lib.hid A3.out.dx
    clear A3 BL LF PI MK
    go_wp2_with fail
    refine (l02Str_any ⟨#[97]⟩ w3).mono ?_
    rintro e4 w4 ⟨rfl, hb4⟩
    have R4 := Lib.hid (R3.out.stay hb4); have D4 := Lib.hid (D3.out.stay hb4)
    clear hb4
    go_wp2_with fail
    refine (l02Int_any 1 w4).mono ?_
    rintro e5 w5 ⟨rfl, hb5⟩
    have R5 := Lib.hid (R4.out.stay hb5); have D5 := Lib.hid (D4.out.stay hb5)
    clear hb5
    go_wp2_with fail
    refine (l02Str_any ⟨#[97]⟩ w5).mono ?_
    rintro e6 w6 ⟨rfl, hb6⟩
    have R6 := Lib.hid (R5.out.stay hb6); have D6 := Lib.hid (D5.out.stay hb6)
    clear hb6
    go_wp2_with fail
    refine (l02Int_any 2 w6).mono ?_
    rintro e7 w7 ⟨rfl, hb7⟩
    have R7 := Lib.hid (R6.out.stay hb7); have D7 := Lib.hid (D6.out.stay hb7)
    clear hb7
    obtain ⟨z0, z1, z2, z3, z4⟩ := R7.out.cells
    have zf0 := R7.out.free (i := 0); have zf1 := R7.out.free (i := 1); have zf2 := R7.out.free (i := 2); have zf3 := R7.out.free (i := 3); have zf4 := R7.out.free (i := 4)
    have hm3 : w.heap.size < w7.heap.size := R7.out.lt
    have hm1 : w.heap.size ≠ w7.heap.size := by omega
    have hm2 : w7.heap.size ≠ w.heap.size := by omega
    have HF := Lib.hid (show DVal w0 c v N 4000 w (.returned (.agg #[.int .i64 8, .int .i64 0, .int .i64 0, .string ⟨#[]⟩, .slice (some ⟨w7.heap.size, 0, none⟩) 4 4])) ((set5 w7 w.heap.size (.int .i64 8) (.int .i64 0) (.int .i64 0) (.string ⟨#[]⟩) (.slice (some ⟨w7.heap.size, 0, none⟩) 4 4)).alloc (.cells #[.int .i64 5, .int .i64 0, .int .i64 0, .string ⟨#[97]⟩, .slice none 0 0, .int .i64 3, .int .i64 1, .int .i64 0, .string ⟨#[]⟩, .slice none 0 0, .int .i64 5, .int .i64 0, .int .i64 0, .string ⟨#[97]⟩, .slice none 0 0, .int .i64 3, .int .i64 2, .int .i64 0, .string ⟨#[]⟩, .slice none 0 0] 26)) from
      ⟨.mk 8 0 0 ⟨#[]⟩ [V.mk 5 0 0 ⟨#[97]⟩ [], V.mk 3 1 0 ⟨#[]⟩ [], V.mk 5 0 0 ⟨#[97]⟩ [], V.mk 3 2 0 ⟨#[]⟩ []], _, fun _ => False, rfl, ⟨by show In64 8; unfold In64; omega, in0, in0, by show ByteArray.size ⟨#[]⟩ ≤ _; simp [ByteArray.size]⟩, (by simp [V.sz, szs, ByteArray.size]), prow_leafs [V.mk 5 0 0 ⟨#[97]⟩ [], V.mk 3 1 0 ⟨#[]⟩ [], V.mk 5 0 0 ⟨#[97]⟩ [], V.mk 3 2 0 ⟨#[]⟩ []] (by rw [size_set5]) (by omega) (by intro u hu; simp at hu; rcases hu with rfl | rfl | rfl | rfl <;> exact leaf_ok _ _ _ (by unfold In64; omega) (by unfold In64; omega) (by decide)) (by decide) _ rfl 4 rfl, fun _ h => h.elim,
        (((((D7.out.cell (Nat.le_refl _) hcw).cell (Nat.le_refl _) hcw).cell (Nat.le_refl _) hcw).cell (Nat.le_refl _) hcw).cell (Nat.le_refl _) hcw).stay ((Below.refl _ _).alloc (Nat.le_refl _) _)⟩)
    go_wp2_with fail
    exact bodyPost_ret (v := .agg #[.int .i64 8, .int .i64 0, .int .i64 0, .string ⟨#[]⟩, .slice (some ⟨w7.heap.size, 0, none⟩) 4 4]) (by simp [results, Tryd.results63, go_sem, z0, z1, z2, z3, z4, hm1, hm2, hm3]) rfl HF.out
  · go_wp2_with fail
    refine (BL.out 3 (by unfold In64; omega) w3 A3.out.dx.1).mono ?_
    rintro e4 w4 ⟨y, rfl, hy0, hy1, hd4⟩
    have hy : y ≤ 2 := by omega
    have A4 := Lib.hid (A3.out.over hd4)
    clear hy1 hd4 A3 BL LF PI MK
    go_wp2_with fail
    go_loopw [5] (fun ii wr => ∃ (i : Nat) (t2 : V) (sl2 : Value) (G2 : Nat → Prop), ii = .int .i64 i ∧ (i : Int) ≤ 11 + y ∧ t2.sz ≤ 2500 + i ∧ AAcc w0 c v N w wr w2.heap.size t2 sl2 G2) (fun ii _ => (11 + y - intOf ii).toNat)
    case atStart => exact ⟨0, _, _, _, rfl, by omega, HSZ.out, A4.out⟩
    case round =>
      obtain ⟨i, t2, sl2, G2, rfl, hi, hs2, ha⟩ := hrel
      have AR := Lib.hid ha
      have HS2 := Lib.hid hs2
      clear ha hs2
      by_cases hlt : (i : Int) < 11 + y
      · obtain ⟨fa, fn, fc, rfl⟩ := AR.out.rows.slice3
        obtain ⟨q0, q1, q2, q3, q4⟩ := AR.out.box.cells
        have qf0 := AR.out.box.free (i := 0); have qf1 := AR.out.box.free (i := 1); have qf2 := AR.out.box.free (i := 2); have qf3 := AR.out.box.free (i := 3); have qf4 := AR.out.box.free (i := 4)
        have hm3 : w2.heap.size < wr.heap.size := AR.out.box.lt
        have hm1 : w2.heap.size ≠ wr.heap.size := by omega
        have hm2 : wr.heap.size ≠ w2.heap.size := by omega
        have A6 := Lib.hid AR.out.wrap
        go_wp2_with fail
        go_roundw
        case rel => exact ⟨i + 1, _, _, _, by push_cast; rfl, by omega, by have := HS2.out; rw [V.sz, szs, szs]; simp only [ByteArray.size, List.size_toArray, List.length_nil]; omega, A6.out⟩
        case measure => simp only [intOf]; omega
      · have HX := Lib.hid (show ∃ (t2 : V) (sl2 : Value) (G2 : Nat → Prop), AAcc w0 c v N w (wr) w2.heap.size t2 sl2 G2 ∧ t2.sz ≤ 4000 from ⟨_, _, _, AR.out, by have := HS2.out; omega⟩)
        go_upto_region 24 with fail
        generalize (wr) = W5 at *
        obtain ⟨t2, sl2, G2, ha5, hs5⟩ := HX.out
        have A5 := Lib.hid ha5; have HS5 := Lib.hid hs5
        clear ha5 hs5 HX
        obtain ⟨fa, fn, fc, rfl⟩ := A5.out.rows.slice3
        obtain ⟨z0, z1, z2, z3, z4⟩ := A5.out.res.cells
        have zf0 := A5.out.res.free (i := 0); have zf1 := A5.out.res.free (i := 1); have zf2 := A5.out.res.free (i := 2); have zf3 := A5.out.res.free (i := 3); have zf4 := A5.out.res.free (i := 4)
        obtain ⟨q0, q1, q2, q3, q4⟩ := A5.out.box.cells
        have HF := Lib.hid (A5.out.done HS5.out)
        go_wp2_with fail
        exact bodyPost_ret (v := .agg #[.int .i64 t2.k, .int .i64 t2.n, .int .i64 t2.e, .string t2.s, .slice fa fn fc]) (by simp [results, Tryd.results63, go_sem, z0, z1, z2, z3, z4]) rfl HF.out
  · have HN := Lib.hid (show (V.mk 0 0 0 ⟨#[]⟩ []).wf from ⟨in0, in0, in0, by show ByteArray.size ⟨#[]⟩ ≤ _; simp [ByteArray.size]⟩)
    go_wp2_with fail
    refine (BL.out 3 (by unfold In64; omega) w3 A3.out.dx.1).mono ?_
    rintro e4 w4 ⟨y, rfl, hy0, hy1, hd4⟩
    have hy : y ≤ 2 := by omega
    have A4 := Lib.hid (A3.out.over hd4)
    clear hy1 hd4 A3 BL LF PI MK
    obtain ⟨q0, q1, q2, q3, q4⟩ := A4.out.box.cells
    have qf0 := A4.out.box.free (i := 0); have qf1 := A4.out.box.free (i := 1); have qf2 := A4.out.box.free (i := 2); have qf3 := A4.out.box.free (i := 3); have qf4 := A4.out.box.free (i := 4)
    have AE := Lib.hid A4.out.empty
    go_wp2_with fail
    go_loopw [7] (fun ii wr => ∃ (i : Nat) (L1 : List V) (sl2 : Value) (G2 : Nat → Prop), ii = .int .i64 i ∧ (i : Int) ≤ 298 + y ∧ L1.length = i ∧ szs L1 ≤ i ∧ AAcc w0 c v N w wr w2.heap.size (.mk 7 0 0 ⟨#[]⟩ L1) sl2 G2) (fun ii _ => (298 + y - intOf ii).toNat)
    case atStart => exact ⟨0, [], _, _, rfl, by omega, rfl, by rw [szs]; omega, AE.out⟩
    case round =>
      obtain ⟨i, L1, sl2, G2, rfl, hi, hL, hs2, ha⟩ := hrel
      have AR := Lib.hid ha
      have HS2 := Lib.hid hs2
      clear ha hs2
      by_cases hlt : (i : Int) < 298 + y
      · obtain ⟨fa, fn, fc, rfl⟩ := AR.out.rows.slice3
        obtain ⟨q0, q1, q2, q3, q4⟩ := AR.out.box.cells
        have qf4 := AR.out.box.free (i := 4)
        have hm3 : w2.heap.size < wr.heap.size := AR.out.box.lt
        have hm1 : w2.heap.size ≠ wr.heap.size := by omega
        have hm2 : wr.heap.size ≠ w2.heap.size := by omega
        have hlo := AR.out.lo
        go_wp2_with (at_builtin; refine app_vals rfl _ _ rfl (w.heap.size + 1) G2 (fun _ => False) _ L1 [V.mk 0 0 0 ⟨#[]⟩ []] [.slice none 0 0] rfl (show PRow _ (w.heap.size + 1) G2 (.slice fa fn fc) L1 from AR.out.rows.stay ((by (with_reducible (repeat' (first | exact Below.refl _ _ | refine below_alloc ?_ _ ?_ | refine Below.setCell ?_ ?_ _ | refine Below.drew ?_ | refine below_drewN ?_ _ | refine below_step ?_ (by assumption) ?_ | refine below_mark ?_ (by assumption) ?_))); all_goals (first | omega | (simp; done) | (simp; omega))))) _ rfl (vsrc_lit [V.mk 0 0 0 ⟨#[]⟩ []] [.slice none 0 0] rfl (fun j hj => by obtain rfl : j = 0 := (by simpa using hj); exact HN.out) (fun j hj => by obtain rfl : j = 0 := (by simpa using hj); exact RepF.nil _ _) _ rfl _ _ rfl) (fun x hx => hx.elim) (by simp; omega) (by simp; omega) ?_; intro v2 w6 hrow2 hg2 hfr2; obtain ⟨va, vn, vc, rfl⟩ := hrow2.slice3; have HG2 := Lib.hid hg2; have HR2 := Lib.hid hrow2; have HF2 := Lib.hid hfr2; have HB2 := Lib.hid (show Box w6 w2.heap.size 7 0 0 ⟨#[]⟩ (.slice fa fn fc) 26 from (hg2.block w2.heap.size (by simp; omega) (fun e => AR.out.own _ e.symm rfl)).trans (AR.out.box.stay ((by (with_reducible (repeat' (first | exact Below.refl _ _ | refine below_alloc ?_ _ ?_ | refine Below.setCell ?_ ?_ _ | refine Below.drew ?_ | refine below_drewN ?_ _ | refine below_step ?_ (by assumption) ?_ | refine below_mark ?_ (by assumption) ?_))); all_goals (first | omega | (simp; done) | (simp; omega)))))); have hfz := HB2.out.free (i := 4); have hcc := HB2.out.cells.2.2.2.2; clear hrow2 hg2 hfr2)
        have hb5n : Below wr.heap.size wr (wr.alloc (.cells #[.int .i64 0, .int .i64 0, .int .i64 0, .string ⟨#[]⟩, .slice none 0 0] 26)) := (by (with_reducible (repeat' (first | exact Below.refl _ _ | refine below_alloc ?_ _ ?_ | refine Below.setCell ?_ ?_ _ | refine Below.drew ?_ | refine below_drewN ?_ _ | refine below_step ?_ (by assumption) ?_ | refine below_mark ?_ (by assumption) ?_))); all_goals (first | omega | (simp; done) | (simp; omega)))
        go_roundw
        case rel => exact ⟨i + 1, L1 ++ [V.mk 0 0 0 ⟨#[]⟩ []], _, _, by push_cast; rfl, by omega, by rw [List.length_append]; simp; omega, by have := HS2.out; rw [szs_append, szs, szs, V.sz, szs]; simp only [ByteArray.size, List.size_toArray, List.length_nil]; omega, AR.out.put hb5n HG2.out HF2.out HR2.out (fun x hx => hx.elim (fun h => AR.out.gl x h) (fun h => h.elim))⟩
        case measure => simp only [intOf]; omega
      · have HX := Lib.hid (show ∃ (t2 : V) (sl2 : Value) (G2 : Nat → Prop), AAcc w0 c v N w (wr) w2.heap.size t2 sl2 G2 ∧ t2.sz ≤ 4000 from ⟨_, _, _, AR.out, by have := HS2.out; rw [V.sz_eq]; simp only [V.s, V.kids, ByteArray.size, List.size_toArray, List.length_nil]; omega⟩)
        go_upto_region 24 with fail
        generalize (wr) = W5 at *
        obtain ⟨t2, sl2, G2, ha5, hs5⟩ := HX.out
        have A5 := Lib.hid ha5; have HS5 := Lib.hid hs5
        clear ha5 hs5 HX
        obtain ⟨fa, fn, fc, rfl⟩ := A5.out.rows.slice3
        obtain ⟨z0, z1, z2, z3, z4⟩ := A5.out.res.cells
        have zf0 := A5.out.res.free (i := 0); have zf1 := A5.out.res.free (i := 1); have zf2 := A5.out.res.free (i := 2); have zf3 := A5.out.res.free (i := 3); have zf4 := A5.out.res.free (i := 4)
        obtain ⟨q0, q1, q2, q3, q4⟩ := A5.out.box.cells
        have HF := Lib.hid (A5.out.done HS5.out)
        go_wp2_with fail
        exact bodyPost_ret (v := .agg #[.int .i64 t2.k, .int .i64 t2.n, .int .i64 t2.e, .string t2.s, .slice fa fn fc]) (by simp [results, Tryd.results63, go_sem, z0, z1, z2, z3, z4]) rfl HF.out
  · have HX := Lib.hid (show ∃ (t2 : V) (sl2 : Value) (G2 : Nat → Prop), AAcc w0 c v N w (w3) w2.heap.size t2 sl2 G2 ∧ t2.sz ≤ 4000 from ⟨_, _, _, A3.out, by have := HSZ.out; omega⟩)
    go_upto_region 24 with fail
    generalize (w3) = W5 at *
    obtain ⟨t2, sl2, G2, ha5, hs5⟩ := HX.out
    have A5 := Lib.hid ha5; have HS5 := Lib.hid hs5
    clear ha5 hs5 HX BL LF PI MK
    obtain ⟨fa, fn, fc, rfl⟩ := A5.out.rows.slice3
    obtain ⟨z0, z1, z2, z3, z4⟩ := A5.out.res.cells
    have zf0 := A5.out.res.free (i := 0); have zf1 := A5.out.res.free (i := 1); have zf2 := A5.out.res.free (i := 2); have zf3 := A5.out.res.free (i := 3); have zf4 := A5.out.res.free (i := 4)
    obtain ⟨q0, q1, q2, q3, q4⟩ := A5.out.box.cells
    have HF := Lib.hid (A5.out.done HS5.out)
    go_wp2_with fail
    exact bodyPost_ret (v := .agg #[.int .i64 t2.k, .int .i64 t2.n, .int .i64 t2.e, .string t2.s, .slice fa fn fc]) (by simp [results, Tryd.results63, go_sem, z0, z1, z2, z3, z4]) rfl HF.out
end Go.Proofs.YtppmoajoffeleaaDoor
namespace Go.Proofs.YtppmoajoffeleaaDoor
set_option linter.unusedSimpArgs false
set_option linter.unusedVariables false
set_option maxRecDepth 100000
open Go.RowKit
set_option maxHeartbeats 8000000 in
theorem l05Value_any (w0 : World) (c : Nat) (v : Value) (N : Nat) (hD : Drw w0 v N) (w : World) (h : CuX w0 c v N w) :
    Calls Tryd.prog 38 #[.pointer (some ⟨c, 0, none⟩)] w (DVal w0 c v N 4000 w) := by
  have ON := Lib.hid (fun (q : Int) (hq : In64 q) (W : World) (h : CuX w0 c v N W) => Once_any w0 c v N hD q hq W h)
  have AN := Lib.hid (fun (W : World) (h : CuX w0 c v N W) => l02Any_any w0 c v N hD W h)
  have MK := Lib.hid (fun (W : World) (h : CuX w0 c v N W) => l02Make_any w0 c v N hD 3 (by omega) 3 (by omega) (by omega) false W h)
  have BZ := Lib.hid (Box.new w 0 0 0 ⟨#[]⟩ (.slice none 0 0) 26)
  have hcw := h.lt
  have HD0 := Lib.hid (show DX w0 c v N w (w.alloc (.cells #[.int .i64 0, .int .i64 0, .int .i64 0, .string ⟨#[]⟩, .slice none 0 0] 26)) from (DX.refl h).stay ((Below.refl _ _).alloc (Nat.le_refl _) _))
  have hnc : ¬ w.heap.size = c := by omega
  have hz0 : w.heap.size + 1 = (w.alloc (.cells #[.int .i64 0, .int .i64 0, .int .i64 0, .string ⟨#[]⟩, .slice none 0 0] 26)).heap.size := by simp
  clear h hD
  go_enter Tryd.func38, Tryd.ntmps38
  go_wp2_with fail
  generalize (w.alloc (.cells #[.int .i64 0, .int .i64 0, .int .i64 0, .string ⟨#[]⟩, .slice none 0 0] 26)) = W0 at *
  refine (ON.out 8 (by unfold In64; omega) W0 HD0.out.1).mono ?_
  rintro e1 w1 ⟨bb, rfl, hd1⟩
  have HD1 := Lib.hid (HD0.out.trans hd1)
  have BZ1 := Lib.hid (BZ.out.overC hd1.2 hnc)
  have hz1 := hd1.2.size
  have AN1 := Lib.hid (show Calls Tryd.prog 63 #[.pointer (some ⟨c, 0, none⟩)] w1 (DVal w0 c v N 4000 w1) from AN.out w1 HD1.out.1)
  have MK1 := Lib.hid (show Calls Tryd.prog 64 #[.pointer (some ⟨c, 0, none⟩), .int .i64 3, .bool false] w1 (DVal w0 c v N 4000 w1) from (MK.out w1 HD1.out.1).mono (by
    rintro e w' ⟨t, sl, G, he, hw, hz, rest⟩
    exact ⟨t, sl, G, he, hw, by omega, rest⟩))
  clear hd1 AN MK ON
  cases bb
  all_goals
    go_wp2_with fail
    first | refine AN1.out.mono ?_ | refine MK1.out.mono ?_
    rintro e2 w2 ⟨t, sl, G, rfl, hwf, hsz, ho, hgl, hd2⟩
    obtain ⟨sa, sn, sc, rfl⟩ : ∃ sa sn sc, sl = .slice sa sn sc := by obtain ⟨p, q, e⟩ := ho.slice; exact ⟨p, _, q, e⟩
    have HD2 := Lib.hid (HD1.out.trans hd2)
    have BZ2 := Lib.hid (BZ1.out.overC hd2.2 hnc)
    have HW := Lib.hid hwf; have HO := Lib.hid ho; have HGL := Lib.hid hgl
    clear hd2 hwf ho hgl
    unfold V.agg
    obtain ⟨z0, z1, z2, z3, z4⟩ := BZ2.out.cells
    have zf0 := BZ2.out.free (i := 0); have zf1 := BZ2.out.free (i := 1); have zf2 := BZ2.out.free (i := 2); have zf3 := BZ2.out.free (i := 3); have zf4 := BZ2.out.free (i := 4)
    go_wp2_with fail
    exact bodyPost_ret (v := t.agg (.slice sa sn sc)) (by simp [results, Tryd.results38, go_sem, z0, z1, z2, z3, z4, V.agg]) rfl ⟨t, _, G, rfl, HW.out, hsz, (HO.out.set5 (by omega) (fun x hx => by have := HGL.out x hx; omega) _ _ _ _ _).low (by omega), (fun x hx => by have := HGL.out x hx; omega), (((((HD2.out.cell (Nat.le_refl _) hcw).cell (Nat.le_refl _) hcw).cell (Nat.le_refl _) hcw).cell (Nat.le_refl _) hcw).cell (Nat.le_refl _) hcw)⟩
end Go.Proofs.YtppmoajoffeleaaDoor
namespace Go.Proofs.YtppmoajoffeleaaDoor
set_option linter.unusedSimpArgs false
set_option linter.unusedVariables false
set_option maxRecDepth 100000
open Go.RowKit
theorem New_any (w0 : World) (v : Value) (N : Nat) (hD : Drw w0 v N) (w : World) (hw : Below w0.heap.size w0 w) :
    Calls Tryd.prog 37 #[v] w fun e w' => e = .returned (.pointer (some ⟨w.heap.size, 0, none⟩)) ∧ CuX w0 w.heap.size v N w' ∧ Below w.heap.size w w' := by
  obtain ⟨⟨L, hL, rfl⟩, hn⟩ := hD
  refine (l01New_any w0 v L hL hn w hw).mono ?_
  rintro e w' ⟨h, he, hc, hb⟩
  exact ⟨he, ⟨_, hc⟩, hb⟩
end Go.Proofs.YtppmoajoffeleaaDoor
namespace Go.Proofs.YtppmoajoffeleaaDoor
set_option linter.unusedSimpArgs false
set_option linter.unusedVariables false
set_option maxRecDepth 100000
open Go.RowKit
theorem open_bytes {H : Type} {enc : TypeId × Value → H} {w : World} {sp : Nat → Bool} {hd : Bool} {v : Value} {d : DataW H} {p : List MemPlace} (hv : ∃ a len cap, v = .slice a len cap)
    (h : DataW.Trod enc Tryd.prog w 0 sp hd 22 v d p) : ∃ L : List Int, BRead w v L := by
  obtain ⟨fuel, hf⟩ := h
  obtain ⟨a0, len0, cap0, rfl⟩ := hv
  rcases Go.ChangeShapes.open_ints Tryd.underlying22 Tryd.underlying5 (by kernel_rfl) hf with ⟨hc, _⟩ | ⟨a, len, cap, zs, hc, _, hlc, hcm, hsl, _, hcell, hss⟩
  · have hc : Value.slice a0 len0 cap0 = .slice none 0 0 := by simpa [Value.cells] using hc
    exact ⟨[], none, 0, 0, 0, hc, by simp, by simp, by omega, by simp, by simp⟩
  · have hc : Value.slice a0 len0 cap0 = .slice (some a) len cap := by simpa [Value.cells] using hc
    have hle : len ≤ zs.length := by rw [hsl]; split <;> omega
    have hs0 : 0 < len → a.spot = none ∧ a.block < w.heap.size := by
      intro h0
      have h1 := hcell 0 (by omega)
      have : a.add 0 = a := by unfold Addr.add; simp
      rw [this] at h1
      refine ⟨?_, World.block_lt_of_cell? w a h1⟩
      cases hq : a.spot with
      | none => rfl
      | some q => simp [World.cell?, hq] at h1; split at h1 <;> cases h1
    have hlen : (zs.take len).length = len := by rw [List.length_take]; omega
    refine ⟨zs.take len, some a, a.block, a.off, cap, by rw [hlen]; exact hc, ?_, by rw [hlen]; exact hlc, by simpa [maxLen] using hcm, ?_, ?_⟩
    · intro hne
      have h0 : 0 < len := by rcases Nat.eq_zero_or_pos len with e | e; (subst e; simp at hne); exact e
      obtain ⟨h1, h2⟩ := hs0 h0
      refine ⟨?_, h2⟩
      cases a; simp at h1; subst h1; rfl
    · intro i hi
      have hi2 := hi
      rw [hlen] at hi
      have h1 := hcell i (by omega)
      rw [addr_add _ _ (hs0 (by omega)).1] at h1
      have e : (zs.take len)[i]'hi2 = zs.getD i 0 := by
        rw [List.getElem_take, List.getD_eq_getElem?_getD, List.getElem?_eq_getElem (by omega)]; rfl
      rw [e]
      exact h1
    · intro n hn
      have := hss n (List.mem_of_mem_take hn)
      simp [Lit.wf, IntKind.min, IntKind.max, IntKind.signed, IntKind.bits] at this
      omega
end Go.Proofs.YtppmoajoffeleaaDoor
namespace Go.Proofs.YtppmoajoffeleaaDoor
set_option linter.unusedSimpArgs false
set_option linter.unusedVariables false
set_option maxRecDepth 100000
open Go.RowKit
def DrawVV (w : World) (e : Ending) (w' : World) : Prop := ∃ (t u : V) (s1 s2 : Value), e = .returned (.tuple #[t.agg s1, u.agg s2]) ∧ t.wf ∧ u.wf ∧ RepS w' s1 t.kids ∧ RepS w' s2 u.kids ∧ t.sz ≤ 4000 ∧ u.sz ≤ 4000 ∧ Below w.heap.size w w'
set_option maxHeartbeats 8000000 in
theorem DrawMergePatch_any (w0 : World) (v : Value) (N : Nat) (hD : Drw w0 v N) (w : World) (hw : Below w0.heap.size w0 w) :
    Calls Tryd.prog 10 #[v] w (DrawVV w) := by
  have NW := Lib.hid (fun (W : World) (hW : Below w0.heap.size w0 W) => New_any w0 v N hD W hW)
  have LV := Lib.hid (fun (c : Nat) (W : World) (h : CuX w0 c v N W) => l05Value_any w0 c v N hD W h)
  have B2 := Lib.hid ((Box.new w 0 0 0 ⟨#[]⟩ (.slice none 0 0) 26).alloc (.cells #[.int .i64 0, .int .i64 0, .int .i64 0, .string ⟨#[]⟩, .slice none 0 0] 26))
  have B3 := Lib.hid (Box.new (w.alloc (.cells #[.int .i64 0, .int .i64 0, .int .i64 0, .string ⟨#[]⟩, .slice none 0 0] 26)) 0 0 0 ⟨#[]⟩ (.slice none 0 0) 26)
  obtain ⟨W0, hW0⟩ : ∃ W0, W0 = (w.alloc (.cells #[.int .i64 0, .int .i64 0, .int .i64 0, .string ⟨#[]⟩, .slice none 0 0] 26)).alloc (.cells #[.int .i64 0, .int .i64 0, .int .i64 0, .string ⟨#[]⟩, .slice none 0 0] 26) := ⟨_, rfl⟩
  have hz0 : W0.heap.size = w.heap.size + 2 := by rw [hW0]; simp
  have HB0 := Lib.hid (show Below w.heap.size w W0 from by rw [hW0]; exact (by (with_reducible (repeat' (first | exact Below.refl _ _ | refine below_alloc ?_ _ ?_ | refine Below.setCell ?_ ?_ _ | refine Below.drew ?_ | refine below_drewN ?_ _ | refine below_step ?_ (by assumption) ?_ | refine below_mark ?_ (by assumption) ?_))); all_goals (first | omega | (simp; done) | (simp; omega))))
  rw [← hW0] at B2 B3
  rw [show (w.alloc (.cells #[.int .i64 0, .int .i64 0, .int .i64 0, .string ⟨#[]⟩, .slice none 0 0] 26)).heap.size = w.heap.size + 1 by simp] at B3
  have HW0 := Lib.hid (hw.trans (HB0.out.mono hw.size))
  clear hw hD
  go_enter Tryd.func10, Tryd.ntmps10
  go_upto_region 1 with fail
  rw [← hW0]
  clear hW0
  go_wp2_with fail
  refine (NW.out W0 HW0.out).mono ?_
  rintro e1 w1 ⟨rfl, hc1, hb1⟩
  have HC1 := Lib.hid hc1
  have HB1 := Lib.hid hb1
  have hz1 : W0.heap.size < w1.heap.size := hc1.lt
  clear hc1 hb1
  rw [hz0] at HC1 HB1 hz1
  go_wp2_with fail
  refine (LV.out (w.heap.size + 2) w1 HC1.out).mono ?_
  rintro e2 w2 ⟨t, s1, G, rfl, twf, tsz, hrow, hgl, hd2⟩
  obtain ⟨ta, tn, tc, rfl⟩ := hrow.slice3
  unfold V.agg
  have HD2 := Lib.hid hd2
  have HTW := Lib.hid twf
  have HTR := Lib.hid hrow
  have HGL := Lib.hid hgl
  have hz2 : w1.heap.size ≤ w2.heap.size := hd2.2.size
  have BT := Lib.hid (Box.new w2 t.k t.n t.e t.s (.slice ta tn tc) 26)
  obtain ⟨w3, hw3⟩ : ∃ w3, w3 = w2.alloc (.cells #[.int .i64 t.k, .int .i64 t.n, .int .i64 t.e, .string t.s, .slice ta tn tc] 26) := ⟨_, rfl⟩
  have hz3 : w3.heap.size = w2.heap.size + 1 := by rw [hw3]; simp
  have hb3 : Below w2.heap.size w2 w3 := by rw [hw3]; exact (Below.refl _ _).alloc (Nat.le_refl _) _
  rw [← hw3] at BT
  have HD3 := Lib.hid (HD2.out.stay hb3)
  have HB3 := Lib.hid hb3
  clear twf hrow hgl hd2 hb3
  go_upto_region 3 with fail
  rw [← hw3]
  clear hw3
  have HD9 := Lib.hid (HD3.out.stay (Below.refl w3.heap.size w3).drew)
  obtain ⟨x0, x1, x2, x3, x4⟩ := BT.out.cells
  have hdz : w3.drew.heap.size = w3.heap.size := rfl
  have hnc : w2.heap.size ≠ w.heap.size + 2 := by omega
  go_wp2_with fail
  go_region_law (go_simp; go_at_call 38; refine (LV.out (w.heap.size + 2) _ HD9.out.1).mono ?_; rintro e4 w4 ⟨u, s2, G2, rfl, uwf, usz, urow, ugl, hd4⟩; obtain ⟨ua, un, uc, rfl⟩ := urow.slice3; unfold V.agg; have HD4 := Lib.hid hd4; have HUW := Lib.hid uwf; have HUR := Lib.hid urow; have HUG := Lib.hid ugl; have hz4 : w3.heap.size ≤ w4.heap.size := hd4.2.size; obtain ⟨y0, y1, y2, y3, y4⟩ := (show Box w4 w2.heap.size t.k t.n t.e t.s (.slice ta tn tc) 26 from (hd4.2.block w2.heap.size (by rw [hdz]; omega) (by omega)).trans BT.out).cells; have C2 := Lib.hid (show Box w4 w.heap.size 0 0 0 ⟨#[]⟩ (.slice none 0 0) 26 from (hd4.2.block w.heap.size (by rw [hdz]; omega) (by omega)).trans ((HD3.out.2.block w.heap.size (by omega) (by omega)).trans ((HB1.out.block w.heap.size (by omega)).trans B2.out))); have C3 := Lib.hid (show Box w4 (w.heap.size + 1) 0 0 0 ⟨#[]⟩ (.slice none 0 0) 26 from (hd4.2.block (w.heap.size + 1) (by rw [hdz]; omega) (by omega)).trans ((HD3.out.2.block (w.heap.size + 1) (by omega) (by omega)).trans ((HB1.out.block (w.heap.size + 1) (by omega)).trans B3.out))); obtain ⟨z0, z1, z2, z3, z4⟩ := C2.out.cells; obtain ⟨v0, v1, v2, v3, v4⟩ := C3.out.cells; have zf0 := C2.out.free (i := 0); have zf1 := C2.out.free (i := 1); have zf2 := C2.out.free (i := 2); have zf3 := C2.out.free (i := 3); have zf4 := C2.out.free (i := 4); have vf0 := C3.out.free (i := 0); have vf1 := C3.out.free (i := 1); have vf2 := C3.out.free (i := 2); have vf3 := C3.out.free (i := 3); have vf4 := C3.out.free (i := 4); clear uwf urow ugl hd4)
  all_goals
    have HF := Lib.hid (show DrawVV w (.returned (.tuple #[.agg #[.int .i64 t.k, .int .i64 t.n, .int .i64 t.e, .string t.s, .slice ta tn tc], .agg #[.int .i64 u.k, .int .i64 u.n, .int .i64 u.e, .string u.s, .slice ua un uc]])) (set5 (set5 w4 w.heap.size (.int .i64 t.k) (.int .i64 t.n) (.int .i64 t.e) (.string t.s) (.slice ta tn tc)) (w.heap.size + 1) (.int .i64 u.k) (.int .i64 u.n) (.int .i64 u.e) (.string u.s) (.slice ua un uc)) from by
      have hs : ∀ x, x ≠ w.heap.size → x ≠ w.heap.size + 1 → (set5 (set5 w4 w.heap.size (.int .i64 t.k) (.int .i64 t.n) (.int .i64 t.e) (.string t.s) (.slice ta tn tc)) (w.heap.size + 1) (.int .i64 u.k) (.int .i64 u.n) (.int .i64 u.e) (.string u.s) (.slice ua un uc)).heap[x]? = w4.heap[x]? := fun x h1 h2 => (heap_set5 _ _ _ _ _ _ _ _ h2).trans (heap_set5 _ _ _ _ _ _ _ _ h1)
      have hsz : w4.heap.size ≤ (set5 (set5 w4 w.heap.size (.int .i64 t.k) (.int .i64 t.n) (.int .i64 t.e) (.string t.s) (.slice ta tn tc)) (w.heap.size + 1) (.int .i64 u.k) (.int .i64 u.n) (.int .i64 u.e) (.string u.s) (.slice ua un uc)).heap.size := by rw [size_set5, size_set5]; exact Nat.le_refl _
      have hb4 : Below w.heap.size w w4 := by
        refine HB0.out.trans ⟨HD4.out.2.os.trans (HD3.out.2.os.trans HB1.out.os), HD4.out.2.tape.trans (HD3.out.2.tape.trans HB1.out.tape), HD4.out.2.output.trans (HD3.out.2.output.trans HB1.out.output), by omega, fun x hx => (HD4.out.2.block x (by rw [hdz]; omega) (by omega)).trans ((HD3.out.2.block x (by omega) (by omega)).trans (HB1.out.block x (by omega)))⟩
      refine ⟨t, u, _, _, rfl, HTW.out, HUW.out, ?_, ?_, tsz, usz, hb4.trans ((below_set5 w4 w.heap.size _ _ _ _ _).trans ((below_set5 _ (w.heap.size + 1) _ _ _ _ _).mono (by omega)))⟩
      · have hr := HTR.out.repF
        have hg : ∀ x, (G x ∨ (Value.slice ta tn tc).ownBlock = some x) → w1.heap.size ≤ x := fun x hx => hx.elim (HGL.out x) (fun h => (HTR.out.lt x h).1)
        refine (hr.keep (by omega) (fun x hx hxs => (hs x (by have := hg x hx; omega) (by have := hg x hx; omega)).trans ((HD4.out.2.block x (by rw [hdz]; omega) (by have := hg x hx; omega)).trans (HB3.out.block x hxs)))).rep
      · have hg : ∀ x, (G2 x ∨ (Value.slice ua un uc).ownBlock = some x) → w3.heap.size ≤ x := fun x hx => hx.elim (HUG.out x) (fun h => (HUR.out.lt x h).1)
        exact (HUR.out.repF.keep hsz (fun x hx hxs => hs x (by have := hg x hx; omega) (by have := hg x hx; omega))).rep)
    clear HTR HUR HD4 HD9 HD3 HD2
    go_wp2_with fail
    exact bodyPost_ret (v := .tuple #[.agg #[.int .i64 t.k, .int .i64 t.n, .int .i64 t.e, .string t.s, .slice ta tn tc], .agg #[.int .i64 u.k, .int .i64 u.n, .int .i64 u.e, .string u.s, .slice ua un uc]]) (by simp [results, Tryd.results10, go_sem, z0, z1, z2, z3, z4, v0, v1, v2, v3, v4]) rfl HF.out
end Go.Proofs.YtppmoajoffeleaaDoor
namespace Go.Proofs.YtppmoajoffeleaaDoor
set_option linter.unusedSimpArgs false
set_option linter.unusedVariables false
set_option maxRecDepth 100000
open Go.RowKit
set_option maxHeartbeats 4000000 in
theorem lsame_any (w0 : World) : ∀ (N : Nat) (t : V) (a b : Value), t.sz < N → Rep w0 a t → Rep w0 b t → ∀ (w : World), Below w0.heap.size w0 w →
    Calls Tryd.prog 12 #[a, b] w (LawRet w) := by
  intro N
  induction N with
  | zero => intro t a b h; omega
  | succ N ih =>
  intro t a b hN ha hb w hw
  obtain ⟨sl, rfl, hwf, hr⟩ := ha
  obtain ⟨sm, rfl, -, hr2⟩ := hb
  have hsz := V.sz_eq t
  generalize t.kids = ts at *
  unfold V.agg
  generalize t.k = k at *
  generalize t.n = n at *
  generalize t.e = e at *
  generalize t.s = s at *
  cases hr with
  | mk a b off cap ts sls ha hc hm hbb cells wfs kids =>
  cases hr2 with
  | mk a2 b2 off2 cap2 ts2 sls2 ha2 hc2 hm2 hbb2 cells2 wfs2 kids2 =>
  have IH := Lib.hid (fun (i : Nat) (hi : i < ts.length) (w' : World) (hw' : Below w0.heap.size w0 w') => ih ts[i] (ts[i].agg (sls i)) (ts[i].agg (sls2 i)) (by have := szs_mem (List.getElem_mem hi); omega) ⟨_, rfl, wfs i hi, kids i hi⟩ ⟨_, rfl, wfs i hi, kids2 i hi⟩ w' hw')
  have CC := Lib.hid cells; have HA := Lib.hid ha; have CC2 := Lib.hid cells2; have HA2 := Lib.hid ha2
  have hss : (s.toList != s.toList) = false := by simp
  clear ih cells wfs kids ha cells2 wfs2 kids2 ha2 hsz hN hwf
  have BX := Lib.hid (show Box ((w.alloc (.cells #[.int .i64 k, .int .i64 n, .int .i64 e, .string s, .slice a ts.length cap] 26)).alloc (.cells #[.int .i64 k, .int .i64 n, .int .i64 e, .string s, .slice a2 ts.length cap2] 26)) w.heap.size k n e s (.slice a ts.length cap) 26 from (Box.new w _ _ _ _ _ _).alloc _)
  have BY := Lib.hid (show Box ((w.alloc (.cells #[.int .i64 k, .int .i64 n, .int .i64 e, .string s, .slice a ts.length cap] 26)).alloc (.cells #[.int .i64 k, .int .i64 n, .int .i64 e, .string s, .slice a2 ts.length cap2] 26)) (w.heap.size + 1) k n e s (.slice a2 ts.length cap2) 26 from (by
    have h := Box.new (w.alloc (.cells #[.int .i64 k, .int .i64 n, .int .i64 e, .string s, .slice a ts.length cap] 26)) k n e s (.slice a2 ts.length cap2) 26
    have e2 : (w.alloc (.cells #[.int .i64 k, .int .i64 n, .int .i64 e, .string s, .slice a ts.length cap] 26)).heap.size = w.heap.size + 1 := by simp
    rw [e2] at h; exact h))
  have HB2 := Lib.hid (show Below w.heap.size w ((w.alloc (.cells #[.int .i64 k, .int .i64 n, .int .i64 e, .string s, .slice a ts.length cap] 26)).alloc (.cells #[.int .i64 k, .int .i64 n, .int .i64 e, .string s, .slice a2 ts.length cap2] 26)) from (by (repeat' (first | with_reducible exact Below.refl _ _ | with_reducible refine below_alloc ?_ _ ?_ | with_reducible refine Below.setCell ?_ ?_ _ | with_reducible refine Below.drew ?_ | with_reducible refine below_drewN ?_ _ | with_reducible refine below_step ?_ (by assumption) ?_ | with_reducible refine below_mark ?_ (by assumption) ?_)); all_goals (first | omega | (simp; done) | (simp; omega))))
  go_enter Tryd.func12, Tryd.ntmps12
  go_wp2_with fail
  generalize ((w.alloc (.cells #[.int .i64 k, .int .i64 n, .int .i64 e, .string s, .slice a ts.length cap] 26)).alloc (.cells #[.int .i64 k, .int .i64 n, .int .i64 e, .string s, .slice a2 ts.length cap2] 26)) = W2 at *
  go_loopw [5] (fun i wr => ∃ j : Nat, j ≤ ts.length ∧ i = .int .i64 j ∧ Below W2.heap.size W2 wr) (fun i _ => ts.length - (intOf i).toNat)
  case atStart => exact ⟨0, by omega, rfl, Below.refl _ _⟩
  case round =>
    obtain ⟨j, hj, rfl, hbl⟩ := hrel
    have hz2 := HB2.out.size
    obtain ⟨p0, p1, p2, p3, p4⟩ := (BX.out.stay hbl).cells
    obtain ⟨q0, q1, q2, q3, q4⟩ := (BY.out.stay hbl).cells
    have hwr0 : Below w0.heap.size w0 wr := (hw.trans (HB2.out.mono hw.size)).trans (hbl.mono (Nat.le_trans hw.size hz2))
    by_cases hlt : j < ts.length
    · have hne : ts ≠ [] := by intro e; rw [e] at hlt; simp at hlt
      obtain rfl := HA.out hne
      obtain rfl := HA2.out hne
      have hx : ∀ b, b < w0.heap.size → wr.heap[b]? = w0.heap[b]? := fun b hb => hwr0.block b hb
      obtain ⟨c0, c1, c2, c3, c4⟩ := (CC.out j hlt).keep (hx b (hbb hne))
      obtain ⟨d0, d1, d2, d3, d4⟩ := (CC2.out j hlt).keep (hx b2 (hbb2 hne))
      have V1 := Lib.hid (fun w'' (hh : Below wr.heap.size wr w'') => IH.out j hlt w'' (hwr0.trans (hh.mono hwr0.size)))
      clear hx hwr0 IH
      unfold V.agg at V1
      generalize ts[j].k = vk at *
      generalize ts[j].n = vn at *
      generalize ts[j].e = ve at *
      generalize ts[j].s = vs at *
      have HBL := Lib.hid hbl
      clear hbl p0 p1 p2 p3 q0 q1 q2 q3
      go_wp2_with fail
      go_region_with (go_at_call 12; refine (V1.out _ (by (repeat' (first | with_reducible exact Below.refl _ _ | with_reducible refine below_alloc ?_ _ ?_ | with_reducible refine Below.setCell ?_ ?_ _ | with_reducible refine Below.drew ?_ | with_reducible refine below_drewN ?_ _ | with_reducible refine below_step ?_ (by assumption) ?_ | with_reducible refine below_mark ?_ (by assumption) ?_)); all_goals (first | omega | (simp; done) | (simp; omega)))).mono ?_; rintro e1 w1 ⟨rfl, hb⟩)
      all_goals
        go_wp2_with fail
        have hbl := HBL.out
        go_roundw
        case rel => exact ⟨j + 1, by omega, by go_num, (by (repeat' (first | with_reducible exact Below.refl _ _ | with_reducible refine below_alloc ?_ _ ?_ | with_reducible refine Below.setCell ?_ ?_ _ | with_reducible refine Below.drew ?_ | with_reducible refine below_drewN ?_ _ | with_reducible refine below_step ?_ (by assumption) ?_ | with_reducible refine below_mark ?_ (by assumption) ?_)); all_goals (first | omega | (simp; done) | (simp; omega)))⟩
        case measure => simp [intOf]; omega
    · have HF := Lib.hid (show Below w.heap.size w wr from HB2.out.trans (hbl.mono hz2))
      clear hbl hwr0 p0 p1 p2 p3 q0 q1 q2 q3
      go_wp2_with fail
      go_ret
      exact ⟨rfl, HF.out⟩
end Go.Proofs.YtppmoajoffeleaaDoor
namespace Go.Proofs.YtppmoajoffeleaaDoor
set_option linter.unusedSimpArgs false
set_option linter.unusedVariables false
set_option maxRecDepth 100000
open Go.RowKit Go.Lib Go.Shelf
theorem accept_eq : Rows.laid_unicode_utf8_acceptRanges = Lib.acceptData := by kernel_rfl
theorem first_eq : Rows.laid_unicode_utf8_first = Lib.firstData := Pinned.utf8First_eq
theorem env_of {w : World} (h3 : VarReads Tryd.prog w "unicode/utf8.first" Rows.laid_unicode_utf8_first) (h4 : VarReads Tryd.prog w "unicode/utf8.acceptRanges" Rows.laid_unicode_utf8_acceptRanges) : Env w := by
  rw [accept_eq] at h4
  rw [first_eq] at h3
  exact utf8Tabs_of_readsT (U8Types.of196 Tryd.laysValid) ⟨by kernel_rfl, by kernel_rfl, by kernel_rfl, by kernel_rfl, by kernel_rfl, by kernel_rfl, by kernel_rfl⟩ h3 h4
end Go.Proofs.YtppmoajoffeleaaDoor
