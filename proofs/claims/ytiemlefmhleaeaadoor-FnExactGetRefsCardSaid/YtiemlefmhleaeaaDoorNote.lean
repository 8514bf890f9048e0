/- What is remembered: the memory's block, and what a note leaves. impl.memory.note. -/
import Derived.Test.YtiemlefmhleaeaaDoorRemM
import Derived.Test.YtiemlefmhleaeaaDoorWalk
import Derived.Deep.RegionHeld3
import Derived.Deep.RegionLaw
import Derived.BigRegion
namespace Go.Proofs.YtiemlefmhleaeaaDoor
set_option linter.unusedVariables false
set_option maxRecDepth 100000
open Go.RowKit
def ownM (m : Nat) (o : Value) : Nat → Prop := fun x => x = m ∨ o.ownBlock = some x
structure MOf (B m : Nat) (R : List V) (bad : Bool) (o : Value) (w : World) : Prop where
  bm : B ≤ m
  hm : w.heap[m]? = some (.cells #[o, .bool bad] 79 (0, 0))
  hr : PRow w B (fun _ => False) o R
  om : o.ownBlock ≠ some m
theorem MOf.keep {B m : Nat} {R : List V} {bad : Bool} {o : Value} {w w' : World} (h : MOf B m R bad o w) (hz : w.heap.size ≤ w'.heap.size) (hb : ∀ x, ownM m o x → w'.heap[x]? = w.heap[x]?) : MOf B m R bad o w' :=
  { h with
    hm := by rw [hb m (.inl rfl)]; exact h.hm
    hr := h.hr.keep hz (fun x hx _ => hx.elim False.elim (fun hx => hb x (.inr hx))) }
theorem MOf.lt {B m : Nat} {R : List V} {bad : Bool} {o : Value} {w : World} (h : MOf B m R bad o w) : ∀ x, ownM m o x → B ≤ x ∧ x < w.heap.size := by
  rintro x (rfl | hx)
  · exact ⟨h.bm, lt_of_heap h.hm⟩
  · exact h.hr.lt x hx
def NoteRet (B m : Nat) (R : List V) (bad : Bool) (o : Value) (w : World) (e : Ending) (w' : World) : Prop := e = .returned (.tuple #[]) ∧ ∃ o', MOf B m R bad o' w' ∧ Touch (ownM m o) (ownM m o') w w'
theorem zero_wf : (V.mk 0 0 0 ⟨#[]⟩ []).wf := by
  refine ⟨?_, ?_, ?_, ?_⟩
  · show In64 0; unfold In64; omega
  · show In64 0; unfold In64; omega
  · show In64 0; unfold In64; omega
  · show ByteArray.size ⟨#[]⟩ ≤ _; simp [ByteArray.size]
theorem prow_addr {w : World} {B : Nat} {G : Nat → Prop} {v : Value} {ts : List V} (h : PRow w B G v ts) (hne : ts ≠ []) : ∃ g cap, v = .slice (some ⟨g, 0, none⟩) ts.length cap := by
  obtain ⟨sls, h⟩ := h
  rcases h.row.2 with ⟨rfl, hn⟩ | ⟨g, cap, cur, rfl, _⟩
  · exact absurd (List.eq_nil_of_length_eq_zero hn) hne
  · exact ⟨g, cap, rfl⟩
theorem note_cells {B m g gcap : Nat} {R : List V} {z : V} {G : Nat → Prop} {bad : Bool} {o : Value} {w W1 X w2 : World} (h : MOf B m R bad o w) (h1 : Below w.heap.size w W1) (hX : Below W1.heap.size W1 X) (hg : X.grownBy w2 o.ownBlock) (hl : W1.heap.size ≤ X.heap.size)
    (hr : PRow w2 B G (.slice (some ⟨g, 0, none⟩) (R ++ [z]).length gcap) (R ++ [z])) :
    w2.cell? ⟨g, R.length * 5, none⟩ = some (.int .i64 z.k) ∧ w2.cell? ⟨g, R.length * 5 + 1, none⟩ = some (.int .i64 z.n) ∧ w2.cell? ⟨g, R.length * 5 + 2, none⟩ = some (.int .i64 z.e) ∧ w2.cell? ⟨g, R.length * 5 + 3, none⟩ = some (.string z.s) ∧ (∃ u, w2.cell? ⟨g, R.length * 5 + 4, none⟩ = some u) ∧
    w2.frozen? ⟨g, R.length * 5, none⟩ = false ∧ w2.frozen? ⟨g, R.length * 5 + 1, none⟩ = false ∧ w2.frozen? ⟨g, R.length * 5 + 2, none⟩ = false ∧ w2.frozen? ⟨g, R.length * 5 + 3, none⟩ = false ∧ w2.frozen? ⟨g, R.length * 5 + 4, none⟩ = false ∧
    w2.cell? ⟨m, 0, none⟩ = some o ∧ w2.frozen? ⟨m, 0, none⟩ = false ∧ g ≠ m ∧ m ≠ g := by
  have hml := lt_of_heap h.hm
  have hz1 := h1.size
  have hb : w2.heap[m]? = some (.cells #[o, .bool bad] 79 (0, 0)) := by
    rw [hg.block m (by omega) (fun e => h.om e.symm), hX.block m (by omega), h1.block m hml]; exact h.hm
  have hrr := hr.rep
  obtain ⟨sls, hp⟩ := hr
  rcases hp.row.2 with ⟨e, hn⟩ | ⟨g', cap', cur, e, hbg, hgc, hnc, hcm, hcs, htake⟩
  · simp at hn
  obtain ⟨rfl, rfl⟩ : g' = g ∧ cap' = gcap := by simp at e; exact ⟨e.1.symm, e.2.symm⟩
  have hgm : g' ≠ m := by
    intro e; subst e
    rw [hb] at hgc
    simp only [Option.some.injEq, Obj.cells.injEq] at hgc
    have := hgc.2.1
    revert this; decide
  have hlen : (R ++ [z]).length = R.length + 1 := by simp
  obtain ⟨a, b, off, cap, hv, ha, hc, hm, sls2, hel⟩ := hrr.opened'
  have hne : R ++ [z] ≠ [] := by simp
  obtain ⟨rfl, hbl⟩ := ha hne
  simp only [Value.slice.injEq, Option.some.injEq, Addr.mk.injEq] at hv
  obtain ⟨⟨rfl, rfl, -⟩, -, -⟩ := hv
  have hq := (hel R.length (by simp)).1
  rw [List.getElem_concat_length rfl, Nat.zero_add] at hq
  obtain ⟨q0, q1, q2, q3, q4⟩ := hq
  have hf : ∀ i, w2.frozen? ⟨g', i, none⟩ = false := fun i => frozen_of_row w2 g' i cur _ hgc
  exact ⟨q0, q1, q2, q3, ⟨_, q4⟩, hf _, hf _, hf _, hf _, hf _, by rw [cell_of_row _ _ _ _ _ (0, 0) hb]; rfl, frozen_of_row w2 m 0 _ _ hb, hgm, fun e => hgm e.symm⟩
theorem PRow.set {w : World} {base : Nat} {G : Nat → Prop} {g n cap i : Nat} {ts : List V} {t : V} {sl : Value} (h : PRow w base G (.slice (some ⟨g, 0, none⟩) n cap) ts) (hi : i < ts.length) (ht : t.wf) (ho : RepF w G sl t.kids) :
    PRow (put5 w g (i * 5) t sl) base G (.slice (some ⟨g, 0, none⟩) n cap) (ts.set i t) := by
  obtain ⟨sls, h⟩ := h
  have hn : n = ts.length := by
    rcases h.row.2 with ⟨h', _⟩ | ⟨g', cap', cur, h', _⟩ <;> simp at h'; exact h'.2.1
  subst hn
  have hgr := grownBy_put5 w g (i * 5) t sl
  have hk : ∀ x, G x → x < w.heap.size → (put5 w g (i * 5) t sl).heap[x]? = w.heap[x]? := by
    intro x hx hs
    refine hgr.block x hs (fun e => ?_)
    simp only [Option.some.injEq] at e
    exact h.own x (by rw [e]; rfl) hx
  refine ⟨sls.set i sl, ⟨?_, by simp [h.len], ?_, ?_, h.own, fun x hx => Nat.lt_of_lt_of_le (h.inG x hx) hgr.size⟩⟩
  · rw [List.length_set, ← flat_set ts sls i t sl hi h.len]
    exact ((((((h.row.stored (i * 5) (.int .i64 t.k)).1).stored (i * 5 + 1) (.int .i64 t.n)).1.stored (i * 5 + 2) (.int .i64 t.e)).1.stored (i * 5 + 3) (.string t.s)).1.stored (i * 5 + 4) sl).1
  · intro j hj
    rw [List.getElem_set]
    split
    · exact ht
    · exact h.wfs j (by simpa using hj)
  · intro j hj
    have hj' : j < ts.length := by simpa using hj
    rw [List.getElem_set]
    by_cases hji : j = i
    · subst hji
      have e : (sls.set j sl).getD j undef = sl := by rw [List.getD_eq_getElem?_getD, List.getElem?_set_self (by rw [h.len]; exact hj')]; rfl
      rw [e, if_pos rfl]
      exact ho.keep hgr.size hk
    · have e : (sls.set i sl).getD j undef = sls.getD j undef := by rw [List.getD_eq_getElem?_getD, List.getD_eq_getElem?_getD, List.getElem?_set_ne (fun e => hji e.symm)]
      rw [e, if_neg (fun e => hji e.symm)]
      exact (h.kids j hj').keep hgr.size hk
set_option maxHeartbeats 1000000 in
theorem note_fin {B m g n gcap : Nat} {R : List V} {z lf : V} {bad : Bool} {o : Value} {w W1 X w2 W3 : World} {G : Nat → Prop} (h : MOf B m R bad o w) (h1 : Below w.heap.size w W1) (hX : Below W1.heap.size W1 X) (hl : W1.heap.size ≤ X.heap.size) (hg : X.grownBy w2 o.ownBlock)
    (hfr : FreshOr X o (.slice (some ⟨g, 0, none⟩) n gcap)) (hr : PRow w2 B G (.slice (some ⟨g, 0, none⟩) n gcap) (R ++ [z])) (hG : ∀ x, ¬ G x) (ht : lf.wf) (hk : lf.kids = []) (hgm : g ≠ m)
    (hW : W3 = (put5 w2 g (R.length * 5) lf (.slice none 0 0)).setCell ⟨m, 0, none⟩ (.slice (some ⟨g, 0, none⟩) n gcap) ∨ W3 = put5 (w2.setCell ⟨m, 0, none⟩ (.slice (some ⟨g, 0, none⟩) n gcap)) g (R.length * 5) lf (.slice none 0 0)) :
    NoteRet B m (R ++ [lf]) bad o w (.returned (.tuple #[])) W3 := by
  have hml := lt_of_heap h.hm
  have hz1 := h1.size
  have hz2 := hg.size
  have hset : (R ++ [z]).set R.length lf = R ++ [lf] := by simp
  have hrf : ∀ W : World, RepF W G (.slice none 0 0) lf.kids := fun W => by rw [hk]; exact RepF.nil W G
  have m2 : w2.heap[m]? = some (.cells #[o, .bool bad] 79 (0, 0)) := by
    rw [hg.block m (by omega) (fun e => h.om e.symm), hX.block m (by omega), h1.block m hml]; exact h.hm
  have key : W3.heap.size = w2.heap.size ∧ W3.os = w2.os ∧ W3.tape = w2.tape ∧ W3.output = w2.output ∧ W3.heap[m]? = some (.cells #[.slice (some ⟨g, 0, none⟩) n gcap, .bool bad] 79 (0, 0)) ∧ (∀ x, x < w2.heap.size → x ≠ m → x ≠ g → W3.heap[x]? = w2.heap[x]?) ∧ PRow W3 B G (.slice (some ⟨g, 0, none⟩) n gcap) (R ++ [lf]) := by
    have hset0 : ∀ (P : World) (cur : Value), P.heap[m]? = some (.cells #[cur, .bool bad] 79 (0, 0)) → (P.setCell ⟨m, 0, none⟩ (.slice (some ⟨g, 0, none⟩) n gcap)).heap[m]? = some (.cells #[.slice (some ⟨g, 0, none⟩) n gcap, .bool bad] 79 (0, 0)) := by
      intro P cur hP
      rw [heap_setCell_same P m 0 #[cur, .bool bad] _ _ hP]; simp
    have hsetp : ∀ (P : World) (ts : List V), PRow P B G (.slice (some ⟨g, 0, none⟩) n gcap) ts → PRow (P.setCell ⟨m, 0, none⟩ (.slice (some ⟨g, 0, none⟩) n gcap)) B G (.slice (some ⟨g, 0, none⟩) n gcap) ts := by
      intro P ts hP
      refine hP.keep (by simp) (fun x hx _ => heap_setCell_other _ _ _ _ (fun e => ?_))
      rcases hx with hx | hx
      · exact hG x hx
      · have hx' : g = x := by simpa [Value.ownBlock] using hx
        exact hgm (hx'.trans e)
    rcases hW with rfl | rfl
    · have gp := grownBy_put5 w2 g (R.length * 5) lf (.slice none 0 0)
      have zp : (put5 w2 g (R.length * 5) lf (.slice none 0 0)).heap.size = w2.heap.size := by simp [put5]
      have hp := hr.set (i := R.length) (by simp) ht (hrf w2)
      rw [hset] at hp
      generalize put5 w2 g (R.length * 5) lf (.slice none 0 0) = P at *
      have mp : P.heap[m]? = some (.cells #[o, .bool bad] 79 (0, 0)) := by
        rw [gp.block m (by omega) (fun e => hgm (by simpa using e.symm))]; exact m2
      refine ⟨by simp; exact zp, gp.os, gp.tape, gp.output, hset0 P o mp, fun x hx hxm hxg => ?_, hsetp P _ hp⟩
      rw [heap_setCell_other _ _ _ _ hxm, gp.block x hx (fun e => hxg (by simpa using e))]
    · have ms := hset0 w2 o m2
      have hs := hsetp w2 _ hr
      have os : (w2.setCell ⟨m, 0, none⟩ (.slice (some ⟨g, 0, none⟩) n gcap)).os = w2.os ∧ (w2.setCell ⟨m, 0, none⟩ (.slice (some ⟨g, 0, none⟩) n gcap)).tape = w2.tape ∧ (w2.setCell ⟨m, 0, none⟩ (.slice (some ⟨g, 0, none⟩) n gcap)).output = w2.output := ⟨rfl, rfl, rfl⟩
      have oth : ∀ x, x ≠ m → (w2.setCell ⟨m, 0, none⟩ (.slice (some ⟨g, 0, none⟩) n gcap)).heap[x]? = w2.heap[x]? := fun x hx => heap_setCell_other _ _ _ _ hx
      have zs : (w2.setCell ⟨m, 0, none⟩ (.slice (some ⟨g, 0, none⟩) n gcap)).heap.size = w2.heap.size := by simp
      generalize w2.setCell ⟨m, 0, none⟩ (.slice (some ⟨g, 0, none⟩) n gcap) = P at *
      have gp := grownBy_put5 P g (R.length * 5) lf (.slice none 0 0)
      have zp : (put5 P g (R.length * 5) lf (.slice none 0 0)).heap.size = P.heap.size := by simp [put5]
      have hp := hs.set (i := R.length) (by simp) ht (hrf P)
      rw [hset] at hp
      generalize put5 P g (R.length * 5) lf (.slice none 0 0) = Q at *
      refine ⟨zp.trans zs, gp.os.trans os.1, gp.tape.trans os.2.1, gp.output.trans os.2.2, ?_, fun x hx hxm hxg => ?_, hp⟩
      · rw [gp.block m (by omega) (fun e => hgm (by simpa using e.symm))]; exact ms
      · rw [gp.block x (by omega) (fun e => hxg (by simpa using e)), oth x hxm]
  obtain ⟨k1, k2, k3, k4, k5, k6, k7⟩ := key
  have hgo : ∀ x, x < w.heap.size → o.ownBlock ≠ some x → x ≠ g := by
    intro x hx hne e
    subst e
    rcases hfr with e | e
    · exact hne (e.symm.trans rfl)
    · simp [Value.ownBlock] at e; omega
  refine ⟨rfl, _, ⟨h.bm, k5, ?_, ?_⟩, ⟨?_, ?_, ?_, by omega, ?_, ?_⟩⟩
  · obtain ⟨sls, hp⟩ := k7
    exact ⟨sls, ⟨hp.row, hp.len, hp.wfs, fun i hi => (hp.kids i hi).mono (fun x hx _ => hG x hx), fun _ _ => id, fun _ => False.elim⟩⟩
  · intro e; simp [Value.ownBlock] at e; exact hgm e
  · exact k2.trans (hg.os.trans (hX.os.trans h1.os))
  · exact k3.trans (hg.tape.trans (hX.tape.trans h1.tape))
  · exact k4.trans (hg.output.trans (hX.output.trans h1.output))
  · intro x hx hn
    have hxm : x ≠ m := fun e => hn (.inl e)
    have hxo : o.ownBlock ≠ some x := fun e => hn (.inr e)
    rw [k6 x (by omega) hxm (hgo x hx hxo), hg.block x (by omega) (fun e => hxo e.symm), hX.block x (by omega), h1.block x hx]
  · rintro x (rfl | hx)
    · exact .inl (.inl rfl)
    · have hx' : g = x := by simpa [Value.ownBlock] using hx
      subst hx'
      rcases hfr with e | e
      · exact .inl (.inr (e.symm.trans rfl))
      · simp [Value.ownBlock] at e; exact .inr (by omega)
/-- the world behind the append: what it has of the old one -/
def NPre (W1 w2 : World) (o v2 : Value) : Prop := ∃ X, Below W1.heap.size W1 X ∧ X.grownBy w2 o.ownBlock ∧ FreshOr X o v2
theorem prow_addr1 {w : World} {B : Nat} {G : Nat → Prop} {v : Value} {R : List V} {z : V} (h : PRow w B G v (R ++ [z])) : ∃ g cap, v = .slice (some ⟨g, 0, none⟩) (R.length + 1) cap := by
  obtain ⟨g, cap, e⟩ := prow_addr h (by simp)
  exact ⟨g, cap, by rw [e, List.length_append, List.length_singleton]⟩
theorem note_cells1 {B m g gcap : Nat} {R : List V} {z : V} {G : Nat → Prop} {bad : Bool} {o : Value} {w W1 w2 : World} (h : MOf B m R bad o w) (h1 : Below w.heap.size w W1) (hp : NPre W1 w2 o (.slice (some ⟨g, 0, none⟩) (R.length + 1) gcap))
    (hr : PRow w2 B G (.slice (some ⟨g, 0, none⟩) (R.length + 1) gcap) (R ++ [z])) :
    w2.cell? ⟨g, R.length * 5, none⟩ = some (.int .i64 z.k) ∧ w2.cell? ⟨g, R.length * 5 + 1, none⟩ = some (.int .i64 z.n) ∧ w2.cell? ⟨g, R.length * 5 + 2, none⟩ = some (.int .i64 z.e) ∧ w2.cell? ⟨g, R.length * 5 + 3, none⟩ = some (.string z.s) ∧ (∃ u, w2.cell? ⟨g, R.length * 5 + 4, none⟩ = some u) ∧
    w2.frozen? ⟨g, R.length * 5, none⟩ = false ∧ w2.frozen? ⟨g, R.length * 5 + 1, none⟩ = false ∧ w2.frozen? ⟨g, R.length * 5 + 2, none⟩ = false ∧ w2.frozen? ⟨g, R.length * 5 + 3, none⟩ = false ∧ w2.frozen? ⟨g, R.length * 5 + 4, none⟩ = false ∧
    w2.cell? ⟨m, 0, none⟩ = some o ∧ w2.frozen? ⟨m, 0, none⟩ = false ∧ g ≠ m ∧ m ≠ g := by
  obtain ⟨X, hX, hg, hf⟩ := hp
  exact note_cells (gcap := gcap) h h1 hX hg hX.size (by rw [List.length_append, List.length_singleton]; exact hr)
theorem note_finL {B m g gcap : Nat} {R : List V} {z : V} {k : Int} {s : ByteArray} {bad : Bool} {o : Value} {w W1 w2 : World} {G : Nat → Prop} {e : Ending} (h : MOf B m R bad o w) (h1 : Below w.heap.size w W1) (hp : NPre W1 w2 o (.slice (some ⟨g, 0, none⟩) (R.length + 1) gcap))
    (hr : PRow w2 B G (.slice (some ⟨g, 0, none⟩) (R.length + 1) gcap) (R ++ [z])) (hG : ∀ x, ¬ G x) (ht : (V.mk k 0 0 s []).wf) (hgm : g ≠ m) (he : e = .returned (.tuple #[])) :
    NoteRet B m (R ++ [V.mk k 0 0 s []]) bad o w e
      ((((((w2.setCell ⟨g, R.length * 5, none⟩ (.int .i64 k)).setCell ⟨g, R.length * 5 + 1, none⟩ (.int .i64 0)).setCell ⟨g, R.length * 5 + 2, none⟩ (.int .i64 0)).setCell ⟨g, R.length * 5 + 3, none⟩ (.string s)).setCell ⟨g, R.length * 5 + 4, none⟩ (.slice none 0 0)).setCell ⟨m, 0, none⟩ (.slice (some ⟨g, 0, none⟩) (R.length + 1) gcap)) := by
  obtain ⟨X, hX, hg, hf⟩ := hp
  subst he
  exact note_fin h h1 hX hX.size hg hf hr hG ht rfl hgm (.inl rfl)
theorem note_finR {B m g gcap : Nat} {R : List V} {z : V} {k : Int} {s : ByteArray} {bad : Bool} {o : Value} {w W1 w2 : World} {G : Nat → Prop} {e : Ending} (h : MOf B m R bad o w) (h1 : Below w.heap.size w W1) (hp : NPre W1 w2 o (.slice (some ⟨g, 0, none⟩) (R.length + 1) gcap))
    (hr : PRow w2 B G (.slice (some ⟨g, 0, none⟩) (R.length + 1) gcap) (R ++ [z])) (hG : ∀ x, ¬ G x) (ht : (V.mk k 0 0 s []).wf) (hgm : g ≠ m) (he : e = .returned (.tuple #[])) :
    NoteRet B m (R ++ [V.mk k 0 0 s []]) bad o w e
      ((((((w2.setCell ⟨m, 0, none⟩ (.slice (some ⟨g, 0, none⟩) (R.length + 1) gcap)).setCell ⟨g, R.length * 5, none⟩ (.int .i64 k)).setCell ⟨g, R.length * 5 + 1, none⟩ (.int .i64 0)).setCell ⟨g, R.length * 5 + 2, none⟩ (.int .i64 0)).setCell ⟨g, R.length * 5 + 3, none⟩ (.string s)).setCell ⟨g, R.length * 5 + 4, none⟩ (.slice none 0 0)) := by
  obtain ⟨X, hX, hg, hf⟩ := hp
  subst he
  exact note_fin h h1 hX hX.size hg hf hr hG ht rfl hgm (.inr rfl)
theorem no_ff : ∀ x : Nat, ¬ ((fun _ : Nat => False) x ∨ (fun _ : Nat => False) x) := fun _ h => h.elim id id
end Go.Proofs.YtiemlefmhleaeaaDoor
namespace Go.Proofs.YtiemlefmhleaeaaDoor
set_option linter.unusedVariables false
set_option maxRecDepth 100000
open Go.RowKit
set_option maxHeartbeats 12000000 in
theorem note_any (B m : Nat) (R : List V) (bad : Bool) (o : Value) (t : V) (sl : Value) (w : World) (h : MOf B m R bad o w) (hR : R.length ≤ 8388608) (hwf : t.wf) :
    Calls Tryd.prog 129 #[.pointer (some ⟨m, 0, none⟩), t.agg sl] w (NoteRet B m (keepR R t) bad o w) := by
  obtain ⟨oa, ocap, rfl⟩ := h.hr.slice
  have HM := Lib.hid h
  have hml := lt_of_heap h.hm
  have HK := Lib.hid (show keepR R t = if least0 R.length ≤ t.s.size then R ++ [leafV t] else R from rfl)
  have LS := Lib.hid (fun (W : World) => Least_impl (R.length : Int) W)
  have HWF := Lib.hid (leafV_wf hwf)
  generalize keepR R t = R2 at *
  have B0 := Lib.hid (Box.new w t.k t.n t.e t.s sl 28)
  generalize least0 R.length = q at *
  have HLF := Lib.hid (show leafV t = .mk t.k 0 0 t.s [] from rfl)
  have hm0 : w.cell? ⟨m, 0, none⟩ = some (.slice oa R.length ocap) := by rw [cell_of_row _ _ _ _ _ (0, 0) h.hm]; rfl
  unfold V.agg
  generalize leafV t = lf at *
  generalize t.k = vk at *
  generalize t.n = vn at *
  generalize t.e = ve at *
  generalize t.s = vs at *
  clear h
  by_cases hq : q ≤ vs.size
  · have t1 : decide (q ≤ (vs.size : Int)) = true := decide_eq_true hq
    rw [if_pos hq] at HK
    clear hq hwf
    rw [HK.out]
    clear HK
    go_enter Tryd.func129, Tryd.ntmps129
    go_wp2_with fail
    go_quiet ((go_at_call 194; exact Calls.quiet_of_same (LS.out _)))
    go_wp2_with fail
    have HB1 := Lib.hid (show Below w.heap.size w ((w.alloc (.cells #[.int .i64 vk, .int .i64 vn, .int .i64 ve, .string vs, sl] 28)).drewN nq) from (by (repeat' (first | with_reducible exact Below.refl _ _ | with_reducible refine below_alloc ?_ _ ?_ | with_reducible refine Below.setCell ?_ ?_ _ | with_reducible refine Below.drew ?_ | with_reducible refine below_drewN ?_ _ | with_reducible refine below_step ?_ (by assumption) ?_ | with_reducible refine below_mark ?_ (by assumption) ?_)); all_goals (first | omega | (simp; done) | (simp; omega))))
    have HZ1 := Lib.hid (show ((w.alloc (.cells #[.int .i64 vk, .int .i64 vn, .int .i64 ve, .string vs, sl] 28)).drewN nq).heap.size = w.heap.size + 1 by simp)
    have B1 := Lib.hid (show Box ((w.alloc (.cells #[.int .i64 vk, .int .i64 vn, .int .i64 ve, .string vs, sl] 28)).drewN nq) w.heap.size vk vn ve vs sl 28 from B0.out)
    generalize (w.alloc (.cells #[.int .i64 vk, .int .i64 vn, .int .i64 ve, .string vs, sl] 28)).drewN nq = W1 at *
    obtain ⟨c0, c1, c2, c3, c4⟩ := B1.out.cells
    have HL1 := Lib.hid (show w.heap.size ≤ W1.heap.size by have := HZ1.out; omega)
    have hm1 : W1.cell? ⟨m, 0, none⟩ = some (.slice oa R.length ocap) := by rw [HB1.out.cell (p := ⟨m, 0, none⟩) hml]; exact hm0
    clear B0 c1 c2 c4
    have hlf := HLF.out
    subst hlf
    have hl1 : w.heap.size < W1.heap.size := by have := HZ1.out; omega
    have hl2 : m < W1.heap.size := by omega
    go_region_law (refine step_vals rfl _ _ rfl B (fun _ => False) (fun _ => False) _ R [V.mk 0 0 0 ⟨#[]⟩ []] _ rfl (HM.out.hr.stay (HB1.out.trans (Below.mono ((by (repeat' (first | with_reducible exact Below.refl _ _ | with_reducible refine below_alloc ?_ _ ?_ | with_reducible refine Below.setCell ?_ ?_ _ | with_reducible refine Below.drew ?_ | with_reducible refine below_drewN ?_ _ | with_reducible refine below_step ?_ (by assumption) ?_ | with_reducible refine below_mark ?_ (by assumption) ?_)); all_goals (first | omega | (simp; done) | (simp; omega)))) HL1.out))) _ rfl (vsrc_leaf (b := W1.heap.size) (by first | exact heap_alloc_at _ (by simp) | exact (heap_alloc_old _ _ (by simp; done)).trans (heap_alloc_at _ (by simp)) | exact (heap_alloc_old _ _ (by simp; omega)).trans (heap_alloc_at _ (by simp))) zero_wf) (fun x hx => hx.elim) (by first | omega | (simp; done) | (simp; omega)) (by have := HM.out.bm; have := HL1.out; first | omega | (simp; omega)) ?_; intro v2 w2 hrow2 hg2 hfr2; obtain ⟨g, gcap, rfl⟩ := prow_addr1 hrow2; have H2 := Lib.hid hrow2; have HP2 := Lib.hid (show NPre W1 w2 (.slice oa R.length ocap) (.slice (some ⟨g, 0, none⟩) (R.length + 1) gcap) from ⟨_, (by (repeat' (first | with_reducible exact Below.refl _ _ | with_reducible refine below_alloc ?_ _ ?_ | with_reducible refine Below.setCell ?_ ?_ _ | with_reducible refine Below.drew ?_ | with_reducible refine below_drewN ?_ _ | with_reducible refine below_step ?_ (by assumption) ?_ | with_reducible refine below_mark ?_ (by assumption) ?_)); all_goals (first | omega | (simp; done) | (simp; omega))), hg2, hfr2⟩); have hix : (R.length : Int) < (R.length : Int) + 1 := (by omega); have HMC := Lib.hid (note_cells1 HM.out HB1.out HP2.out hrow2); obtain ⟨e0, e1, e2, e3, ⟨u4, e4⟩, f0, f1, f2, f3, f4, em, fm, gm1, gm2⟩ := HMC.out; clear hrow2 hg2 hfr2 HMC)
    all_goals go_end0
    all_goals first | with_reducible refine note_finL HM.out HB1.out HP2.out H2.out no_ff HWF.out gm1 ?_ | with_reducible refine note_finR HM.out HB1.out HP2.out H2.out no_ff HWF.out gm1 ?_
    all_goals rfl
  · have t1 : decide (q ≤ (vs.size : Int)) = false := decide_eq_false hq
    rw [if_neg hq] at HK
    clear hq hwf
    rw [HK.out]
    clear HK
    go_enter Tryd.func129, Tryd.ntmps129
    go_wp2_with fail
    go_quiet ((go_at_call 194; exact Calls.quiet_of_same (LS.out _)))
    go_wp2_with fail
    go_end0
    have hbb : Below w.heap.size w ((w.alloc (.cells #[.int .i64 vk, .int .i64 vn, .int .i64 ve, .string vs, sl] 28)).drewN nq) := (by (repeat' (first | with_reducible exact Below.refl _ _ | with_reducible refine below_alloc ?_ _ ?_ | with_reducible refine Below.setCell ?_ ?_ _ | with_reducible refine Below.drew ?_ | with_reducible refine below_drewN ?_ _ | with_reducible refine below_step ?_ (by assumption) ?_ | with_reducible refine below_mark ?_ (by assumption) ?_)); all_goals (first | omega | (simp; done) | (simp; omega)))
    exact ⟨rfl, _, HM.out.keep hbb.size (fun x hx => hbb.block x (HM.out.lt x hx).2), Touch.of_below hbb⟩
end Go.Proofs.YtiemlefmhleaeaaDoor
