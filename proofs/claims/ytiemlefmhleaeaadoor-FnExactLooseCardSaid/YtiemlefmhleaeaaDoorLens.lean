/- What a call does to memory whose own blocks are told. A row of values that a call may write: one field of one element, and the kids of one element. No walk. -/
import Derived.Test.YtiemlefmhleaeaaDoorOwnV
namespace Go.Proofs.YtiemlefmhleaeaaDoor
set_option linter.unusedVariables false
set_option maxRecDepth 100000
open Go.RowKit
/-- what a call does to memory whose own blocks are A before and A' behind it: of old blocks none but A's turn; what is new in A' is a new block -/
structure Touch (A A' : Nat → Prop) (w w' : World) : Prop where
  os : w'.os = w.os
  tape : w'.tape = w.tape
  output : w'.output = w.output
  size : w.heap.size ≤ w'.heap.size
  block : ∀ k, k < w.heap.size → ¬ A k → w'.heap[k]? = w.heap[k]?
  new : ∀ k, A' k → A k ∨ w.heap.size ≤ k
theorem Touch.trans {A A' A'' : Nat → Prop} {a b c : World} (h : Touch A A' a b) (k : Touch A' A'' b c) : Touch A A'' a c :=
  ⟨k.os.trans h.os, k.tape.trans h.tape, k.output.trans h.output, Nat.le_trans h.size k.size,
    fun i hi hn => (k.block i (Nat.lt_of_lt_of_le hi h.size) (fun e => (h.new i e).elim hn (fun e => by omega))).trans (h.block i hi hn),
    fun i hi => (k.new i hi).elim (fun e => h.new i e) (fun e => .inr (Nat.le_trans h.size e))⟩
theorem Touch.of_below {A : Nat → Prop} {w w' : World} (h : Below w.heap.size w w') : Touch A A w w' :=
  ⟨h.os, h.tape, h.output, h.size, fun k hk _ => h.block k hk, fun _ h => .inl h⟩
theorem Touch.refl (A : Nat → Prop) (w : World) : Touch A A w w := .of_below (Below.refl _ _)
theorem Touch.below {A A' : Nat → Prop} {w w' : World} {B : Nat} (h : Touch A A' w w') (hA : ∀ x, A x → B ≤ x) (hB : B ≤ w.heap.size) : Below B w w' :=
  ⟨h.os, h.tape, h.output, h.size, fun k hk => h.block k (by omega) (fun e => by have := hA k e; omega)⟩
/-- what a captured variable c that holds the slice o owns -/
def own2 (c : Nat) (o : Value) : Nat → Prop := fun x => x = c ∨ o.ownBlock = some x
theorem touch_app {c : Nat} {o v2 : Value} {wr W w2 : World} (hW : Below wr.heap.size wr W) (hg : W.grownBy w2 o.ownBlock) (hfr : FreshOr W o v2) (u : Value) :
    Touch (own2 c o) (own2 c v2) wr (w2.setCell ⟨c, 0, none⟩ u) := by
  refine ⟨hg.os.trans hW.os, hg.tape.trans hW.tape, hg.output.trans hW.output, by simp; exact Nat.le_trans hW.size hg.size, fun k hk hn => ?_, fun k hk => ?_⟩
  · rw [heap_setCell_other _ _ _ _ (fun e => hn (.inl e)), hg.block k (Nat.lt_of_lt_of_le hk hW.size) (fun e => hn (.inr e.symm))]
    exact hW.block k hk
  · rcases hk with hk | hk
    · exact .inl (.inl hk)
    · rcases hfr with e | e
      · rw [e] at hk; exact .inl (.inr hk)
      · rw [e] at hk; simp only [Option.some.injEq] at hk; right; rw [← hk]; exact hW.size
/-- what a slice of the call's own owns -/
def ownR (o : Value) : Nat → Prop := fun x => o.ownBlock = some x
theorem touch_row {o v2 : Value} {wr W w2 : World} (hW : Below wr.heap.size wr W) (hg : W.grownBy w2 o.ownBlock) (hfr : FreshOr W o v2) : Touch (ownR o) (ownR v2) wr w2 := by
  refine ⟨hg.os.trans hW.os, hg.tape.trans hW.tape, hg.output.trans hW.output, Nat.le_trans hW.size hg.size, fun k hk hn => ?_, fun k hk => ?_⟩
  · rw [hg.block k (Nat.lt_of_lt_of_le hk hW.size) (fun e => hn e.symm)]; exact hW.block k hk
  · unfold ownR at hk ⊢
    rcases hfr with e | e
    · rw [e] at hk; exact .inl hk
    · rw [e] at hk; simp only [Option.some.injEq] at hk; right; rw [← hk]; exact hW.size
end Go.Proofs.YtiemlefmhleaeaaDoor
namespace Go.Proofs.YtiemlefmhleaeaaDoor
set_option linter.unusedVariables false
set_option maxRecDepth 100000
open Go.RowKit
theorem OwnS.form {w : World} {F : Nat → Prop} {v : Value} {ts : List V} (h : OwnS w F v ts) : ∃ a b off cap, v = .slice a ts.length cap ∧ (ts ≠ [] → a = some ⟨b, off, none⟩) ∧ ts.length ≤ cap ∧ cap ≤ 9223372036854775807 := by
  cases h with
  | mk F0 a b off cap ts0 sls Fs ha hc hm hb hF hd cells wfs kids => exact ⟨a, b, off, cap, rfl, ha, hc, hm⟩
/-- what is known of one element -/
theorem OwnS.elem {w : World} {F : Nat → Prop} {b off n cap j : Nat} {ts : List V} (h : OwnS w F (.slice (some ⟨b, off, none⟩) n cap) ts) (hj : j < ts.length) :
    F b ∧ b < w.heap.size ∧ (∀ o, w.frozen? ⟨b, o, none⟩ = false) ∧ ts[j].wf ∧ ∃ sl, Cells5 w b (off + j * 5) ts[j] sl ∧
      ∃ F' : Nat → Prop, (∀ x, F' x → F x ∧ x ≠ b) ∧ OwnS w F' sl ts[j].kids ∧ ∀ w' ks, OwnS w' F' sl ks → Touch F' F' w w' → OwnS w' F (.slice (some ⟨b, off, none⟩) n cap) (ts.set j (.mk ts[j].k ts[j].n ts[j].e ts[j].s ks)) := by
  generalize hv : Value.slice (some ⟨b, off, none⟩) n cap = v at h
  cases h with
  | mk F0 a b0 off0 cap0 ts0 sls Fs ha hc hm hb hF hd cells wfs kids =>
    have hne : ts ≠ [] := by intro e; rw [e] at hj; simp at hj
    obtain ⟨hFb, cur, E, hcur⟩ := hb hne
    have ha' := ha hne
    subst ha'
    simp only [Value.slice.injEq, Option.some.injEq, Addr.mk.injEq, and_true] at hv
    obtain ⟨⟨rfl, rfl⟩, rfl, rfl⟩ := hv
    refine ⟨hFb, lt_of_heap hcur, fun o => frozen_of_row w b o cur E hcur, wfs j hj, sls j, cells j hj, Fs j, hF j hj, kids j hj, fun w' ks ho ht => ?_⟩
    have hbb : w'.heap[b]? = w.heap[b]? := ht.block b (lt_of_heap hcur) (fun e => (hF j hj b e).2 rfl)
    have hlen : (ts.set j (.mk ts[j].k ts[j].n ts[j].e ts[j].s ks)).length = ts.length := by simp
    have := OwnS.mk (w := w') F (some ⟨b, off, none⟩) b off cap (ts.set j (.mk ts[j].k ts[j].n ts[j].e ts[j].s ks)) sls Fs (fun _ => rfl) (by rw [hlen]; exact hc) hm (fun _ => ⟨hFb, cur, E, by rw [hbb]; exact hcur⟩)
      (by rw [hlen]; exact hF) (by rw [hlen]; exact hd) ?_ ?_ ?_
    · rw [hlen] at this; exact this
    · intro i hi
      rw [hlen] at hi
      rw [List.getElem_set]
      have h1 := (cells i hi).keep hbb
      split
      · rename_i e; subst e; exact h1
      · exact h1
    · intro i hi
      rw [hlen] at hi
      rw [List.getElem_set]
      split
      · exact wfs j hj
      · exact wfs i hi
    · intro i hi
      rw [hlen] at hi
      rw [List.getElem_set]
      split
      · rename_i e; subst e; exact ho
      · rename_i e
        refine (kids i hi).keep (fun x hx hxs => ht.block x hxs (fun hx' => ?_))
        rcases Nat.lt_or_gt_of_ne e with h | h
        · exact hd j i h hi x hx' hx
        · exact hd i j h hj x hx hx'
theorem OwnS.field {w : World} {F : Nat → Prop} {b off n cap j c : Nat} {ts : List V} {u : Value} {t' : V} (h : OwnS w F (.slice (some ⟨b, off, none⟩) n cap) ts) (hj : j < ts.length) (hk : t'.kids = ts[j].kids) (hw : t'.wf)
    (hc5 : c < 4) (hc : ∀ sl, Cells5 w b (off + j * 5) ts[j] sl → Cells5 (w.setCell ⟨b, off + j * 5 + c, none⟩ u) b (off + j * 5) t' sl) :
    OwnS (w.setCell ⟨b, off + j * 5 + c, none⟩ u) F (.slice (some ⟨b, off, none⟩) n cap) (ts.set j t') := by
  generalize hv : Value.slice (some ⟨b, off, none⟩) n cap = v at h ⊢
  cases h with
  | mk F0 a b0 off0 cap0 ts0 sls Fs ha hc' hm hb hF hd cells wfs kids =>
    have hne : ts ≠ [] := by intro e; rw [e] at hj; simp at hj
    obtain ⟨hFb, cur, E, hcur⟩ := hb hne
    have ha' := ha hne
    subst ha'
    simp only [Value.slice.injEq, Option.some.injEq, Addr.mk.injEq, and_true] at hv
    obtain ⟨⟨rfl, rfl⟩, rfl, rfl⟩ := hv
    have hlen : (ts.set j t').length = ts.length := by simp
    have hcur' := heap_setCell_same w b (off + j * 5 + c) cur E u hcur
    have hoth : ∀ x, x ≠ b → (w.setCell ⟨b, off + j * 5 + c, none⟩ u).heap[x]? = w.heap[x]? := fun x hx => heap_setCell_other _ _ _ _ hx
    have := OwnS.mk (w := w.setCell ⟨b, off + j * 5 + c, none⟩ u) F (some ⟨b, off, none⟩) b off cap (ts.set j t') sls Fs (fun _ => rfl) (by rw [hlen]; exact hc') hm (fun _ => ⟨hFb, _, E, hcur'⟩)
      (by rw [hlen]; exact hF) (by rw [hlen]; exact hd) ?_ ?_ ?_
    · rw [hlen] at this; exact this
    · intro i hi
      rw [hlen] at hi
      rw [List.getElem_set]
      split
      · rename_i e; subst e; exact hc _ (cells j hj)
      · rename_i e
        obtain ⟨h0, h1, h2, h3, h4⟩ := cells i hi
        refine ⟨?_, ?_, ?_, ?_, ?_⟩
        · refine (World.cell?_setCell_other _ _ _ _ ?_).trans h0; intro e; simp only [Addr.mk.injEq, true_and, and_true] at e; omega
        · refine (World.cell?_setCell_other _ _ _ _ ?_).trans h1; intro e; simp only [Addr.mk.injEq, true_and, and_true] at e; omega
        · refine (World.cell?_setCell_other _ _ _ _ ?_).trans h2; intro e; simp only [Addr.mk.injEq, true_and, and_true] at e; omega
        · refine (World.cell?_setCell_other _ _ _ _ ?_).trans h3; intro e; simp only [Addr.mk.injEq, true_and, and_true] at e; omega
        · refine (World.cell?_setCell_other _ _ _ _ ?_).trans h4; intro e; simp only [Addr.mk.injEq, true_and, and_true] at e; omega
    · intro i hi
      rw [hlen] at hi
      rw [List.getElem_set]
      split
      · exact hw
      · exact wfs i hi
    · intro i hi
      rw [hlen] at hi
      rw [List.getElem_set]
      split
      · rename_i e; subst e; rw [hk]; exact (kids j hj).keep (fun x hx _ => hoth x (hF j hj x hx).2)
      · exact (kids i hi).keep (fun x hx _ => hoth x (hF i hi x hx).2)
theorem touch_cell {F : Nat → Prop} (w : World) (b o : Nat) (u : Value) (h : F b) : Touch F F w (w.setCell ⟨b, o, none⟩ u) :=
  ⟨rfl, rfl, rfl, by simp, fun k _ hn => heap_setCell_other w ⟨b, o, none⟩ k u (fun e => hn (e ▸ h)), fun _ h => .inl h⟩
theorem Touch.mono {A A' B : Nat → Prop} {w w' : World} (h : Touch A A' w w') (hA : ∀ x, A x → B x) (hA' : ∀ x, A' x → B x ∨ A x) : Touch B B w w' :=
  ⟨h.os, h.tape, h.output, h.size, fun k hk hn => h.block k hk (fun e => hn (hA k e)), fun k hk => .inl hk⟩
end Go.Proofs.YtiemlefmhleaeaaDoor
