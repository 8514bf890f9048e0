/- A value under way beside a memory that other calls write. No program in sight. The reference's l10Tag: whether a tag of one of two numbers stands in a value. The reference's way with references: l10Put. The reference's way with references: l10Put, the kids of a value. -/
import Derived.Test.YtiemlefmhleaeaaDoorNote
import Derived.Test.YtiemlefmhleaeaaDoorRefM
import Derived.Test.YtiemlefmhleaeaaDoorKeyU
import Derived.Test.YtiemlefmhleaeaaDoorCopy
import Derived.Test.YtiemlefmhleaeaaDoorSame
import Derived.WalkSpells
import Derived.Lib.Hide
import Derived.Deep.RegionWith
import Derived.Deep.DeepCutAuto
import Derived.Deep.RegionHeld3
namespace Go.Proofs.YtiemlefmhleaeaaDoor
set_option linter.unusedVariables false
set_option maxRecDepth 100000
open Go.RowKit
theorem VRows.ownG {w : World} {base : Nat} {E : TypeId} {G : Nat → Prop} {v : Value} {ts : List V} (h : VRows w base E G v ts) : OwnS w (fun x => G x ∨ v.ownBlock = some x) v ts := by
  obtain ⟨sls, Fs, h⟩ := h
  rcases h.row.2 with ⟨rfl, hn⟩ | ⟨g, cap, cur, rfl, hbg, hg, hnc, hcm, hcs, htake⟩
  · obtain rfl : ts = [] := List.eq_nil_of_length_eq_zero hn
    exact OwnS.nil _ _
  · have hcell : ∀ j u, (flat ts sls)[j]? = some u → w.cell? ⟨g, j, none⟩ = some u := by
      intro j u hu
      have := h.row.cells (g := g) rfl j u hu
      rwa [addr_add _ _ rfl, Nat.zero_add] at this
    refine .mk _ (some ⟨g, 0, none⟩) g 0 cap ts (fun i => sls.getD i undef) Fs (fun _ => rfl) hnc (by simpa [maxLen] using hcm) (fun _ => ⟨.inr rfl, cur, E, hg⟩) ?_ h.dis ?_ h.wfs h.kids
    · intro i hi x hx
      have hG := h.sub i hi x hx
      exact ⟨.inl hG, by intro e; subst e; exact h.own x rfl hG⟩
    · intro i hi
      have hi2 : i < sls.length := by rw [h.len]; exact hi
      obtain ⟨h0, h1, h2, h3, h4⟩ := flat_get ts sls i hi hi2
      rw [Nat.zero_add, List.getD_eq_getElem?_getD, List.getElem?_eq_getElem hi2]
      exact ⟨hcell _ _ h0, hcell _ _ h1, hcell _ _ h2, hcell _ _ h3, hcell _ _ h4⟩
/-- a value without kids owns nothing -/
theorem RepS.ownAny {w : World} {v : Value} (h : RepS w v []) (W : World) (F : Nat → Prop) : OwnS W F v [] := by
  generalize hts : ([] : List V) = ts at h
  cases h with
  | mk a b off cap ts0 sls ha hc hm hb cells wfs kids =>
    subst hts
    exact .mk F a b off cap [] sls (fun _ _ => False) ha hc hm (fun h => absurd rfl h) (by simp) (by simp) (by simp) (by simp) (by simp)
theorem own_one {w : World} {F : Nat → Prop} {b : Nat} {t : V} {sl : Value} {E : TypeId} (hb : w.heap[b]? = some (.cells #[.int .i64 t.k, .int .i64 t.n, .int .i64 t.e, .string t.s, sl] E (0, 0))) (ht : t.wf) (h : OwnS w F sl t.kids) (hF : ¬ F b) :
    OwnS w (fun x => F x ∨ x = b) (.slice (some ⟨b, 0, none⟩) 1 1) [t] := by
  refine .mk _ (some ⟨b, 0, none⟩) b 0 1 [t] (fun _ => sl) (fun _ => F) (fun _ => rfl) (by simp) (by omega) (fun _ => ⟨.inr rfl, _, _, hb⟩) (fun i hi x hx => ⟨.inl hx, fun e => hF (e ▸ hx)⟩) (fun i j hij hj => by simp at hj; omega) (fun i hi => ?_) (fun i hi => ?_) (fun i hi => ?_)
  · obtain rfl : i = 0 := by simpa using hi
    have hc := fun j => cell_of_row w b j _ _ (0, 0) hb
    exact ⟨by rw [hc]; rfl, by rw [hc]; rfl, by rw [hc]; rfl, by rw [hc]; rfl, by rw [hc]; rfl⟩
  · obtain rfl : i = 0 := by simpa using hi
    exact ht
  · obtain rfl : i = 0 := by simpa using hi
    exact h
/-- the kids of a value, each by a function but for keys -/
def kdT (f : V → List V × Bool → V × (List V × Bool)) (b : Bool) (t : V) (S : List V × Bool) : V × (List V × Bool) := if b then (t, keyG S t) else f t S
def kdS (f : V → List V × Bool → V × (List V × Bool)) (m : Bool) : Nat → List V → List V × Bool → List V × (List V × Bool)
  | _, [], S => ([], S)
  | i, t :: ts, S => ((kdT f (m && decide (i % 2 = 0)) t S).1 :: (kdS f m (i + 1) ts (kdT f (m && decide (i % 2 = 0)) t S).2).1, (kdS f m (i + 1) ts (kdT f (m && decide (i % 2 = 0)) t S).2).2)
theorem kdS_snoc (f : V → List V × Bool → V × (List V × Bool)) (m : Bool) : ∀ (ts : List V) (i : Nat) (t : V) (S : List V × Bool), kdS f m i (ts ++ [t]) S =
    ((kdS f m i ts S).1 ++ [(kdT f (m && decide ((i + ts.length) % 2 = 0)) t (kdS f m i ts S).2).1], (kdT f (m && decide ((i + ts.length) % 2 = 0)) t (kdS f m i ts S).2).2)
  | [], i, t, S => by simp [kdS]
  | u :: ts, i, t, S => by
    rw [List.cons_append, kdS, kdS, kdS_snoc f m ts (i + 1) t, List.length_cons, show i + 1 + ts.length = i + (ts.length + 1) by omega]; rfl
theorem kdS_take (f : V → List V × Bool → V × (List V × Bool)) (m : Bool) (ts : List V) (S : List V × Bool) (j : Nat) (hj : j < ts.length) : kdS f m 0 (ts.take (j + 1)) S =
    ((kdS f m 0 (ts.take j) S).1 ++ [(kdT f (m && decide (j % 2 = 0)) ts[j] (kdS f m 0 (ts.take j) S).2).1], (kdT f (m && decide (j % 2 = 0)) ts[j] (kdS f m 0 (ts.take j) S).2).2) := by
  rw [List.take_succ_eq_append_getElem hj, kdS_snoc, List.length_take, Nat.min_eq_left (by omega), Nat.zero_add]
theorem kdS_len (f : V → List V × Bool → V × (List V × Bool)) (m : Bool) : ∀ (ts : List V) (i : Nat) (S : List V × Bool), (kdS f m i ts S).1.length = ts.length
  | [], i, S => rfl
  | t :: ts, i, S => by rw [kdS, List.length_cons, List.length_cons, kdS_len f m ts]
theorem kdS_bound (f : V → List V × Bool → V × (List V × Bool)) (hf : ∀ t S, (f t S).2.1.length ≤ S.1.length + t.nodes) (m : Bool) : ∀ (ts : List V) (i : Nat) (S : List V × Bool), (kdS f m i ts S).2.1.length ≤ S.1.length + nodess ts
  | [], i, S => by simp [kdS, nodess]
  | t :: ts, i, S => by
    rw [kdS, nodess]
    have h1 : (kdT f (m && decide (i % 2 = 0)) t S).2.1.length ≤ S.1.length + t.nodes := by
      unfold kdT
      split
      · have := keyR_length S.1 t; rw [V.nodes_eq]; simp only [keyG]; omega
      · exact hf t S
    have h2 := kdS_bound f hf m ts (i + 1) (kdT f (m && decide (i % 2 = 0)) t S).2
    simp only; omega
theorem kdS_put (m : Bool) : ∀ (ts : List V) (i : Nat) (R : List V) (b : Bool), kdS (fun t S => ((putI t S.1).1, ((putI t S.1).2, S.2))) m i ts (R, b) = ((putIs m i ts R).1, ((putIs m i ts R).2, b))
  | [], i, R, b => by simp [kdS, putIs]
  | t :: ts, i, R, b => by
    rw [kdS, putIs_cons]
    have h : kdT (fun t S => ((putI t S.1).1, ((putI t S.1).2, S.2))) (m && decide (i % 2 = 0)) t (R, b) = ((stI (m && decide (i % 2 = 0)) t R).1, ((stI (m && decide (i % 2 = 0)) t R).2, b)) := by
      unfold kdT stI; split <;> rfl
    rw [h, kdS_put m ts]
theorem kdS_get (m : Bool) : ∀ (ts : List V) (i : Nat) (S : List V × Bool), kdS getI m i ts S = getIs m i ts S
  | [], i, S => by simp [kdS, getIs]
  | t :: ts, i, S => by rw [kdS, getIs_cons, kdS_get m ts]; rfl
/-- what a call leaves that turns a value beside a memory -/
def MemRet (B m : Nat) (om : Value) (w : World) (r : V × (List V × Bool)) (e : Ending) (w' : World) : Prop :=
  ∃ sl om', e = .returned (r.1.agg sl) ∧ r.1.wf ∧ OwnS w' (fun x => w.heap.size ≤ x ∧ ¬ ownM m om' x) sl r.1.kids ∧ MOf B m r.2.1 r.2.2 om' w' ∧ Touch (ownM m om) (ownM m om') w w'
theorem MOf.stay {B m : Nat} {R : List V} {bad : Bool} {o : Value} {w w' : World} (h : MOf B m R bad o w) (hb : Below w.heap.size w w') : MOf B m R bad o w' :=
  h.keep hb.size (fun x hx => hb.block x (h.lt x hx).2)
abbrev set5 (w : World) (c : Nat) (v0 v1 v2 v3 v4 : Value) : World := ((((w.setCell ⟨c, 0, none⟩ v0).setCell ⟨c, 1, none⟩ v1).setCell ⟨c, 2, none⟩ v2).setCell ⟨c, 3, none⟩ v3).setCell ⟨c, 4, none⟩ v4
theorem heap_set5 (w : World) (c x : Nat) (v0 v1 v2 v3 v4 : Value) (h : x ≠ c) : (set5 w c v0 v1 v2 v3 v4).heap[x]? = w.heap[x]? := by
  unfold set5
  rw [heap_setCell_other _ _ _ _ h, heap_setCell_other _ _ _ _ h, heap_setCell_other _ _ _ _ h, heap_setCell_other _ _ _ _ h, heap_setCell_other _ _ _ _ h]
theorem below_set5 (w : World) (c : Nat) (v0 v1 v2 v3 v4 : Value) : Below c w (set5 w c v0 v1 v2 v3 v4) := by
  unfold set5
  exact (((((Below.refl c w).setCell (Nat.le_refl c) v0).setCell (Nat.le_refl c) v1).setCell (Nat.le_refl c) v2).setCell (Nat.le_refl c) v3).setCell (Nat.le_refl c) v4
theorem size_set5 (w : World) (c : Nat) (v0 v1 v2 v3 v4 : Value) : (set5 w c v0 v1 v2 v3 v4).heap.size = w.heap.size := by simp [set5]
theorem OwnS.set5 {w : World} {F : Nat → Prop} {v : Value} {ts : List V} (h : OwnS w F v ts) (c : Nat) (hc : ¬ F c) (v0 v1 v2 v3 v4 : Value) : OwnS (Go.Proofs.YtiemlefmhleaeaaDoor.set5 w c v0 v1 v2 v3 v4) F v ts :=
  h.keep (fun x hx _ => heap_set5 _ _ _ _ _ _ _ _ (fun e => hc (e ▸ hx)))
theorem Touch.set5 {A A' : Nat → Prop} {w W : World} (h : Touch A A' w W) (c : Nat) (hc : w.heap.size ≤ c) (v0 v1 v2 v3 v4 : Value) : Touch A A' w (Go.Proofs.YtiemlefmhleaeaaDoor.set5 W c v0 v1 v2 v3 v4) :=
  ⟨(below_set5 W c v0 v1 v2 v3 v4).os.trans h.os, (below_set5 W c v0 v1 v2 v3 v4).tape.trans h.tape, (below_set5 W c v0 v1 v2 v3 v4).output.trans h.output, by rw [size_set5]; exact h.size, fun x hx hn => (heap_set5 _ _ _ _ _ _ _ _ (by omega)).trans (h.block x hx hn), h.new⟩
theorem MOf.set5 {B m : Nat} {R : List V} {bad : Bool} {o : Value} {w : World} (h : MOf B m R bad o w) (c : Nat) (hc : ¬ ownM m o c) (v0 v1 v2 v3 v4 : Value) : MOf B m R bad o (Go.Proofs.YtiemlefmhleaeaaDoor.set5 w c v0 v1 v2 v3 v4) :=
  h.keep (by rw [size_set5]; exact Nat.le_refl _) (fun x hx => heap_set5 _ _ _ _ _ _ _ _ (fun e => hc (e ▸ hx)))
/-- a value under way beside a memory: its box b, the row of its kids behind it, the memory apart from both -/
structure KAcc (w W : World) (b B m : Nat) (k n e : Int) (s : ByteArray) (us : List V) (o : Value) (G : Nat → Prop) (S : List V × Bool) (om0 om : Value) : Prop where
  box : Box W b k n e s o 28
  rows : VRows W (b + 1) 28 G o us
  mem : MOf B m S.1 S.2 om W
  sep : ∀ x, ownM m om x → x ≠ b ∧ ¬ G x ∧ o.ownBlock ≠ some x
  touch : Touch (fun x => x = b ∨ ownM m om0 x) (fun x => x = b ∨ ownM m om x) w W
  hwb : w.heap.size = b + 1
theorem KAcc.stay {w W W' : World} {b B m : Nat} {k n e : Int} {s : ByteArray} {us : List V} {o : Value} {G : Nat → Prop} {S : List V × Bool} {om0 om : Value} (h : KAcc w W b B m k n e s us o G S om0 om) (hb : Below W.heap.size W W') : KAcc w W' b B m k n e s us o G S om0 om :=
  ⟨h.box.stay hb, h.rows.keep hb, h.mem.stay hb, h.sep, h.touch.trans (Touch.of_below hb), h.hwb⟩
theorem KAcc.over {w W W' : World} {b B m : Nat} {k n e : Int} {s : ByteArray} {us : List V} {o : Value} {G : Nat → Prop} {S S' : List V × Bool} {om0 om om' : Value} (h : KAcc w W b B m k n e s us o G S om0 om)
    (ht : Touch (ownM m om) (ownM m om') W W') (hm : MOf B m S'.1 S'.2 om' W') : KAcc w W' b B m k n e s us o G S' om0 om' := by
  have hl := h.box.lt
  refine ⟨(ht.block b hl (fun e => (h.sep b e).1 rfl)).trans h.box, h.rows.move ht.size (fun x hx => ?_), hm, fun x hx => ?_, h.touch.trans ⟨ht.os, ht.tape, ht.output, ht.size, fun x hx hn => ht.block x hx (fun e => hn (.inr e)), fun x hx => hx.elim (fun e => .inl (.inl e)) (fun e => (ht.new x e).imp .inr id)⟩, h.hwb⟩
  · refine ht.block x ?_ (fun e => ?_)
    · rcases hx with hx | hx
      · exact (h.rows.inG x hx).2
      · exact (h.rows.lt x hx).2
    · have := h.sep x e
      rcases hx with hx | hx
      · exact this.2.1 hx
      · exact this.2.2 hx
  · rcases ht.new x hx with h1 | h1
    · exact h.sep x h1
    · exact ⟨by omega, fun hG => by have := (h.rows.inG x hG).2; omega, fun e => by have := (h.rows.lt x e).2; omega⟩
theorem KAcc.put {w W W1 W2 : World} {b B m : Nat} {k n e : Int} {s : ByteArray} {us us2 : List V} {o v2 : Value} {G G2 : Nat → Prop} {S : List V × Bool} {om0 om : Value} (h : KAcc w W b B m k n e s us o G S om0 om)
    (hW : Below W.heap.size W W1) (hg : W1.grownBy W2 o.ownBlock) (hfr : FreshOr W1 o v2) (hr : VRows W2 (b + 1) 28 G2 v2 us2) (hG : ∀ x, G2 x → G x ∨ ¬ ownM m om x) :
    KAcc w (W2.setCell ⟨b, 4, none⟩ v2) b B m k n e s us2 v2 G2 S om0 om := by
  have hl := h.box.lt
  have z1 := hW.size
  have z2 := hg.size
  have hz := h.touch.size
  have hwb := h.hwb
  have B2 : Box W2 b k n e s o 28 := by
    have hn : o.ownBlock ≠ some b := fun e => by have := (h.rows.lt b e).1; omega
    exact (hg.block b (by omega) (fun e => hn e.symm)).trans (h.box.stay hW)
  have hold : ∀ x, x < W.heap.size → x ≠ b → o.ownBlock ≠ some x → (W2.setCell ⟨b, 4, none⟩ v2).heap[x]? = W.heap[x]? := fun x hx h1 h2 => by
    rw [heap_setCell_other _ _ _ _ h1, hg.block x (by omega) (fun e => h2 e.symm)]; exact hW.block x hx
  refine ⟨B2.set4, hr.move (by simp) (fun x hx => heap_setCell_other _ _ _ _ (fun e => ?_)), ?_, fun x hx => ?_, ?_, hwb⟩
  · have e' : x = b := e
    rcases hx with hx | hx
    · have := (hr.inG x hx).1; omega
    · have := (hr.lt x hx).1; omega
  · exact h.mem.keep (by simp; omega) (fun x hx => hold x (h.mem.lt x hx).2 (h.sep x hx).1 (h.sep x hx).2.2)
  · have h1 := h.sep x hx
    have h2 := (h.mem.lt x hx).2
    refine ⟨h1.1, fun hG2 => (hG x hG2).elim h1.2.1 (fun h3 => h3 hx), fun e => ?_⟩
    rcases hfr with h3 | h3
    · exact h1.2.2 (h3.symm.trans e)
    · rw [h3] at e; simp only [Option.some.injEq] at e; omega
  · refine ⟨hg.os.trans (hW.os.trans h.touch.os), hg.tape.trans (hW.tape.trans h.touch.tape), hg.output.trans (hW.output.trans h.touch.output), by simp; omega, fun x hx hn => ?_, h.touch.new⟩
    exact (hold x (by omega) (fun e => hn (.inl e)) (fun e => by have := (h.rows.lt x e).1; omega)).trans (h.touch.block x hx hn)
/-- a block apart from all of it is written -/
theorem KAcc.aside {w W : World} {b B m : Nat} {k n e : Int} {s : ByteArray} {us : List V} {o : Value} {G : Nat → Prop} {S : List V × Bool} {om0 om : Value} (h : KAcc w W b B m k n e s us o G S om0 om) (c : Nat)
    (hcb : c ≠ b) (hcG : ¬ G c) (hco : o.ownBlock ≠ some c) (hcm : ¬ ownM m om c) (hcw : w.heap.size ≤ c) (v0 v1 v2 v3 v4 : Value) : KAcc w (set5 W c v0 v1 v2 v3 v4) b B m k n e s us o G S om0 om := by
  have hz := size_set5 W c v0 v1 v2 v3 v4
  have hk : ∀ x, x ≠ c → (set5 W c v0 v1 v2 v3 v4).heap[x]? = W.heap[x]? := fun x hx => heap_set5 _ _ _ _ _ _ _ _ hx
  refine ⟨(hk b hcb.symm).trans h.box, h.rows.move (by omega) (fun x hx => hk x (fun e => ?_)), h.mem.keep (by omega) (fun x hx => hk x (fun e => hcm (e ▸ hx))), h.sep, ⟨(below_set5 W c v0 v1 v2 v3 v4).os.trans h.touch.os, (below_set5 W c v0 v1 v2 v3 v4).tape.trans h.touch.tape, (below_set5 W c v0 v1 v2 v3 v4).output.trans h.touch.output, by rw [hz]; exact h.touch.size, fun x hx hn => (hk x (by omega)).trans (h.touch.block x hx hn), h.touch.new⟩, h.hwb⟩
  subst e
  exact hx.elim hcG hco
theorem KAcc.nil {w W : World} {b B m : Nat} {k n e : Int} {s : ByteArray} {S : List V × Bool} {om : Value} (hm : MOf B m S.1 S.2 om w) (hb : Below w.heap.size w W) (hB : Box W b k n e s (.slice none 0 0) 28) (hwb : w.heap.size ≤ b) (hz : W.heap.size = b + 1) :
    KAcc W W b B m k n e s [] (.slice none 0 0) (fun _ => False) S om om :=
  ⟨hB, VRows.nil _ _ _, hm.stay hb, fun x hx => ⟨by have := (hm.lt x hx).2; omega, id, by simp [Value.ownBlock]⟩, Touch.refl _ _, hz⟩
theorem KAcc.own {w W : World} {b B m : Nat} {k n e : Int} {s : ByteArray} {us : List V} {o : Value} {G : Nat → Prop} {S : List V × Bool} {om0 om : Value} (h : KAcc w W b B m k n e s us o G S om0 om) :
    OwnS W (fun x => b + 1 ≤ x ∧ ¬ ownM m om x) o us := by
  refine h.rows.ownG.mono (fun x hx => ?_)
  rcases hx with hx | hx
  · exact ⟨(h.rows.inG x hx).1, fun e => (h.sep x e).2.1 hx⟩
  · exact ⟨(h.rows.lt x hx).1, fun e => (h.sep x e).2.2 hx⟩
theorem KAcc.done {w0 w W : World} {b B m : Nat} {k n e : Int} {s : ByteArray} {us : List V} {o : Value} {G : Nat → Prop} {S : List V × Bool} {om0 om : Value} (h : KAcc w W b B m k n e s us o G S om0 om) (hb : Below w0.heap.size w0 w) (hwb : w0.heap.size ≤ b) :
    Touch (ownM m om0) (ownM m om) w0 W := by
  have h1 := hb.size
  refine ⟨h.touch.os.trans hb.os, h.touch.tape.trans hb.tape, h.touch.output.trans hb.output, Nat.le_trans h1 h.touch.size, fun x hx hn => ?_, fun x hx => ?_⟩
  · exact (h.touch.block x (by omega) (fun e => e.elim (fun e => by omega) hn)).trans (hb.block x hx)
  · rcases h.touch.new x (.inr hx) with (h2 | h2) | h2
    · exact .inr (by omega)
    · exact .inl h2
    · exact .inr (by omega)
/-- a block that was there before the call, or beside b -/
theorem KAcc.block {w W : World} {b B m : Nat} {k n e : Int} {s : ByteArray} {us : List V} {o : Value} {G : Nat → Prop} {S : List V × Bool} {om0 om : Value} (h : KAcc w W b B m k n e s us o G S om0 om) {c : Nat} (hc : c < b) (hm : ¬ ownM m om0 c) : W.heap[c]? = w.heap[c]? :=
  h.touch.block c (by have := h.hwb; omega) (fun e => e.elim (fun e => by omega) hm)
end Go.Proofs.YtiemlefmhleaeaaDoor
namespace Go.Proofs.YtiemlefmhleaeaaDoor
set_option linter.unusedVariables false
set_option maxRecDepth 100000
open Go.RowKit
set_option maxHeartbeats 1000000 in
theorem l10Tag_any (w0 : World) (ta tb : Int) : ∀ (N : Nat) (v : Value) (t : V), t.sz < N → Rep w0 v t → t.sz ≤ 1048576 → ∀ (w : World), Below w0.heap.size w0 w →
    Calls Tryd.prog 77 #[v, .int .i64 ta, .int .i64 tb] w (BoolRet (hasT ta tb t) w) := by
  intro N
  induction N with
  | zero => intro v t h; omega
  | succ N ih =>
  intro v t hN h hsz w hw
  obtain ⟨sl, rfl, hwf, hr⟩ := h
  have hts := V.sz_eq t
  have hlen := szs_length t.kids
  obtain ⟨a, b, off, cap, rfl, ha, hc, hm, sls, hel⟩ := hr.opened
  have HA := Lib.hid ha; have HE := Lib.hid hel; have HW := Lib.hid hw
  have V1 := Lib.hid (fun (j : Nat) (hj : j < t.kids.length) (W : World) (hW : Below w0.heap.size w0 W) => ih (t.kids[j].agg (sls j)) t.kids[j] (by have h1 := szs_mem (List.getElem_mem hj); omega) ⟨sls j, rfl, (HE.out j hj).2.1, (HE.out j hj).2.2⟩ (by have h1 := szs_mem (List.getElem_mem hj); omega) W hW)
  have hl : t.kids.length ≤ 1048576 := by omega
  have HT := Lib.hid (show hasT ta tb t = ((decide (t.k = 9) && (decide (t.n = ta) || decide (t.n = tb))) || hasTs ta tb t.kids) from hasT_eq ta tb t)
  have HTK := Lib.hid (fun (j : Nat) (hj : j < t.kids.length) => hasTs_take ta tb t.kids j hj)
  have HST := Lib.hid (fun (j : Nat) (hj : j < t.kids.length) => hasTs_stuck ta tb t.kids j hj)
  have BX := Lib.hid (Box.new w t.k t.n t.e t.s (.slice a t.kids.length cap) 28)
  clear ih hel ha hc hm hN hr hwf hlen hts hsz
  unfold V.agg
  generalize hasT ta tb t = R at *
  generalize t.k = k at *
  generalize t.n = n at *
  generalize t.e = e at *
  generalize t.s = s at *
  generalize t.kids = ts at *
  by_cases hu : k = 9 ∧ (n = ta ∨ n = tb)
  · have t1 : (k == 9) = true := by simpa using hu.1
    have HR := Lib.hid (show R = true by rw [HT.out]; rcases hu.2 with h | h <;> simp [hu.1, h])
    have key : (n == ta) = true ∨ ((n == ta) = false ∧ (n == tb) = true) := by
      by_cases h1 : n = ta
      · exact .inl (by simpa using h1)
      · exact .inr ⟨by simpa using h1, by simpa using hu.2.resolve_left h1⟩
    clear hu HT
    rcases key with t2 | ⟨t2, t3⟩
    all_goals
      go_enter Tryd.func77, Tryd.ntmps77
      go_wp2_with fail
      go_ret
      exact ⟨by rw [HR.out]; rfl, (by (repeat' (first | with_reducible exact Below.refl _ _ | with_reducible refine below_alloc ?_ _ ?_ | with_reducible refine Below.setCell ?_ ?_ _ | with_reducible refine Below.drew ?_ | with_reducible refine below_drewN ?_ _ | with_reducible refine below_step ?_ (by assumption) ?_ | with_reducible refine below_mark ?_ (by assumption) ?_)); all_goals (first | omega | (simp; done) | (simp; omega)))⟩
  · have HR := Lib.hid (show R = hasTs ta tb ts from by
      rw [HT.out]
      by_cases h9 : k = 9
      · have h4 : ¬ n = ta ∧ ¬ n = tb := ⟨fun e => hu ⟨h9, .inl e⟩, fun e => hu ⟨h9, .inr e⟩⟩
        simp [h4.1, h4.2]
      · simp [h9])
    have key : (k == 9) = false ∨ ((k == 9) = true ∧ (n == ta) = false ∧ (n == tb) = false) := by
      by_cases h9 : k = 9
      · exact .inr ⟨by simpa using h9, by simpa using fun e => hu ⟨h9, .inl e⟩, by simpa using fun e => hu ⟨h9, .inr e⟩⟩
      · exact .inl (by simpa using h9)
    clear hu HT
    rcases key with t1 | ⟨t1, t2, t3⟩
    all_goals
      go_enter Tryd.func77, Tryd.ntmps77
      go_wp2_with fail
      go_loopw [7] (fun i wr => ∃ j : Nat, j ≤ ts.length ∧ i = .int .i64 j ∧ hasTs ta tb (ts.take j) = false ∧ Below (w.alloc (.cells #[.int .i64 k, .int .i64 n, .int .i64 e, .string s, .slice a ts.length cap] 28)).heap.size (w.alloc (.cells #[.int .i64 k, .int .i64 n, .int .i64 e, .string s, .slice a ts.length cap] 28)) wr) (fun i _ => ts.length + 1 - (intOf i).toNat)
      case atStart => exact ⟨0, by omega, rfl, rfl, Below.refl _ _⟩
      case round =>
        obtain ⟨j, hj, rfl, hq, hbl⟩ := hrel
        have HQ := Lib.hid hq; clear hq
        have HBL := Lib.hid (show Below w.heap.size w wr from Below.trans ((by (repeat' (first | with_reducible exact Below.refl _ _ | with_reducible refine below_alloc ?_ _ ?_ | with_reducible refine Below.setCell ?_ ?_ _ | with_reducible refine Below.drew ?_ | with_reducible refine below_drewN ?_ _ | with_reducible refine below_step ?_ (by assumption) ?_ | with_reducible refine below_mark ?_ (by assumption) ?_)); all_goals (first | omega | (simp; done) | (simp; omega)))) (hbl.mono (by simp)))
        obtain ⟨q0, -, -, -, q4⟩ := (BX.out.stay hbl).cells
        by_cases hlt : j < ts.length
        · have hne : ts ≠ [] := by intro e; rw [e] at hlt; simp at hlt
          obtain ⟨rfl, hbw⟩ := HA.out hne
          have HWR := Lib.hid (HW.out.trans (HBL.out.mono HW.out.size))
          obtain ⟨c0, c1, c2, c3, c4⟩ := (HE.out j hlt).1.keep (HWR.out.block b hbw)
          have VJ := Lib.hid (fun (W : World) (hW : Below wr.heap.size wr W) => V1.out j hlt W (below_step HWR.out hW (by have := HWR.out.size; omega)))
          have HTJ := Lib.hid (HTK.out j hlt)
          rw [HQ.out, Bool.false_or] at HTJ
          have HSJ := Lib.hid (HST.out j hlt)
          obtain ⟨a3, cap3, hs3⟩ := (HE.out j hlt).2.2.slice
          rw [hs3] at c4 VJ
          clear hs3 V1
          unfold V.agg at VJ
          generalize hasT ta tb ts[j] = bj at *
          cases bj with
          | true =>
            have H := Lib.hid (show R = true by rw [HR.out]; exact HSJ.out rfl)
            clear HTJ HSJ
            go_wp2_with fail
            refine (VJ.out _ ((by (repeat' (first | with_reducible exact Below.refl _ _ | with_reducible refine below_alloc ?_ _ ?_ | with_reducible refine Below.setCell ?_ ?_ _ | with_reducible refine Below.drew ?_ | with_reducible refine below_drewN ?_ _ | with_reducible refine below_step ?_ (by assumption) ?_ | with_reducible refine below_mark ?_ (by assumption) ?_)); all_goals (first | omega | (simp; done) | (simp; omega))))).mono ?_
            rintro x w1 ⟨rfl, hb1⟩
            go_wp2_with fail
            go_ret
            exact ⟨by rw [H.out]; rfl, HBL.out.trans (Below.mono ((by (repeat' (first | with_reducible exact Below.refl _ _ | with_reducible refine below_alloc ?_ _ ?_ | with_reducible refine Below.setCell ?_ ?_ _ | with_reducible refine Below.drew ?_ | with_reducible refine below_drewN ?_ _ | with_reducible refine below_step ?_ (by assumption) ?_ | with_reducible refine below_mark ?_ (by assumption) ?_)); all_goals (first | omega | (simp; done) | (simp; omega)))) HBL.out.size)⟩
          | false =>
            clear HSJ
            go_wp2_with fail
            refine (VJ.out _ ((by (repeat' (first | with_reducible exact Below.refl _ _ | with_reducible refine below_alloc ?_ _ ?_ | with_reducible refine Below.setCell ?_ ?_ _ | with_reducible refine Below.drew ?_ | with_reducible refine below_drewN ?_ _ | with_reducible refine below_step ?_ (by assumption) ?_ | with_reducible refine below_mark ?_ (by assumption) ?_)); all_goals (first | omega | (simp; done) | (simp; omega))))).mono ?_
            rintro x w1 ⟨rfl, hb1⟩
            go_wp2_with fail
            go_roundw
            case rel => exact ⟨j + 1, by omega, by go_num, HTJ.out, hbl.trans (Below.mono ((by (repeat' (first | with_reducible exact Below.refl _ _ | with_reducible refine below_alloc ?_ _ ?_ | with_reducible refine Below.setCell ?_ ?_ _ | with_reducible refine Below.drew ?_ | with_reducible refine below_drewN ?_ _ | with_reducible refine below_step ?_ (by assumption) ?_ | with_reducible refine below_mark ?_ (by assumption) ?_)); all_goals (first | omega | (simp; done) | (simp; omega)))) hbl.size)⟩
            case measure => simp [intOf]; omega
        · have H := Lib.hid (show R = false by rw [HR.out]; have := HQ.out; rwa [List.take_of_length_le (by omega)] at this)
          go_wp2_with fail
          go_ret
          exact ⟨by rw [H.out]; rfl, HBL.out⟩
end Go.Proofs.YtiemlefmhleaeaaDoor
namespace Go.Proofs.YtiemlefmhleaeaaDoor
set_option linter.unusedVariables false
set_option maxRecDepth 100000
open Go.RowKit
mutual
theorem putT_bound : ∀ (t : V) (key : Bool) (R : List V), (putT t key R).2.length ≤ R.length + t.nodes
  | .mk k n e s ks, key, R => by
    rw [putS_eq, V.nodes_eq]
    split
    · split
      · exact Nat.le_add_right _ _
      · have := keepR_length R (.mk k n e s ks); show (keepR R (.mk k n e s ks)).length ≤ _; omega
    · have := putTs_bound ks R (decide (k = 8)) 0
      show (putTs (decide (k = 8)) 0 ks R).2.length ≤ R.length + (1 + nodess ks)
      omega
theorem putTs_bound : ∀ (ts R : List V) (m : Bool) (i : Nat), (putTs m i ts R).2.length ≤ R.length + nodess ts
  | [], R, m, i => by simp [putTs, nodess]
  | t :: ts, R, m, i => by
    rw [putSs_cons, nodess]
    have h1 : (stS (m && decide (i % 2 = 0)) t R).2.length ≤ R.length + t.nodes := putT_bound t _ R
    have h2 := putTs_bound ts (stS (m && decide (i % 2 = 0)) t R).2 m (i + 1)
    simp only
    omega
 end
theorem putTs_len (m : Bool) : ∀ (ts : List V) (i : Nat) (R : List V), (putTs m i ts R).1.length = ts.length
  | [], i, R => by simp [putTs]
  | t :: ts, i, R => by rw [putSs_cons, List.length_cons, List.length_cons, putTs_len m ts]
/-- all old blocks but z are as they were -/
structure NZ (z : Nat) (w w' : World) : Prop where
  size : w.heap.size ≤ w'.heap.size
  block : ∀ x, x < w.heap.size → x ≠ z → w'.heap[x]? = w.heap[x]?
theorem NZ.refl (z : Nat) (w : World) : NZ z w w := ⟨Nat.le_refl _, fun _ _ _ => rfl⟩
theorem NZ.setCell {z i : Nat} {w w' : World} (h : NZ z w w') (v : Value) : NZ z w (w'.setCell ⟨z, i, none⟩ v) :=
  ⟨by simp; exact h.size, fun x hx hn => (heap_setCell_other _ _ _ _ hn).trans (h.block x hx hn)⟩
theorem NZ.drew {z : Nat} {w w' : World} (h : NZ z w w') : NZ z w w'.drew := ⟨h.size, fun x hx hn => h.block x hx hn⟩
theorem NZ.alloc {z : Nat} {w w' : World} (h : NZ z w w') (o : Obj) : NZ z w (w'.alloc o) :=
  ⟨by simp; have := h.size; omega, fun x hx hn => (heap_alloc_old _ _ (by have := h.size; omega)).trans (h.block x hx hn)⟩
theorem NZ.step {z : Nat} {w w' w2 : World} (h : NZ z w w') (hb : Below w'.heap.size w' w2) : NZ z w w2 :=
  ⟨Nat.le_trans h.size hb.size, fun x hx hn => (hb.block x (by have := h.size; omega)).trans (h.block x hx hn)⟩
theorem OwnS.nz {w w' : World} {F : Nat → Prop} {v : Value} {ts : List V} {z : Nat} (h : OwnS w F v ts) (hF : ∀ x, F x → x ≠ z) (hn : NZ z w w') : OwnS w' F v ts :=
  h.keep (fun x hx hs => hn.block x hs (hF x hx))
theorem RepF.nz {w w' : World} {F : Nat → Prop} {v : Value} {ts : List V} {z : Nat} (h : RepF w F v ts) (hF : ∀ x, F x → x ≠ z) (hn : NZ z w w') : RepF w' F v ts :=
  h.keep hn.size (fun x hx hs => hn.block x hs (hF x hx))
/-- what holds through a statement that writes the result's block z alone -/
structure Sx (z : Nat) (w w2 W : World) : Prop where
  nz : NZ z w2 W
  below : Below w.heap.size w W
  zb : ∃ c0 c1 c2 c3 c4, W.heap[z]? = some (.cells #[c0, c1, c2, c3, c4] 28 (0, 0))
theorem Sx.set {z i : Nat} {w w2 W : World} (h : Sx z w w2 W) (hz : w.heap.size ≤ z) (v : Value) : Sx z w w2 (W.setCell ⟨z, i, none⟩ v) := by
  refine ⟨h.nz.setCell v, h.below.setCell hz v, ?_⟩
  obtain ⟨c0, c1, c2, c3, c4, hc⟩ := h.zb
  have h2 := heap_setCell_same W z i _ _ v hc
  match i, h2 with
  | 0, h2 => exact ⟨_, _, _, _, _, h2⟩
  | 1, h2 => exact ⟨_, _, _, _, _, h2⟩
  | 2, h2 => exact ⟨_, _, _, _, _, h2⟩
  | 3, h2 => exact ⟨_, _, _, _, _, h2⟩
  | 4, h2 => exact ⟨_, _, _, _, _, h2⟩
  | i + 5, h2 =>
    refine ⟨c0, c1, c2, c3, c4, h2.trans ?_⟩
    congr 1
theorem Sx.drew {z : Nat} {w w2 W : World} (h : Sx z w w2 W) : Sx z w w2 W.drew := ⟨h.nz.drew, h.below.drew, h.zb⟩
theorem Sx.next {z : Nat} {w w2 W W' : World} (hb : Below W.heap.size W W') (h : Sx z w w2 W) : Sx z w w2 W' := by
  refine ⟨h.nz.step hb, h.below.trans (hb.mono h.below.size), ?_⟩
  obtain ⟨c0, c1, c2, c3, c4, hc⟩ := h.zb
  exact ⟨c0, c1, c2, c3, c4, (hb.block z (lt_of_heap hc)).trans hc⟩
theorem Sx.box {z : Nat} {w w2 W : World} (h : Sx z w w2 W) (k n e : Int) (s : ByteArray) (sl : Value) : Box (set5 W z (.int .i64 k) (.int .i64 n) (.int .i64 e) (.string s) sl) z k n e s sl 28 := by
  obtain ⟨c0, c1, c2, c3, c4, hc⟩ := h.zb
  have h0 := heap_setCell_same W z 0 _ _ (.int .i64 k) hc
  have h1 := heap_setCell_same _ z 1 _ _ (.int .i64 n) h0
  have h2 := heap_setCell_same _ z 2 _ _ (.int .i64 e) h1
  have h3 := heap_setCell_same _ z 3 _ _ (.string s) h2
  have h4 := heap_setCell_same _ z 4 _ _ sl h3
  exact h4
theorem Sx.cells {z : Nat} {w w2 W : World} (h : Sx z w w2 W) : (∃ c0 c1 c2 c3 c4, W.cell? ⟨z, 0, none⟩ = some c0 ∧ W.cell? ⟨z, 1, none⟩ = some c1 ∧ W.cell? ⟨z, 2, none⟩ = some c2 ∧ W.cell? ⟨z, 3, none⟩ = some c3 ∧ W.cell? ⟨z, 4, none⟩ = some c4) ∧ ∀ i, W.frozen? ⟨z, i, none⟩ = false := by
  obtain ⟨c0, c1, c2, c3, c4, hc⟩ := h.zb
  have h1 := fun i => cell_of_row W z i _ _ (0, 0) hc
  exact ⟨⟨c0, c1, c2, c3, c4, by rw [h1]; rfl, by rw [h1]; rfl, by rw [h1]; rfl, by rw [h1]; rfl, by rw [h1]; rfl⟩, fun i => frozen_of_row W z i _ _ hc⟩
theorem Box.nz {w w' : World} {b z : Nat} {k n e : Int} {s : ByteArray} {sl : Value} {T : TypeId} (h : Box w b k n e s sl T) (hn : NZ z w w') (hb : b ≠ z) : Box w' b k n e s sl T := (hn.block b h.lt hb).trans h
/-- behind an append to a row that is not its own, and the store of the slice -/
theorem RepF.put {W W1 W2 : World} {P : Nat → Prop} {lv o v2 : Value} {R : List V} {b : Nat} (h : RepF W P lv R) (hP : ∀ x, P x → x < W.heap.size → x ≠ b ∧ o.ownBlock ≠ some x) (hW : Below W.heap.size W W1) (hg : W1.grownBy W2 o.ownBlock) :
    RepF (W2.setCell ⟨b, 4, none⟩ v2) P lv R := by
  have z1 := hW.size
  have z2 := hg.size
  refine h.keep (by simp; omega) (fun x hx hs => ?_)
  obtain ⟨h1, h2⟩ := hP x hx hs
  rw [heap_setCell_other _ _ _ _ h1, hg.block x (by omega) (fun e => h2 e.symm)]; exact hW.block x hs
/-- a turned value in memory of its own, and what is remembered: the elder one or a new one -/
def PutSRet (Gl : Nat → Prop) (w : World) (r : V × List V) (e : Ending) (w' : World) : Prop :=
  ∃ sl lv', e = .returned (.tuple #[r.1.agg sl, lv']) ∧ r.1.wf ∧ OwnS w' (fun x => w.heap.size ≤ x) sl r.1.kids ∧ RepF w' (fun x => Gl x ∨ w.heap.size ≤ x) lv' r.2 ∧ Below w.heap.size w w'
set_option maxHeartbeats 4000000 in
theorem l10Put_text (w0 : World) (v : Value) (t : V) (h : Rep w0 v t) (hsz : t.sz ≤ 1048576) (htx : isTx t = true) (Gl : Nat → Prop) (lv : Value) (R : List V) (key : Bool) (w : World) (hw : Below w0.heap.size w0 w) (hl : RepF w Gl lv R) (hR : R.length + t.nodes ≤ 1000000) :
    Calls Tryd.prog 131 #[v, lv, .bool key] w (PutSRet Gl w (putT t key R)) := by
  have h0 := h
  obtain ⟨sl, rfl, hwf, hr⟩ := h
  have hts := V.sz_eq t
  have hws := hw.size
  have hlen := szs_length t.kids
  obtain ⟨la, lc, rfl⟩ := hl.slice
  have hlb : RepF w (fun x => Gl x ∧ x < w.heap.size) (.slice la R.length lc) R := hl.bound
  · have hq : decide (t.k = 5 ∨ t.k = 6) = true := htx
    have HF := Lib.hid (show putT t key R = if 0 ≤ atV R t.k t.s ∧ key = false then (tagV 25 (intV (atV R t.k t.s)), R) else (t, keepR R t) by rw [putS_eq, if_pos htx])
    have AT := Lib.hid (fun (W : World) (hW : Below w.heap.size w W) => l10At_any W (.slice la R.length lc) R (hlb.stay hW).rep W (Below.refl _ _) t.k t.n t.e t.s sl)
    have CP := Lib.hid (fun (W : World) (hW : Below w.heap.size w W) => copy_any w0 (t.agg sl) t h0 hsz W (hw.trans (hW.mono hws)))
    have KP := Lib.hid (fun (W : World) (hW : Below w.heap.size w W) => l10Keep_far (fun x => Gl x ∧ x < w.heap.size) R (.slice la R.length lc) t sl W (hlb.stay hW) (by omega) hwf)
    have hlo : -1 ≤ atV R t.k t.s := idxI_lo _ R 0
    have hhi : atV R t.k t.s < 1000001 := by
      rcases idxI_lt (sameTx t.k t.s) R 0 with h | ⟨_, h⟩
      · unfold atV; omega
      · unfold atV; omega
    have HLB := Lib.hid hlb
    have HWF := Lib.hid hwf
    have BX := Lib.hid (Box.new w t.k t.n t.e t.s sl 28)
    obtain ⟨a, cap, rfl⟩ := hr.slice
    rw [HF.out]
    clear HF h0 hr hwf hl hlb hsz hlen hts htx hR
    unfold ValRet at CP
    unfold KeepFar at KP
    have HPT := Lib.hid (show ∀ (q : Int) e w', In64 q → (∃ b lv', e = .returned (.tuple #[.agg #[.int .i64 9, .int .i64 25, .int .i64 0, .string ⟨#[]⟩, .slice (some ⟨b, 0, none⟩) 1 1], lv']) ∧ OwnS w' (fun x => w.heap.size ≤ x) (.slice (some ⟨b, 0, none⟩) 1 1) [intV q] ∧ RepF w' (fun x => Gl x ∨ w.heap.size ≤ x) lv' R ∧ Below w.heap.size w w') → PutSRet Gl w (tagV 25 (intV q), R) e w' from
      fun q e w' hq ⟨b, lv', h1, h2, h3, h4⟩ => ⟨_, lv', h1, ⟨⟨by show (-9223372036854775808 : Int) ≤ 9; omega, by show (9 : Int) ≤ _; omega⟩, ⟨by show (-9223372036854775808 : Int) ≤ 25; omega, by show (25 : Int) ≤ _; omega⟩, ⟨by show (-9223372036854775808 : Int) ≤ 0; omega, by show (0 : Int) ≤ _; omega⟩, by show ByteArray.size ⟨#[]⟩ ≤ _; simp [ByteArray.size]⟩, h2, h3, h4⟩)
    have HPC := Lib.hid (show ∀ e w', (∃ sl lv', e = .returned (.tuple #[.agg #[.int .i64 t.k, .int .i64 t.n, .int .i64 t.e, .string t.s, sl], lv']) ∧ OwnS w' (fun x => w.heap.size ≤ x) sl t.kids ∧ RepF w' (fun x => Gl x ∨ w.heap.size ≤ x) lv' (keepR R t) ∧ Below w.heap.size w w') → PutSRet Gl w (t, keepR R t) e w' from
      fun e w' ⟨sl, lv', h1, h2, h3, h4⟩ => ⟨sl, lv', h1, HWF.out, h2, h3, h4⟩)
    unfold V.agg at *
    generalize keepR R t = R2 at *
    generalize atV R t.k t.s = q at *
    generalize t.k = k at *
    generalize t.n = n at *
    generalize t.e = e at *
    generalize t.s = s at *
    generalize t.kids = ts at *
    have BZ := Lib.hid (show Box ((w.alloc (.cells #[.int .i64 k, .int .i64 n, .int .i64 e, .string s, .slice a ts.length cap] 28)).alloc (.cells #[.int .i64 0, .int .i64 0, .int .i64 0, .string ⟨#[]⟩, .slice none 0 0] 28)) (w.heap.size + 1) 0 0 0 ⟨#[]⟩ (.slice none 0 0) 28 by
      have := Box.new (w.alloc (.cells #[.int .i64 k, .int .i64 n, .int .i64 e, .string s, .slice a ts.length cap] 28)) 0 0 0 ⟨#[]⟩ (.slice none 0 0) 28
      rwa [show (w.alloc (.cells #[.int .i64 k, .int .i64 n, .int .i64 e, .string s, .slice a ts.length cap] 28)).heap.size = w.heap.size + 1 by simp] at this)
    have key0 : (decide (0 ≤ q) = true ∧ key = false ∧ (0 ≤ q ∧ key = false)) ∨ ((decide (0 ≤ q) = false ∨ (decide (0 ≤ q) = true ∧ key = true)) ∧ ¬ (0 ≤ q ∧ key = false)) := by
      by_cases h1 : 0 ≤ q
      · cases key
        · exact .inl ⟨decide_eq_true h1, rfl, h1, rfl⟩
        · exact .inr ⟨.inr ⟨decide_eq_true h1, rfl⟩, fun e => by cases e.2⟩
      · exact .inr ⟨.inl (decide_eq_false h1), fun e => h1 e.1⟩
    rcases key0 with ⟨t2, hk, hc⟩ | ⟨hk, hc⟩
    · rw [if_pos hc]
      subst hk
      have HIN := Lib.hid (show In64 q from ⟨by omega, by omega⟩)
      clear hc CP KP HPC
      go_enter Tryd.func131, Tryd.ntmps131
      go_wp2_with fail
      refine (l10Text_any _ _ _ _ _ _).mono ?_
      rintro x w1 ⟨h1, hb1⟩
      rw [hq] at h1
      subst h1
      have hz1 := hb1.size
      simp at hz1
      have hbw1 : Below w.heap.size w w1 := (by (repeat' (first | with_reducible exact Below.refl _ _ | with_reducible refine below_alloc ?_ _ ?_ | with_reducible refine Below.setCell ?_ ?_ _ | with_reducible refine Below.drew ?_ | with_reducible refine below_drewN ?_ _ | with_reducible refine below_step ?_ (by assumption) ?_ | with_reducible refine below_mark ?_ (by assumption) ?_)); all_goals (first | omega | (simp; done) | (simp; omega)))
      have BX1 := Lib.hid ((BX.out.alloc (.cells #[.int .i64 0, .int .i64 0, .int .i64 0, .string ⟨#[]⟩, .slice none 0 0] 28)).stay hb1)
      have BZ1 := Lib.hid (BZ.out.stay hb1)
      obtain ⟨p0, p1, p2, p3, p4⟩ := BX1.out.cells
      go_wp2_with fail
      refine (AT.out _ hbw1).mono ?_
      rintro x w2 ⟨rfl, hb2⟩
      have hz2 := hb2.size
      have hbw2 : Below w.heap.size w w2 := hbw1.trans (hb2.mono (by omega))
      have BX2 := Lib.hid (BX1.out.stay hb2)
      have BZ2 := Lib.hid (BZ1.out.stay hb2)
      clear p0 p1 p2 p3 p4
      obtain ⟨p0, p1, p2, p3, p4⟩ := BX2.out.cells
      go_wp2_with fail
      refine (l02Int_any q _).mono ?_
      rintro x w3 ⟨rfl, hb3⟩
      have hz3 := hb3.size
      have hbw3 : Below w.heap.size w w3 := hbw2.trans (hb3.mono (by omega))
      have BZ3 := Lib.hid (BZ2.out.stay hb3)
      obtain ⟨z0, z1, z2, z3, z4⟩ := BZ3.out.cells
      have zf0 := BZ3.out.free (i := 0); have zf1 := BZ3.out.free (i := 1); have zf2 := BZ3.out.free (i := 2); have zf3 := BZ3.out.free (i := 3); have zf4 := BZ3.out.free (i := 4)
      have hn1 : w.heap.size + 1 ≠ w3.heap.size := by omega
      have hn2 : w3.heap.size ≠ w.heap.size + 1 := by omega
      have hn3 : w.heap.size + 1 < w3.heap.size := by omega
      go_wp2_with fail
      refine bodyPost_ret (v := .tuple #[.agg #[.int .i64 9, .int .i64 25, .int .i64 0, .string ⟨#[]⟩, .slice (some ⟨w3.heap.size, 0, none⟩) 1 1], .slice la R.length lc]) (by simp [results, Tryd.results131, go_sem, z0, z1, z2, z3, z4, hn3]) rfl (HPT.out q _ _ HIN.out ⟨w3.heap.size, _, rfl, ?_, ?_, ?_⟩)
      · refine OwnS.mono (F := fun x => False ∨ x = w3.heap.size) ?_ (fun x hx => by rcases hx with h | h; exact h.elim; omega)
        exact own_one (E := 28) (sl := .slice none 0 0) (heap_alloc_here _ (by simp)) ⟨⟨by show (-9223372036854775808 : Int) ≤ 3; omega, by show (3 : Int) ≤ _; omega⟩, HIN.out, ⟨by show (-9223372036854775808 : Int) ≤ 0; omega, by show (0 : Int) ≤ _; omega⟩, by show ByteArray.size ⟨#[]⟩ ≤ _; simp [ByteArray.size]⟩ (OwnS.nil _ _) (fun h => h)
      · refine RepF.mono (G := fun x => Gl x ∧ x < w.heap.size) ?_ (fun x hx _ => .inl hx.1)
        refine RepF.nz (z := w.heap.size + 1) (HLB.out.stay hbw3) (fun x hx => by have := hx.2; omega) (by (repeat' (first | with_reducible exact NZ.refl _ _ | with_reducible refine NZ.setCell ?_ _ | with_reducible refine NZ.drew ?_ | with_reducible refine NZ.alloc ?_ _ | with_reducible refine NZ.step ?_ (by assumption))))
      · exact (by (repeat' (first | with_reducible exact Below.refl _ _ | with_reducible refine below_alloc ?_ _ ?_ | with_reducible refine Below.setCell ?_ ?_ _ | with_reducible refine Below.drew ?_ | with_reducible refine below_drewN ?_ _ | with_reducible refine below_step ?_ (by assumption) ?_ | with_reducible refine below_mark ?_ (by assumption) ?_)); all_goals (first | omega | (simp; done) | (simp; omega)))
    · rw [if_neg hc]
      clear hc HPT
      rcases hk with t2 | ⟨t2, rfl⟩
      all_goals
        go_enter Tryd.func131, Tryd.ntmps131
        go_wp2_with fail
        refine (l10Text_any _ _ _ _ _ _).mono ?_
        rintro x w1 ⟨h1, hb1⟩
        rw [hq] at h1
        subst h1
        have hz1 := hb1.size
        simp at hz1
        have hbw1 : Below w.heap.size w w1 := (by (repeat' (first | with_reducible exact Below.refl _ _ | with_reducible refine below_alloc ?_ _ ?_ | with_reducible refine Below.setCell ?_ ?_ _ | with_reducible refine Below.drew ?_ | with_reducible refine below_drewN ?_ _ | with_reducible refine below_step ?_ (by assumption) ?_ | with_reducible refine below_mark ?_ (by assumption) ?_)); all_goals (first | omega | (simp; done) | (simp; omega)))
        have BX1 := Lib.hid ((BX.out.alloc (.cells #[.int .i64 0, .int .i64 0, .int .i64 0, .string ⟨#[]⟩, .slice none 0 0] 28)).stay hb1)
        have BZ1 := Lib.hid (BZ.out.stay hb1)
        obtain ⟨p0, p1, p2, p3, p4⟩ := BX1.out.cells
        go_wp2_with fail
        refine (AT.out _ hbw1).mono ?_
        rintro x w2 ⟨rfl, hb2⟩
        have hz2 := hb2.size
        have hbw2 : Below w.heap.size w w2 := hbw1.trans (hb2.mono (by omega))
        have BX2 := Lib.hid (BX1.out.stay hb2)
        have BZ2 := Lib.hid (BZ1.out.stay hb2)
        clear p0 p1 p2 p3 p4
        obtain ⟨p0, p1, p2, p3, p4⟩ := BX2.out.cells
        have hzz : w.heap.size ≤ w.heap.size + 1 := by omega
        have hxz : w.heap.size ≠ w.heap.size + 1 := by omega
        have hS0 : Sx (w.heap.size + 1) w w2 w2.drew := ⟨(NZ.refl _ _).drew, hbw2.drew, ⟨_, _, _, _, _, BZ2.out⟩⟩
        have xf0 := BZ2.out.free (i := 0); have xf1 := BZ2.out.free (i := 1); have xf2 := BZ2.out.free (i := 2); have xf3 := BZ2.out.free (i := 3); have xf4 := BZ2.out.free (i := 4)
        go_upto_region 5 with fail
        have hz22 : w.heap.size + 1 + 1 ≤ w2.heap.size := by omega
        clear HWF hlo hhi hq hz1 hbw1 BX1 BZ1 hb2 hz2 AT BX BZ hws hw
        go_region_with (first | (go_at_call 78; refine (CP.out _ ?_).mono ?_; exact Sx.below (by repeat' (first | with_reducible assumption | with_reducible refine Sx.set ?_ hzz _ | with_reducible refine Sx.drew ?_)); rintro e5 wc ⟨s5, rfl, wf5, ho5, hbc⟩; obtain ⟨sa5, sn5, sc5, rfl⟩ : ∃ sa sn sc, s5 = .slice sa sn sc := (by obtain ⟨p, q, e⟩ := ho5.slice; exact ⟨p, _, q, e⟩); have hSW := (show Sx (w.heap.size + 1) w w2 _ from (by repeat' (first | with_reducible assumption | with_reducible refine Sx.set ?_ hzz _ | with_reducible refine Sx.drew ?_))); have hG := Sx.next hbc hSW; have hGC := hG; have hzc := hSW.nz.size; have HO := Lib.hid (OwnS.low ho5 (B := w.heap.size + 1 + 1) (by omega)); clear ho5; obtain ⟨⟨x0, x1, x2, x3, x4, g0, g1, g2, g3, g4⟩, xf⟩ := hG.cells; have xf0 := xf 0; have xf1 := xf 1; have xf2 := xf 2; have xf3 := xf 3; have xf4 := xf 4; clear xf; obtain ⟨y0, y1, y2, y3, y4⟩ := (Box.nz BX2.out hG.nz hxz).cells) | (go_at_call 126; refine (KP.out _ ?_).mono ?_; exact Sx.below (by repeat' (first | with_reducible assumption | with_reducible refine Sx.set ?_ hzz _ | with_reducible refine Sx.drew ?_)); rintro e6 wk ⟨lv', rfl, hl6, hbk⟩; obtain ⟨lb, lcc, rfl⟩ := hl6.slice; have hSW2 := (show Sx (w.heap.size + 1) w w2 _ from (by repeat' (first | with_reducible assumption | with_reducible refine Sx.set ?_ hzz _ | with_reducible refine Sx.drew ?_))); have hG := Sx.next hbk hSW2; have hzk := hSW2.nz.size; have HL := Lib.hid (RepF.mono hl6 (G' := fun x => (Gl x ∨ w.heap.size ≤ x) ∧ x ≠ w.heap.size + 1) (fun x hx _ => by rcases hx with h | h; exact ⟨.inl h.1, by have := h.2; omega⟩; exact ⟨.inr (by omega), by omega⟩)); clear hl6; obtain ⟨⟨x0, x1, x2, x3, x4, g0, g1, g2, g3, g4⟩, xf⟩ := hG.cells; have xf0 := xf 0; have xf1 := xf 1; have xf2 := xf 2; have xf3 := xf 3; have xf4 := xf 4; clear xf; obtain ⟨y0, y1, y2, y3, y4⟩ := (Box.nz BX2.out hG.nz hxz).cells))
        all_goals
          go_wp2_with fail
          refine bodyPost_ret (v := .tuple #[.agg #[.int .i64 k, .int .i64 n, .int .i64 e, .string s, .slice sa5 sn5 sc5], .slice lb R2.length lcc]) (by first | (simp [results, Tryd.results131, go_sem, g0, g1, g2, g3, g4]; done) | (obtain ⟨v0, v1, v2, v3, v4⟩ := (Box.stay (Sx.box hGC k n e s (.slice sa5 sn5 sc5)) hbk).cells; simp [results, Tryd.results131, go_sem, v0, v1, v2, v3, v4]; done)) rfl (HPC.out _ _ ⟨_, _, rfl, OwnS.mono (OwnS.nz (z := w.heap.size + 1) HO.out (fun x hx => by omega) (by (repeat' (first | with_reducible exact NZ.refl _ _ | with_reducible refine NZ.setCell ?_ _ | with_reducible refine NZ.drew ?_ | with_reducible refine NZ.alloc ?_ _ | with_reducible refine NZ.step ?_ (by assumption))))) (fun x hx => by omega), (RepF.nz (z := w.heap.size + 1) HL.out (fun x hx => hx.2) (by (repeat' (first | with_reducible exact NZ.refl _ _ | with_reducible refine NZ.setCell ?_ _ | with_reducible refine NZ.drew ?_ | with_reducible refine NZ.alloc ?_ _ | with_reducible refine NZ.step ?_ (by assumption))))).mono (fun x hx _ => hx.1), Sx.below (z := w.heap.size + 1) (w2 := w2) (by repeat' (first | with_reducible assumption | with_reducible refine Sx.set ?_ hzz _ | with_reducible refine Sx.drew ?_))⟩)
end Go.Proofs.YtiemlefmhleaeaaDoor
namespace Go.Proofs.YtiemlefmhleaeaaDoor
set_option linter.unusedVariables false
set_option maxRecDepth 100000
open Go.RowKit
theorem box_set5 {W : World} {z : Nat} {k0 n0 e0 : Int} {s0 : ByteArray} {sl0 : Value} (h : Box W z k0 n0 e0 s0 sl0 28) (k n e : Int) (s : ByteArray) (sl : Value) : Box (set5 W z (.int .i64 k) (.int .i64 n) (.int .i64 e) (.string s) sl) z k n e s sl 28 := by
  have h0 := heap_setCell_same W z 0 _ _ (.int .i64 k) h
  have h1 := heap_setCell_same _ z 1 _ _ (.int .i64 n) h0
  have h2 := heap_setCell_same _ z 2 _ _ (.int .i64 e) h1
  have h3 := heap_setCell_same _ z 3 _ _ (.string s) h2
  exact heap_setCell_same _ z 4 _ _ sl h3
set_option maxHeartbeats 20000000 in
theorem l10Put_any (w0 : World) : ∀ (N : Nat) (v : Value) (t : V) (d : Int), t.sz < N → rightB t d = true → Rep w0 v t → t.sz ≤ 1048576 → ∀ (Gl : Nat → Prop) (lv : Value) (R : List V) (key : Bool) (w : World), Below w0.heap.size w0 w → RepF w Gl lv R → R.length + t.nodes ≤ 1000000 →
    Calls Tryd.prog 131 #[v, lv, .bool key] w (PutSRet Gl w (putT t key R)) := by
  intro N
  induction N with
  | zero => intro v t d h; omega
  | succ N ih =>
  intro v t d hN hright h hsz Gl lv R key w hw hl hR
  by_cases htx : isTx t = true
  · exact l10Put_text w0 v t h hsz htx Gl lv R key w hw hl hR
  rw [Bool.not_eq_true] at htx
  have hq : decide (t.k = 5 ∨ t.k = 6) = false := htx
  obtain ⟨sl, rfl, hwf, hr⟩ := h
  have hts := V.sz_eq t
  have hws := hw.size
  have hlen := szs_length t.kids
  obtain ⟨la, lc, rfl⟩ := hl.slice
  have hlb : RepF w (fun x => Gl x ∧ x < w.heap.size) (.slice la R.length lc) R := hl.bound
  have HF := Lib.hid (show putT t key R = (.mk t.k t.n t.e t.s (putTs (decide (t.k = 8)) 0 t.kids R).1, (putTs (decide (t.k = 8)) 0 t.kids R).2) by rw [putS_eq, if_neg (by rw [htx]; simp)])
  rw [HF.out]
  clear HF
  obtain ⟨a, b, off, cap, rfl, ha, hc, hm, sls, hel⟩ := hr.opened
  have HA := Lib.hid ha; have HE := Lib.hid hel; have HW := Lib.hid hw; have HLB := Lib.hid hlb
  have V1 := Lib.hid (fun (j : Nat) (hj : j < t.kids.length) (G' : Nat → Prop) (lv' : Value) (R' : List V) (kj : Bool) (W : World) (hW : Below w0.heap.size w0 W) (hl' : RepF W G' lv' R') (hR' : R'.length + t.kids[j].nodes ≤ 1000000) => ih (t.kids[j].agg (sls j)) t.kids[j] (d - 1) (by have h1 := szs_mem (List.getElem_mem hj); omega) (rightsB_at (right_kids hright) j hj) ⟨sls j, rfl, (HE.out j hj).2.1, (HE.out j hj).2.2⟩ (by have h1 := szs_mem (List.getElem_mem hj); omega) G' lv' R' kj W hW hl' hR')
  have HBD := Lib.hid (fun (j : Nat) (hj : j < t.kids.length) => show (putTs (decide (t.k = 8)) 0 (t.kids.take j) R).2.length + t.kids[j].nodes ≤ 1000000 by
    have h1 := putTs_bound (t.kids.take j) R (decide (t.k = 8)) 0
    have h2 : nodess (t.kids.take j) + t.kids[j].nodes ≤ nodess t.kids := by
      have h3 := nodess_append (t.kids.take j) (t.kids.drop j)
      rw [List.take_append_drop, List.drop_eq_getElem_cons hj, nodess] at h3
      omega
    have h4 := V.nodes_eq t
    omega)
  have HT := Lib.hid (fun (j : Nat) (hj : j < t.kids.length) => putSs_take (decide (t.k = 8)) t.kids R j hj)
  have HLN := Lib.hid (fun (j : Nat) => putTs_len (decide (t.k = 8)) (t.kids.take j) 0 R)
  have hl9 : t.kids.length ≤ 1048576 := by omega
  have HP := Lib.hid (show ∀ us R2 e w', (∃ sl lv', e = .returned (.tuple #[.agg #[.int .i64 t.k, .int .i64 t.n, .int .i64 t.e, .string t.s, sl], lv']) ∧ OwnS w' (fun x => w.heap.size ≤ x) sl us ∧ RepF w' (fun x => Gl x ∨ w.heap.size ≤ x) lv' R2 ∧ Below w.heap.size w w') → PutSRet Gl w (.mk t.k t.n t.e t.s us, R2) e w' from
    fun us R2 e w' ⟨sl, lv', h1, h2, h3, h4⟩ => ⟨sl, lv', h1, hwf, h2, h3, h4⟩)
  have HKK := Lib.hid (show t.kids ≠ [] → t.k = 7 ∨ t.k = 9 ∨ t.k = 8 from fun hne => by
    rw [rightB_eq] at hright
    simp only [Bool.and_eq_true, ownB] at hright
    have h3 := hright.1.2.2
    by_cases h7 : t.k = 7
    · exact .inl h7
    · by_cases h9 : t.k = 9
      · exact .inr (.inl h9)
      · by_cases h8 : t.k = 8
        · exact .inr (.inr h8)
        · rw [if_neg h7, if_neg h9, if_neg h8] at h3
          have := of_decide_eq_true h3
          exact absurd (List.eq_nil_of_length_eq_zero this) hne)
  have BX := Lib.hid (Box.new w t.k t.n t.e t.s (.slice a t.kids.length cap) 28)
  have hl0 : R.length ≤ 1000000 := by omega
  clear ih hel ha hc hm hN hr hwf hlen hts hsz hl hlb htx hR hright
  unfold V.agg
  generalize t.k = k at *
  generalize t.n = n at *
  generalize t.e = e at *
  generalize t.s = s at *
  generalize t.kids = ts at *
  have BZ := Lib.hid (show Box ((w.alloc (.cells #[.int .i64 k, .int .i64 n, .int .i64 e, .string s, .slice a ts.length cap] 28)).alloc (.cells #[.int .i64 0, .int .i64 0, .int .i64 0, .string ⟨#[]⟩, .slice none 0 0] 28)) (w.heap.size + 1) 0 0 0 ⟨#[]⟩ (.slice none 0 0) 28 by
    have := Box.new (w.alloc (.cells #[.int .i64 k, .int .i64 n, .int .i64 e, .string s, .slice a ts.length cap] 28)) 0 0 0 ⟨#[]⟩ (.slice none 0 0) 28
    rwa [show (w.alloc (.cells #[.int .i64 k, .int .i64 n, .int .i64 e, .string s, .slice a ts.length cap] 28)).heap.size = w.heap.size + 1 by simp] at this)
  obtain ⟨LR, SR, hLR⟩ : ∃ LR SR, putTs (decide (k = 8)) 0 ts R = (LR, SR) := ⟨_, _, rfl⟩
  rw [hLR]
  replace HP := Lib.hid (HP.out LR SR)
  go_enter Tryd.func131, Tryd.ntmps131
  go_wp2_with fail
  refine (l10Text_any _ _ _ _ _ _).mono ?_
  rintro x w1 ⟨h1, hb1⟩
  rw [hq] at h1
  subst h1
  have hz1 := hb1.size
  simp at hz1
  have hbw1 : Below w.heap.size w w1 := (by (repeat' (first | with_reducible exact Below.refl _ _ | with_reducible refine below_alloc ?_ _ ?_ | with_reducible refine Below.setCell ?_ ?_ _ | with_reducible refine Below.drew ?_ | with_reducible refine below_drewN ?_ _ | with_reducible refine below_step ?_ (by assumption) ?_ | with_reducible refine below_mark ?_ (by assumption) ?_)); all_goals (first | omega | (simp; done) | (simp; omega)))
  have BX1 := Lib.hid ((BX.out.alloc (.cells #[.int .i64 0, .int .i64 0, .int .i64 0, .string ⟨#[]⟩, .slice none 0 0] 28)).stay hb1)
  have BZ1 := Lib.hid (BZ.out.stay hb1)
  obtain ⟨p0, p1, p2, p3, p4⟩ := BX1.out.cells
  have BO := Lib.hid (Box.new w1 k n e s (.slice none 0 0) 28)
  have hn1 : w.heap.size ≠ w1.heap.size := by omega
  have hn2 : w1.heap.size ≠ w.heap.size := by omega
  have hn3 : w.heap.size < w1.heap.size := by omega
  go_wp2_with fail
  have HBW := Lib.hid (show Below w.heap.size w (w1.alloc (.cells #[.int .i64 k, .int .i64 n, .int .i64 e, .string s, .slice none 0 0] 28)) from (by (repeat' (first | with_reducible exact Below.refl _ _ | with_reducible refine below_alloc ?_ _ ?_ | with_reducible refine Below.setCell ?_ ?_ _ | with_reducible refine Below.drew ?_ | with_reducible refine below_drewN ?_ _ | with_reducible refine below_step ?_ (by assumption) ?_ | with_reducible refine below_mark ?_ (by assumption) ?_)); all_goals (first | omega | (simp; done) | (simp; omega))))
  have HZW := Lib.hid (show (w1.alloc (.cells #[.int .i64 k, .int .i64 n, .int .i64 e, .string s, .slice none 0 0] 28)).heap.size = w1.heap.size + 1 by simp)
  have BX3 := Lib.hid (BX1.out.alloc (.cells #[.int .i64 k, .int .i64 n, .int .i64 e, .string s, .slice none 0 0] 28))
  have BZ3 := Lib.hid (BZ1.out.alloc (.cells #[.int .i64 k, .int .i64 n, .int .i64 e, .string s, .slice none 0 0] 28))
  clear p0 p1 p2 p3 p4
  generalize w1.alloc (.cells #[.int .i64 k, .int .i64 n, .int .i64 e, .string s, .slice none 0 0] 28) = W3 at *
  go_loopw [10, 1, 11, 12] (fun i l _ _ wr => ∃ (j : Nat) (G : Nat → Prop) (o : Value) (L1 R1 : List V) (la1 : Option Addr) (lc1 : Nat), j ≤ ts.length ∧ i = .int .i64 j ∧ l = .slice la1 R1.length lc1 ∧ putTs (decide (k = 8)) 0 (ts.take j) R = (L1, R1) ∧ Acc W3 wr w1.heap.size (w1.heap.size + 1) k n e s L1 o G ∧ RepF wr (fun x => ((Gl x ∧ x < w.heap.size) ∨ w1.heap.size ≤ x) ∧ x ≠ w1.heap.size ∧ o.ownBlock ≠ some x ∧ x < wr.heap.size) (.slice la1 R1.length lc1) R1) (fun i _ _ _ _ => ts.length + 1 - (intOf i).toNat)
  case atStart =>
    refine ⟨0, _, _, [], R, la, lc, by omega, rfl, rfl, by rw [List.take_zero, putTs], Acc.nil BO.out (Below.refl _ _), ?_⟩
    refine (HLB.out.stay HBW.out).mono (fun x hx _ => ⟨.inl hx, by have := hx.2; omega, by simp [Value.ownBlock], by have := hx.2; have := HZW.out; omega⟩)
  case round =>
    obtain ⟨j, G, o, L1, R1, la1, lc1, hj, rfl, rfl, htr, hacc, hlist⟩ := hrel
    have HACC := Lib.hid hacc; have HTR := Lib.hid htr; have HL := Lib.hid hlist; clear hacc htr hlist
    have HBL := Lib.hid (HBW.out.trans (HACC.out.2.2.mono (by omega)))
    have hz9 := HACC.out.2.2.size
    rw [HZW.out] at hz9
    have BXw := Lib.hid (show Box wr w.heap.size k n e s (.slice a ts.length cap) 28 from (HACC.out.2.2.block w.heap.size (by omega)).trans BX3.out)
    have BZw := Lib.hid (show Box wr (w.heap.size + 1) 0 0 0 ⟨#[]⟩ (.slice none 0 0) 28 from (HACC.out.2.2.block (w.heap.size + 1) (by omega)).trans BZ3.out)
    obtain ⟨q0, q1, q2, q3, q4⟩ := BXw.out.cells
    by_cases hlt : j < ts.length
    · have hne : ts ≠ [] := by intro e; rw [e] at hlt; simp at hlt
      obtain ⟨rfl, hbw⟩ := HA.out hne
      have HWR := Lib.hid (HW.out.trans (HBL.out.mono HW.out.size))
      obtain ⟨c0, c1, c2, c3, c4⟩ := (HE.out j hlt).1.keep (HWR.out.block b hbw)
      have hR1 : R1.length + ts[j].nodes ≤ 1000000 := by have := HBD.out j hlt; rw [HTR.out] at this; exact this
      have VJ := Lib.hid (fun (kj : Bool) (W : World) (hW : Below wr.heap.size wr W) => V1.out j hlt (fun x => ((Gl x ∧ x < w.heap.size) ∨ w1.heap.size ≤ x) ∧ x ≠ w1.heap.size ∧ o.ownBlock ≠ some x ∧ x < wr.heap.size) (.slice la1 R1.length lc1) R1 kj W (below_step HWR.out hW (by have := HWR.out.size; omega)) (HL.out.stay hW) hR1)
      have HTJ := Lib.hid (HT.out j hlt)
      rw [HTR.out] at HTJ
      have HLEN := Lib.hid (show L1.length ≤ 1048576 by have := HLN.out j; rw [HTR.out] at this; rw [this, List.length_take]; omega)
      obtain ⟨a3, cap3, hs3⟩ := (HE.out j hlt).2.2.slice
      rw [hs3] at c4 VJ
      clear hs3 V1 HT HLN HBD hR1
      unfold V.agg at VJ
      have hST : ∀ b : Bool, stS b ts[j] R1 = putT ts[j] b R1 := fun _ => rfl
      rw [hST] at HTJ
      clear hST
      generalize ts[j] = tk at *
      obtain ⟨kj, hkj⟩ : ∃ kj, kj = (decide (k = 8) && decide (j % 2 = 0)) := ⟨_, rfl⟩
      rw [← hkj] at HTJ
      have tt : (k = 7 ∧ kj = false) ∨ (k = 9 ∧ kj = false) ∨ (k = 8 ∧ kj = ((j : Int).tmod 2 == 0)) := by
        rcases HKK.out hne with h | h | h
        · exact .inl ⟨h, by rw [hkj, h]; rfl⟩
        · exact .inr (.inl ⟨h, by rw [hkj, h]; rfl⟩)
        · refine .inr (.inr ⟨h, ?_⟩)
          have hmod : (j : Int).tmod 2 = (j : Int) % 2 := Int.tmod_eq_emod_of_nonneg (by omega)
          rw [hkj, h, hmod]
          by_cases h2 : j % 2 = 0
          · have : ((j : Int) % 2 == 0) = true := by simp; omega
            rw [this]; simp [h2]
          · have : ((j : Int) % 2 == 0) = false := by simp; omega
            rw [this]; simp [h2]
      clear hkj
      replace VJ := Lib.hid (VJ.out kj)
      obtain ⟨u, R2, hpu⟩ : ∃ u R2, putT tk kj R1 = (u, R2) := ⟨_, _, rfl⟩
      rw [hpu] at VJ HTJ
      clear hpu
      have hm1 : w.heap.size ≠ wr.heap.size := by omega
      have hm2 : wr.heap.size ≠ w.heap.size := by omega
      have hm3 : w.heap.size < wr.heap.size := by omega
      have hm4 : b ≠ wr.heap.size := by have := HWR.out.size; omega
      have hm5 : wr.heap.size ≠ b := by have := HWR.out.size; omega
      have hm6 : b < wr.heap.size := by have := HWR.out.size; omega
      go_upto_region 10 with fail
      go_cut [11, 12] (fun p l wx => ∃ (bk : Nat) (ua : Option Addr) (un uc : Nat) (la2 : Option Addr) (lc2 : Nat), p = .pointer (some ⟨bk, 0, none⟩) ∧ l = .slice la2 R2.length lc2 ∧ Box wx bk u.k u.n u.e u.s (.slice ua un uc) 28 ∧ OwnS wx (fun x => wr.heap.size ≤ x ∧ x ≠ bk) (.slice ua un uc) u.kids ∧ u.wf ∧ RepF wx (fun x => ((Gl x ∧ x < w.heap.size) ∨ w1.heap.size ≤ x) ∧ x ≠ w1.heap.size ∧ o.ownBlock ≠ some x ∧ x < wr.heap.size ∨ wr.heap.size ≤ x) (.slice la2 R2.length lc2) R2 ∧ Below wr.heap.size wr wx ∧ wr.heap.size ≤ bk)
      case first =>
        have TC := Lib.hid (fun (W : World) (h : Below wr.heap.size wr W) => show W.cell? ⟨w.heap.size, 4, none⟩ = some (.slice (some ⟨b, off, none⟩) ts.length cap) ∧ W.cell? ⟨w.heap.size, 0, none⟩ = some (.int .i64 k) ∧ W.cell? ⟨b, off + j * 5, none⟩ = some (.int .i64 tk.k) ∧ W.cell? ⟨b, off + j * 5 + 1, none⟩ = some (.int .i64 tk.n) ∧ W.cell? ⟨b, off + j * 5 + 2, none⟩ = some (.int .i64 tk.e) ∧ W.cell? ⟨b, off + j * 5 + 3, none⟩ = some (.string tk.s) ∧ W.cell? ⟨b, off + j * 5 + 4, none⟩ = some (.slice a3 tk.kids.length cap3) from by
          have h1 := (BXw.out.stay h).cells
          have h2 : W.heap[b]? = wr.heap[b]? := h.block b hm6
          exact ⟨h1.2.2.2.2, h1.1, (World.cell?_of_block (a := ⟨b, off + j * 5, none⟩) h2).trans c0, (World.cell?_of_block (a := ⟨b, off + j * 5 + 1, none⟩) h2).trans c1, (World.cell?_of_block (a := ⟨b, off + j * 5 + 2, none⟩) h2).trans c2, (World.cell?_of_block (a := ⟨b, off + j * 5 + 3, none⟩) h2).trans c3, (World.cell?_of_block (a := ⟨b, off + j * 5 + 4, none⟩) h2).trans c4⟩)
        have BK0 := Lib.hid (show Box (wr.drew.alloc (.cells #[.int .i64 0, .int .i64 0, .int .i64 0, .string ⟨#[]⟩, .slice none 0 0] 28)) wr.heap.size 0 0 0 ⟨#[]⟩ (.slice none 0 0) 28 from Box.new wr.drew 0 0 0 ⟨#[]⟩ (.slice none 0 0) 28)
        clear HKK HTJ HLEN HE HA HP BX BO BZ BX1 BZ1 BX3 BZ3 HACC HL HLB HBW HW HWR HBL HTR hq BXw BZw hLR HZW hbw1 hws hw hl0 hl9
        rcases tt with ⟨rfl, rfl⟩ | ⟨rfl, rfl⟩ | ⟨rfl, rfl⟩
        · refine wp_region_held_drew (S := (fun w' => w'.cell? ⟨w.heap.size, 4, none⟩ = some (.slice (some ⟨b, off, none⟩) ts.length cap) ∧ w'.cell? ⟨w.heap.size, 0, none⟩ = some (.int .i64 7) ∧ w'.cell? ⟨b, off + j * 5, none⟩ = some (.int .i64 tk.k) ∧ w'.cell? ⟨b, off + j * 5 + 1, none⟩ = some (.int .i64 tk.n) ∧ w'.cell? ⟨b, off + j * 5 + 2, none⟩ = some (.int .i64 tk.e) ∧ w'.cell? ⟨b, off + j * 5 + 3, none⟩ = some (.string tk.s) ∧ w'.cell? ⟨b, off + j * 5 + 4, none⟩ = some (.slice a3 tk.kids.length cap3))) (by kernel_rfl) ?_ (fun hHeld => ?_)
          · exact TC.out _ ((by (repeat' (first | with_reducible exact Below.refl _ _ | with_reducible refine below_alloc ?_ _ ?_ | with_reducible refine Below.setCell ?_ ?_ _ | with_reducible refine Below.drew ?_ | with_reducible refine below_drewN ?_ _ | with_reducible refine below_step ?_ (by assumption) ?_ | with_reducible refine below_mark ?_ (by assumption) ?_)); all_goals (first | omega | (simp; done) | (simp; omega))))
          refine wpAnyH_take (i := 0) (v := ?_) rfl (by kernel_rfl) (by kernel_rfl) (by kernel_rfl) (fun _ _ _ h => h) (Or.inl ⟨by rfl, ?_⟩) hHeld ?_
          rotate_left
          · (intro w hSw; (try dsimp only at hSw); (try simp only [List.getElem_toArray, List.getElem_cons_zero]); go_simp <;> with_reducible rfl)
          try simp only [List.getElem_toArray, List.getElem_cons_zero, Act.put, List.setIfInBounds_toArray, List.set_cons_zero, List.set_cons_succ]
          refine wpAnyH_take (i := 1) (v := ?_) rfl (by kernel_rfl) (by kernel_rfl) (by kernel_rfl) (fun _ _ _ h => h) (Or.inl ⟨by rfl, ?_⟩) hHeld ?_
          rotate_left
          · (intro w hSw; (try dsimp only at hSw); (try simp only [List.getElem_toArray, List.getElem_cons_succ, List.getElem_cons_zero]); go_simp <;> with_reducible rfl)
          try simp only [List.getElem_toArray, List.getElem_cons_succ, List.getElem_cons_zero, Act.put, List.setIfInBounds_toArray, List.set_cons_zero, List.set_cons_succ]
          refine wpAnyH_take (i := 2) (v := ?_) rfl (by kernel_rfl) (by kernel_rfl) (by kernel_rfl) (fun _ _ _ h => h) (Or.inl ⟨by rfl, ?_⟩) hHeld ?_
          rotate_left
          · (intro w hSw; (try dsimp only at hSw); (try simp only [List.getElem_toArray, List.getElem_cons_succ, List.getElem_cons_zero]); go_simp <;> with_reducible rfl)
          try simp only [List.getElem_toArray, List.getElem_cons_succ, List.getElem_cons_zero, Act.put, List.setIfInBounds_toArray, List.set_cons_zero, List.set_cons_succ]
          refine wpAnyH_take (i := 3) (v := ?_) rfl (by kernel_rfl) (by kernel_rfl) (by kernel_rfl) (fun _ _ _ h => h) (Or.inl ⟨by rfl, ?_⟩) hHeld ?_
          rotate_left
          · (intro w hSw; (try dsimp only at hSw); (try simp only [List.getElem_toArray, List.getElem_cons_succ, List.getElem_cons_zero]); go_simp <;> with_reducible rfl)
          try simp only [List.getElem_toArray, List.getElem_cons_succ, List.getElem_cons_zero, Act.put, List.setIfInBounds_toArray, List.set_cons_zero, List.set_cons_succ]
          refine wpAnyH_take (i := 4) (v := ?_) rfl (by kernel_rfl) (by kernel_rfl) (by kernel_rfl) (fun _ _ _ h => h) (Or.inl ⟨by rfl, ?_⟩) hHeld ?_
          rotate_left
          · (intro w hSw; (try dsimp only at hSw); (try simp only [List.getElem_toArray, List.getElem_cons_succ, List.getElem_cons_zero]); go_simp <;> with_reducible rfl)
          try simp only [List.getElem_toArray, List.getElem_cons_succ, List.getElem_cons_zero, Act.put, List.setIfInBounds_toArray, List.set_cons_zero, List.set_cons_succ]
          refine wpAnyH_take (i := 5) (v := ?_) rfl (by kernel_rfl) (by kernel_rfl) (by kernel_rfl) (fun _ _ _ h => h) (Or.inl ⟨by rfl, ?_⟩) hHeld ?_
          rotate_left
          · (intro w hSw; (try dsimp only at hSw); (try simp only [List.getElem_toArray, List.getElem_cons_succ, List.getElem_cons_zero]); go_simp <;> with_reducible rfl)
          try simp only [List.getElem_toArray, List.getElem_cons_succ, List.getElem_cons_zero, Act.put, List.setIfInBounds_toArray, List.set_cons_zero, List.set_cons_succ]
          refine wpAnyH_take (i := 6) (v := ?_) rfl (by kernel_rfl) (by kernel_rfl) (by kernel_rfl) (fun _ _ _ h => h) (Or.inl ⟨by rfl, ?_⟩) hHeld ?_
          rotate_left
          · (intro w hSw; (try dsimp only at hSw); (try simp only [List.getElem_toArray, List.getElem_cons_succ, List.getElem_cons_zero]); go_simp <;> with_reducible rfl)
          try simp only [List.getElem_toArray, List.getElem_cons_succ, List.getElem_cons_zero, Act.put, List.setIfInBounds_toArray, List.set_cons_zero, List.set_cons_succ]
          refine wpAnyH_take (i := 7) (v := ?_) rfl (by kernel_rfl) (by kernel_rfl) (by kernel_rfl) (fun _ _ _ h => h) (Or.inl ⟨by rfl, ?_⟩) hHeld ?_
          rotate_left
          · (intro w hSw; (try dsimp only at hSw); (try simp only [List.getElem_toArray, List.getElem_cons_succ, List.getElem_cons_zero]); go_simp <;> with_reducible rfl)
          try simp only [List.getElem_toArray, List.getElem_cons_succ, List.getElem_cons_zero, Act.put, List.setIfInBounds_toArray, List.set_cons_zero, List.set_cons_succ]
          refine wpAnyH_take (i := 8) (v := ?_) rfl (by kernel_rfl) (by kernel_rfl) (by kernel_rfl) (fun _ _ _ h => h) (Or.inl ⟨by rfl, ?_⟩) hHeld ?_
          rotate_left
          · (intro w hSw; (try dsimp only at hSw); (try simp only [List.getElem_toArray, List.getElem_cons_succ, List.getElem_cons_zero]); go_simp <;> with_reducible rfl)
          try simp only [List.getElem_toArray, List.getElem_cons_succ, List.getElem_cons_zero, Act.put, List.setIfInBounds_toArray, List.set_cons_zero, List.set_cons_succ]
          refine wpAnyH_take (i := 9) (v := ?_) rfl (by kernel_rfl) (by kernel_rfl) (by kernel_rfl) (fun _ _ _ h => h) (Or.inl ⟨by rfl, ?_⟩) hHeld ?_
          rotate_left
          · (intro w hSw; (try dsimp only at hSw); (try simp only [List.getElem_toArray, List.getElem_cons_succ, List.getElem_cons_zero]); go_simp <;> with_reducible rfl)
          try simp only [List.getElem_toArray, List.getElem_cons_succ, List.getElem_cons_zero, Act.put, List.setIfInBounds_toArray, List.set_cons_zero, List.set_cons_succ]
          refine wpAnyH_take (i := 10) (v := undef) rfl (by kernel_rfl) (by kernel_rfl) (by kernel_rfl) (fun _ _ _ h => h) (Or.inr ⟨by rfl, rfl⟩) hHeld ?_
          try simp only [List.getElem_toArray, List.getElem_cons_succ, List.getElem_cons_zero, Act.put, List.setIfInBounds_toArray, List.set_cons_zero, List.set_cons_succ]
          refine wpAnyH_take (i := 11) (v := undef) rfl (by kernel_rfl) (by kernel_rfl) (by kernel_rfl) (fun _ _ _ h => h) (Or.inr ⟨by rfl, rfl⟩) hHeld ?_
          try simp only [List.getElem_toArray, List.getElem_cons_succ, List.getElem_cons_zero, Act.put, List.setIfInBounds_toArray, List.set_cons_zero, List.set_cons_succ]
          refine wpAnyH_take (i := 12) (v := undef) rfl (by kernel_rfl) (by kernel_rfl) (by kernel_rfl) (fun _ _ _ h => h) (Or.inr ⟨by rfl, rfl⟩) hHeld ?_
          try simp only [List.getElem_toArray, List.getElem_cons_succ, List.getElem_cons_zero, Act.put, List.setIfInBounds_toArray, List.set_cons_zero, List.set_cons_succ]
          refine wpAnyH_take (i := 13) (v := ?_) rfl (by kernel_rfl) (by kernel_rfl) (by kernel_rfl) (fun _ _ _ h => h) (Or.inl ⟨by rfl, ?_⟩) hHeld ?_
          rotate_left
          · (intro w hSw; (try dsimp only at hSw); (try simp only [List.getElem_toArray, List.getElem_cons_succ, List.getElem_cons_zero]); go_simp <;> with_reducible rfl)
          try simp only [List.getElem_toArray, List.getElem_cons_succ, List.getElem_cons_zero, Act.put, List.setIfInBounds_toArray, List.set_cons_zero, List.set_cons_succ]
          refine wpAnyH_ready (rs := [14, 18]) (by kernel_rfl) (by simp) ?_
          refine AllReadyH.cons rfl (fun K hK => ?_) ?_
          · go_simp
            refine (VJ.out _ ?_).mono ?_
            · exact (by (repeat' (first | with_reducible exact Below.refl _ _ | with_reducible refine below_alloc ?_ _ ?_ | with_reducible refine Below.setCell ?_ ?_ _ | with_reducible refine Below.drew ?_ | with_reducible refine below_drewN ?_ _ | with_reducible refine below_step ?_ (by assumption) ?_ | with_reducible refine below_mark ?_ (by assumption) ?_)); all_goals (first | omega | (simp; done) | (simp; omega)))
            rintro e5 w5 ⟨us, lv2, rfl, uwf, uo, ul, hb5⟩
            obtain ⟨ua, un, uc, rfl⟩ : ∃ sa sn sc, us = .slice sa sn sc := (by obtain ⟨p, q, e⟩ := uo.slice; exact ⟨p, _, q, e⟩)
            obtain ⟨la2, lc2, rfl⟩ := ul.slice
            unfold V.agg
            have hz5 := hb5.size
            try simp at hz5
            refine hK.out _ _ ?_ (fun hHeld => ?_)
            · exact TC.out _ ((by (repeat' (first | with_reducible exact Below.refl _ _ | with_reducible refine below_alloc ?_ _ ?_ | with_reducible refine Below.setCell ?_ ?_ _ | with_reducible refine Below.drew ?_ | with_reducible refine below_drewN ?_ _ | with_reducible refine below_step ?_ (by assumption) ?_ | with_reducible refine below_mark ?_ (by assumption) ?_)); all_goals (first | omega | (simp; done) | (simp; omega))))
            clear hK K
            refine wpAnyH_take (i := 15) (v := ?_) rfl (by kernel_rfl) (by kernel_rfl) (by kernel_rfl) (fun _ _ _ h => h) (Or.inl ⟨by rfl, ?_⟩) hHeld ?_
            rotate_left
            · (intro w hSw; (try dsimp only at hSw); (try simp only [List.getElem_toArray, List.getElem_cons_succ, List.getElem_cons_zero]); go_simp <;> with_reducible rfl)
            try simp only [List.getElem_toArray, List.getElem_cons_succ, List.getElem_cons_zero, Act.put, List.setIfInBounds_toArray, List.set_cons_zero, List.set_cons_succ]
            refine wpAnyH_take (i := 16) (v := ?_) rfl (by kernel_rfl) (by kernel_rfl) (by kernel_rfl) (fun _ _ _ h => h) (Or.inl ⟨by rfl, ?_⟩) hHeld ?_
            rotate_left
            · (intro w hSw; (try dsimp only at hSw); (try simp only [List.getElem_toArray, List.getElem_cons_succ, List.getElem_cons_zero]); go_simp <;> with_reducible rfl)
            try simp only [List.getElem_toArray, List.getElem_cons_succ, List.getElem_cons_zero, Act.put, List.setIfInBounds_toArray, List.set_cons_zero, List.set_cons_succ]
            refine wpAnyH_take (i := 17) (v := ?_) rfl (by kernel_rfl) (by kernel_rfl) (by kernel_rfl) (fun _ _ _ h => h) (Or.inl ⟨by rfl, ?_⟩) hHeld ?_
            rotate_left
            · (intro w hSw; (try dsimp only at hSw); (try simp only [List.getElem_toArray, List.getElem_cons_succ, List.getElem_cons_zero]); go_simp <;> with_reducible rfl)
            try simp only [List.getElem_toArray, List.getElem_cons_succ, List.getElem_cons_zero, Act.put, List.setIfInBounds_toArray, List.set_cons_zero, List.set_cons_succ]
            refine wpAnyH_ready (rs := [18]) (by kernel_rfl) (by simp) ?_
            refine AllReadyH.cons rfl (fun K hK => ?_) ?_
            · go_simp
              refine hK.out _ _ ?_ (fun hHeld => ?_)
              · exact TC.out _ ((by (repeat' (first | with_reducible exact Below.refl _ _ | with_reducible refine below_alloc ?_ _ ?_ | with_reducible refine Below.setCell ?_ ?_ _ | with_reducible refine Below.drew ?_ | with_reducible refine below_drewN ?_ _ | with_reducible refine below_step ?_ (by assumption) ?_ | with_reducible refine below_mark ?_ (by assumption) ?_)); all_goals (first | omega | (simp; done) | (simp; omega))))
              clear hK K
              try simp only [List.getElem_toArray, List.getElem_cons_succ, List.getElem_cons_zero, Act.put, List.setIfInBounds_toArray, List.set_cons_zero, List.set_cons_succ]
              refine wpAnyH_ready (rs := [19]) (by kernel_rfl) (by simp) ?_
              refine AllReadyH.cons rfl (fun K hK => ?_) ?_
              · go_simp
                refine hK.out _ _ ?_ (fun hHeld => ?_)
                · exact TC.out _ ((by (repeat' (first | with_reducible exact Below.refl _ _ | with_reducible refine below_alloc ?_ _ ?_ | with_reducible refine Below.setCell ?_ ?_ _ | with_reducible refine Below.drew ?_ | with_reducible refine below_drewN ?_ _ | with_reducible refine below_step ?_ (by assumption) ?_ | with_reducible refine below_mark ?_ (by assumption) ?_)); all_goals (first | omega | (simp; done) | (simp; omega))))
                clear hK K
                try simp only [List.getElem_toArray, List.getElem_cons_succ, List.getElem_cons_zero, Act.put, List.setIfInBounds_toArray, List.set_cons_zero, List.set_cons_succ]
                refine wpAnyH_take (i := 20) (v := ?_) rfl (by kernel_rfl) (by kernel_rfl) (by kernel_rfl) (fun _ _ _ h => h) (Or.inl ⟨by rfl, ?_⟩) hHeld ?_
                rotate_left
                · (intro w hSw; (try dsimp only at hSw); (try simp only [List.getElem_toArray, List.getElem_cons_succ, List.getElem_cons_zero]); go_simp <;> with_reducible rfl)
                try simp only [List.getElem_toArray, List.getElem_cons_succ, List.getElem_cons_zero, Act.put, List.setIfInBounds_toArray, List.set_cons_zero, List.set_cons_succ]
                refine wpAnyH_done (by kernel_rfl) ?_ _
                go_wp2_with fail
                go_meet
                exact ⟨w5.heap.size, ua, un, uc, la2, lc2, rfl, rfl, Box.new w5 u.k u.n u.e u.s (.slice ua un uc) 28, OwnS.mono (uo.bound.alloc _) (fun x hx => ⟨by have := hx.1; (first | omega | (simp at this; omega)), by have := hx.2; omega⟩), uwf, RepF.mono (ul.stay ((by (repeat' (first | with_reducible exact Below.refl _ _ | with_reducible refine below_alloc ?_ _ ?_ | with_reducible refine Below.setCell ?_ ?_ _ | with_reducible refine Below.drew ?_ | with_reducible refine below_drewN ?_ _ | with_reducible refine below_step ?_ (by assumption) ?_ | with_reducible refine below_mark ?_ (by assumption) ?_)); all_goals (first | omega | (simp; done) | (simp; omega))))) (fun x hx _ => hx.imp id (fun h => by first | omega | (simp at h; omega))), (by (repeat' (first | with_reducible exact Below.refl _ _ | with_reducible refine below_alloc ?_ _ ?_ | with_reducible refine Below.setCell ?_ ?_ _ | with_reducible refine Below.drew ?_ | with_reducible refine below_drewN ?_ _ | with_reducible refine below_step ?_ (by assumption) ?_ | with_reducible refine below_mark ?_ (by assumption) ?_)); all_goals (first | omega | (simp; done) | (simp; omega))), by first | omega | (simp; omega)⟩
              exact AllReadyH.nil
            exact AllReadyH.nil
          refine AllReadyH.cons rfl (fun K hK => ?_) ?_
          · go_simp
            refine hK.out _ _ ?_ (fun hHeld => ?_)
            · exact TC.out _ ((by (repeat' (first | with_reducible exact Below.refl _ _ | with_reducible refine below_alloc ?_ _ ?_ | with_reducible refine Below.setCell ?_ ?_ _ | with_reducible refine Below.drew ?_ | with_reducible refine below_drewN ?_ _ | with_reducible refine below_step ?_ (by assumption) ?_ | with_reducible refine below_mark ?_ (by assumption) ?_)); all_goals (first | omega | (simp; done) | (simp; omega))))
            clear hK K
            try simp only [List.getElem_toArray, List.getElem_cons_succ, List.getElem_cons_zero, Act.put, List.setIfInBounds_toArray, List.set_cons_zero, List.set_cons_succ]
            refine wpAnyH_ready (rs := [14]) (by kernel_rfl) (by simp) ?_
            refine AllReadyH.cons rfl (fun K hK => ?_) ?_
            · go_simp
              refine (VJ.out _ ?_).mono ?_
              · exact (by (repeat' (first | with_reducible exact Below.refl _ _ | with_reducible refine below_alloc ?_ _ ?_ | with_reducible refine Below.setCell ?_ ?_ _ | with_reducible refine Below.drew ?_ | with_reducible refine below_drewN ?_ _ | with_reducible refine below_step ?_ (by assumption) ?_ | with_reducible refine below_mark ?_ (by assumption) ?_)); all_goals (first | omega | (simp; done) | (simp; omega)))
              rintro e5 w5 ⟨us, lv2, rfl, uwf, uo, ul, hb5⟩
              obtain ⟨ua, un, uc, rfl⟩ : ∃ sa sn sc, us = .slice sa sn sc := (by obtain ⟨p, q, e⟩ := uo.slice; exact ⟨p, _, q, e⟩)
              obtain ⟨la2, lc2, rfl⟩ := ul.slice
              unfold V.agg
              have hz5 := hb5.size
              try simp at hz5
              have BK := Lib.hid (Box.stay BK0.out hb5)
              obtain ⟨x0, x1, x2, x3, x4⟩ := BK.out.cells
              have xf0 := BK.out.free (i := 0); have xf1 := BK.out.free (i := 1); have xf2 := BK.out.free (i := 2); have xf3 := BK.out.free (i := 3); have xf4 := BK.out.free (i := 4)
              refine hK.out _ _ ?_ (fun hHeld => ?_)
              · exact TC.out _ ((by (repeat' (first | with_reducible exact Below.refl _ _ | with_reducible refine below_alloc ?_ _ ?_ | with_reducible refine Below.setCell ?_ ?_ _ | with_reducible refine Below.drew ?_ | with_reducible refine below_drewN ?_ _ | with_reducible refine below_step ?_ (by assumption) ?_ | with_reducible refine below_mark ?_ (by assumption) ?_)); all_goals (first | omega | (simp; done) | (simp; omega))))
              clear hK K
              refine wpAnyH_take (i := 15) (v := ?_) rfl (by kernel_rfl) (by kernel_rfl) (by kernel_rfl) (fun _ _ _ h => h) (Or.inl ⟨by rfl, ?_⟩) hHeld ?_
              rotate_left
              · (intro w hSw; (try dsimp only at hSw); (try simp only [List.getElem_toArray, List.getElem_cons_succ, List.getElem_cons_zero]); go_simp <;> with_reducible rfl)
              try simp only [List.getElem_toArray, List.getElem_cons_succ, List.getElem_cons_zero, Act.put, List.setIfInBounds_toArray, List.set_cons_zero, List.set_cons_succ]
              refine wpAnyH_take (i := 16) (v := ?_) rfl (by kernel_rfl) (by kernel_rfl) (by kernel_rfl) (fun _ _ _ h => h) (Or.inl ⟨by rfl, ?_⟩) hHeld ?_
              rotate_left
              · (intro w hSw; (try dsimp only at hSw); (try simp only [List.getElem_toArray, List.getElem_cons_succ, List.getElem_cons_zero]); go_simp <;> with_reducible rfl)
              try simp only [List.getElem_toArray, List.getElem_cons_succ, List.getElem_cons_zero, Act.put, List.setIfInBounds_toArray, List.set_cons_zero, List.set_cons_succ]
              refine wpAnyH_take (i := 17) (v := ?_) rfl (by kernel_rfl) (by kernel_rfl) (by kernel_rfl) (fun _ _ _ h => h) (Or.inl ⟨by rfl, ?_⟩) hHeld ?_
              rotate_left
              · (intro w hSw; (try dsimp only at hSw); (try simp only [List.getElem_toArray, List.getElem_cons_succ, List.getElem_cons_zero]); go_simp <;> with_reducible rfl)
              try simp only [List.getElem_toArray, List.getElem_cons_succ, List.getElem_cons_zero, Act.put, List.setIfInBounds_toArray, List.set_cons_zero, List.set_cons_succ]
              refine wpAnyH_ready (rs := [19]) (by kernel_rfl) (by simp) ?_
              refine AllReadyH.cons rfl (fun K hK => ?_) ?_
              · go_simp
                refine hK.out _ _ ?_ (fun hHeld => ?_)
                · exact TC.out _ ((by (repeat' (first | with_reducible exact Below.refl _ _ | with_reducible refine below_alloc ?_ _ ?_ | with_reducible refine Below.setCell ?_ ?_ _ | with_reducible refine Below.drew ?_ | with_reducible refine below_drewN ?_ _ | with_reducible refine below_step ?_ (by assumption) ?_ | with_reducible refine below_mark ?_ (by assumption) ?_)); all_goals (first | omega | (simp; done) | (simp; omega))))
                clear hK K
                try simp only [List.getElem_toArray, List.getElem_cons_succ, List.getElem_cons_zero, Act.put, List.setIfInBounds_toArray, List.set_cons_zero, List.set_cons_succ]
                refine wpAnyH_take (i := 20) (v := ?_) rfl (by kernel_rfl) (by kernel_rfl) (by kernel_rfl) (fun _ _ _ h => h) (Or.inl ⟨by rfl, ?_⟩) hHeld ?_
                rotate_left
                · (intro w hSw; (try dsimp only at hSw); (try simp only [List.getElem_toArray, List.getElem_cons_succ, List.getElem_cons_zero]); go_simp <;> with_reducible rfl)
                try simp only [List.getElem_toArray, List.getElem_cons_succ, List.getElem_cons_zero, Act.put, List.setIfInBounds_toArray, List.set_cons_zero, List.set_cons_succ]
                refine wpAnyH_done (by kernel_rfl) ?_ _
                go_wp2_with fail
                go_meet
                exact ⟨wr.heap.size, ua, un, uc, la2, lc2, rfl, rfl, box_set5 BK.out u.k u.n u.e u.s (.slice ua un uc), OwnS.mono (uo.set5 wr.heap.size (fun h => by first | omega | (simp at h; omega)) _ _ _ _ _) (fun x hx => by first | omega | (simp at hx; omega)), uwf, RepF.mono (RepF.nz (z := wr.heap.size) ul (fun x hx => by rcases hx with h | h; (have := h.2.2.2; omega); (first | omega | (simp at h; omega))) (by (repeat' (first | with_reducible exact NZ.refl _ _ | with_reducible refine NZ.setCell ?_ _ | with_reducible refine NZ.drew ?_ | with_reducible refine NZ.alloc ?_ _ | with_reducible refine NZ.step ?_ (by assumption))))) (fun x hx _ => hx.imp id (fun h => by first | omega | (simp at h; omega))), (by (repeat' (first | with_reducible exact Below.refl _ _ | with_reducible refine below_alloc ?_ _ ?_ | with_reducible refine Below.setCell ?_ ?_ _ | with_reducible refine Below.drew ?_ | with_reducible refine below_drewN ?_ _ | with_reducible refine below_step ?_ (by assumption) ?_ | with_reducible refine below_mark ?_ (by assumption) ?_)); all_goals (first | omega | (simp; done) | (simp; omega))), by omega⟩
              exact AllReadyH.nil
            exact AllReadyH.nil
          exact AllReadyH.nil
        · refine wp_region_held_drew (S := (fun w' => w'.cell? ⟨w.heap.size, 4, none⟩ = some (.slice (some ⟨b, off, none⟩) ts.length cap) ∧ w'.cell? ⟨w.heap.size, 0, none⟩ = some (.int .i64 9) ∧ w'.cell? ⟨b, off + j * 5, none⟩ = some (.int .i64 tk.k) ∧ w'.cell? ⟨b, off + j * 5 + 1, none⟩ = some (.int .i64 tk.n) ∧ w'.cell? ⟨b, off + j * 5 + 2, none⟩ = some (.int .i64 tk.e) ∧ w'.cell? ⟨b, off + j * 5 + 3, none⟩ = some (.string tk.s) ∧ w'.cell? ⟨b, off + j * 5 + 4, none⟩ = some (.slice a3 tk.kids.length cap3))) (by kernel_rfl) ?_ (fun hHeld => ?_)
          · exact TC.out _ ((by (repeat' (first | with_reducible exact Below.refl _ _ | with_reducible refine below_alloc ?_ _ ?_ | with_reducible refine Below.setCell ?_ ?_ _ | with_reducible refine Below.drew ?_ | with_reducible refine below_drewN ?_ _ | with_reducible refine below_step ?_ (by assumption) ?_ | with_reducible refine below_mark ?_ (by assumption) ?_)); all_goals (first | omega | (simp; done) | (simp; omega))))
          refine wpAnyH_take (i := 0) (v := ?_) rfl (by kernel_rfl) (by kernel_rfl) (by kernel_rfl) (fun _ _ _ h => h) (Or.inl ⟨by rfl, ?_⟩) hHeld ?_
          rotate_left
          · (intro w hSw; (try dsimp only at hSw); (try simp only [List.getElem_toArray, List.getElem_cons_zero]); go_simp <;> with_reducible rfl)
          try simp only [List.getElem_toArray, List.getElem_cons_zero, Act.put, List.setIfInBounds_toArray, List.set_cons_zero, List.set_cons_succ]
          refine wpAnyH_take (i := 1) (v := ?_) rfl (by kernel_rfl) (by kernel_rfl) (by kernel_rfl) (fun _ _ _ h => h) (Or.inl ⟨by rfl, ?_⟩) hHeld ?_
          rotate_left
          · (intro w hSw; (try dsimp only at hSw); (try simp only [List.getElem_toArray, List.getElem_cons_succ, List.getElem_cons_zero]); go_simp <;> with_reducible rfl)
          try simp only [List.getElem_toArray, List.getElem_cons_succ, List.getElem_cons_zero, Act.put, List.setIfInBounds_toArray, List.set_cons_zero, List.set_cons_succ]
          refine wpAnyH_take (i := 2) (v := ?_) rfl (by kernel_rfl) (by kernel_rfl) (by kernel_rfl) (fun _ _ _ h => h) (Or.inl ⟨by rfl, ?_⟩) hHeld ?_
          rotate_left
          · (intro w hSw; (try dsimp only at hSw); (try simp only [List.getElem_toArray, List.getElem_cons_succ, List.getElem_cons_zero]); go_simp <;> with_reducible rfl)
          try simp only [List.getElem_toArray, List.getElem_cons_succ, List.getElem_cons_zero, Act.put, List.setIfInBounds_toArray, List.set_cons_zero, List.set_cons_succ]
          refine wpAnyH_take (i := 3) (v := ?_) rfl (by kernel_rfl) (by kernel_rfl) (by kernel_rfl) (fun _ _ _ h => h) (Or.inl ⟨by rfl, ?_⟩) hHeld ?_
          rotate_left
          · (intro w hSw; (try dsimp only at hSw); (try simp only [List.getElem_toArray, List.getElem_cons_succ, List.getElem_cons_zero]); go_simp <;> with_reducible rfl)
          try simp only [List.getElem_toArray, List.getElem_cons_succ, List.getElem_cons_zero, Act.put, List.setIfInBounds_toArray, List.set_cons_zero, List.set_cons_succ]
          refine wpAnyH_take (i := 4) (v := ?_) rfl (by kernel_rfl) (by kernel_rfl) (by kernel_rfl) (fun _ _ _ h => h) (Or.inl ⟨by rfl, ?_⟩) hHeld ?_
          rotate_left
          · (intro w hSw; (try dsimp only at hSw); (try simp only [List.getElem_toArray, List.getElem_cons_succ, List.getElem_cons_zero]); go_simp <;> with_reducible rfl)
          try simp only [List.getElem_toArray, List.getElem_cons_succ, List.getElem_cons_zero, Act.put, List.setIfInBounds_toArray, List.set_cons_zero, List.set_cons_succ]
          refine wpAnyH_take (i := 5) (v := ?_) rfl (by kernel_rfl) (by kernel_rfl) (by kernel_rfl) (fun _ _ _ h => h) (Or.inl ⟨by rfl, ?_⟩) hHeld ?_
          rotate_left
          · (intro w hSw; (try dsimp only at hSw); (try simp only [List.getElem_toArray, List.getElem_cons_succ, List.getElem_cons_zero]); go_simp <;> with_reducible rfl)
          try simp only [List.getElem_toArray, List.getElem_cons_succ, List.getElem_cons_zero, Act.put, List.setIfInBounds_toArray, List.set_cons_zero, List.set_cons_succ]
          refine wpAnyH_take (i := 6) (v := ?_) rfl (by kernel_rfl) (by kernel_rfl) (by kernel_rfl) (fun _ _ _ h => h) (Or.inl ⟨by rfl, ?_⟩) hHeld ?_
          rotate_left
          · (intro w hSw; (try dsimp only at hSw); (try simp only [List.getElem_toArray, List.getElem_cons_succ, List.getElem_cons_zero]); go_simp <;> with_reducible rfl)
          try simp only [List.getElem_toArray, List.getElem_cons_succ, List.getElem_cons_zero, Act.put, List.setIfInBounds_toArray, List.set_cons_zero, List.set_cons_succ]
          refine wpAnyH_take (i := 7) (v := ?_) rfl (by kernel_rfl) (by kernel_rfl) (by kernel_rfl) (fun _ _ _ h => h) (Or.inl ⟨by rfl, ?_⟩) hHeld ?_
          rotate_left
          · (intro w hSw; (try dsimp only at hSw); (try simp only [List.getElem_toArray, List.getElem_cons_succ, List.getElem_cons_zero]); go_simp <;> with_reducible rfl)
          try simp only [List.getElem_toArray, List.getElem_cons_succ, List.getElem_cons_zero, Act.put, List.setIfInBounds_toArray, List.set_cons_zero, List.set_cons_succ]
          refine wpAnyH_take (i := 8) (v := ?_) rfl (by kernel_rfl) (by kernel_rfl) (by kernel_rfl) (fun _ _ _ h => h) (Or.inl ⟨by rfl, ?_⟩) hHeld ?_
          rotate_left
          · (intro w hSw; (try dsimp only at hSw); (try simp only [List.getElem_toArray, List.getElem_cons_succ, List.getElem_cons_zero]); go_simp <;> with_reducible rfl)
          try simp only [List.getElem_toArray, List.getElem_cons_succ, List.getElem_cons_zero, Act.put, List.setIfInBounds_toArray, List.set_cons_zero, List.set_cons_succ]
          refine wpAnyH_take (i := 9) (v := ?_) rfl (by kernel_rfl) (by kernel_rfl) (by kernel_rfl) (fun _ _ _ h => h) (Or.inl ⟨by rfl, ?_⟩) hHeld ?_
          rotate_left
          · (intro w hSw; (try dsimp only at hSw); (try simp only [List.getElem_toArray, List.getElem_cons_succ, List.getElem_cons_zero]); go_simp <;> with_reducible rfl)
          try simp only [List.getElem_toArray, List.getElem_cons_succ, List.getElem_cons_zero, Act.put, List.setIfInBounds_toArray, List.set_cons_zero, List.set_cons_succ]
          refine wpAnyH_take (i := 10) (v := undef) rfl (by kernel_rfl) (by kernel_rfl) (by kernel_rfl) (fun _ _ _ h => h) (Or.inr ⟨by rfl, rfl⟩) hHeld ?_
          try simp only [List.getElem_toArray, List.getElem_cons_succ, List.getElem_cons_zero, Act.put, List.setIfInBounds_toArray, List.set_cons_zero, List.set_cons_succ]
          refine wpAnyH_take (i := 11) (v := undef) rfl (by kernel_rfl) (by kernel_rfl) (by kernel_rfl) (fun _ _ _ h => h) (Or.inr ⟨by rfl, rfl⟩) hHeld ?_
          try simp only [List.getElem_toArray, List.getElem_cons_succ, List.getElem_cons_zero, Act.put, List.setIfInBounds_toArray, List.set_cons_zero, List.set_cons_succ]
          refine wpAnyH_take (i := 12) (v := undef) rfl (by kernel_rfl) (by kernel_rfl) (by kernel_rfl) (fun _ _ _ h => h) (Or.inr ⟨by rfl, rfl⟩) hHeld ?_
          try simp only [List.getElem_toArray, List.getElem_cons_succ, List.getElem_cons_zero, Act.put, List.setIfInBounds_toArray, List.set_cons_zero, List.set_cons_succ]
          refine wpAnyH_take (i := 13) (v := ?_) rfl (by kernel_rfl) (by kernel_rfl) (by kernel_rfl) (fun _ _ _ h => h) (Or.inl ⟨by rfl, ?_⟩) hHeld ?_
          rotate_left
          · (intro w hSw; (try dsimp only at hSw); (try simp only [List.getElem_toArray, List.getElem_cons_succ, List.getElem_cons_zero]); go_simp <;> with_reducible rfl)
          try simp only [List.getElem_toArray, List.getElem_cons_succ, List.getElem_cons_zero, Act.put, List.setIfInBounds_toArray, List.set_cons_zero, List.set_cons_succ]
          refine wpAnyH_ready (rs := [14, 18]) (by kernel_rfl) (by simp) ?_
          refine AllReadyH.cons rfl (fun K hK => ?_) ?_
          · go_simp
            refine (VJ.out _ ?_).mono ?_
            · exact (by (repeat' (first | with_reducible exact Below.refl _ _ | with_reducible refine below_alloc ?_ _ ?_ | with_reducible refine Below.setCell ?_ ?_ _ | with_reducible refine Below.drew ?_ | with_reducible refine below_drewN ?_ _ | with_reducible refine below_step ?_ (by assumption) ?_ | with_reducible refine below_mark ?_ (by assumption) ?_)); all_goals (first | omega | (simp; done) | (simp; omega)))
            rintro e5 w5 ⟨us, lv2, rfl, uwf, uo, ul, hb5⟩
            obtain ⟨ua, un, uc, rfl⟩ : ∃ sa sn sc, us = .slice sa sn sc := (by obtain ⟨p, q, e⟩ := uo.slice; exact ⟨p, _, q, e⟩)
            obtain ⟨la2, lc2, rfl⟩ := ul.slice
            unfold V.agg
            have hz5 := hb5.size
            try simp at hz5
            refine hK.out _ _ ?_ (fun hHeld => ?_)
            · exact TC.out _ ((by (repeat' (first | with_reducible exact Below.refl _ _ | with_reducible refine below_alloc ?_ _ ?_ | with_reducible refine Below.setCell ?_ ?_ _ | with_reducible refine Below.drew ?_ | with_reducible refine below_drewN ?_ _ | with_reducible refine below_step ?_ (by assumption) ?_ | with_reducible refine below_mark ?_ (by assumption) ?_)); all_goals (first | omega | (simp; done) | (simp; omega))))
            clear hK K
            refine wpAnyH_take (i := 15) (v := ?_) rfl (by kernel_rfl) (by kernel_rfl) (by kernel_rfl) (fun _ _ _ h => h) (Or.inl ⟨by rfl, ?_⟩) hHeld ?_
            rotate_left
            · (intro w hSw; (try dsimp only at hSw); (try simp only [List.getElem_toArray, List.getElem_cons_succ, List.getElem_cons_zero]); go_simp <;> with_reducible rfl)
            try simp only [List.getElem_toArray, List.getElem_cons_succ, List.getElem_cons_zero, Act.put, List.setIfInBounds_toArray, List.set_cons_zero, List.set_cons_succ]
            refine wpAnyH_take (i := 16) (v := ?_) rfl (by kernel_rfl) (by kernel_rfl) (by kernel_rfl) (fun _ _ _ h => h) (Or.inl ⟨by rfl, ?_⟩) hHeld ?_
            rotate_left
            · (intro w hSw; (try dsimp only at hSw); (try simp only [List.getElem_toArray, List.getElem_cons_succ, List.getElem_cons_zero]); go_simp <;> with_reducible rfl)
            try simp only [List.getElem_toArray, List.getElem_cons_succ, List.getElem_cons_zero, Act.put, List.setIfInBounds_toArray, List.set_cons_zero, List.set_cons_succ]
            refine wpAnyH_take (i := 17) (v := ?_) rfl (by kernel_rfl) (by kernel_rfl) (by kernel_rfl) (fun _ _ _ h => h) (Or.inl ⟨by rfl, ?_⟩) hHeld ?_
            rotate_left
            · (intro w hSw; (try dsimp only at hSw); (try simp only [List.getElem_toArray, List.getElem_cons_succ, List.getElem_cons_zero]); go_simp <;> with_reducible rfl)
            try simp only [List.getElem_toArray, List.getElem_cons_succ, List.getElem_cons_zero, Act.put, List.setIfInBounds_toArray, List.set_cons_zero, List.set_cons_succ]
            refine wpAnyH_ready (rs := [18]) (by kernel_rfl) (by simp) ?_
            refine AllReadyH.cons rfl (fun K hK => ?_) ?_
            · go_simp
              refine hK.out _ _ ?_ (fun hHeld => ?_)
              · exact TC.out _ ((by (repeat' (first | with_reducible exact Below.refl _ _ | with_reducible refine below_alloc ?_ _ ?_ | with_reducible refine Below.setCell ?_ ?_ _ | with_reducible refine Below.drew ?_ | with_reducible refine below_drewN ?_ _ | with_reducible refine below_step ?_ (by assumption) ?_ | with_reducible refine below_mark ?_ (by assumption) ?_)); all_goals (first | omega | (simp; done) | (simp; omega))))
              clear hK K
              try simp only [List.getElem_toArray, List.getElem_cons_succ, List.getElem_cons_zero, Act.put, List.setIfInBounds_toArray, List.set_cons_zero, List.set_cons_succ]
              refine wpAnyH_ready (rs := [19]) (by kernel_rfl) (by simp) ?_
              refine AllReadyH.cons rfl (fun K hK => ?_) ?_
              · go_simp
                refine hK.out _ _ ?_ (fun hHeld => ?_)
                · exact TC.out _ ((by (repeat' (first | with_reducible exact Below.refl _ _ | with_reducible refine below_alloc ?_ _ ?_ | with_reducible refine Below.setCell ?_ ?_ _ | with_reducible refine Below.drew ?_ | with_reducible refine below_drewN ?_ _ | with_reducible refine below_step ?_ (by assumption) ?_ | with_reducible refine below_mark ?_ (by assumption) ?_)); all_goals (first | omega | (simp; done) | (simp; omega))))
                clear hK K
                try simp only [List.getElem_toArray, List.getElem_cons_succ, List.getElem_cons_zero, Act.put, List.setIfInBounds_toArray, List.set_cons_zero, List.set_cons_succ]
                refine wpAnyH_take (i := 20) (v := ?_) rfl (by kernel_rfl) (by kernel_rfl) (by kernel_rfl) (fun _ _ _ h => h) (Or.inl ⟨by rfl, ?_⟩) hHeld ?_
                rotate_left
                · (intro w hSw; (try dsimp only at hSw); (try simp only [List.getElem_toArray, List.getElem_cons_succ, List.getElem_cons_zero]); go_simp <;> with_reducible rfl)
                try simp only [List.getElem_toArray, List.getElem_cons_succ, List.getElem_cons_zero, Act.put, List.setIfInBounds_toArray, List.set_cons_zero, List.set_cons_succ]
                refine wpAnyH_done (by kernel_rfl) ?_ _
                go_wp2_with fail
                go_meet
                exact ⟨w5.heap.size, ua, un, uc, la2, lc2, rfl, rfl, Box.new w5 u.k u.n u.e u.s (.slice ua un uc) 28, OwnS.mono (uo.bound.alloc _) (fun x hx => ⟨by have := hx.1; (first | omega | (simp at this; omega)), by have := hx.2; omega⟩), uwf, RepF.mono (ul.stay ((by (repeat' (first | with_reducible exact Below.refl _ _ | with_reducible refine below_alloc ?_ _ ?_ | with_reducible refine Below.setCell ?_ ?_ _ | with_reducible refine Below.drew ?_ | with_reducible refine below_drewN ?_ _ | with_reducible refine below_step ?_ (by assumption) ?_ | with_reducible refine below_mark ?_ (by assumption) ?_)); all_goals (first | omega | (simp; done) | (simp; omega))))) (fun x hx _ => hx.imp id (fun h => by first | omega | (simp at h; omega))), (by (repeat' (first | with_reducible exact Below.refl _ _ | with_reducible refine below_alloc ?_ _ ?_ | with_reducible refine Below.setCell ?_ ?_ _ | with_reducible refine Below.drew ?_ | with_reducible refine below_drewN ?_ _ | with_reducible refine below_step ?_ (by assumption) ?_ | with_reducible refine below_mark ?_ (by assumption) ?_)); all_goals (first | omega | (simp; done) | (simp; omega))), by first | omega | (simp; omega)⟩
              exact AllReadyH.nil
            exact AllReadyH.nil
          refine AllReadyH.cons rfl (fun K hK => ?_) ?_
          · go_simp
            refine hK.out _ _ ?_ (fun hHeld => ?_)
            · exact TC.out _ ((by (repeat' (first | with_reducible exact Below.refl _ _ | with_reducible refine below_alloc ?_ _ ?_ | with_reducible refine Below.setCell ?_ ?_ _ | with_reducible refine Below.drew ?_ | with_reducible refine below_drewN ?_ _ | with_reducible refine below_step ?_ (by assumption) ?_ | with_reducible refine below_mark ?_ (by assumption) ?_)); all_goals (first | omega | (simp; done) | (simp; omega))))
            clear hK K
            try simp only [List.getElem_toArray, List.getElem_cons_succ, List.getElem_cons_zero, Act.put, List.setIfInBounds_toArray, List.set_cons_zero, List.set_cons_succ]
            refine wpAnyH_ready (rs := [14]) (by kernel_rfl) (by simp) ?_
            refine AllReadyH.cons rfl (fun K hK => ?_) ?_
            · go_simp
              refine (VJ.out _ ?_).mono ?_
              · exact (by (repeat' (first | with_reducible exact Below.refl _ _ | with_reducible refine below_alloc ?_ _ ?_ | with_reducible refine Below.setCell ?_ ?_ _ | with_reducible refine Below.drew ?_ | with_reducible refine below_drewN ?_ _ | with_reducible refine below_step ?_ (by assumption) ?_ | with_reducible refine below_mark ?_ (by assumption) ?_)); all_goals (first | omega | (simp; done) | (simp; omega)))
              rintro e5 w5 ⟨us, lv2, rfl, uwf, uo, ul, hb5⟩
              obtain ⟨ua, un, uc, rfl⟩ : ∃ sa sn sc, us = .slice sa sn sc := (by obtain ⟨p, q, e⟩ := uo.slice; exact ⟨p, _, q, e⟩)
              obtain ⟨la2, lc2, rfl⟩ := ul.slice
              unfold V.agg
              have hz5 := hb5.size
              try simp at hz5
              have BK := Lib.hid (Box.stay BK0.out hb5)
              obtain ⟨x0, x1, x2, x3, x4⟩ := BK.out.cells
              have xf0 := BK.out.free (i := 0); have xf1 := BK.out.free (i := 1); have xf2 := BK.out.free (i := 2); have xf3 := BK.out.free (i := 3); have xf4 := BK.out.free (i := 4)
              refine hK.out _ _ ?_ (fun hHeld => ?_)
              · exact TC.out _ ((by (repeat' (first | with_reducible exact Below.refl _ _ | with_reducible refine below_alloc ?_ _ ?_ | with_reducible refine Below.setCell ?_ ?_ _ | with_reducible refine Below.drew ?_ | with_reducible refine below_drewN ?_ _ | with_reducible refine below_step ?_ (by assumption) ?_ | with_reducible refine below_mark ?_ (by assumption) ?_)); all_goals (first | omega | (simp; done) | (simp; omega))))
              clear hK K
              refine wpAnyH_take (i := 15) (v := ?_) rfl (by kernel_rfl) (by kernel_rfl) (by kernel_rfl) (fun _ _ _ h => h) (Or.inl ⟨by rfl, ?_⟩) hHeld ?_
              rotate_left
              · (intro w hSw; (try dsimp only at hSw); (try simp only [List.getElem_toArray, List.getElem_cons_succ, List.getElem_cons_zero]); go_simp <;> with_reducible rfl)
              try simp only [List.getElem_toArray, List.getElem_cons_succ, List.getElem_cons_zero, Act.put, List.setIfInBounds_toArray, List.set_cons_zero, List.set_cons_succ]
              refine wpAnyH_take (i := 16) (v := ?_) rfl (by kernel_rfl) (by kernel_rfl) (by kernel_rfl) (fun _ _ _ h => h) (Or.inl ⟨by rfl, ?_⟩) hHeld ?_
              rotate_left
              · (intro w hSw; (try dsimp only at hSw); (try simp only [List.getElem_toArray, List.getElem_cons_succ, List.getElem_cons_zero]); go_simp <;> with_reducible rfl)
              try simp only [List.getElem_toArray, List.getElem_cons_succ, List.getElem_cons_zero, Act.put, List.setIfInBounds_toArray, List.set_cons_zero, List.set_cons_succ]
              refine wpAnyH_take (i := 17) (v := ?_) rfl (by kernel_rfl) (by kernel_rfl) (by kernel_rfl) (fun _ _ _ h => h) (Or.inl ⟨by rfl, ?_⟩) hHeld ?_
              rotate_left
              · (intro w hSw; (try dsimp only at hSw); (try simp only [List.getElem_toArray, List.getElem_cons_succ, List.getElem_cons_zero]); go_simp <;> with_reducible rfl)
              try simp only [List.getElem_toArray, List.getElem_cons_succ, List.getElem_cons_zero, Act.put, List.setIfInBounds_toArray, List.set_cons_zero, List.set_cons_succ]
              refine wpAnyH_ready (rs := [19]) (by kernel_rfl) (by simp) ?_
              refine AllReadyH.cons rfl (fun K hK => ?_) ?_
              · go_simp
                refine hK.out _ _ ?_ (fun hHeld => ?_)
                · exact TC.out _ ((by (repeat' (first | with_reducible exact Below.refl _ _ | with_reducible refine below_alloc ?_ _ ?_ | with_reducible refine Below.setCell ?_ ?_ _ | with_reducible refine Below.drew ?_ | with_reducible refine below_drewN ?_ _ | with_reducible refine below_step ?_ (by assumption) ?_ | with_reducible refine below_mark ?_ (by assumption) ?_)); all_goals (first | omega | (simp; done) | (simp; omega))))
                clear hK K
                try simp only [List.getElem_toArray, List.getElem_cons_succ, List.getElem_cons_zero, Act.put, List.setIfInBounds_toArray, List.set_cons_zero, List.set_cons_succ]
                refine wpAnyH_take (i := 20) (v := ?_) rfl (by kernel_rfl) (by kernel_rfl) (by kernel_rfl) (fun _ _ _ h => h) (Or.inl ⟨by rfl, ?_⟩) hHeld ?_
                rotate_left
                · (intro w hSw; (try dsimp only at hSw); (try simp only [List.getElem_toArray, List.getElem_cons_succ, List.getElem_cons_zero]); go_simp <;> with_reducible rfl)
                try simp only [List.getElem_toArray, List.getElem_cons_succ, List.getElem_cons_zero, Act.put, List.setIfInBounds_toArray, List.set_cons_zero, List.set_cons_succ]
                refine wpAnyH_done (by kernel_rfl) ?_ _
                go_wp2_with fail
                go_meet
                exact ⟨wr.heap.size, ua, un, uc, la2, lc2, rfl, rfl, box_set5 BK.out u.k u.n u.e u.s (.slice ua un uc), OwnS.mono (uo.set5 wr.heap.size (fun h => by first | omega | (simp at h; omega)) _ _ _ _ _) (fun x hx => by first | omega | (simp at hx; omega)), uwf, RepF.mono (RepF.nz (z := wr.heap.size) ul (fun x hx => by rcases hx with h | h; (have := h.2.2.2; omega); (first | omega | (simp at h; omega))) (by (repeat' (first | with_reducible exact NZ.refl _ _ | with_reducible refine NZ.setCell ?_ _ | with_reducible refine NZ.drew ?_ | with_reducible refine NZ.alloc ?_ _ | with_reducible refine NZ.step ?_ (by assumption))))) (fun x hx _ => hx.imp id (fun h => by first | omega | (simp at h; omega))), (by (repeat' (first | with_reducible exact Below.refl _ _ | with_reducible refine below_alloc ?_ _ ?_ | with_reducible refine Below.setCell ?_ ?_ _ | with_reducible refine Below.drew ?_ | with_reducible refine below_drewN ?_ _ | with_reducible refine below_step ?_ (by assumption) ?_ | with_reducible refine below_mark ?_ (by assumption) ?_)); all_goals (first | omega | (simp; done) | (simp; omega))), by omega⟩
              exact AllReadyH.nil
            exact AllReadyH.nil
          exact AllReadyH.nil
        · first | (go_region_held3 (fun w' => w'.cell? ⟨w.heap.size, 4, none⟩ = some (.slice (some ⟨b, off, none⟩) ts.length cap) ∧ w'.cell? ⟨w.heap.size, 0, none⟩ = some (.int .i64 8) ∧ w'.cell? ⟨b, off + j * 5, none⟩ = some (.int .i64 tk.k) ∧ w'.cell? ⟨b, off + j * 5 + 1, none⟩ = some (.int .i64 tk.n) ∧ w'.cell? ⟨b, off + j * 5 + 2, none⟩ = some (.int .i64 tk.e) ∧ w'.cell? ⟨b, off + j * 5 + 3, none⟩ = some (.string tk.s) ∧ w'.cell? ⟨b, off + j * 5 + 4, none⟩ = some (.slice a3 tk.kids.length cap3)) (first | with_reducible exact ⟨by assumption, by assumption, by assumption, by assumption, by assumption, by assumption, by assumption⟩ | exact TC.out _ ((by (repeat' (first | with_reducible exact Below.refl _ _ | with_reducible refine below_alloc ?_ _ ?_ | with_reducible refine Below.setCell ?_ ?_ _ | with_reducible refine Below.drew ?_ | with_reducible refine below_drewN ?_ _ | with_reducible refine below_step ?_ (by assumption) ?_ | with_reducible refine below_mark ?_ (by assumption) ?_)); all_goals (first | omega | (simp; done) | (simp; omega))))) (((with_reducible refine (VJ.out _ ?_).mono ?_); exact (by (repeat' (first | with_reducible exact Below.refl _ _ | with_reducible refine below_alloc ?_ _ ?_ | with_reducible refine Below.setCell ?_ ?_ _ | with_reducible refine Below.drew ?_ | with_reducible refine below_drewN ?_ _ | with_reducible refine below_step ?_ (by assumption) ?_ | with_reducible refine below_mark ?_ (by assumption) ?_)); all_goals (first | omega | (simp; done) | (simp; omega))); rintro e5 w5 ⟨us, lv2, rfl, uwf, uo, ul, hb5⟩; obtain ⟨ua, un, uc, rfl⟩ : ∃ sa sn sc, us = .slice sa sn sc := (by obtain ⟨p, q, e⟩ := uo.slice; exact ⟨p, _, q, e⟩); obtain ⟨la2, lc2, rfl⟩ := ul.slice; unfold V.agg; have hz5 := hb5.size; try simp at hz5; first | (have hcf : Below wr.drew.heap.size wr.drew w5 := by with_reducible assumption) | (have BK := Lib.hid (Box.stay (show Box _ wr.heap.size 0 0 0 ⟨#[]⟩ (.slice none 0 0) 28 from (by first | with_reducible exact Box.new wr _ _ _ _ _ _ | exact Box.new wr.drew _ _ _ _ _ _ | exact Box.new wr _ _ _ _ _ _)) hb5); obtain ⟨x0, x1, x2, x3, x4⟩ := BK.out.cells; have xf0 := BK.out.free (i := 0); have xf1 := BK.out.free (i := 1); have xf2 := BK.out.free (i := 2); have xf3 := BK.out.free (i := 3); have xf4 := BK.out.free (i := 4))))) | fail
          all_goals (go_wp2_with fail; go_meet; first | (have hgu := hcf; exact ⟨w5.heap.size, ua, un, uc, la2, lc2, rfl, rfl, Box.new w5 u.k u.n u.e u.s (.slice ua un uc) 28, OwnS.mono (uo.bound.alloc _) (fun x hx => ⟨by have := hx.1; (first | omega | (simp at this; omega)), by have := hx.2; omega⟩), uwf, RepF.mono (ul.stay ((by (repeat' (first | with_reducible exact Below.refl _ _ | with_reducible refine below_alloc ?_ _ ?_ | with_reducible refine Below.setCell ?_ ?_ _ | with_reducible refine Below.drew ?_ | with_reducible refine below_drewN ?_ _ | with_reducible refine below_step ?_ (by assumption) ?_ | with_reducible refine below_mark ?_ (by assumption) ?_)); all_goals (first | omega | (simp; done) | (simp; omega))))) (fun x hx _ => hx.imp id (fun h => by first | omega | (simp at h; omega))), (by (repeat' (first | with_reducible exact Below.refl _ _ | with_reducible refine below_alloc ?_ _ ?_ | with_reducible refine Below.setCell ?_ ?_ _ | with_reducible refine Below.drew ?_ | with_reducible refine below_drewN ?_ _ | with_reducible refine below_step ?_ (by assumption) ?_ | with_reducible refine below_mark ?_ (by assumption) ?_)); all_goals (first | omega | (simp; done) | (simp; omega))), by first | omega | (simp; omega)⟩) | (have hgu := BK.out; exact ⟨wr.heap.size, ua, un, uc, la2, lc2, rfl, rfl, box_set5 BK.out u.k u.n u.e u.s (.slice ua un uc), OwnS.mono (uo.set5 wr.heap.size (fun h => by first | omega | (simp at h; omega)) _ _ _ _ _) (fun x hx => by first | omega | (simp at hx; omega)), uwf, RepF.mono (RepF.nz (z := wr.heap.size) ul (fun x hx => by rcases hx with h | h; (have := h.2.2.2; omega); (first | omega | (simp at h; omega))) (by (repeat' (first | with_reducible exact NZ.refl _ _ | with_reducible refine NZ.setCell ?_ _ | with_reducible refine NZ.drew ?_ | with_reducible refine NZ.alloc ?_ _ | with_reducible refine NZ.step ?_ (by assumption))))) (fun x hx _ => hx.imp id (fun h => by first | omega | (simp at h; omega))), (by (repeat' (first | with_reducible exact Below.refl _ _ | with_reducible refine below_alloc ?_ _ ?_ | with_reducible refine Below.setCell ?_ ?_ _ | with_reducible refine Below.drew ?_ | with_reducible refine below_drewN ?_ _ | with_reducible refine below_step ?_ (by assumption) ?_ | with_reducible refine below_mark ?_ (by assumption) ?_)); all_goals (first | omega | (simp; done) | (simp; omega))), by omega⟩))
      case rest =>
        obtain ⟨bk, ua, un, uc, la2, lc2, rfl, rfl, hB, hO, uwf, hL2, hbx, hbk⟩ := hcut
        obtain ⟨w5, rfl⟩ : ∃ W : World, W = wc := ⟨_, rfl⟩
        have hz5 := hbx.size
        have HWF := Lib.hid uwf
        have HO := Lib.hid hO.bound
        have HL2 := Lib.hid hL2.bound
        have hbk5 := Box.lt hB
        obtain ⟨y0, y1, y2, y3, y4⟩ := Box.cells hB
        clear q0 q1 q2 q3 q4
        obtain ⟨g0, g1, g2, g3, g4⟩ := (HACC.out.stay hbx).1.cells
        clear c0 c1 c2 c3 c4 hB hO hL2 tt VJ uwf hm1 hm2 hm3 hm4 hm5 hm6 HE HA HLB HL BXw BZw BX BZ BX1 BZ1 BX3 BZ3 BO HTR HKK HP
        go_wp2_with (at_builtin; refine app_own rfl _ _ rfl (w1.heap.size + 1) G (fun x => (wr.heap.size ≤ x ∧ x ≠ bk) ∧ x < w5.heap.size) _ L1 rfl ((HACC.out.stay ((by (repeat' (first | with_reducible exact Below.refl _ _ | with_reducible refine below_alloc ?_ _ ?_ | with_reducible refine Below.setCell ?_ ?_ _ | with_reducible refine Below.drew ?_ | with_reducible refine below_drewN ?_ _ | with_reducible refine below_step ?_ (by assumption) ?_ | with_reducible refine below_mark ?_ (by assumption) ?_)); all_goals (first | omega | (simp; done) | (simp; omega))))).2.1) u (.slice ua un uc) _ rfl (by first | exact heap_alloc_here _ (by simp) | exact heap_alloc_here _ rfl) HWF.out (HO.out.alloc _) (fun x hx => by have h1 := hx.1.1; have h2 := hx.2; exact ⟨by omega, by simp; omega, fun hG => by have := (HACC.out.2.1.inG x hG).2; omega, fun e => by have := (HACC.out.2.1.lt x e).2; omega⟩) (by have := HLEN.out; omega) (by simp; omega) ?_; intro v2 w2 hrow2 hg2 hfr2; obtain ⟨va, vn, vc, rfl⟩ := hrow2.slice3; have HG2 := Lib.hid hg2; have HR2 := Lib.hid hrow2; have HF2 := Lib.hid hfr2; have HB2 := Lib.hid (show Box w2 w1.heap.size k n e s o 28 from (hg2.block w1.heap.size (by simp; omega) (fun e => by have := (HACC.out.2.1.lt _ e.symm).1; omega)).trans (HACC.out.stay ((by (repeat' (first | with_reducible exact Below.refl _ _ | with_reducible refine below_alloc ?_ _ ?_ | with_reducible refine Below.setCell ?_ ?_ _ | with_reducible refine Below.drew ?_ | with_reducible refine below_drewN ?_ _ | with_reducible refine below_step ?_ (by assumption) ?_ | with_reducible refine below_mark ?_ (by assumption) ?_)); all_goals (first | omega | (simp; done) | (simp; omega))))).1); have hfz := HB2.out.free (i := 4); have hcc := HB2.out.cells.2.2.2.2; clear hrow2 hg2 hfr2)
        have hb5n : Below w5.heap.size w5 (w5.alloc (.cells #[.int .i64 u.k, .int .i64 u.n, .int .i64 u.e, .string u.s, .slice ua un uc] 28)) := (by (repeat' (first | with_reducible exact Below.refl _ _ | with_reducible refine below_alloc ?_ _ ?_ | with_reducible refine Below.setCell ?_ ?_ _ | with_reducible refine Below.drew ?_ | with_reducible refine below_drewN ?_ _ | with_reducible refine below_step ?_ (by assumption) ?_ | with_reducible refine below_mark ?_ (by assumption) ?_)); all_goals (first | omega | (simp; done) | (simp; omega)))
        have HLX := Lib.hid (RepF.mono (RepF.put (b := w1.heap.size) (v2 := .slice va vn vc) HL2.out (fun x hx hs => by
          rcases hx.1 with h | h
          · exact ⟨h.2.1, h.2.2.1⟩
          · exact ⟨by omega, fun e => by have := (HACC.out.2.1.lt x e).2; omega⟩) hb5n HG2.out) (G' := fun x => ((Gl x ∧ x < w.heap.size) ∨ w1.heap.size ≤ x) ∧ x ≠ w1.heap.size ∧ (Value.slice va vn vc).ownBlock ≠ some x ∧ x < (w2.setCell ⟨w1.heap.size, 4, none⟩ (.slice va vn vc)).heap.size) (fun x hx hs => ⟨hx.1.elim (fun h => h.1) (fun h => .inr (by omega)), hx.1.elim (fun h => h.2.1) (fun h => by omega), fun e => by
            rcases HF2.out with h3 | h3
            · have e2 := h3.symm.trans e
              rcases hx.1 with h | h
              · exact h.2.2.1 e2
              · have := (HACC.out.2.1.lt x e2).2; omega
            · rw [h3] at e; simp only [Option.some.injEq] at e; have := hx.2; simp at e; omega, hs⟩))
        go_roundw
        case rel => exact ⟨j + 1, _, _, _, R2, la2, lc2, by omega, by go_num, rfl, HTJ.out, HACC.out.put (by omega) ((by (repeat' (first | with_reducible exact Below.refl _ _ | with_reducible refine below_alloc ?_ _ ?_ | with_reducible refine Below.setCell ?_ ?_ _ | with_reducible refine Below.drew ?_ | with_reducible refine below_drewN ?_ _ | with_reducible refine below_step ?_ (by assumption) ?_ | with_reducible refine below_mark ?_ (by assumption) ?_)); all_goals (first | omega | (simp; done) | (simp; omega)))) HG2.out HR2.out, HLX.out⟩
        case measure => simp [intOf]; omega
    · have H := Lib.hid (show ts.take j = ts from List.take_of_length_le (by omega))
      have HE2 := Lib.hid (show putTs (decide (k = 8)) 0 ts R = (L1, R1) by have := HTR.out; rwa [H.out] at this)
      obtain ⟨rfl, rfl⟩ : LR = L1 ∧ SR = R1 := by have := hLR.symm.trans HE2.out; simpa using this
      obtain ⟨oa, on, oc, rfl⟩ := HACC.out.2.1.slice3
      obtain ⟨g0, g1, g2, g3, g4⟩ := HACC.out.1.cells
      obtain ⟨z0, z1, z2, z3, z4⟩ := BZw.out.cells
      have zf0 := BZw.out.free (i := 0); have zf1 := BZw.out.free (i := 1); have zf2 := BZw.out.free (i := 2); have zf3 := BZw.out.free (i := 3); have zf4 := BZw.out.free (i := 4)
      have HO := Lib.hid (OwnS.mono (HACC.out.own.set5 (w.heap.size + 1) (by omega) (.int .i64 k) (.int .i64 n) (.int .i64 e) (.string s) (.slice oa on oc)) (F' := fun x => w.heap.size ≤ x) (fun x hx => by omega))
      have HLZ := Lib.hid (RepF.mono (RepF.nz (z := w.heap.size + 1) (w' := set5 wr (w.heap.size + 1) (.int .i64 k) (.int .i64 n) (.int .i64 e) (.string s) (.slice oa on oc)) HL.out (fun x hx => by have := hx.1; omega) (by (repeat' (first | with_reducible exact NZ.refl _ _ | with_reducible refine NZ.setCell ?_ _ | with_reducible refine NZ.drew ?_ | with_reducible refine NZ.alloc ?_ _ | with_reducible refine NZ.step ?_ (by assumption))))) (G' := fun x => Gl x ∨ w.heap.size ≤ x) (fun x hx _ => hx.1.elim (fun h => .inl h.1) (fun h => .inr (by omega))))
      have HBZ := Lib.hid (HBL.out.trans ((below_set5 wr (w.heap.size + 1) (.int .i64 k) (.int .i64 n) (.int .i64 e) (.string s) (.slice oa on oc)).mono (by omega)))
      clear H HE HA V1 HT BX BO BZ BX1 BZ1 BX3 BZ3 HACC HTR HE2 HL HLB HBW HW HBL HLN HBD BXw BZw
      go_wp2_with fail
      refine bodyPost_ret (v := .tuple #[.agg #[.int .i64 k, .int .i64 n, .int .i64 e, .string s, .slice oa on oc], .slice la1 SR.length lc1]) (by simp [results, Tryd.results131, go_sem, z0, z1, z2, z3, z4]) rfl (HP.out _ _ ⟨_, _, rfl, HO.out, HLZ.out, HBZ.out⟩)
end Go.Proofs.YtiemlefmhleaeaaDoor
