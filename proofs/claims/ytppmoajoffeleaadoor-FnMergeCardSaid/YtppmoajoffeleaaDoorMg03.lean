/- Lemmas for the statement of the last text of this claim: texts joined. -/
import Derived.Test.YtppmoajoffeleaaDoorMg01
import Derived.Test.YtppmoajoffeleaaDoorMg02
import Derived.Deep.RegionWith
import Derived.WalkSpells
import Derived.Lib.Hide
import Derived.Deep.RegionLaw
import Derived.Deep.RegionHeld3
import Derived.OwnWalk
import Derived.Deep.QuietTactic
import Derived.BigQuiet
import Derived.BigRegion
import Derived.Lib.SliceRun
import Derived.Deep.DeepCutAuto
namespace Go.Proofs.YtppmoajoffeleaaDoor
set_option linter.unusedSimpArgs false
set_option linter.unusedVariables false
set_option maxRecDepth 100000
open Go.RowKit
theorem RepS.empty {w : World} {v : Value} (h : RepS w v []) (F : Nat → Prop) : OwnS w F v [] := by
  generalize hts : ([] : List V) = ts at h
  cases h with
  | mk a b off cap ts sls ha hc hm hbb cells wfs kids =>
    subst hts
    exact OwnS.mk F a b off cap [] sls (fun _ _ => False) (fun h => absurd rfl h) hc hm (fun h => absurd rfl h) (fun i hi => absurd hi (by simp)) (fun i j hij hj => absurd hj (by simp)) (fun i hi => absurd hi (by simp)) (fun i hi => absurd hi (by simp)) (fun i hi => absurd hi (by simp))
theorem VRow.snoc {w w' : World} {base : Nat} {E : TypeId} {G F : Nat → Prop} {v v' : Value} {ts : List V} {sls : List Value} {Fs : Nat → Nat → Prop} {t : V} {sl : Value} (h : VRow w base E G v ts sls Fs) (ht : t.wf) (ho : OwnS w F sl t.kids)
    (hF : ∀ x, F x → base ≤ x ∧ x < w.heap.size ∧ ¬ G x ∧ v.ownBlock ≠ some x)
    (hrow : w'.ownsRow base E 5 v' (ts.length + 1) (flat ts sls ++ flat [t] [sl])) (hg : w.grownBy w' v.ownBlock) (hfr : FreshOr w v v') :
    VRows w' base E (fun x => G x ∨ F x) v' (ts ++ [t]) := by
  have hk : ∀ x, (G x ∨ F x) → x < w.heap.size → w'.heap[x]? = w.heap[x]? := by
    intro x hx hs
    refine hg.block x hs (fun e => ?_)
    rcases hx with hx | hx
    · exact h.own x e.symm hx
    · exact (hF x hx).2.2.2 e.symm
  refine ⟨sls ++ [sl], fun i => if i < ts.length then Fs i else F, ?_, by simp [h.len], ?_, ?_, ?_, ?_, ?_, ?_⟩
  · rw [flat_append _ _ _ _ h.len, List.length_append]; exact hrow
  · intro i hi
    rw [List.length_append] at hi
    by_cases hlt : i < ts.length
    · rw [List.getElem_append_left hlt]; exact h.wfs i hlt
    · have : i = ts.length := by simp at hi; omega
      subst this; simpa using ht
  · intro i hi
    rw [List.length_append] at hi
    by_cases hlt : i < ts.length
    · have h1 := h.kids i hlt
      rw [if_pos hlt, List.getElem_append_left hlt]
      have : (sls ++ [sl]).getD i undef = sls.getD i undef := by
        rw [List.getD_eq_getElem?_getD, List.getD_eq_getElem?_getD, List.getElem?_append_left (by rw [h.len]; exact hlt)]
      rw [this]
      exact h1.keep (fun x hx hs => hk x (.inl (h.sub i hlt x hx)) hs)
    · have : i = ts.length := by simp at hi; omega
      subst this
      have e : (sls ++ [sl]).getD ts.length undef = sl := by rw [List.getD_eq_getElem?_getD, ← h.len]; simp
      rw [if_neg hlt, e]
      simpa using ho.keep (fun x hx hs => hk x (.inr hx) hs)
  · intro i hi x hx
    by_cases hlt : i < ts.length
    · simp only [if_pos hlt] at hx; exact .inl (h.sub i hlt x hx)
    · simp only [if_neg hlt] at hx; exact .inr hx
  · intro i j hij hj x hx hx'
    rw [List.length_append] at hj
    have hi : i < ts.length := by simp at hj; omega
    simp only [if_pos hi] at hx
    by_cases hlt : j < ts.length
    · simp only [if_pos hlt] at hx'; exact h.dis i j hij hlt x hx hx'
    · simp only [if_neg hlt] at hx'; exact (hF x hx').2.2.1 (h.sub i hi x hx)
  · intro g hg' hG
    rcases hfr with e | e
    · rw [e] at hg'
      rcases hG with hG | hG
      · exact h.own g hg' hG
      · exact (hF g hG).2.2.2 hg'
    · rw [e] at hg'
      simp only [Option.some.injEq] at hg'
      subst hg'
      rcases hG with hG | hG
      · have := (h.inG _ hG).2; omega
      · have := (hF _ hG).2.1; omega
  · intro x hx
    rcases hx with hx | hx
    · exact ⟨(h.inG x hx).1, Nat.lt_of_lt_of_le (h.inG x hx).2 hg.size⟩
    · exact ⟨(hF x hx).1, Nat.lt_of_lt_of_le (hF x hx).2.1 hg.size⟩
theorem VRows.slice3 {w : World} {base : Nat} {E : TypeId} {G : Nat → Prop} {v : Value} {ts : List V} (h : VRows w base E G v ts) : ∃ a n cap, v = .slice a n cap := by
  obtain ⟨a, cap, e⟩ := h.own.slice
  exact ⟨a, _, cap, e⟩
theorem VRows.made0 {w : World} {base b : Nat} {E : TypeId} (hb : base ≤ b) (h : w.heap[b]? = some (.cells #[] E (0, 0))) : VRows w base E (fun _ => False) (.slice (some ⟨b, 0, none⟩) 0 0) [] := by
  refine ⟨[], fun _ _ => False, ⟨?_, rfl, by simp, by simp, by simp, by simp, by simp, by simp⟩⟩
  exact ⟨rfl, .inr ⟨b, 0, #[], rfl, hb, h, Nat.le_refl 0, by simp [maxLen], by simp, by simp [flat]⟩⟩
theorem src_val {w : World} {b : Nat} {t : V} {sl : Value} (hb : w.heap[b]? = some (.cells #[.int .i64 t.k, .int .i64 t.n, .int .i64 t.e, .string t.s, sl] 26 (0, 0))) (h : RepS w sl t.kids) :
    Src Tryd.prog 5 24 (.slice (some ⟨b, 0, none⟩) 1 1) 1 (flat [t] [sl]) w := by
  refine Src.ofSlice _ Tryd.underlying24 _ _ _ _ (by simp [flat]) ?_ (flat_one [t] [sl] ?_)
  · intro j u hu
    rw [addr_add _ _ rfl, Nat.zero_add]
    rw [cell_of_row _ _ _ _ _ (0, 0) hb]
    simpa [flat] using hu
  · intro s hs
    obtain rfl := List.mem_singleton.1 hs
    obtain ⟨a, cap, e⟩ := h.slice
    exact ⟨a, _, cap, e⟩
section
variable {w : World} {ops : Array Oper} {rest : List Oper} {o : Oper} {a : Act} {Q : Exit → Act → World → Prop}
theorem app_own (hgd : o.guard = none) (s x : Operand)
    (ho : o.op = .call { callee := .builtin .append, args := #[s, x], argTypes := #[24, 24] })
    (base : Nat) (G F : Nat → Prop) (v : Value) (ts : List V) (hs : a.eval s = v) (hown : VRows w base 26 G v ts) (t : V) (sl : Value) (b : Nat) (hx : a.eval x = .slice (some ⟨b, 0, none⟩) 1 1)
    (hb : w.heap[b]? = some (.cells #[.int .i64 t.k, .int .i64 t.n, .int .i64 t.e, .string t.s, sl] 26 (0, 0))) (ht : t.wf) (hO : OwnS w F sl t.kids)
    (hF : ∀ x, F x → base ≤ x ∧ x < w.heap.size ∧ ¬ G x ∧ v.ownBlock ≠ some x)
    (h63 : ts.length ≤ 1099511627000) (hbase : base ≤ w.heap.size)
    (h : ∀ v' w', VRows w' base 26 (fun x => G x ∨ F x) v' (ts ++ [t]) → w.grownBy w' v.ownBlock → FreshOr w v v' → wpList Tryd.prog ops Q rest (a.put o.dst v') w') : wpList Tryd.prog ops Q (o :: rest) a w := by
  obtain ⟨i0, hi, hz0, hz1, hz2⟩ := info_parts info_impl
  obtain ⟨sls, Fs, hp⟩ := hown
  exact wpList_app hgd s x 24 24 ho base 26 i0 _ 5 64 Tryd.underlying24 hi hz0 hz1 hz2 rfl (by decide) v ts.length (flat ts sls) hs hp.row _ hx 1 (flat [t] [sl]) (src_val hb hO.rep) (by omega) hbase
    (fun v' w' h1 h2 h3 _ => h v' w' (hp.snoc ht hO hF h1 h2 h3) h2 h3)
end
end Go.Proofs.YtppmoajoffeleaaDoor
namespace Go.Proofs.YtppmoajoffeleaaDoor
set_option linter.unusedSimpArgs false
set_option linter.unusedVariables false
set_option maxRecDepth 100000
open Go.RowKit
theorem Box.set4 {w : World} {b : Nat} {k n e : Int} {s : ByteArray} {sl v : Value} {T : TypeId} (h : Box w b k n e s sl T) : Box (w.setCell ⟨b, 4, none⟩ v) b k n e s v T := by
  unfold Box at *
  rw [heap_setCell_same w b 4 _ _ _ h]; rfl
theorem Box.free {w : World} {b i : Nat} {k n e : Int} {s : ByteArray} {sl : Value} {T : TypeId} (h : Box w b k n e s sl T) : w.frozen? ⟨b, i, none⟩ = false := frozen_of_row w b i _ _ h
theorem VRows.move {w w' : World} {base : Nat} {E : TypeId} {G : Nat → Prop} {v : Value} {ts : List V} (h : VRows w base E G v ts) (hz : w.heap.size ≤ w'.heap.size) (hk : ∀ x, (G x ∨ v.ownBlock = some x) → w'.heap[x]? = w.heap[x]?) : VRows w' base E G v ts := by
  obtain ⟨sls, Fs, h⟩ := h
  refine ⟨sls, Fs, ⟨⟨h.row.1, ?_⟩, h.len, h.wfs, fun i hi => (h.kids i hi).keep (fun x hx _ => hk x (.inl (h.sub i hi x hx))), h.sub, h.dis, h.own, fun x hx => ⟨(h.inG x hx).1, Nat.lt_of_lt_of_le (h.inG x hx).2 hz⟩⟩⟩
  rcases h.row.2 with h2 | ⟨g, cap, cur, rfl, hbg, hg, r⟩
  · exact .inl h2
  · exact .inr ⟨g, cap, cur, rfl, hbg, by rw [hk g (.inr rfl)]; exact hg, r⟩
abbrev set5 (w : World) (c : Nat) (v0 v1 v2 v3 v4 : Value) : World := ((((w.setCell ⟨c, 0, none⟩ v0).setCell ⟨c, 1, none⟩ v1).setCell ⟨c, 2, none⟩ v2).setCell ⟨c, 3, none⟩ v3).setCell ⟨c, 4, none⟩ v4
theorem heap_set5 (w : World) (c x : Nat) (v0 v1 v2 v3 v4 : Value) (h : x ≠ c) : (set5 w c v0 v1 v2 v3 v4).heap[x]? = w.heap[x]? := by
  unfold set5
  rw [heap_setCell_other _ _ _ _ h, heap_setCell_other _ _ _ _ h, heap_setCell_other _ _ _ _ h, heap_setCell_other _ _ _ _ h, heap_setCell_other _ _ _ _ h]
theorem below_set5 (w : World) (c : Nat) (v0 v1 v2 v3 v4 : Value) : Below c w (set5 w c v0 v1 v2 v3 v4) := by
  unfold set5
  exact (((((Below.refl c w).setCell (Nat.le_refl c) v0).setCell (Nat.le_refl c) v1).setCell (Nat.le_refl c) v2).setCell (Nat.le_refl c) v3).setCell (Nat.le_refl c) v4
theorem size_set5 (w : World) (c : Nat) (v0 v1 v2 v3 v4 : Value) : (set5 w c v0 v1 v2 v3 v4).heap.size = w.heap.size := by simp [set5]
theorem OwnS.set5 {w : World} {F : Nat → Prop} {v : Value} {ts : List V} (h : OwnS w F v ts) (c : Nat) (hc : ¬ F c) (v0 v1 v2 v3 v4 : Value) : OwnS (Go.Proofs.YtppmoajoffeleaaDoor.set5 w c v0 v1 v2 v3 v4) F v ts :=
  h.keep (fun x hx _ => heap_set5 _ _ _ _ _ _ _ _ (fun e => hc (e ▸ hx)))
theorem Touch.set5 {A A' : Nat → Prop} {w W : World} (h : Touch A A' w W) (c : Nat) (hc : w.heap.size ≤ c) (v0 v1 v2 v3 v4 : Value) : Touch A A' w (Go.Proofs.YtppmoajoffeleaaDoor.set5 W c v0 v1 v2 v3 v4) :=
  ⟨(below_set5 W c v0 v1 v2 v3 v4).os.trans h.os, (below_set5 W c v0 v1 v2 v3 v4).tape.trans h.tape, (below_set5 W c v0 v1 v2 v3 v4).output.trans h.output, by rw [size_set5]; exact h.size, fun x hx hn => (heap_set5 _ _ _ _ _ _ _ _ (by omega)).trans (h.block x hx hn), h.new⟩
theorem l02Int_any (n : Int) (w : World) : Calls Tryd.prog 93 #[.int .i64 n] w fun e w' => e = .returned (.agg #[.int .i64 3, .int .i64 n, .int .i64 0, .string ⟨#[]⟩, .slice none 0 0]) ∧ Below w.heap.size w w' := by
  go_enter Tryd.func93, Tryd.ntmps93
  go_wp2_with fail
  exact bodyPost_ret (v := .agg #[.int .i64 3, .int .i64 n, .int .i64 0, .string ⟨#[]⟩, .slice none 0 0]) (by simp [results, Tryd.results93, go_sem]) rfl ⟨rfl, (by (repeat' (first | with_reducible exact Below.refl _ _ | with_reducible refine below_alloc ?_ _ ?_ | with_reducible refine Below.setCell ?_ ?_ _ | with_reducible refine Below.drew ?_ | with_reducible refine below_drewN ?_ _ | with_reducible refine below_step ?_ (by assumption) ?_ | with_reducible refine below_mark ?_ (by assumption) ?_)); all_goals (first | omega | (simp; done) | (simp; omega)))⟩
theorem l02Str_any (s : ByteArray) (w : World) : Calls Tryd.prog 72 #[.string s] w fun e w' => e = .returned (.agg #[.int .i64 5, .int .i64 0, .int .i64 0, .string s, .slice none 0 0]) ∧ Below w.heap.size w w' := by
  go_enter Tryd.func72, Tryd.ntmps72
  go_wp2_with fail
  exact bodyPost_ret (v := .agg #[.int .i64 5, .int .i64 0, .int .i64 0, .string s, .slice none 0 0]) (by simp [results, Tryd.results72, go_sem]) rfl ⟨rfl, (by (repeat' (first | with_reducible exact Below.refl _ _ | with_reducible refine below_alloc ?_ _ ?_ | with_reducible refine Below.setCell ?_ ?_ _ | with_reducible refine Below.drew ?_ | with_reducible refine below_drewN ?_ _ | with_reducible refine below_step ?_ (by assumption) ?_ | with_reducible refine below_mark ?_ (by assumption) ?_)); all_goals (first | omega | (simp; done) | (simp; omega)))⟩
end Go.Proofs.YtppmoajoffeleaaDoor
namespace Go.Proofs.YtppmoajoffeleaaDoor
set_option linter.unusedSimpArgs false
set_option linter.unusedVariables false
set_option maxRecDepth 100000
open Go.RowKit
theorem PRow.widen {w : World} {base : Nat} {G F : Nat → Prop} {v : Value} {ts : List V} (h : PRow w base G v ts) (hF : ∀ x, F x → x < w.heap.size ∧ v.ownBlock ≠ some x) : PRow w base (fun x => G x ∨ F x) v ts := by
  obtain ⟨sls, h⟩ := h
  exact ⟨sls, ⟨h.row, h.len, h.wfs, fun i hi => (h.kids i hi).mono (fun x hx _ => .inl hx), fun g hg hx => hx.elim (h.own g hg) (fun hf => (hF g hf).2 hg), fun x hx => hx.elim (h.inG x) (fun hf => (hF x hf).1)⟩⟩
theorem PRow.set1 {w : World} {base : Nat} {G : Nat → Prop} {g n cap i : Nat} {ts : List V} {t : V} {sl : Value} (h : PRow w base G (.slice (some ⟨g, 0, none⟩) n cap) ts) (hi : i < ts.length) (ht : t.wf) (ho : RepF w G sl t.kids) :
    PRow (put5 w g (i * 5) t sl) base G (.slice (some ⟨g, 0, none⟩) n cap) (ts.set i t) := by
  obtain ⟨sls, h⟩ := h
  have hn : n = ts.length := by
    rcases h.row.2 with ⟨h', _⟩ | ⟨g', cap', cur, h', _⟩ <;> simp at h'; exact h'.2.1
  subst hn
  have hgr := grownBy_put5 w g (i * 5) t sl
  have hk : ∀ x, G x → x < w.heap.size → (put5 w g (i * 5) t sl).heap[x]? = w.heap[x]? := by
    intro x hx hs
    refine hgr.block x hs (fun e => ?_)
    simp only [Option.some.injEq] at e
    exact h.own x (by rw [e]; rfl) hx
  refine ⟨sls.set i sl, ⟨?_, by simp [h.len], ?_, ?_, h.own, fun x hx => Nat.lt_of_lt_of_le (h.inG x hx) hgr.size⟩⟩
  · rw [List.length_set, ← flat_set ts sls i t sl hi h.len]
    exact ((((((h.row.stored (i * 5) (.int .i64 t.k)).1).stored (i * 5 + 1) (.int .i64 t.n)).1.stored (i * 5 + 2) (.int .i64 t.e)).1.stored (i * 5 + 3) (.string t.s)).1.stored (i * 5 + 4) sl).1
  · intro j hj
    rw [List.getElem_set]
    split
    · exact ht
    · exact h.wfs j (by simpa using hj)
  · intro j hj
    have hj' : j < ts.length := by simpa using hj
    rw [List.getElem_set]
    by_cases hji : j = i
    · subst hji
      have e : (sls.set j sl).getD j undef = sl := by rw [List.getD_eq_getElem?_getD, List.getElem?_set_self (by rw [h.len]; exact hj')]; rfl
      rw [e, if_pos rfl]
      exact ho.keep hgr.size hk
    · have e : (sls.set i sl).getD j undef = sls.getD j undef := by rw [List.getD_eq_getElem?_getD, List.getD_eq_getElem?_getD, List.getElem?_set_ne (fun e => hji e.symm)]
      rw [e, if_neg (fun e => hji e.symm)]
      exact (h.kids j hj').keep hgr.size hk
theorem PRow.base {w : World} {base base' : Nat} {G : Nat → Prop} {v : Value} {ts : List V} (h : PRow w base G v ts) (hb : base' ≤ base) : PRow w base' G v ts := by
  obtain ⟨sls, h⟩ := h
  refine ⟨sls, ⟨⟨h.row.1, ?_⟩, h.len, h.wfs, h.kids, h.own, h.inG⟩⟩
  rcases h.row.2 with h2 | ⟨g, cap, cur, rfl, hbg, r⟩
  · exact .inl h2
  · exact .inr ⟨g, cap, cur, rfl, by omega, r⟩
theorem PRow.elem {w : World} {base : Nat} {G : Nat → Prop} {g n cap : Nat} {ts : List V} (h : PRow w base G (.slice (some ⟨g, 0, none⟩) n cap) ts) (j : Nat) (hj : j < ts.length) : ∃ a c, Cells5 w g (j * 5) ts[j] (.slice a ts[j].kids.length c) ∧ ts[j].wf ∧ RepF w G (.slice a ts[j].kids.length c) ts[j].kids := by
  obtain ⟨sls, h⟩ := h
  have hcell : ∀ i u, (flat ts sls)[i]? = some u → w.cell? ⟨g, i, none⟩ = some u := by
    intro i u hu
    have := h.row.cells (g := g) rfl i u hu
    rwa [addr_add _ _ rfl, Nat.zero_add] at this
  have hj2 : j < sls.length := by rw [h.len]; exact hj
  have hk := h.kids j hj
  rw [List.getD_eq_getElem?_getD, List.getElem?_eq_getElem hj2, Option.getD_some] at hk
  obtain ⟨a, c, e⟩ := hk.slice
  obtain ⟨h0, h1, h2, h3, h4⟩ := flat_get ts sls j hj hj2
  rw [e] at h4 hk
  exact ⟨a, c, ⟨hcell _ _ h0, hcell _ _ h1, hcell _ _ h2, hcell _ _ h3, hcell _ _ h4⟩, h.wfs j hj, hk⟩
structure MO (A : Nat → Prop) (w3 W : World) (b : Nat) (gp : Option Nat) (us : List V) (o : Value) (G : Nat → Prop) : Prop where
  bel : Below b w3 W
  pk : ∀ g, gp = some g → g < w3.heap.size ∧ g ≠ b ∧ o.ownBlock ≠ some g ∧ W.heap[g]? = w3.heap[g]?
  box : Box W b 8 0 0 ⟨#[]⟩ o 26
  rows : PRow W (b + 1) G o us
  gl : ∀ x, G x → A x
theorem MO.over {A : Nat → Prop} {w3 W W' : World} {b : Nat} {gp : Option Nat} {us : List V} {o : Value} {G : Nat → Prop} (h : MO A w3 W b gp us o G) (hb : Below W.heap.size W W') : MO A w3 W' b gp us o G :=
  ⟨h.bel.trans (hb.mono (Nat.le_of_lt h.box.lt)), fun g hg => by obtain ⟨h1, h2, h3, h4⟩ := h.pk g hg; exact ⟨h1, h2, h3, (hb.block g (Nat.lt_of_lt_of_le h1 h.bel.size)).trans h4⟩, (hb.block b h.box.lt).trans h.box, h.rows.stay hb, h.gl⟩
theorem MO.put {A : Nat → Prop} {w3 W W1 W2 : World} {b : Nat} {gp : Option Nat} {us us2 : List V} {o v2 : Value} {G G2 : Nat → Prop} (h : MO A w3 W b gp us o G) (hW : Below W.heap.size W W1) (hg : W1.grownBy W2 o.ownBlock) (hf : ∀ g, gp = some g → g < W1.heap.size → o.ownBlock ≠ some g → v2.ownBlock ≠ some g) (hr : PRow W2 (b + 1) G2 v2 us2) (hG : ∀ x, G2 x → A x) (hb : ¬ A b) :
    MO A w3 (W2.setCell ⟨b, 4, none⟩ v2) b gp us2 v2 G2 := by
  have hl := h.box.lt
  have z1 := hW.size
  have z2 := hg.size
  have z3 := h.bel.size
  have hn : ∀ x, x < W.heap.size → o.ownBlock ≠ some x → W2.heap[x]? = W.heap[x]? := fun x hx hxo => (hg.block x (by omega) (fun e => hxo e.symm)).trans (hW.block x hx)
  have hob : o.ownBlock ≠ some b := fun e => by have := (h.rows.lt b e).1; omega
  have hs : ∀ x, x ≠ b → (W2.setCell ⟨b, 4, none⟩ v2).heap[x]? = W2.heap[x]? := fun x hx => heap_setCell_other _ _ _ _ (show ¬ x = b from hx)
  refine ⟨⟨hg.os.trans (hW.os.trans h.bel.os), hg.tape.trans (hW.tape.trans h.bel.tape), hg.output.trans (hW.output.trans h.bel.output), by simp; omega, fun x hx => (hs x (by omega)).trans ((hn x (by omega) (fun e => by have := (h.rows.lt x e).1; omega)).trans (h.bel.block x hx))⟩, fun g hgp => ?_, Box.set4 (show Box W2 b 8 0 0 ⟨#[]⟩ o 26 from (hn b hl hob).trans h.box), hr.keep (by simp) (fun x hx _ => hs x ?_), hG⟩
  · obtain ⟨h1, h2, h3, h4⟩ := h.pk g hgp
    exact ⟨h1, h2, hf g hgp (by omega) h3, (hs g h2).trans ((hn g (by omega) h3).trans h4)⟩
  · rcases hx with hx | hx
    · intro e; subst e; exact hb (hG x hx)
    · have := (hr.lt x hx).1; omega
theorem FreshOr.off {w : World} {o v2 : Value} {gp : Option Nat} (hf : FreshOr w o v2) : ∀ g, gp = some g → g < w.heap.size → o.ownBlock ≠ some g → v2.ownBlock ≠ some g := by
  intro g _ hg h3 e
  rcases hf with hf | hf
  · rw [hf] at e; exact h3 e
  · rw [hf] at e
    have := Option.some.inj e
    omega
theorem MO.sto {A : Nat → Prop} {w3 W W1 : World} {b : Nat} {gp : Option Nat} {us : List V} {g n cap : Nat} {G F : Nat → Prop} (h : MO A w3 W b gp us (.slice (some ⟨g, 0, none⟩) n cap) G) (hW : Below W.heap.size W W1) {j : Nat} (hj : j < us.length) {t : V} {sl : Value} (ht : t.wf) (ho : RepF W1 F sl t.kids)
    (hF : ∀ x, F x → x < W1.heap.size ∧ x ≠ g ∧ A x) (hb : ¬ A b) : MO A w3 (put5 W1 g (j * 5) t sl) b gp (us.set j t) (.slice (some ⟨g, 0, none⟩) n cap) (fun x => G x ∨ F x) := by
  have h1 := h.over hW
  have hgr := grownBy_put5 W1 g (j * 5) t sl
  have hgb := (h1.rows.lt g rfl)
  have hl := h1.box.lt
  have hn : ∀ x, x < W1.heap.size → x ≠ g → (put5 W1 g (j * 5) t sl).heap[x]? = W1.heap[x]? := fun x hx hxg => hgr.block x hx (fun e => hxg (Option.some.inj e))
  have z3 := h1.bel.size
  refine ⟨⟨hgr.os.trans h1.bel.os, hgr.tape.trans h1.bel.tape, hgr.output.trans h1.bel.output, Nat.le_trans z3 hgr.size, fun x hx => (hn x (by omega) (by omega)).trans (h1.bel.block x hx)⟩, fun q hq => ?_, (hn b hl (by omega)).trans h1.box, (h1.rows.widen (fun x hx => ⟨(hF x hx).1, fun e => (hF x hx).2.1 (Option.some.inj e).symm⟩)).set1 hj ht (ho.mono (fun x hx _ => .inr hx)), fun x hx => hx.elim (h1.gl x) (fun hf => (hF x hf).2.2)⟩
  obtain ⟨k1, k2, k3, k4⟩ := h1.pk q hq
  exact ⟨k1, k2, k3, (hn q (by omega) (fun e => k3 (by rw [e]; rfl))).trans k4⟩
theorem MO.root {A : Nat → Prop} {w3 W W' : World} {b : Nat} {gp : Option Nat} {us : List V} {o : Value} {G : Nat → Prop} (h : MO A w3 W b none us o G) (hb : Below W.heap.size W W') (hg : ∀ g, gp = some g → W.heap.size ≤ g ∧ g < W'.heap.size) : MO A W' W' b gp us o G :=
  ⟨Below.refl _ _, fun g e => ⟨(hg g e).2, fun e2 => by have := (hg g e).1; have := h.box.lt; omega, fun e2 => by have := (hg g e).1; have := (h.rows.lt g e2).2; omega, rfl⟩, (h.over hb).box, (h.over hb).rows, h.gl⟩
theorem rest_keep {Q : V → Prop} {k x y : V} {r out : List V} (ho : out.length % 2 = 0) (hr : r.length % 2 = 0) (hu : k.k = 5 → lkp k.s r = none) (hq : AllP (fun k _ => k.k = 5 → ∀ y, lkp k.s out = some y → Q y) r) :
    AllP (fun k' _ => k'.k = 5 → ∀ z, lkp k'.s (put1 out k x y) = some z → Q z) r := by
  have hk : ∀ l : List V, l.length % 2 = 0 → (k.k = 5 → lkp k.s l = none) → AllP (fun k _ => k.k = 5 → ∀ y, lkp k.s out = some y → Q y) l → AllP (fun k' _ => k'.k = 5 → ∀ z, lkp k'.s (put1 out k x y) = some z → Q z) l :=
    pairs_ind (fun _ _ => by rw [AllP]; trivial; intro _ _ _ h; cases h) (fun k2 x2 r2 _ ih2 hn ha => by
      rw [AllP] at ha ⊢
      refine ⟨fun h5 z hz => ?_, ih2 (fun hk5 => by
        have := hn hk5
        rw [lkp] at this
        split at this
        · cases this
        · exact this) ha.2⟩
      rw [put1_other ho (fun hk5 e => by
        have := hn hk5
        rw [lkp, if_pos ⟨h5, e⟩] at this
        cases this)] at hz
      exact ha.1 h5 z hz)
  exact hk r hr hu hq
structure MI (ts us : List V) (m : Nat) (R : List V) (c : Nat) : Prop where
  ev : us.length % 2 = 0
  me : m % 2 = 0
  le : m ≤ ts.length
  tev : ts.length % 2 = 0
  uq : Uq (ts.drop m)
  q : AllP (fun k _ => k.k = 5 → ∀ y, lkp k.s us = some y → Qd y) (ts.drop m)
  len : us.length ≤ c + m
  fin : mgs none us (ts.drop m) = R
theorem MI.two {ts us : List V} {m : Nat} {R : List V} {c : Nat} (_ : MI ts us m R c) (hm : m + 1 < ts.length) : ts.drop m = ts[m] :: ts[m + 1] :: ts.drop (m + 2) := by
  rw [List.drop_eq_getElem_cons (by omega : m < ts.length), List.drop_eq_getElem_cons hm]
theorem MI.old {ts us : List V} {m : Nat} {R : List V} {c : Nat} (h : MI ts us m R c) (hm : m + 1 < ts.length) (h5 : ts[m].k = 5) : Qd (old1 us ts[m]) := by
  have hq := h.q
  rw [h.two hm, AllP] at hq
  unfold old1
  cases hl : lkp ts[m].s us with
  | none => exact .inl rfl
  | some y => exact hq.1 h5 y hl
theorem put1_le (out : List V) (key x y : V) : (put1 out key x y).length ≤ out.length + 2 := by
  have hd : ∀ (s : ByteArray) (n : Nat) (l : List V), l.length ≤ n → (delK s l).length ≤ l.length := by
    intro s n
    induction n with
    | zero => intro l hl; obtain rfl := List.eq_nil_of_length_eq_zero (Nat.le_zero.1 hl); rw [delK]; exact Nat.le_refl _; intro _ _ _ h; cases h
    | succ n ih =>
      intro l hl
      match l, hl with
      | [], _ => rw [delK]; exact Nat.le_refl _; intro _ _ _ h; cases h
      | [a], _ => rw [delK]; exact Nat.le_refl _; intro _ _ _ h; cases h
      | k :: x :: r, hl =>
        rw [delK]
        simp only [List.length_cons] at hl
        have := ih r (by omega)
        split
        · simp only [List.length_cons]; omega
        · simp only [List.length_cons]; omega
  have hs : ∀ (s : ByteArray) (y : V) (n : Nat) (l : List V), l.length ≤ n → (setK s y l).length ≤ l.length := by
    intro s y n
    induction n with
    | zero => intro l hl; obtain rfl := List.eq_nil_of_length_eq_zero (Nat.le_zero.1 hl); rw [setK]; exact Nat.le_refl _; intro _ _ _ h; cases h
    | succ n ih =>
      intro l hl
      match l, hl with
      | [], _ => rw [setK]; exact Nat.le_refl _; intro _ _ _ h; cases h
      | [a], _ => rw [setK]; exact Nat.le_refl _; intro _ _ _ h; cases h
      | k :: x :: r, hl =>
        rw [setK]
        simp only [List.length_cons] at hl
        have := ih r (by omega)
        split
        · simp only [List.length_cons]; omega
        · simp only [List.length_cons]; omega
  unfold put1
  (repeat' split)
  · have := hd key.s _ out (Nat.le_refl _); omega
  · rw [List.length_append]; simp
  · have := hs key.s y _ out (Nat.le_refl _); omega
  · omega
theorem MI.step {ts us : List V} {m : Nat} {R : List V} {c : Nat} (h : MI ts us m R c) (hm : m + 1 < ts.length) : MI ts (put1 us ts[m] ts[m + 1] (mrg (old1 us ts[m]) ts[m + 1])) (m + 2) R c := by
  have h2 := h.two hm
  have hu := h.uq; have hq := h.q; have hf := h.fin
  rw [h2, Uq] at hu
  rw [h2, AllP] at hq
  rw [h2, mgs_pair] at hf
  have hme := h.me; have htv := h.tev; have hl := h.len
  have hp := put1_le us ts[m] ts[m + 1] (mrg (old1 us ts[m]) ts[m + 1])
  exact ⟨put1_len h.ev, by omega, by omega, h.tev, hu.2, rest_keep h.ev (by rw [List.length_drop]; omega) hu.1 hq.2, by omega, hf⟩
theorem MI.done {ts us : List V} {m : Nat} {R : List V} {c : Nat} (h : MI ts us m R c) (hm : ¬ m < ts.length) : us = R := by
  have := h.fin
  rw [List.drop_eq_nil_of_le (by omega), mgs] at this
  exact this
theorem MI.start {v p : V} {d : Int} (hp : rightB p d = true) (h8 : p.k = 8) (hv : Qd v) : MI p.kids (if v.k = 8 then v.kids else []) 0 (mgs none (if v.k = 8 then v.kids else []) p.kids) 300 := by
  have hpm := right_map hp h8
  have hb : (if v.k = 8 then v.kids else []).length % 2 = 0 ∧ (if v.k = 8 then v.kids else []).length ≤ 300 ∧ ∀ x ∈ (if v.k = 8 then v.kids else []), Qd x := by
    split
    · rename_i h
      rcases hv with rfl | ⟨d2, h2⟩
      · unfold MZ at h; simp [V.k] at h
      · refine ⟨(right_map h2 h).1, ?_, fun x hx => ?_⟩
        · have h3 := h2
          rw [rightB_eq] at h3
          simp only [Bool.and_eq_true, ownB] at h3
          have h4 := h3.1.2.2
          rw [if_neg (by omega), if_neg (by omega), if_pos h] at h4
          unfold pairsB at h4
          simp only [Bool.and_eq_true, decide_eq_true_eq] at h4
          exact h4.2
        · obtain ⟨j, hj, rfl⟩ := List.getElem_of_mem hx
          exact .inr ⟨d2 - 1, rightsB_at (right_kids h2) j hj⟩
    · exact ⟨rfl, by simp, fun x hx => by simp at hx⟩
  refine ⟨hb.1, rfl, Nat.zero_le _, hpm.1, by rw [List.drop_zero]; exact hpm.2, ?_, by omega, by rw [List.drop_zero]⟩
  rw [List.drop_zero]
  exact AllP_of _ hpm.1 (fun k _ x _ _ y hy => by
    obtain ⟨k2, _, _, h3⟩ := lkp_keys (P := fun _ y => Qd y) _ hb.1 (AllP_of _ hb.1 (fun _ _ x hx => hb.2.2 x hx)) y hy
    exact h3)
theorem put1_at {us : List V} {key x y : V} (h5 : key.k = 5) {j : Nat} (hj : j + 1 < us.length) (hl : lkp key.s us = some us[j + 1]) (hd : delK key.s us = us.take j ++ us.drop (j + 2)) (hs : ∀ y, setK key.s y us = us.set (j + 1) y) :
    put1 us key x y = if x.k = 0 then us.take j ++ us.drop (j + 2) else us.set (j + 1) y := by
  unfold put1
  rw [if_pos h5, hd, hs, hl]
  split
  · rfl
  · rw [if_neg (by simp)]
theorem put1_no {us : List V} {key x y : V} (h5 : key.k = 5) (he : us.length % 2 = 0) (hl : lkp key.s us = none) : put1 us key x y = if x.k = 0 then us else us ++ [key, y] := by
  unfold put1
  rw [if_pos h5, hl, del_none us he hl, if_pos rfl]
theorem put1_key {us : List V} {key x y : V} (h5 : ¬ key.k = 5) : put1 us key x y = us := by unfold put1; rw [if_neg h5]
end Go.Proofs.YtppmoajoffeleaaDoor
namespace Go.Proofs.YtppmoajoffeleaaDoor
set_option linter.unusedSimpArgs false
set_option linter.unusedVariables false
set_option maxRecDepth 100000
open Go.RowKit
theorem info_pair : (Tryd.prog.info? 80).map (fun i => (i.zero, i.size, i.bytes)) = some (some (.agg #[.int .i64 0, .int .i64 0, .int .i64 0, .string ⟨#[]⟩, .slice none 0 0, .int .i64 0, .int .i64 0, .int .i64 0, .string ⟨#[]⟩, .slice none 0 0]), 10, 128) := by kernel_rfl
theorem owns_keep {w w' : World} {base k n : Nat} {E : TypeId} {v : Value} {xs : List Value} (h : w.ownsRow base E k v n xs) (hk : ∀ x, v.ownBlock = some x → x < w.heap.size → w'.heap[x]? = w.heap[x]?) : w'.ownsRow base E k v n xs := by
  refine ⟨h.1, ?_⟩
  rcases h.2 with h2 | ⟨g, cap, cur, rfl, hbg, hg, r⟩
  · exact .inl h2
  · exact .inr ⟨g, cap, cur, rfl, hbg, by rw [hk g rfl (lt_of_heap hg)]; exact hg, r⟩
theorem owns_slice3 {w : World} {base k n : Nat} {E : TypeId} {v : Value} {xs : List Value} (h : w.ownsRow base E k v n xs) : ∃ a c, v = .slice a n c := by
  rcases h.2 with ⟨rfl, hn⟩ | ⟨g, cap, cur, rfl, _⟩
  · exact ⟨none, 0, by rw [hn]⟩
  · exact ⟨_, _, rfl⟩
structure PPair (w : World) (base : Nat) (G : Nat → Prop) (v : Value) (n : Nat) (ts : List V) (sls : List Value) : Prop where
  row : w.ownsRow base 80 10 v n (flat ts sls)
  len2 : ts.length = 2 * n
  len : sls.length = ts.length
  wfs : ∀ i (h : i < ts.length), ts[i].wf
  kids : ∀ i (h : i < ts.length), RepF w G (sls.getD i undef) ts[i].kids
  inG : ∀ x, G x → x < w.heap.size
theorem PPair.keep {w w' : World} {base n : Nat} {G : Nat → Prop} {v : Value} {ts : List V} {sls : List Value} (h : PPair w base G v n ts sls) (hz : w.heap.size ≤ w'.heap.size) (hk : ∀ x, (G x ∨ v.ownBlock = some x) → x < w.heap.size → w'.heap[x]? = w.heap[x]?) : PPair w' base G v n ts sls :=
  ⟨owns_keep h.row (fun x hx => hk x (.inr hx)), h.len2, h.len, h.wfs, fun i hi => (h.kids i hi).keep hz (fun x hx hs => hk x (.inl hx) hs), fun x hx => Nat.lt_of_lt_of_le (h.inG x hx) hz⟩
theorem RepF.opened {w : World} {G : Nat → Prop} {v : Value} {ts : List V} (h : RepF w G v ts) : ∃ a b off cap, v = .slice a ts.length cap ∧ (ts ≠ [] → a = some ⟨b, off, none⟩ ∧ b < w.heap.size ∧ G b) ∧ ts.length ≤ cap ∧ cap ≤ 9223372036854775807 ∧
    ∃ sls : Nat → Value, ∀ i (h : i < ts.length), Cells5 w b (off + i * 5) ts[i] (sls i) ∧ ts[i].wf ∧ RepF w G (sls i) ts[i].kids := by
  cases h with
  | mk a b off cap ts0 sls ha hc hm hb cells wfs kids => exact ⟨a, b, off, cap, rfl, fun hne => ⟨ha hne, hb hne⟩, hc, hm, sls, fun i hi => ⟨cells i hi, wfs i hi, kids i hi⟩⟩
theorem src_pair (w : World) (t u : V) (a1 a2 : Option Addr) (n1 n2 c1 c2 : Nat) :
    Src Tryd.prog 10 77 (.slice (some ⟨w.heap.size, 0, none⟩) 1 1) 1 (flat [t, u] [.slice a1 n1 c1, .slice a2 n2 c2]) (w.alloc (.cells #[.int .i64 t.k, .int .i64 t.n, .int .i64 t.e, .string t.s, .slice a1 n1 c1, .int .i64 u.k, .int .i64 u.n, .int .i64 u.e, .string u.s, .slice a2 n2 c2] 80)) := by
  refine Src.ofSlice _ Tryd.underlying77 _ _ _ _ (by simp [flat]) ?_ (flat_one [t, u] [.slice a1 n1 c1, .slice a2 n2 c2] ?_)
  · intro j v hv
    rw [addr_add _ _ rfl, Nat.zero_add]
    have hh := heap_alloc_new w (.cells #[.int .i64 t.k, .int .i64 t.n, .int .i64 t.e, .string t.s, .slice a1 n1 c1, .int .i64 u.k, .int .i64 u.n, .int .i64 u.e, .string u.s, .slice a2 n2 c2] 80)
    rw [cell_of_row _ _ _ _ _ (0, 0) hh]
    simpa [flat] using hv
  · intro s hs
    simp only [List.mem_cons, List.not_mem_nil, or_false] at hs
    rcases hs with rfl | rfl
    · exact ⟨_, _, _, rfl⟩
    · exact ⟨_, _, _, rfl⟩
theorem step_pair {w : World} {ops : Array Oper} {o : Oper} {a : Act} {K : Act → World → Prop} {Q : Exit → Act → World → Prop} {X : Prop} (hgd : o.guard = none) (s x : Operand)
    (ho : o.op = .call { callee := .builtin .append, args := #[s, x], argTypes := #[77, 77] })
    (base : Nat) (v : Value) (n : Nat) (xs news : List Value) (hs : a.eval s = v) (hown : w.ownsRow base 80 10 v n xs) (xv : Value) (hx : a.eval x = xv) (hsrc : Src Tryd.prog 10 77 xv 1 news w)
    (h63 : n + 1 ≤ 1099511627776) (hbase : base ≤ w.heap.size)
    (h : ∀ v' w', w'.ownsRow base 80 10 v' (n + 1) (xs ++ news) → w.grownBy w' v.ownBlock → FreshOr w v v' → K (a.put o.dst v') w') : if Region.wanted o (yielded ops a.tmps) = true then Oper.wp Tryd.prog o a w K Q else X := by
  obtain ⟨i0, hi, hz0, hz1, hz2⟩ := info_parts info_pair
  exact step_app hgd s x 77 77 ho base 80 i0 _ 10 128 Tryd.underlying77 hi hz0 hz1 hz2 rfl (by decide) v n xs hs hown xv hx 1 news hsrc h63 hbase (fun v' w' h1 h2 h3 _ => h v' w' h1 h2 h3)
theorem flat_take2 (ts : List V) (L : List Value) (hl : L.length = ts.length) (m : Nat) (hm : m + 1 < ts.length) : flat (ts.take (m + 2)) (L.take (m + 2)) = flat (ts.take m) (L.take m) ++ flat [ts[m], ts[m + 1]] [L[m]'(by omega), L[m + 1]'(by omega)] := by
  have e1 : ts.take (m + 2) = ts.take m ++ [ts[m], ts[m + 1]] := by
    rw [List.take_succ_eq_append_getElem (show m + 1 < ts.length from hm), List.take_succ_eq_append_getElem (by omega : m < ts.length), List.append_assoc]; rfl
  have e2 : L.take (m + 2) = L.take m ++ [L[m]'(by omega), L[m + 1]'(by omega)] := by
    rw [List.take_succ_eq_append_getElem (by omega : m + 1 < L.length), List.take_succ_eq_append_getElem (by omega : m < L.length), List.append_assoc]; rfl
  rw [e1, e2, flat_append _ _ _ _ (by rw [List.length_take, List.length_take, hl])]
def PairsRet (F : Nat → Prop) (w : World) (ts : List V) (e : Ending) (w' : World) : Prop := ∃ v' sls, e = .returned v' ∧ PPair w' w.heap.size (fun x => F x ∧ x < w.heap.size) v' (ts.length / 2) ts sls ∧ Below w.heap.size w w'
set_option maxHeartbeats 4000000 in
theorem pairsOf_any (F : Nat → Prop) (t : V) (sl : Value) (w : World) (h : RepF w F sl t.kids) (hev : t.kids.length % 2 = 0) (hl : t.kids.length ≤ 1048576) :
    Calls Tryd.prog 66 #[t.agg sl] w (PairsRet F w t.kids) := by
  have hB := h.bound
  obtain ⟨a, b, off, cap, rfl, ha, hc, hm, sls, hel⟩ := hB.opened
  have HA := Lib.hid ha; have HE := Lib.hid hel
  clear ha hel h hB
  unfold V.agg
  generalize t.k = k at *
  generalize t.n = n at *
  generalize t.e = ee at *
  generalize t.s = st at *
  generalize t.kids = ts at *
  obtain ⟨L, hL⟩ : ∃ L, L = (List.range ts.length).map sls := ⟨_, rfl⟩
  have hLl : L.length = ts.length := by rw [hL]; simp
  have hLg : ∀ i (h : i < ts.length), L[i]'(by omega) = sls i := by intro i h; subst hL; simp
  have HLG := Lib.hid hLg
  clear hL hLg
  have BX := Lib.hid ((Box.new w k n ee st (.slice a ts.length cap) 26).alloc (.cells #[] 80))
  obtain ⟨W0, hW0⟩ : ∃ W0, W0 = (w.alloc (.cells #[.int .i64 k, .int .i64 n, .int .i64 ee, .string st, .slice a ts.length cap] 26)).alloc (.cells #[] 80) := ⟨_, rfl⟩
  have hz0 : W0.heap.size = w.heap.size + 2 := by rw [hW0]; simp
  have HB0 := Lib.hid (show Below w.heap.size w W0 from by rw [hW0]; exact (by (with_reducible (repeat' (first | exact Below.refl _ _ | refine below_alloc ?_ _ ?_ | refine Below.setCell ?_ ?_ _ | refine Below.drew ?_ | refine below_drewN ?_ _ | refine below_step ?_ (by assumption) ?_ | refine below_mark ?_ (by assumption) ?_))); all_goals (first | omega | (simp; done) | (simp; omega))))
  have hz1 : (w.alloc (.cells #[.int .i64 k, .int .i64 n, .int .i64 ee, .string st, .slice a ts.length cap] 26)).heap.size = w.heap.size + 1 := by simp
  have R0 := Lib.hid (show W0.ownsRow (w.heap.size + 1) 80 10 (.slice (some ⟨w.heap.size + 1, 0, none⟩) 0 0) 0 [] from by
    have := World.ownsRow_lit (w := w.alloc (.cells #[.int .i64 k, .int .i64 n, .int .i64 ee, .string st, .slice a ts.length cap] 26)) (base := w.heap.size + 1) (e := 80) (size := 10) #[] 0 (by omega) (by simp [maxLen]) rfl
    rw [hz1] at this
    rw [hW0]; exact this)
  rw [← hW0] at BX
  go_enter Tryd.func66, Tryd.ntmps66
  go_wp2_with fail
  rw [← hW0]
  clear hW0 hz1
  go_loopw [3, 4] (fun o ii wr => ∃ j m : Nat, m = 2 * j ∧ ii = .int .i64 m ∧ m ≤ ts.length ∧ wr.ownsRow (w.heap.size + 1) 80 10 o j (flat (ts.take m) (L.take m)) ∧ Below (w.heap.size + 1) W0 wr) (fun _ ii _ => ts.length + 2 - (intOf ii).toNat)
  case atStart => exact ⟨0, 0, rfl, rfl, by omega, by rw [List.take_zero, List.take_zero]; exact R0.out, Below.refl _ _⟩
  case round =>
    obtain ⟨j, m, hmj, rfl, hmt, hrow, hbl⟩ := hrel
    have hzr := hbl.size
    have HB := Lib.hid (HB0.out.trans (hbl.mono (by omega)))
    have HROW := Lib.hid hrow
    have HBL := Lib.hid hbl
    obtain ⟨d0, d1, d2, d3, d4⟩ := (show Box wr w.heap.size k n ee st (.slice a ts.length cap) 26 from (hbl.block w.heap.size (by omega)).trans BX.out).cells
    have HMJ := Lib.hid hmj
    clear hrow hbl d0 d1 d2 d3 hmj
    by_cases hlt : m + 1 < ts.length
    · have hne : ts ≠ [] := by intro e; rw [e] at hlt; simp at hlt
      obtain ⟨rfl, hbw, -⟩ := HA.out hne
      obtain ⟨c0, c1, c2, c3, c4⟩ := (HE.out m (by omega)).1.keep (HB.out.block b hbw)
      obtain ⟨e0, e1, e2, e3, e4⟩ := (HE.out (m + 1) hlt).1.keep (HB.out.block b hbw)
      have HT := Lib.hid (flat_take2 ts L hLl m hlt)
      rw [HLG.out m (by omega), HLG.out (m + 1) hlt] at HT
      obtain ⟨sa, sc, hs1⟩ := (HE.out m (by omega)).2.2.slice
      obtain ⟨sa2, sc2, hs2⟩ := (HE.out (m + 1) hlt).2.2.slice
      rw [hs1] at c4 HT
      rw [hs2] at e4 HT
      clear hs1 hs2
      obtain ⟨t1, ht1⟩ : ∃ t1, t1 = ts[m] := ⟨_, rfl⟩
      obtain ⟨t2, ht2⟩ : ∃ t2, t2 = ts[m + 1] := ⟨_, rfl⟩
      rw [← ht1] at c0 c1 c2 c3 c4 HT
      rw [← ht2] at e0 e1 e2 e3 e4 HT
      clear ht1 ht2
      obtain ⟨oa, oc, rfl⟩ := owns_slice3 HROW.out
      have S1 := Lib.hid (src_pair wr.drew t1 t2 sa sa2 t1.kids.length t2.kids.length sc sc2)
      have hdr : wr.drew.heap.size = wr.heap.size := rfl
      have R1 := Lib.hid (owns_keep HROW.out (w' := wr.drew.alloc (.cells #[.int .i64 t1.k, .int .i64 t1.n, .int .i64 t1.e, .string t1.s, .slice sa t1.kids.length sc, .int .i64 t2.k, .int .i64 t2.n, .int .i64 t2.e, .string t2.s, .slice sa2 t2.kids.length sc2] 80)) (fun x _ hs => Below.heap_alloc wr.drew _ _ hs))
      have hlt' : (m : Int) + 1 < (ts.length : Int) := by omega
      have hlt0 : m < ts.length := by omega
      have hj1 : j ≤ 1048576 := by have := HMJ.out; omega
      have hw1 : IntKind.i64.wrap ((m : Int) + 1) = (m : Int) + 1 := by rw [IntKind.wrap_i64]; omega
      have hp1 : (0 : Int) ≤ (m : Int) + 1 := by omega
      have ht1 : ((m : Int) + 1).toNat = m + 1 := by omega
      have hzq : w.heap.size + 1 ≤ wr.drew.heap.size := by have h0 := HBL.out.size; rw [hdr]; omega
      go_wp2_with fail
      go_region_law (refine step_pair rfl _ _ rfl (w.heap.size + 1) _ j _ _ rfl R1.out _ rfl S1.out (by omega) (by simp; omega) ?_; intro v2 w2 hrow2 hg2 hfr2; obtain ⟨va, vc, rfl⟩ := owns_slice3 hrow2; have HG2 := Lib.hid hg2; have HR2 := Lib.hid hrow2; clear hrow2 hg2 hfr2)
      all_goals
        go_wp2_with fail
        go_roundw
        case rel => exact ⟨j + 1, m + 2, by have := HMJ.out; omega, by go_num, by omega, by rw [HT.out]; exact HR2.out, Below.grown (HBL.out.trans ((Below.refl _ _).drew.alloc hzq _)) HG2.out (by rw [show (wr.drew.alloc _).heap.size = wr.heap.size + 1 by simp]; omega) (fun x hx => (World.ownsRow.lt HROW.out x hx).1)⟩
        case measure => simp [intOf]; omega
    · have hlt' : ¬ (m : Int) + 1 < (ts.length : Int) := by omega
      have hme : m = ts.length := by have := HMJ.out; omega
      obtain ⟨oa, oc, rfl⟩ := owns_slice3 HROW.out
      have HP := Lib.hid (show PairsRet F w ts (.returned (.slice oa j oc)) wr from by
        have hr := HROW.out
        rw [hme, List.take_length, ← hLl, List.take_length] at hr
        have hmj := HMJ.out
        refine ⟨_, L, rfl, ⟨?_, by omega, hLl, fun i hi => (HE.out i hi).2.1, fun i hi => ?_, fun x hx => Nat.lt_of_lt_of_le hx.2 HB.out.size⟩, HB.out⟩
        · rw [show ts.length / 2 = j by omega]
          refine ⟨hr.1, ?_⟩
          rcases hr.2 with h2 | ⟨g, cap, cur, hv, hbg, r⟩
          · exact .inl h2
          · exact .inr ⟨g, cap, cur, hv, by omega, r⟩
        · have e := HLG.out i hi
          rw [List.getD_eq_getElem?_getD, List.getElem?_eq_getElem (by have := hLl; omega), Option.getD_some, e]
          exact (HE.out i hi).2.2.stay HB.out)
      go_wp2_with fail
      go_ret
      exact HP.out
end Go.Proofs.YtppmoajoffeleaaDoor
namespace Go.Proofs.YtppmoajoffeleaaDoor
set_option linter.unusedSimpArgs false
set_option linter.unusedVariables false
set_option maxRecDepth 100000
open Go.RowKit
mutual
def V.pre : V → List V
  | .mk k n e s ks => .mk k n e s ks :: pres ks
def pres : List V → List V
  | [] => []
  | t :: ts => t.pre ++ pres ts
 end
end Go.Proofs.YtppmoajoffeleaaDoor
namespace Go.Proofs.YtppmoajoffeleaaDoor
set_option linter.unusedSimpArgs false
set_option linter.unusedVariables false
set_option maxRecDepth 100000
open Go.RowKit
theorem RepS.opened' {w : World} {v : Value} {ts : List V} (h : RepS w v ts) : ∃ a b off cap, v = .slice a ts.length cap ∧ (ts ≠ [] → a = some ⟨b, off, none⟩ ∧ b < w.heap.size) ∧ ts.length ≤ cap ∧ cap ≤ 9223372036854775807 ∧
    ∃ sls : Nat → Value, ∀ i (h : i < ts.length), Cells5 w b (off + i * 5) ts[i] (sls i) ∧ ts[i].wf ∧ RepS w (sls i) ts[i].kids := by
  cases h with
  | mk a b off cap ts0 sls ha hc hm hbb cells wfs kids => exact ⟨a, b, off, cap, rfl, fun hne => ⟨ha hne, hbb hne⟩, hc, hm, sls, fun i hi => ⟨cells i hi, wfs i hi, kids i hi⟩⟩
theorem RepS.take {w : World} {a : Option Addr} {n cap : Nat} {ts : List V} (h : RepS w (.slice a n cap) ts) (i : Nat) (hi : i ≤ ts.length) : RepS w (.slice a i cap) (ts.take i) := by
  obtain ⟨a', b, off, cap', hv, ha, hc, hm, sls, hel⟩ := h.opened'
  simp only [Value.slice.injEq] at hv
  obtain ⟨rfl, rfl, rfl⟩ := hv
  have hl : (ts.take i).length = i := by rw [List.length_take]; omega
  have := RepS.mk (w := w) a b off cap (ts.take i) sls (fun hne => (ha (fun e => hne (by rw [e]; simp))).1) (by rw [hl]; omega) hm (fun hne => (ha (fun e => hne (by rw [e]; simp))).2)
    (fun j hj => by rw [hl] at hj; rw [List.getElem_take]; exact (hel j (by omega)).1) (fun j hj => by rw [hl] at hj; rw [List.getElem_take]; exact (hel j (by omega)).2.1) (fun j hj => by rw [hl] at hj; rw [List.getElem_take]; exact (hel j (by omega)).2.2)
  rw [hl] at this
  exact this
end Go.Proofs.YtppmoajoffeleaaDoor
namespace Go.Proofs.YtppmoajoffeleaaDoor
set_option linter.unusedSimpArgs false
set_option linter.unusedVariables false
set_option maxRecDepth 100000
open Go.RowKit
theorem Box.grown {w w' : World} {b : Nat} {k n e : Int} {s : ByteArray} {sl : Value} {T : TypeId} (h : Box w b k n e s sl T) {o : Option Nat} (hg : w.grownBy w' o) (hn : o ≠ some b) : Box w' b k n e s sl T :=
  (hg.block b h.lt (fun e => hn e.symm)).trans h
end Go.Proofs.YtppmoajoffeleaaDoor
namespace Go.Proofs.YtppmoajoffeleaaDoor
set_option linter.unusedSimpArgs false
set_option linter.unusedVariables false
set_option maxRecDepth 100000
open Go.RowKit
def CloRet (F : Nat → Prop) (w : World) (ts : List V) (e : Ending) (w' : World) : Prop := ∃ v', e = .returned v' ∧ PRow w' w.heap.size (fun x => F x ∧ x < w.heap.size) v' ts ∧ Below w.heap.size w w'
set_option maxHeartbeats 2000000 in
theorem Clone_any (F : Nat → Prop) (v : Value) (ts : List V) (w : World) (h : RepF w F v ts) (hl : ts.length ≤ 2097152) :
    Calls Tryd.prog 65 #[v] w (CloRet F w ts) := by
  obtain ⟨a, cap, rfl⟩ := h.slice
  have q22 : ∀ (w : World) (a : Option Addr) (n c n' c' : Nat), (binOp .eql 24 (.slice a n c) (.slice none n' c')).run Tryd.prog w = .ok (.bool a.isNone) w := fun w a n c n' c' => Lib.run_eql_slice_nil w _ _ a n c n' c' Tryd.underlying24
  cases a with
  | none =>
    have hts : ts = [] := by
      obtain ⟨a2, b, off, cap2, e, ha, -⟩ := h.rep.opened
      injection e with e1 e2 e3
      by_cases hne : ts = []
      · exact hne
      · have := (ha hne).1
        rw [← e1] at this
        cases this
    subst hts
    have HF := Lib.hid (show CloRet F w [] (.returned (.slice none 0 0)) w from ⟨_, rfl, ⟨[], ⟨⟨by simp [flat], .inl ⟨rfl, rfl⟩⟩, rfl, by simp, by simp, (by intro g hg; cases hg), fun x hx => hx.2⟩⟩, Below.refl _ _⟩)
    clear h
    go_enter Tryd.func65, Tryd.ntmps65
    go_wp2_with fail
    go_ret
    exact HF.out
  | some a =>
    have hal : Below w.heap.size w (w.alloc (.cells #[] 26)) := (Below.refl _ _).alloc (Nat.le_refl _) _
    obtain ⟨sms, hs2⟩ := vsrc_of (h.bound.stay hal)
    have HS := Lib.hid hs2
    have R0 := Lib.hid (PRow.made0 (w := w) (Nat.le_refl _))
    have HAL := Lib.hid hal
    clear hs2 h hal
    go_enter Tryd.func65, Tryd.ntmps65
    go_wp2_with (at_builtin; go_loud (refine app_vals rfl _ _ rfl w.heap.size _ _ _ _ _ _ rfl R0.out _ rfl HS.out (fun x hx => ⟨by have := hx.2; simp; omega, fun e => by have h2 := (R0.out.lt x e).1; have := hx.2; omega⟩) (by simp; omega) (by simp) ?_); intro v2 w2 hrow2 hg2 hfr2; have HR := Lib.hid hrow2; have HB := Lib.hid (HAL.out.grown hg2 (by simp) (fun k hk => (R0.out.lt k hk).1)); clear hrow2 hg2 hfr2)
    go_ret
    exact ⟨_, rfl, by have := HR.out; simpa using this, HB.out⟩
end Go.Proofs.YtppmoajoffeleaaDoor
namespace Go.Proofs.YtppmoajoffeleaaDoor
set_option linter.unusedSimpArgs false
set_option linter.unusedVariables false
set_option maxRecDepth 100000
open Go.RowKit
theorem PRow.some1 {w : World} {base : Nat} {G : Nat → Prop} {v : Value} {ts : List V} (h : PRow w base G v ts) (hne : ts ≠ []) : ∃ g cap, v = .slice (some ⟨g, 0, none⟩) ts.length cap := by
  obtain ⟨sls, h⟩ := h
  rcases h.row.2 with ⟨rfl, hn⟩ | ⟨g, cap, cur, rfl, _⟩
  · exact absurd (List.eq_nil_of_length_eq_zero hn) hne
  · exact ⟨g, cap, rfl⟩
theorem PPair.some1 {w : World} {base n : Nat} {G : Nat → Prop} {v : Value} {ts : List V} {sls : List Value} (h : PPair w base G v n ts sls) (hn : 0 < n) : ∃ g cap, v = .slice (some ⟨g, 0, none⟩) n cap := by
  rcases h.row.2 with ⟨rfl, h0⟩ | ⟨g, cap, cur, rfl, _⟩
  · omega
  · exact ⟨g, cap, rfl⟩
theorem PPair.tens {w : World} {base n g cap : Nat} {G : Nat → Prop} {ts : List V} {sls : List Value} (h : PPair w base G (.slice (some ⟨g, 0, none⟩) n cap) n ts sls) (i : Nat) (h1 : 2 * i + 1 < ts.length) : ∃ a1 c1 a2 c2,
    w.cell? ⟨g, i * 10, none⟩ = some (.int .i64 ts[2 * i].k) ∧ w.cell? ⟨g, i * 10 + 1, none⟩ = some (.int .i64 ts[2 * i].n) ∧ w.cell? ⟨g, i * 10 + 2, none⟩ = some (.int .i64 ts[2 * i].e) ∧ w.cell? ⟨g, i * 10 + 3, none⟩ = some (.string ts[2 * i].s) ∧ w.cell? ⟨g, i * 10 + 4, none⟩ = some (.slice a1 ts[2 * i].kids.length c1) ∧
    w.cell? ⟨g, i * 10 + 5, none⟩ = some (.int .i64 ts[2 * i + 1].k) ∧ w.cell? ⟨g, i * 10 + 6, none⟩ = some (.int .i64 ts[2 * i + 1].n) ∧ w.cell? ⟨g, i * 10 + 7, none⟩ = some (.int .i64 ts[2 * i + 1].e) ∧ w.cell? ⟨g, i * 10 + 8, none⟩ = some (.string ts[2 * i + 1].s) ∧ w.cell? ⟨g, i * 10 + 9, none⟩ = some (.slice a2 ts[2 * i + 1].kids.length c2) ∧
    RepF w G (.slice a1 ts[2 * i].kids.length c1) ts[2 * i].kids ∧ RepF w G (.slice a2 ts[2 * i + 1].kids.length c2) ts[2 * i + 1].kids ∧ ts[2 * i].wf ∧ ts[2 * i + 1].wf := by
  have hcell : ∀ j u, (flat ts sls)[j]? = some u → w.cell? ⟨g, j, none⟩ = some u := by
    intro j u hu
    have := h.row.cells (g := g) rfl j u hu
    rwa [addr_add _ _ rfl, Nat.zero_add] at this
  have l1 : 2 * i < sls.length := by rw [h.len]; omega
  have l2 : 2 * i + 1 < sls.length := by rw [h.len]; omega
  have k1 := h.kids (2 * i) (by omega)
  have k2 := h.kids (2 * i + 1) h1
  rw [List.getD_eq_getElem?_getD, List.getElem?_eq_getElem l1, Option.getD_some] at k1
  rw [List.getD_eq_getElem?_getD, List.getElem?_eq_getElem l2, Option.getD_some] at k2
  obtain ⟨a1, c1, e1⟩ := k1.slice
  obtain ⟨a2, c2, e2⟩ := k2.slice
  obtain ⟨f0, f1, f2, f3, f4⟩ := flat_get ts sls (2 * i) (by omega) l1
  obtain ⟨g0, g1, g2, g3, g4⟩ := flat_get ts sls (2 * i + 1) h1 l2
  rw [e1] at f4 k1
  rw [e2] at g4 k2
  rw [show 2 * i * 5 = i * 10 by omega] at f0 f1 f2 f3 f4
  rw [show (2 * i + 1) * 5 = i * 10 + 5 by omega] at g0 g1 g2 g3 g4
  exact ⟨a1, c1, a2, c2, hcell _ _ f0, hcell _ _ f1, hcell _ _ f2, hcell _ _ f3, hcell _ _ f4, hcell _ _ g0, hcell _ _ g1, hcell _ _ g2, hcell _ _ g3, hcell _ _ g4, k1, k2, h.wfs _ _, h.wfs _ _⟩
theorem vsrc_lt {w : World} {F : Nat → Prop} {T : TypeId} (us : List V) (sms : List Value) (hl : sms.length = us.length) (hw : ∀ i (h : i < us.length), us[i].wf) (hk : ∀ i (h : i < us.length), RepF w F (sms.getD i undef) us[i].kids) (cs : Array Value) (hcs : cs = (flat us sms).toArray) (n m : Nat) (hn : n = us.length) :
    VSrc (w.alloc (.cells cs T)) F (.slice (some ⟨w.heap.size, 0, none⟩) n m) us sms := by
  subst hcs hn
  refine ⟨Src.ofSlice _ Tryd.underlying24 _ _ _ _ (by rw [flat_length _ _ hl]) ?_ (flat_one us sms ?_), hl, hw, ?_⟩
  · intro j u hu
    rw [addr_add _ _ rfl, Nat.zero_add]
    have hh := heap_alloc_new w (.cells (flat us sms).toArray T)
    rw [cell_of_row _ _ _ _ _ (0, 0) hh]
    simpa using hu
  · intro s hs
    obtain ⟨i, hi, rfl⟩ := List.getElem_of_mem hs
    obtain ⟨a, cap, e⟩ := (hk i (by omega)).slice
    rw [List.getD_eq_getElem?_getD, List.getElem?_eq_getElem hi] at e
    exact ⟨a, _, cap, e⟩
  · intro i hi
    exact (hk i hi).stay ((Below.refl _ _).alloc (Nat.le_refl _) _)
def MrgRet (Fv Fp : Nat → Prop) (w : World) (t : V) (e : Ending) (w' : World) : Prop := ∃ sl, e = .returned (t.agg sl) ∧ t.wf ∧ RepF w' (fun x => Fv x ∨ Fp x ∨ w.heap.size ≤ x) sl t.kids ∧ Below w.heap.size w w'
theorem map_wf (L : List V) : (V.mk 8 0 0 ⟨#[]⟩ L).wf := ⟨by show In64 8; unfold In64; omega, by show In64 0; unfold In64; omega, by show In64 0; unfold In64; omega, by show ByteArray.size ⟨#[]⟩ ≤ _; simp [ByteArray.size]⟩
set_option maxHeartbeats 16000000 in
theorem merged_all : ∀ (N : Nat) (p : V) (d : Int), p.nodes ≤ N → rightB p d = true → ∀ (v : V) (Fv Fp : Nat → Prop) (sv sp : Value) (w : World), Qd v → v.wf → p.wf → RepF w Fv sv v.kids → RepF w Fp sp p.kids →
    Calls Tryd.prog 40 #[v.agg sv, p.agg sp] w (MrgRet Fv Fp w (mrg v p)) := by
  intro N
  induction N with
  | zero => intro p d h; rw [V.nodes_eq] at h; omega
  | succ N ih =>
  intro p d hN hp v Fv Fp sv sp w hQ hvw hpw hv0 hp0
  have hv := hv0.bound
  have hpb := hp0.bound
  obtain ⟨av, cv, rfl⟩ := hv.slice
  obtain ⟨ap, cp, rfl⟩ := hpb.slice
  have BV := Lib.hid (((Box.new w v.k v.n v.e v.s (.slice av v.kids.length cv) 26).alloc (.cells #[.int .i64 p.k, .int .i64 p.n, .int .i64 p.e, .string p.s, .slice ap p.kids.length cp] 26)).alloc (.cells #[.int .i64 0, .int .i64 0, .int .i64 0, .string ⟨#[]⟩, .slice none 0 0] 26))
  have BP := Lib.hid ((Box.new (w.alloc (.cells #[.int .i64 v.k, .int .i64 v.n, .int .i64 v.e, .string v.s, .slice av v.kids.length cv] 26)) p.k p.n p.e p.s (.slice ap p.kids.length cp) 26).alloc (.cells #[.int .i64 0, .int .i64 0, .int .i64 0, .string ⟨#[]⟩, .slice none 0 0] 26))
  have BZ := Lib.hid (Box.new ((w.alloc (.cells #[.int .i64 v.k, .int .i64 v.n, .int .i64 v.e, .string v.s, .slice av v.kids.length cv] 26)).alloc (.cells #[.int .i64 p.k, .int .i64 p.n, .int .i64 p.e, .string p.s, .slice ap p.kids.length cp] 26)) 0 0 0 ⟨#[]⟩ (.slice none 0 0) 26)
  obtain ⟨W0, hW0⟩ : ∃ W0, W0 = ((w.alloc (.cells #[.int .i64 v.k, .int .i64 v.n, .int .i64 v.e, .string v.s, .slice av v.kids.length cv] 26)).alloc (.cells #[.int .i64 p.k, .int .i64 p.n, .int .i64 p.e, .string p.s, .slice ap p.kids.length cp] 26)).alloc (.cells #[.int .i64 0, .int .i64 0, .int .i64 0, .string ⟨#[]⟩, .slice none 0 0] 26) := ⟨_, rfl⟩
  have hz0 : W0.heap.size = w.heap.size + 3 := by rw [hW0]; simp
  have HB0 := Lib.hid (show Below w.heap.size w W0 from by rw [hW0]; exact (by (with_reducible (repeat' (first | exact Below.refl _ _ | refine below_alloc ?_ _ ?_ | refine Below.setCell ?_ ?_ _ | refine Below.drew ?_ | refine below_drewN ?_ _ | refine below_step ?_ (by assumption) ?_ | refine below_mark ?_ (by assumption) ?_))); all_goals (first | omega | (simp; done) | (simp; omega))))
  rw [← hW0] at BV BP BZ
  rw [show (w.alloc (.cells #[.int .i64 v.k, .int .i64 v.n, .int .i64 v.e, .string v.s, .slice av v.kids.length cv] 26)).heap.size = w.heap.size + 1 by simp] at BP
  rw [show ((w.alloc (.cells #[.int .i64 v.k, .int .i64 v.n, .int .i64 v.e, .string v.s, .slice av v.kids.length cv] 26)).alloc (.cells #[.int .i64 p.k, .int .i64 p.n, .int .i64 p.e, .string p.s, .slice ap p.kids.length cp] 26)).heap.size = w.heap.size + 2 by simp] at BZ
  by_cases h8 : p.k = 8
  case neg =>
    have HF := Lib.hid (show MrgRet Fv Fp w (mrg v p) (.returned (p.agg (.slice ap p.kids.length cp))) (set5 W0 (w.heap.size + 2) (.int .i64 p.k) (.int .i64 p.n) (.int .i64 p.e) (.string p.s) (.slice ap p.kids.length cp)) from by
      have hb : Below w.heap.size w (set5 W0 (w.heap.size + 2) (.int .i64 p.k) (.int .i64 p.n) (.int .i64 p.e) (.string p.s) (.slice ap p.kids.length cp)) := HB0.out.trans ((below_set5 W0 (w.heap.size + 2) _ _ _ _ _).mono (by omega))
      rw [mrg_eq, if_neg h8]
      exact ⟨_, rfl, hpw, (hpb.stay hb).mono (fun x hx _ => .inr (.inl hx.1)), hb⟩)
    have t8 : (p.k != 8) = true := by simpa using h8
    obtain ⟨y0, y1, y2, y3, y4⟩ := BP.out.cells
    obtain ⟨z0, z1, z2, z3, z4⟩ := BZ.out.cells
    have zf0 := BZ.out.free (i := 0); have zf1 := BZ.out.free (i := 1); have zf2 := BZ.out.free (i := 2); have zf3 := BZ.out.free (i := 3); have zf4 := BZ.out.free (i := 4)
    clear ih hN hp hQ hvw hpw hv0 hp0 hv hpb h8 BV BP BZ
    generalize mrg v p = R at *
    unfold V.agg at HF ⊢
    generalize p.k = pk at *
    generalize p.n = pn at *
    generalize p.e = pe at *
    generalize p.s = ps at *
    go_enter Tryd.func40, Tryd.ntmps40
    go_upto_region 1 with fail
    rw [← hW0]
    clear hW0
    go_wp2_with fail
    exact bodyPost_ret (v := .agg #[.int .i64 pk, .int .i64 pn, .int .i64 pe, .string ps, .slice ap p.kids.length cp]) (by simp [results, Tryd.results40, go_sem, z0, z1, z2, z3, z4]) rfl HF.out
  have HI := Lib.hid (MI.start hp h8 hQ)
  have HN := Lib.hid hN
  have HR := Lib.hid (show mrg v p = .mk 8 0 0 ⟨#[]⟩ (mgs none (if v.k = 8 then v.kids else []) p.kids) by rw [mrg_eq, if_pos h8])
  have hpl : p.kids.length ≤ 300 := by
    have h3 := hp
    rw [rightB_eq] at h3
    simp only [Bool.and_eq_true, ownB] at h3
    have h4 := h3.1.2.2
    rw [if_neg (by omega), if_neg (by omega), if_pos h8] at h4
    unfold pairsB at h4
    simp only [Bool.and_eq_true, decide_eq_true_eq] at h4
    exact h4.2
  have t8 : (p.k != 8) = false := by simpa using h8
  have HWF := Lib.hid (show ∀ j (h : j < p.kids.length), p.kids[j].wf from by
    obtain ⟨a2, b2, off2, cap2, -, -, -, -, sl2, hel⟩ := hpb.opened
    exact fun j h => (hel j h).2.1)
  have IH := Lib.hid (fun (j : Nat) (hj : j < p.kids.length) (y : V) (Gv Gp : Nat → Prop) (s1 s2 : Value) (W : World) (hy : Qd y) (hyw : y.wf) (h1 : RepF W Gv s1 y.kids) (h2 : RepF W Gp s2 p.kids[j].kids) =>
    ih p.kids[j] (d - 1) (by have h3 := nodes_mem (List.getElem_mem hj); rw [V.nodes_eq] at hN; omega) (rightsB_at (right_kids hp) j hj) y Gv Gp s1 s2 W hy hyw (HWF.out j hj) h1 h2)
  have hA : ¬ ((fun x => (Fv x ∧ x < w.heap.size) ∨ (Fp x ∧ x < w.heap.size) ∨ w.heap.size + 3 < x) (w.heap.size + 3)) := by
    intro h
    rcases h with h | h | h
    · have := h.2; omega
    · have := h.2; omega
    · omega
  have HAA := Lib.hid hA
  have HV := Lib.hid hv; have HP := Lib.hid hpb
  have hev : p.kids.length % 2 = 0 := (right_map hp h8).1
  have hvl : (if v.k = 8 then v.kids else []).length ≤ 300 := by have := HI.out.len; omega
  clear ih hN hp hQ hvw hpw hv0 hp0 hv hpb hA
  obtain ⟨pt, hpt⟩ : ∃ pt, pt = p := ⟨_, rfl⟩
  have HPT := Lib.hid hpt
  obtain ⟨vks, hvks⟩ : ∃ vks, vks = v.kids := ⟨_, rfl⟩
  rw [← hvks] at HI HR HV BV hvl hW0 ⊢
  generalize mrg v p = R0 at *
  unfold V.agg
  rw [h8] at BP hW0 ⊢
  clear h8
  generalize v.k = vk at *
  generalize v.n = vn at *
  generalize v.e = ve at *
  generalize v.s = vs at *
  generalize p.n = pn at *
  generalize p.e = pe at *
  generalize p.s = ps at *
  generalize p.kids = ts at *
  clear hvks hpt HPT
  have BO := Lib.hid (Box.new W0 8 0 0 ⟨#[]⟩ (.slice none 0 0) 26)
  rw [hz0] at BO
  have HALO := Lib.hid (show Below W0.heap.size W0 (W0.alloc (.cells #[.int .i64 8, .int .i64 0, .int .i64 0, .string ⟨#[]⟩, .slice none 0 0] 26)) from (Below.refl _ _).alloc (Nat.le_refl _) _)
  obtain ⟨x0, x1, x2, x3, x4⟩ := BV.out.cells
  obtain ⟨y0, y1, y2, y3, y4⟩ := BP.out.cells
  have HMN := Lib.hid (show MO (fun x => (Fv x ∧ x < w.heap.size) ∨ (Fp x ∧ x < w.heap.size) ∨ w.heap.size + 3 < x) (W0.alloc (.cells #[.int .i64 8, .int .i64 0, .int .i64 0, .string ⟨#[]⟩, .slice none 0 0] 26)) (W0.alloc (.cells #[.int .i64 8, .int .i64 0, .int .i64 0, .string ⟨#[]⟩, .slice none 0 0] 26)) (w.heap.size + 3) none [] (.slice none 0 0) (fun _ => False) from
    ⟨Below.refl _ _, (fun g e => by cases e), BO.out, PRow.nil _ _, (fun x hx => False.elim hx)⟩)
  go_enter Tryd.func40, Tryd.ntmps40
  go_upto_region 1 with fail
  rw [← hW0]
  clear hW0
  by_cases hv8 : vk = 8
  have tv : (vk == 8) = true := by simpa using hv8
  rw [if_pos hv8] at HI HR hvl
  clear hv8
  go_wp2_with fail
  have hz1 : (W0.alloc (.cells #[.int .i64 8, .int .i64 0, .int .i64 0, .string ⟨#[]⟩, .slice none 0 0] 26)).heap.size = w.heap.size + 4 := by simp; omega
  refine (Clone_any _ _ vks _ ((HV.out.stay HB0.out).stay HALO.out) (by omega)).mono ?_
  rintro e1 w1 ⟨o, rfl, hrow, hb1⟩
  obtain ⟨oa, on, oc, rfl⟩ := hrow.slice3
  have HM1 := Lib.hid (HMN.out.put (v2 := .slice oa on oc) hb1 (show w1.grownBy w1 (Value.slice none 0 0).ownBlock from ⟨rfl, rfl, rfl, Nat.le_refl _, fun _ _ _ => rfl⟩) (fun g e => by cases e) (hrow.base (by omega)) (fun x hx => .inl hx.1) HAA.out)
  have HB1 := Lib.hid ((HALO.out.mono (Nat.le_of_eq hz0.symm)).trans HM1.out.bel)
  have BO1 := Lib.hid (BO.out.stay hb1)
  obtain ⟨z0, z1, z2, z3, z4⟩ := BO1.out.cells
  have zf4 := BO1.out.free (i := 4)
  go_upto_region 6 with fail
  have HM3 := Lib.hid (HM1.out.root (Below.refl _ _) (gp := none) (fun g e => by cases e))
  have HB3 := HB1
  clear HM1 HB1 BO1 z0 z1 z2 z3 z4 zf4 hrow hb1 HMN HALO BO x0 x1 x2 x3 x4 BV
  generalize w1.setCell ⟨w.heap.size + 3, 4, none⟩ (.slice oa on oc) = W3 at *
  rotate_left
  have tv : (vk == 8) = false := by simpa using hv8
  rw [if_neg hv8] at HI HR hvl
  clear hv8
  go_upto_region 6 with fail
  have HM3 := HMN
  have HB3 := Lib.hid (HALO.out.mono (Nat.le_of_eq hz0.symm))
  clear HMN HALO BO x0 x1 x2 x3 x4 BV
  generalize W0.alloc (.cells #[.int .i64 8, .int .i64 0, .int .i64 0, .string ⟨#[]⟩, .slice none 0 0] 26) = W3 at *
  all_goals
    generalize HRR : mgs none _ ts = R1 at HI HR
    clear HRR y0 y1 y2 y3 y4
    obtain ⟨y0, y1, y2, y3, y4⟩ := (show Box W3 (w.heap.size + 1) 8 pn pe ps (.slice ap ts.length cp) 26 from (HB3.out.block (w.heap.size + 1) (by omega)).trans BP.out).cells
    have hzw := HB3.out.size
    go_wp2_with fail
    refine (pairsOf_any (fun x => Fp x ∧ x < w.heap.size) (V.mk 8 pn pe ps ts) _ W3 (HP.out.stay (HB0.out.trans (HB3.out.mono (by omega)))) hev (show ts.length ≤ 1048576 by omega)).mono ?_
    rintro e4 w4 ⟨pv, psl, rfl, hpp0, hb4⟩
    have hpp : PPair w4 W3.heap.size (fun x => (Fp x ∧ x < w.heap.size) ∧ x < W3.heap.size) pv (ts.length / 2) ts psl := hpp0
    clear hpp0
    obtain ⟨pa, pc, rfl⟩ := owns_slice3 hpp.row
    have hn2 := hpp.len2
    have HPP := Lib.hid hpp
    have HM4 := Lib.hid (HM3.out.root hb4 (gp := (Value.slice pa (ts.length / 2) pc).ownBlock) (fun g e => World.ownsRow.lt hpp.row g e))
    have HB4 := Lib.hid (HB3.out.trans (hb4.mono (by have := HM3.out.box.lt; omega)))
    have hzb := HM3.out.box.lt
    have hz4 := hb4.size
    clear hpp hb4 HM3 HB3 HV y0 y1 y2 y3 y4
    generalize hn : ts.length / 2 = n at *
    have hn300 : n ≤ 150 := by omega
    clear hn
    go_wp2_with fail
    go_loopw [24] (fun ii wr => ∃ (i : Nat) (us : List V) (o : Value) (G : Nat → Prop), ii = .int .i64 i ∧ i ≤ n ∧ MI ts us (2 * i) R1 300 ∧ MO (fun x => (Fv x ∧ x < w.heap.size) ∨ (Fp x ∧ x < w.heap.size) ∨ w.heap.size + 3 < x) w4 wr (w.heap.size + 3) (Value.slice pa n pc).ownBlock us o G) (fun ii _ => n - (intOf ii).toNat)
    case atStart => exact ⟨0, _, _, _, rfl, by omega, HI.out, HM4.out⟩
    case round =>
      obtain ⟨i, us, o, G, rfl, hin, hmi, hmo⟩ := hrel
      have HMI := Lib.hid hmi; have HMO := Lib.hid hmo
      have hzr := hmo.bel.size
      clear hmi hmo
      obtain ⟨oa, on, oc, rfl⟩ := HMO.out.rows.slice3
      by_cases hlt : i < n
      case neg =>
        obtain rfl : us = R1 := HMI.out.done (by omega)
        obtain ⟨z0, z1, z2, z3, z4⟩ := HMO.out.box.cells
        have BZ2 := Lib.hid (show Box wr (w.heap.size + 2) 0 0 0 ⟨#[]⟩ (.slice none 0 0) 26 from (HMO.out.bel.block (w.heap.size + 2) (by omega)).trans ((HB4.out.block (w.heap.size + 2) (by omega)).trans BZ.out))
        obtain ⟨x0, x1, x2, x3, x4⟩ := BZ2.out.cells
        have zf0 := BZ2.out.free (i := 0); have zf1 := BZ2.out.free (i := 1); have zf2 := BZ2.out.free (i := 2); have zf3 := BZ2.out.free (i := 3); have zf4 := BZ2.out.free (i := 4)
        have HF := Lib.hid (show MrgRet Fv Fp w R0 (.returned (.agg #[.int .i64 8, .int .i64 0, .int .i64 0, .string ⟨#[]⟩, .slice oa on oc])) (set5 wr (w.heap.size + 2) (.int .i64 8) (.int .i64 0) (.int .i64 0) (.string ⟨#[]⟩) (.slice oa on oc)) from by
          rw [HR.out]
          refine ⟨.slice oa on oc, rfl, map_wf _, ?_, HB0.out.trans ((HB4.out.mono (by omega)).trans ((HMO.out.bel.mono (by omega)).trans ((below_set5 wr (w.heap.size + 2) _ _ _ _ _).mono (by omega))))⟩
          have hg : ∀ x, (G x ∨ (Value.slice oa on oc).ownBlock = some x) → (Fv x ∧ x < w.heap.size) ∨ (Fp x ∧ x < w.heap.size) ∨ w.heap.size + 3 < x := fun x hx => by
            rcases hx with hx | hx
            · exact HMO.out.gl x hx
            · have := (HMO.out.rows.lt x hx).1
              exact .inr (.inr (by omega))
          refine (HMO.out.rows.repF.keep (Nat.le_of_eq (size_set5 _ _ _ _ _ _ _).symm) (fun x hx _ => heap_set5 _ _ _ _ _ _ _ _ ?_)).mono (fun x hx _ => ?_)
          · rcases hg x hx with h | h | h
            · have := h.2; omega
            · have := h.2; omega
            · omega
          · rcases hg x hx with h | h | h
            · exact .inl h.1
            · exact .inr (.inl h.1)
            · exact .inr (.inr (by omega)))
        clear HMI HMO HPP HM4 HB4 IH HI HP HWF
        go_wp2_with fail
        exact bodyPost_ret (v := .agg #[.int .i64 8, .int .i64 0, .int .i64 0, .string ⟨#[]⟩, .slice oa on oc]) (by simp [results, Tryd.results40, go_sem, x0, x1, x2, x3, x4]) rfl HF.out
      case pos =>
        have hm1 : 2 * i + 1 < ts.length := by omega
        obtain ⟨g, cap, hpa⟩ := HPP.out.some1 (by omega)
        obtain ⟨rfl, rfl⟩ : pa = some ⟨g, 0, none⟩ ∧ pc = cap := by injection hpa with e1 e2 e3; exact ⟨e1, e3⟩
        clear hpa
        obtain ⟨k1, k2, k3, k4⟩ := HMO.out.pk g rfl
        have hx : ∀ j, wr.cell? ⟨g, j, none⟩ = w4.cell? ⟨g, j, none⟩ := fun j => World.cell?_of_block (a := ⟨g, j, none⟩) k4
        obtain ⟨a1, c1, a2, c2, d0, d1, d2, d3, d4, d5, d6, d7, d8, d9, hk1, hk2, hw1, hw2⟩ := HPP.out.tens i hm1
        rw [← hx] at d0 d1 d2 d3 d4 d5 d6 d7 d8 d9
        have HK1 := Lib.hid (hk1.keep hzr (fun x hx _ => HMO.out.bel.block x (by have := hx.1.2; omega)))
        have HK2 := Lib.hid (hk2.keep hzr (fun x hx _ => HMO.out.bel.block x (by have := hx.1.2; omega)))
        have ST := Lib.hid (HMI.out.step hm1)
        have OL := Lib.hid (HMI.out.old hm1)
        have IHX := Lib.hid (fun y Gv Gp s1 s2 W hy hyw h1 h2 => IH.out (2 * i + 1) hm1 y Gv Gp s1 s2 W hy hyw h1 h2)
        have HW1 := Lib.hid hw1; have HW2 := Lib.hid hw2
        have HUE := Lib.hid HMI.out.ev
        have hul : us.length ≤ 600 := by have := HMI.out.len; omega
        clear hx hk1 hk2 hw1 hw2 k2 k3 k4 HWF IH HMI HI HPP HM4
        obtain ⟨key, hkey⟩ : ∃ key, key = ts[2 * i] := ⟨_, rfl⟩
        obtain ⟨x, hxx⟩ : ∃ x, x = ts[2 * i + 1] := ⟨_, rfl⟩
        rw [← hkey] at d0 d1 d2 d3 d4 HK1 ST OL HW1
        rw [← hxx] at d5 d6 d7 d8 d9 HK2 ST IHX HW2
        clear hkey hxx
        obtain ⟨W5, hW5⟩ : ∃ W5, W5 = wr.alloc (.cells #[.int .i64 key.k, .int .i64 key.n, .int .i64 key.e, .string key.s, .slice a1 key.kids.length c1, .int .i64 x.k, .int .i64 x.n, .int .i64 x.e, .string x.s, .slice a2 x.kids.length c2] 80) := ⟨_, rfl⟩
        have hz5 : W5.heap.size = wr.heap.size + 1 := by rw [hW5]; simp
        have HX := Lib.hid (show W5.heap[wr.heap.size]? = some (.cells #[.int .i64 key.k, .int .i64 key.n, .int .i64 key.e, .string key.s, .slice a1 key.kids.length c1, .int .i64 x.k, .int .i64 x.n, .int .i64 x.e, .string x.s, .slice a2 x.kids.length c2] 80 (0, 0)) from by rw [hW5]; exact heap_alloc_new _ _)
        have HB5 := Lib.hid (show Below wr.heap.size wr W5 from by rw [hW5]; exact (Below.refl _ _).alloc (Nat.le_refl _) _)
        have HM5 := Lib.hid (HMO.out.over HB5.out)
        have q0 : W5.cell? ⟨wr.heap.size, 0, none⟩ = some (.int .i64 key.k) := by rw [cell_of_row _ _ _ _ _ (0, 0) HX.out]; rfl
        have q3 : W5.cell? ⟨wr.heap.size, 3, none⟩ = some (.string key.s) := by rw [cell_of_row _ _ _ _ _ (0, 0) HX.out]; rfl
        obtain ⟨z0, z1, z2, z3, z4⟩ := HM5.out.box.cells
        by_cases h5 : key.k = 5
        case neg =>
          have t5 : (key.k != 5) = true := by simpa using h5
          have ST2 := ST.out
          rw [put1_key h5] at ST2
          go_upto_region 9 with fail
          rw [← hW5]
          clear hW5
          go_wp2_with fail
          go_roundw
          case rel => exact ⟨i + 1, us, _, G, by go_num, by omega, ST2, HM5.out⟩
          case measure => simp [intOf]; omega
        case pos =>
          have t5 : (key.k != 5) = false := by simpa using h5
          have H5 := Lib.hid h5
          clear h5
          go_upto_region 10 with fail
          rw [← hW5]
          clear hW5
          go_wp2_with fail
          refine (find_any W5 _ (V.mk 8 0 0 ⟨#[]⟩ us) ⟨.slice oa on oc, rfl, map_wf us, HM5.out.rows.rep⟩ (show us.length ≤ 1048576 by omega) key.s W5 (Below.refl _ _)).mono ?_
          rintro e6 w6 ⟨rfl, hb6⟩
          have HM6 := Lib.hid (HM5.out.over hb6)
          have HX6 := Lib.hid ((hb6.block wr.heap.size (by omega)).trans HX.out)
          have HK16 := Lib.hid (HK1.out.stay (HB5.out.trans (hb6.mono (by omega))))
          have HK26 := Lib.hid (HK2.out.stay (HB5.out.trans (hb6.mono (by omega))))
          have hz6 := hb6.size
          clear hb6 HM5 HX q0 q3 HB5 HK1 HK2 HMO z0 z1 z2 z3 z4
          rw [show (V.mk 8 0 0 ⟨#[]⟩ us).kids = us from rfl, show (V.mk 8 0 0 ⟨#[]⟩ us).k = 8 from rfl, if_pos rfl]
          obtain ⟨z0, z1, z2, z3, z4⟩ := HM6.out.box.cells
          have zf4 := HM6.out.box.free (i := 4)
          have r0 : w6.cell? ⟨wr.heap.size, 0, none⟩ = some (.int .i64 key.k) := by rw [cell_of_row _ _ _ _ _ (0, 0) HX6.out]; rfl
          have r1 : w6.cell? ⟨wr.heap.size, 1, none⟩ = some (.int .i64 key.n) := by rw [cell_of_row _ _ _ _ _ (0, 0) HX6.out]; rfl
          have r2 : w6.cell? ⟨wr.heap.size, 2, none⟩ = some (.int .i64 key.e) := by rw [cell_of_row _ _ _ _ _ (0, 0) HX6.out]; rfl
          have r3 : w6.cell? ⟨wr.heap.size, 3, none⟩ = some (.string key.s) := by rw [cell_of_row _ _ _ _ _ (0, 0) HX6.out]; rfl
          have r4 : w6.cell? ⟨wr.heap.size, 4, none⟩ = some (.slice a1 key.kids.length c1) := by rw [cell_of_row _ _ _ _ _ (0, 0) HX6.out]; rfl
          have r5 : w6.cell? ⟨wr.heap.size, 5, none⟩ = some (.int .i64 x.k) := by rw [cell_of_row _ _ _ _ _ (0, 0) HX6.out]; rfl
          have r6 : w6.cell? ⟨wr.heap.size, 6, none⟩ = some (.int .i64 x.n) := by rw [cell_of_row _ _ _ _ _ (0, 0) HX6.out]; rfl
          have r7 : w6.cell? ⟨wr.heap.size, 7, none⟩ = some (.int .i64 x.e) := by rw [cell_of_row _ _ _ _ _ (0, 0) HX6.out]; rfl
          have r8 : w6.cell? ⟨wr.heap.size, 8, none⟩ = some (.string x.s) := by rw [cell_of_row _ _ _ _ _ (0, 0) HX6.out]; rfl
          have r9 : w6.cell? ⟨wr.heap.size, 9, none⟩ = some (.slice a2 x.kids.length c2) := by rw [cell_of_row _ _ _ _ _ (0, 0) HX6.out]; rfl
          have HXK := Lib.hid (show x.k = 0 ∨ ¬ x.k = 0 from Decidable.em _)
          rcases fk_in key.s us HUE.out 0 with ⟨hF, hO⟩ | ⟨j, hj0, hF, hj, hO, hD, hS⟩
          · rw [hF]
            clear hF
            have PN := Lib.hid (put1_no (y := mrg (old1 us key) x) (x := x) H5.out HUE.out hO)
            rcases HXK.out with hx0 | hx0
            · have PE := PN.out
              rw [if_pos hx0] at PE
              have ST2 := Lib.hid (show MI ts us (2 * i + 2) R1 300 from by have := ST.out; rw [PE] at this; exact this)
              have t6 : (x.k == 0) = true := by simpa using hx0
              clear hx0 PE PN ST IHX OL hO HXK
              generalize x.k = xk at *
              go_wp2_with fail
              go_roundw
              case rel => exact ⟨i + 1, us, _, G, by go_num, by omega, ST2.out, HM6.out⟩
              case measure => simp [intOf]; omega
            · have PE := PN.out
              rw [if_neg hx0] at PE
              have hol : old1 us key = MZ := by unfold old1; rw [hO]; rfl
              have ST2 := ST.out
              rw [PE, hol] at ST2
              have HST := Lib.hid ST2
              have t6 : (x.k == 0) = false := by simpa using hx0
              have CL := Lib.hid (fun (W : World) (hW : Below w6.heap.size w6 W) => IHX.out MZ (fun _ => False) _ (.slice none 0 0) (.slice a2 x.kids.length c2) W (.inl rfl) ⟨by show In64 0; unfold In64; omega, by show In64 0; unfold In64; omega, by show In64 0; unfold In64; omega, by show ByteArray.size ⟨#[]⟩ ≤ _; simp [ByteArray.size]⟩ (RepF.nil _ _) (HK26.out.stay hW))
              clear hx0 PE PN ST ST2 IHX OL hO HXK hol
              generalize mrg MZ x = y at *
              unfold V.agg at CL
              obtain ⟨W9, hW9⟩ : ∃ W9 : World, W9 = w6.drew := ⟨_, rfl⟩
              have hz9 : w6.heap.size = W9.heap.size := by rw [hW9]; rfl
              have HB9 := Lib.hid (show Below w6.heap.size w6 W9 from by rw [hW9]; exact (Below.refl _ _).drew)
              have HW9 := Lib.hid hW9
              subst hW9
              go_wp2_with fail
              go_region_law (first | (refine step_vals rfl _ _ rfl (w.heap.size + 3 + 1) G (fun z => ((Fp z ∧ z < w.heap.size) ∧ z < W3.heap.size) ∨ (w6.heap.size ≤ z ∧ z < w7.heap.size)) _ us [key, y] [.slice a1 key.kids.length c1, .slice ya yn yc] rfl (HM7.out.rows.stay ((by (with_reducible (repeat' (first | exact Below.refl _ _ | refine below_alloc ?_ _ ?_ | refine Below.setCell ?_ ?_ _ | refine Below.drew ?_ | refine below_drewN ?_ _ | refine below_step ?_ (by assumption) ?_ | refine below_mark ?_ (by assumption) ?_))); all_goals (first | omega | (simp; done) | (simp; omega))))) _ rfl (vsrc_lt [key, y] [.slice a1 key.kids.length c1, .slice ya yn yc] rfl (fun j hj => by rcases (show j = 0 ∨ j = 1 by simp at hj; omega) with rfl | rfl; exact HW1.out; exact HYW.out) (fun j hj => by rcases (show j = 0 ∨ j = 1 by simp at hj; omega) with rfl | rfl; exact HK17.out; exact HY.out) _ rfl _ _ rfl) (fun z hz => HFZ.out z hz) (by simp; omega) (by simp; omega) ?_; intro v2 w2 hrow2 hg2 hfr2; obtain ⟨va, vn, vc, rfl⟩ := hrow2.slice3; have HG2 := Lib.hid hg2; have HR2 := Lib.hid hrow2; have HF2 := Lib.hid hfr2; have HB2 := Lib.hid (show Box w2 (w.heap.size + 3) 8 0 0 ⟨#[]⟩ (.slice oa on oc) 26 from (hg2.block (w.heap.size + 3) (by simp; omega) (fun e => by have := (HM7.out.rows.lt _ e.symm).1; omega)).trans (HM7.out.box.stay ((by (with_reducible (repeat' (first | exact Below.refl _ _ | refine below_alloc ?_ _ ?_ | refine Below.setCell ?_ ?_ _ | refine Below.drew ?_ | refine below_drewN ?_ _ | refine below_step ?_ (by assumption) ?_ | refine below_mark ?_ (by assumption) ?_))); all_goals (first | omega | (simp; done) | (simp; omega)))))); have hfz := HB2.out.free (i := 4); have hcc := HB2.out.cells.2.2.2.2; clear hrow2 hg2 hfr2) | (go_simp; go_at_call 40; refine (CL.out _ HB9.out).mono ?_; rintro e7 w7 ⟨ys, rfl, ywf, yrep, hb7⟩; obtain ⟨ya, yn, yc, rfl⟩ : ∃ sa sn sc, ys = .slice sa sn sc := (by obtain ⟨p, q, e⟩ := yrep.slice; exact ⟨p, _, q, e⟩); unfold V.agg; have HM7 := Lib.hid (HM6.out.over (HB9.out.trans (hb7.mono (Nat.le_of_eq hz9)))); have HYW := Lib.hid ywf; have HY := Lib.hid (yrep.mono (G' := fun z => ((Fp z ∧ z < w.heap.size) ∧ z < W3.heap.size) ∨ (w6.heap.size ≤ z ∧ z < w7.heap.size)) (fun z hz hzs => hz.elim (fun h => h.elim) (fun h => h.elim .inl (fun h => .inr ⟨h, hzs⟩)))); have HK17 := Lib.hid ((HK16.out.stay (HB9.out.trans (hb7.mono (Nat.le_of_eq hz9)))).mono (G' := fun z => ((Fp z ∧ z < w.heap.size) ∧ z < W3.heap.size) ∨ (w6.heap.size ≤ z ∧ z < w7.heap.size)) (fun z hz _ => .inl hz)); have HX7 := Lib.hid ((hb7.block wr.heap.size (by omega)).trans ((HB9.out.block wr.heap.size (by omega)).trans HX6.out)); have hz7 : w6.heap.size ≤ w7.heap.size := hb7.size; have HFZ := Lib.hid (show ∀ z, (((Fp z ∧ z < w.heap.size) ∧ z < W3.heap.size) ∨ (w6.heap.size ≤ z ∧ z < w7.heap.size)) → z < (w7.alloc (.cells #[.int .i64 key.k, .int .i64 key.n, .int .i64 key.e, .string key.s, .slice a1 key.kids.length c1, .int .i64 y.k, .int .i64 y.n, .int .i64 y.e, .string y.s, .slice ya yn yc] 26)).heap.size ∧ (Value.slice oa on oc).ownBlock ≠ some z from (fun z hz => by simp only [World.size_alloc]; have hl := HM6.out.rows.lt z; rcases hz with h | h; exact ⟨by have := h.1.2; omega, fun e => by have := (hl e).1; have := h.1.2; omega⟩; exact ⟨by have := h.2; omega, fun e => by have := (hl e).2; have := h.1; omega⟩)); clear ywf yrep hb7; obtain ⟨g0, g1, g2, g3, g4⟩ := HM7.out.box.cells; have gf4 := HM7.out.box.free (i := 4); have s0 : w7.cell? ⟨wr.heap.size, 0, none⟩ = some (.int .i64 key.k) := (by rw [cell_of_row _ _ _ _ _ (0, 0) HX7.out]; rfl); have s1 : w7.cell? ⟨wr.heap.size, 1, none⟩ = some (.int .i64 key.n) := (by rw [cell_of_row _ _ _ _ _ (0, 0) HX7.out]; rfl); have s2 : w7.cell? ⟨wr.heap.size, 2, none⟩ = some (.int .i64 key.e) := (by rw [cell_of_row _ _ _ _ _ (0, 0) HX7.out]; rfl); have s3 : w7.cell? ⟨wr.heap.size, 3, none⟩ = some (.string key.s) := (by rw [cell_of_row _ _ _ _ _ (0, 0) HX7.out]; rfl); have s4 : w7.cell? ⟨wr.heap.size, 4, none⟩ = some (.slice a1 key.kids.length c1) := (by rw [cell_of_row _ _ _ _ _ (0, 0) HX7.out]; rfl); have hm4 : w.heap.size + 3 ≠ w7.heap.size := (by omega); have hm5 : w7.heap.size ≠ w.heap.size + 3 := (by omega); have hm6 : w.heap.size + 3 < w7.heap.size := (by omega); have hm7 : wr.heap.size ≠ w7.heap.size := (by omega); have hm8 : w7.heap.size ≠ wr.heap.size := (by omega); have hm9 : wr.heap.size < w7.heap.size := (by omega)))
              all_goals
                go_wp2_with fail
                go_roundw
                case rel => exact ⟨i + 1, _, _, _, by go_num, by omega, HST.out, HM7.out.put ((Below.refl _ _).alloc (Nat.le_refl _) _) HG2.out HF2.out.off HR2.out (fun z hz => by
                  rcases hz with h | h | h
                  · exact HM7.out.gl z h
                  · exact .inr (.inl h.1)
                  · exact .inr (.inr (by have := h.1; omega))) HAA.out⟩
                case measure => simp [intOf]; omega
          · rw [hF, Nat.zero_add]
            clear hF
            have PA := Lib.hid (put1_at (y := mrg (old1 us key) x) (x := x) H5.out hj hO hD hS)
            obtain ⟨go, ocap, hoe⟩ := HM6.out.rows.some1 (by intro e; rw [e] at hj; simp at hj)
            obtain ⟨rfl, hon, rfl⟩ : oa = some ⟨go, 0, none⟩ ∧ on = us.length ∧ oc = ocap := by injection hoe with e1 e2 e3; exact ⟨e1, e2, e3⟩
            clear hoe
            subst hon
            obtain ⟨-, hle, hcm, cur, hcur, hcs, hone⟩ := HM6.out.rows.open
            have hgo := (HM6.out.rows.lt go rfl)
            have hwj2 : IntKind.i64.wrap ((j : Int) + 2) = (j : Int) + 2 := by rw [IntKind.wrap_i64]; omega
            have hwj1 : IntKind.i64.wrap ((j : Int) + 1) = (j : Int) + 1 := by rw [IntKind.wrap_i64]; omega
            rcases HXK.out with hx0 | hx0
            · have PE := PA.out
              rw [if_pos hx0] at PE
              have ST2 := Lib.hid (show MI ts (us.take j ++ us.drop (j + 2)) (2 * i + 2) R1 300 from by have := ST.out; rw [PE] at this; exact this)
              have t6 : (x.k == 0) = true := by simpa using hx0
              have DL := Lib.hid (Delete_any go us.length oc j cur w6 hcur (by omega) hle (by omega) hcm hcs hone)
              have HC := Lib.hid hcur
              clear hx0 PE PA ST IHX OL hO hD hS HXK hcur hcs hone
              generalize x.k = xk at *
              go_wp2_with fail
              refine DL.out.mono ?_
              rintro e7 w7 ⟨rfl, cur', hc', hs', ht', hg'⟩
              have HR7 := Lib.hid (HM6.out.rows.cut2 (i := j) (by omega) HC.out hc' hs' ht' hg')
              have HG7 := Lib.hid hg'
              have HB7 := Lib.hid (show Box w7 (w.heap.size + 3) 8 0 0 ⟨#[]⟩ (.slice (some ⟨go, 0, none⟩) us.length oc) 26 from (hg'.block (w.heap.size + 3) HM6.out.box.lt (fun e => by have := Option.some.inj e; omega)).trans HM6.out.box)
              obtain ⟨g0, g1, g2, g3, g4⟩ := HB7.out.cells
              have gf4 := HB7.out.free (i := 4)
              clear hc' hs' ht' hg' DL HC
              go_wp2_with fail
              go_roundw
              case rel => exact ⟨i + 1, _, _, G, by go_num, by omega, ST2.out, HM6.out.put (Below.refl _ _) HG7.out (fun g2 _ _ h3 => h3) HR7.out HM6.out.gl HAA.out⟩
              case measure => simp [intOf]; omega
            · have PE := PA.out
              rw [if_neg hx0] at PE
              have hol : old1 us key = us[j + 1] := by unfold old1; rw [hO]; rfl
              have ST2 := ST.out
              rw [PE, hol] at ST2
              have OQ := OL.out H5.out
              rw [hol] at OQ
              have t6 : (x.k == 0) = false := by simpa using hx0
              obtain ⟨ea, ec, ⟨c0, c1', c2', c3, c4⟩, ewf, erep⟩ := HM6.out.rows.elem (j + 1) hj
              have CL := Lib.hid (fun (W : World) (hW : Below w6.heap.size w6 W) => IHX.out us[j + 1] G _ (.slice ea us[j + 1].kids.length ec) (.slice a2 x.kids.length c2) W OQ ewf (erep.stay hW) (HK26.out.stay hW))
              have HST := Lib.hid ST2
              have HJ := Lib.hid hj
              have hjj : (j : Int) + 1 < (us.length : Int) := by omega
              have hj0' : (0 : Int) ≤ (j : Int) + 1 := by omega
              have hjt : ((j : Int) + 1).toNat = j + 1 := by omega
              have hjn : j + 1 < us.length := hj
              clear hx0 PE PA ST ST2 IHX OL hO hD hS HXK hol OQ ewf erep hcur hcs hone
              generalize hte : us[j + 1] = te at *
              clear hte
              generalize mrg te x = y at *
              unfold V.agg at CL
              obtain ⟨W9, hW9⟩ : ∃ W9 : World, W9 = w6.drew := ⟨_, rfl⟩
              have hz9 : w6.heap.size = W9.heap.size := by rw [hW9]; rfl
              have HB9 := Lib.hid (show Below w6.heap.size w6 W9 from by rw [hW9]; exact (Below.refl _ _).drew)
              have HW9 := Lib.hid hW9
              subst hW9
              go_wp2_with fail
              go_region_law (go_simp; go_at_call 40; refine (CL.out _ HB9.out).mono ?_; rintro e7 w7 ⟨ys, rfl, ywf, yrep, hb7⟩; obtain ⟨ya, yn, yc, rfl⟩ : ∃ sa sn sc, ys = .slice sa sn sc := (by obtain ⟨p, q, e⟩ := yrep.slice; exact ⟨p, _, q, e⟩); unfold V.agg; have HB67 := Lib.hid (HB9.out.trans (hb7.mono (Nat.le_of_eq hz9))); have HM7 := Lib.hid (HM6.out.over HB67.out); have HYW := Lib.hid ywf; have HY := Lib.hid yrep.bound; have hz7 : w6.heap.size ≤ w7.heap.size := hb7.size; clear ywf yrep hb7; obtain ⟨g0, g1, g2, g3, g4⟩ := HM7.out.box.cells; obtain ⟨-, -, -, cur7, hcur7, -, -⟩ := HM7.out.rows.open; have fz : ∀ q, w7.frozen? ⟨go, q, none⟩ = false := (fun q => frozen_of_row w7 go q _ _ hcur7); have fz0 := fz ((j + 1) * 5); have fz1 := fz ((j + 1) * 5 + 1); have fz2 := fz ((j + 1) * 5 + 2); have fz3 := fz ((j + 1) * 5 + 3); have fz4 := fz ((j + 1) * 5 + 4); clear fz hcur7; obtain ⟨ea7, ec7, ⟨e0, e1, e2, e3, e4⟩, -, -⟩ := HM7.out.rows.elem (j + 1) HJ.out)
              all_goals
                go_wp2_with fail
                go_roundw
                case rel => exact ⟨i + 1, _, _, _, by go_num, by omega, HST.out, HM6.out.sto HB67.out HJ.out HYW.out HY.out (fun z hz => by
                  refine ⟨hz.2, ?_, ?_⟩
                  · rcases hz.1 with h | h | h
                    · intro e; subst e; exact HM6.out.rows.own z rfl h
                    · have := h.1.2; omega
                    · have h2 : w6.heap.size ≤ z := h; omega
                  · rcases hz.1 with h | h | h
                    · exact HM6.out.gl z h
                    · exact .inr (.inl h.1)
                    · exact .inr (.inr (by have h2 : w6.heap.size ≤ z := h; omega))) HAA.out⟩
                case measure => simp [intOf]; omega
end Go.Proofs.YtppmoajoffeleaaDoor
namespace Go.Proofs.YtppmoajoffeleaaDoor
set_option linter.unusedSimpArgs false
set_option linter.unusedVariables false
set_option maxRecDepth 100000
open Go.RowKit
theorem OwnS.low {w : World} {B B' : Nat} {v : Value} {ts : List V} (h : OwnS w (fun x => B' ≤ x) v ts) (hB : B ≤ B') : OwnS w (fun x => B ≤ x) v ts := h.mono (fun x hx => Nat.le_trans hB hx)
set_option maxHeartbeats 400000 in
theorem copy_value (t : V) (sl : Value) (w : World) (hwf : t.wf) (hsl : ∃ a n c, sl = .slice a n c)
    (hall : ∀ W : World, Below w.heap.size w W → Calls Tryd.prog 69 #[sl] W (ListRet W t.kids)) :
    Calls Tryd.prog 41 #[t.agg sl] w (ValRet w t) := by
  obtain ⟨a0, n0, c0, rfl⟩ := hsl
  have IH := Lib.hid hall; clear hall
  have HP := Lib.hid (show ∀ e w', (∃ sl, e = .returned (t.agg sl) ∧ OwnS w' (fun x => w.heap.size ≤ x) sl t.kids ∧ Below w.heap.size w w') → ValRet w t e w' from fun e w' ⟨sl, h1, h2, h3⟩ => ⟨sl, h1, hwf, h2, h3⟩)
  clear hwf
  unfold V.agg at HP ⊢
  generalize t.k = k at *
  generalize t.n = n at *
  generalize t.e = e at *
  generalize t.s = s at *
  go_enter Tryd.func41, Tryd.ntmps41
  go_wp2_with fail
  refine (IH.out _ (by (repeat' (first | with_reducible exact Below.refl _ _ | with_reducible refine below_alloc ?_ _ ?_ | with_reducible refine Below.setCell ?_ ?_ _ | with_reducible refine Below.drew ?_ | with_reducible refine below_drewN ?_ _ | with_reducible refine below_step ?_ (by assumption) ?_ | with_reducible refine below_mark ?_ (by assumption) ?_)); all_goals (first | omega | (simp; done) | (simp; omega)))).mono ?_
  rintro e1 w1 ⟨v, rfl, ho, hb⟩
  obtain ⟨a, cap, rfl⟩ := ho.slice
  have hz := hb.size
  simp at hz
  obtain ⟨hc, hf⟩ := bcell hb
  have HO := Lib.hid ho; clear ho
  go_wp2_with fail
  refine bodyPost_ret (v := .agg #[.int .i64 k, .int .i64 n, .int .i64 e, .string s, .slice a t.kids.length cap]) (by simp [results, Tryd.results41, go_sem, hc]) rfl (HP.out _ _ ⟨_, rfl, ?_, (by (repeat' (first | with_reducible exact Below.refl _ _ | with_reducible refine below_alloc ?_ _ ?_ | with_reducible refine Below.setCell ?_ ?_ _ | with_reducible refine Below.drew ?_ | with_reducible refine below_drewN ?_ _ | with_reducible refine below_step ?_ (by assumption) ?_ | with_reducible refine below_mark ?_ (by assumption) ?_)); all_goals (first | omega | (simp; done) | (simp; omega)))⟩)
  refine OwnS.mono (F := fun x => w.heap.size + 1 + 1 + 1 ≤ x) ?_ (fun x hx => by omega)
  repeat refine OwnS.set ?_ _ _ (by first | omega | (simp; done) | (simp; omega))
  simpa using HO.out
set_option maxHeartbeats 1000000 in
theorem copy_all (w0 : World) : ∀ (N : Nat) (v : Value) (ts : List V), szs ts ≤ N → RepS w0 v ts → szs ts ≤ 1048576 → ∀ (w : World), Below w0.heap.size w0 w →
    Calls Tryd.prog 69 #[v] w (ListRet w ts) := by
  intro N
  induction N using Nat.strongRecOn with
  | ind N ih =>
  intro v ts hN h hsz w hw
  obtain ⟨a, b, off, cap, rfl, ha, hc, hm, sls, hel⟩ := h.opened
  have hlen := szs_length ts
  have HA := Lib.hid ha; have HE := Lib.hid hel; have HW := Lib.hid hw
  have V1 := Lib.hid (fun (j : Nat) (hj : j < ts.length) (W : World) (hW : Below w0.heap.size w0 W) => copy_value ts[j] (sls j) W (HE.out j hj).2.1 (by obtain ⟨a, c, e⟩ := (HE.out j hj).2.2.slice; exact ⟨a, _, c, e⟩)
    (fun W' hW' => ih (szs ts[j].kids) (by have h1 := szs_mem (List.getElem_mem hj); have h2 := V.sz_eq ts[j]; omega) (sls j) ts[j].kids (Nat.le_refl _) (HE.out j hj).2.2 (by have h1 := szs_mem (List.getElem_mem hj); have h2 := V.sz_eq ts[j]; omega) W' (below_step hW hW' (Nat.le_refl _))))
  clear ih h hel ha hc hm hN
  have R0 := Lib.hid (VRows.made0 (w := w.alloc (.cells #[] 26)) (base := w.heap.size) (Nat.le_refl _) (heap_alloc_new w (.cells #[] 26)))
  go_enter Tryd.func69, Tryd.ntmps69
  go_wp2_with fail
  go_loopw [3, 4] (fun o i wr => ∃ (k : Nat) (G : Nat → Prop), k ≤ ts.length ∧ i = .int .i64 k ∧ VRows wr w.heap.size 26 G o (ts.take k) ∧ Below w.heap.size w wr) (fun _ i _ => ts.length + 1 - (intOf i).toNat)
  case atStart => exact ⟨0, _, by omega, rfl, R0.out, (by (repeat' (first | with_reducible exact Below.refl _ _ | with_reducible refine below_alloc ?_ _ ?_ | with_reducible refine Below.setCell ?_ ?_ _ | with_reducible refine Below.drew ?_ | with_reducible refine below_drewN ?_ _ | with_reducible refine below_step ?_ (by assumption) ?_ | with_reducible refine below_mark ?_ (by assumption) ?_)); all_goals (first | omega | (simp; done) | (simp; omega)))⟩
  case round =>
    obtain ⟨k, G, hk, rfl, hrow, hbl⟩ := hrel
    have HROW := Lib.hid hrow; clear hrow
    by_cases hlt : k < ts.length
    · have hne : ts ≠ [] := by intro e; rw [e] at hlt; simp at hlt
      obtain ⟨rfl, hbw⟩ := HA.out hne
      have HWR := Lib.hid (HW.out.trans (hbl.mono HW.out.size))
      obtain ⟨c0, c1, c2, c3, c4⟩ := (HE.out k hlt).1.keep (HWR.out.block b hbw)
      have VJ := Lib.hid (fun (W : World) (hW : Below wr.heap.size wr W) => V1.out k hlt W (below_step HWR.out hW (by have := HWR.out.size; omega)))
      have HT := Lib.hid (show ts.take (k + 1) = ts.take k ++ [ts[k]] from List.take_succ_eq_append_getElem hlt)
      have HLEN := Lib.hid (show (ts.take k).length ≤ 1048576 by rw [List.length_take]; omega)
      obtain ⟨a3, cap3, hs3⟩ := (HE.out k hlt).2.2.slice
      rw [hs3] at c4 VJ
      clear hs3
      have HG := Lib.hid hbl.size
      have hz9 := hbl.size
      unfold V.agg at VJ
      generalize hgn : ts[k] = tk at *
      generalize ts.take k = L at *
      go_wp2_with fail
      refine (VJ.out _ (Below.refl _ _)).mono ?_
      rintro x w1 ⟨s2, rfl, twf, ho, hb1⟩
      obtain ⟨sa, sn, sc, rfl⟩ : ∃ sa sn sc, s2 = .slice sa sn sc := by obtain ⟨p, q, e⟩ := ho.slice; exact ⟨p, _, q, e⟩
      unfold V.agg
      have hz1 := hb1.size
      have HO := Lib.hid ho.bound; clear ho
      have HWF := Lib.hid twf; clear twf
      have B1 := Lib.hid (heap_alloc_new w1 (.cells #[.int .i64 tk.k, .int .i64 tk.n, .int .i64 tk.e, .string tk.s, .slice sa sn sc] 26))
      have R1 := Lib.hid ((HROW.out.keep hb1).keep ((Below.refl _ _).alloc (Nat.le_refl w1.heap.size) (.cells #[.int .i64 tk.k, .int .i64 tk.n, .int .i64 tk.e, .string tk.s, .slice sa sn sc] 26)))
      have O1 := Lib.hid (HO.out.alloc (.cells #[.int .i64 tk.k, .int .i64 tk.n, .int .i64 tk.e, .string tk.s, .slice sa sn sc] 26))
      have HF1 := Lib.hid (show ∀ x, (wr.heap.size ≤ x ∧ x < w1.heap.size) → w.heap.size ≤ x ∧ x < (w1.alloc (.cells #[.int .i64 tk.k, .int .i64 tk.n, .int .i64 tk.e, .string tk.s, .slice sa sn sc] 26)).heap.size ∧ ¬ G x ∧ u3.ownBlock ≠ some x from
        fun x ⟨h1, h2⟩ => ⟨by omega, by simp; omega, fun hG => by have := (HROW.out.inG x hG).2; omega, fun e => by have := (HROW.out.lt x e).2; omega⟩)
      go_wp2_with (at_builtin; refine app_own rfl _ _ rfl w.heap.size G (fun x => wr.heap.size ≤ x ∧ x < w1.heap.size) _ L rfl R1.out tk (.slice sa sn sc) w1.heap.size rfl B1.out HWF.out O1.out HF1.out (by have := HLEN.out; omega) (by simp; omega) ?_; intro v2 w2 hrow2 hg2 hfr2; have HR2 := Lib.hid hrow2; have HG2 := Lib.hid hg2; clear hrow2 hg2 hfr2)
      go_roundw
      case rel => exact ⟨k + 1, _, by omega, by go_num, by rw [HT.out]; exact HR2.out, Below.grown ((by (repeat' (first | with_reducible exact Below.refl _ _ | with_reducible refine below_alloc ?_ _ ?_ | with_reducible refine Below.setCell ?_ ?_ _ | with_reducible refine Below.drew ?_ | with_reducible refine below_drewN ?_ _ | with_reducible refine below_step ?_ (by assumption) ?_ | with_reducible refine below_mark ?_ (by assumption) ?_)); all_goals (first | omega | (simp; done) | (simp; omega)))) HG2.out (by simp; omega) (fun x hx => (HROW.out.lt x hx).1)⟩
      case measure => simp [intOf]; omega
    · have H := Lib.hid (show ts.take k = ts from List.take_of_length_le (by omega))
      go_wp2_with fail
      go_ret
      exact ⟨_, rfl, by have := HROW.out.own; rwa [H.out] at this, hbl⟩
theorem copy_any (w0 : World) (v : Value) (t : V) (h : Rep w0 v t) (hsz : t.sz ≤ 1048576) (w : World) (hw : Below w0.heap.size w0 w) : Calls Tryd.prog 41 #[v] w (ValRet w t) := by
  obtain ⟨sl, rfl, hwf, hr⟩ := h
  exact copy_value t sl w hwf (by obtain ⟨a, c, e⟩ := hr.slice; exact ⟨a, _, c, e⟩) (fun W hW => copy_all w0 _ sl t.kids (Nat.le_refl _) hr (by have := V.sz_eq t; omega) W (hw.trans (hW.mono hw.size)))
theorem VRows.made0c {w : World} {base b cap : Nat} {E : TypeId} {cur : Array Value} (hb : base ≤ b) (h : w.heap[b]? = some (.cells cur E (0, 0))) (hc : cur.size = cap * 5) (hm : cap ≤ maxLen) : VRows w base E (fun _ => False) (.slice (some ⟨b, 0, none⟩) 0 cap) [] := by
  refine ⟨[], fun _ _ => False, ⟨?_, rfl, by simp, by simp, by simp, by simp, by simp, by simp⟩⟩
  exact ⟨rfl, .inr ⟨b, cap, cur, rfl, hb, h, Nat.zero_le _, hm, hc, by simp [flat]⟩⟩
set_option maxHeartbeats 1000000 in
theorem own_all (w0 : World) : ∀ (N : Nat) (v : Value) (t : V), t.sz < N → Rep w0 v t → t.sz ≤ 1048576 → ∀ (w : World), Below w0.heap.size w0 w →
    Calls Tryd.prog 39 #[v] w (ValRet w t) := by
  intro N
  induction N with
  | zero => intro v t h; omega
  | succ N ih =>
  intro v t hN h hsz w hw
  obtain ⟨sl, rfl, hwf, hr⟩ := h
  have hts := V.sz_eq t
  have HP := Lib.hid (show ∀ e w', (∃ sl, e = .returned (t.agg sl) ∧ OwnS w' (fun x => w.heap.size ≤ x) sl t.kids ∧ Below w.heap.size w w') → ValRet w t e w' from fun e w' ⟨sl, h1, h2, h3⟩ => ⟨sl, h1, hwf, h2, h3⟩)
  obtain ⟨a, b, off, cap, rfl, ha, hc, hm, sls, hel⟩ := hr.opened
  have hlen := szs_length t.kids
  have HA := Lib.hid ha; have HE := Lib.hid hel; have HW := Lib.hid hw
  have V1 := Lib.hid (fun (j : Nat) (hj : j < t.kids.length) (W : World) (hW : Below w0.heap.size w0 W) => ih (t.kids[j].agg (sls j)) t.kids[j] (by have h1 := szs_mem (List.getElem_mem hj); omega) ⟨sls j, rfl, (HE.out j hj).2.1, (HE.out j hj).2.2⟩ (by have h1 := szs_mem (List.getElem_mem hj); omega) W hW)
  have hl : t.kids.length ≤ 1048576 := by omega
  clear ih hel ha hc hm hN hr hwf hlen hts hsz
  unfold V.agg at HP ⊢
  generalize t.k = k at *
  generalize t.n = n at *
  generalize t.e = e at *
  generalize t.s = s at *
  generalize t.kids = ts at *
  obtain ⟨i0, hi, hz0, hz1, hz2⟩ := info_parts info_impl
  have hmk := Lib.hid (fun (W : World) => run_make (P := Tryd.prog) W 24 26 i0 _ Tryd.underlying24 hi hz0 .i64 .i64 0 ts.length (by omega) (by omega) (by rw [hz2]; omega) (by omega))
  rw [hz1] at hmk
  clear hi hz0 hz1 hz2
  by_cases hk0 : ts.length = 0
  · obtain rfl := List.eq_nil_of_length_eq_zero hk0
    clear hmk V1 HE HA
    go_enter Tryd.func39, Tryd.ntmps39
    go_wp2_with fail
    refine bodyPost_ret (v := .agg #[.int .i64 k, .int .i64 n, .int .i64 e, .string s, .slice none 0 0]) (by simp [results, Tryd.results39, go_sem]) rfl (HP.out _ _ ⟨_, rfl, OwnS.nil _ _, (by (repeat' (first | with_reducible exact Below.refl _ _ | with_reducible refine below_alloc ?_ _ ?_ | with_reducible refine Below.setCell ?_ ?_ _ | with_reducible refine Below.drew ?_ | with_reducible refine below_drewN ?_ _ | with_reducible refine below_step ?_ (by assumption) ?_ | with_reducible refine below_mark ?_ (by assumption) ?_)); all_goals (first | omega | (simp; done) | (simp; omega)))⟩)
  · have t1 : ((ts.length : Int) == 0) = false := by simp; exact fun e => hk0 (by simp [e])
    have R0 := Lib.hid (VRows.made0c (w := ((w.alloc (.cells #[.int .i64 k, .int .i64 n, .int .i64 e, .string s, .slice a ts.length cap] 26)).alloc (.cells #[.int .i64 0, .int .i64 0, .int .i64 0, .string ⟨#[]⟩, .slice none 0 0] 26)).alloc (.cells (madeCells (Value.agg #[.int .i64 0, .int .i64 0, .int .i64 0, .string ⟨#[]⟩, .slice none 0 0]).cells ((ts.length : Int).toNat * 5)) 26))
      (base := w.heap.size + 1 + 1) (b := w.heap.size + 1 + 1) (cap := ts.length) (Nat.le_refl _) (by
        have := heap_alloc_new ((w.alloc (.cells #[.int .i64 k, .int .i64 n, .int .i64 e, .string s, .slice a ts.length cap] 26)).alloc (.cells #[.int .i64 0, .int .i64 0, .int .i64 0, .string ⟨#[]⟩, .slice none 0 0] 26)) (.cells (madeCells (Value.agg #[.int .i64 0, .int .i64 0, .int .i64 0, .string ⟨#[]⟩, .slice none 0 0]).cells ((ts.length : Int).toNat * 5)) 26)
        rw [show ((w.alloc (.cells #[.int .i64 k, .int .i64 n, .int .i64 e, .string s, .slice a ts.length cap] 26)).alloc (.cells #[.int .i64 0, .int .i64 0, .int .i64 0, .string ⟨#[]⟩, .slice none 0 0] 26)).heap.size = w.heap.size + 1 + 1 by simp] at this
        exact this) (by rw [size_madeCells]; simp) (by simp [maxLen]; omega))
    clear hk0
    go_enter Tryd.func39, Tryd.ntmps39
    have hmk2 := hmk.out
    go_wp2_with fail
    clear hmk2 hmk
    have HBW := Lib.hid (show Below w.heap.size w (((w.alloc (.cells #[.int .i64 k, .int .i64 n, .int .i64 e, .string s, .slice a ts.length cap] 26)).alloc (.cells #[.int .i64 0, .int .i64 0, .int .i64 0, .string ⟨#[]⟩, .slice none 0 0] 26)).alloc (.cells (madeCells (Value.agg #[.int .i64 0, .int .i64 0, .int .i64 0, .string ⟨#[]⟩, .slice none 0 0]).cells ((ts.length : Int).toNat * 5)) 26)) from (by (repeat' (first | with_reducible exact Below.refl _ _ | with_reducible refine below_alloc ?_ _ ?_ | with_reducible refine Below.setCell ?_ ?_ _ | with_reducible refine Below.drew ?_ | with_reducible refine below_drewN ?_ _ | with_reducible refine below_step ?_ (by assumption) ?_ | with_reducible refine below_mark ?_ (by assumption) ?_)); all_goals (first | omega | (simp; done) | (simp; omega))))
    have HZW := Lib.hid (show (((w.alloc (.cells #[.int .i64 k, .int .i64 n, .int .i64 e, .string s, .slice a ts.length cap] 26)).alloc (.cells #[.int .i64 0, .int .i64 0, .int .i64 0, .string ⟨#[]⟩, .slice none 0 0] 26)).alloc (.cells (madeCells (Value.agg #[.int .i64 0, .int .i64 0, .int .i64 0, .string ⟨#[]⟩, .slice none 0 0]).cells ((ts.length : Int).toNat * 5)) 26)).heap.size = w.heap.size + 1 + 1 + 1 by simp)
    have BXW := Lib.hid (((Box.new w k n e s (.slice a ts.length cap) 26).alloc (.cells #[.int .i64 0, .int .i64 0, .int .i64 0, .string ⟨#[]⟩, .slice none 0 0] 26)).alloc (.cells (madeCells (Value.agg #[.int .i64 0, .int .i64 0, .int .i64 0, .string ⟨#[]⟩, .slice none 0 0]).cells ((ts.length : Int).toNat * 5)) 26))
    have BZ0 := (Box.new (w.alloc (.cells #[.int .i64 k, .int .i64 n, .int .i64 e, .string s, .slice a ts.length cap] 26)) 0 0 0 ⟨#[]⟩ (.slice none 0 0) 26).alloc (.cells (madeCells (Value.agg #[.int .i64 0, .int .i64 0, .int .i64 0, .string ⟨#[]⟩, .slice none 0 0]).cells ((ts.length : Int).toNat * 5)) 26)
    rw [show (w.alloc (.cells #[.int .i64 k, .int .i64 n, .int .i64 e, .string s, .slice a ts.length cap] 26)).heap.size = w.heap.size + 1 by simp] at BZ0
    have BZW := Lib.hid BZ0; clear BZ0
    go_loopw [3, 19, 5] (fun o i _ wr => ∃ (j : Nat) (G : Nat → Prop), j ≤ ts.length ∧ i = .int .i64 j ∧ VRows wr (w.heap.size + 1 + 1) 26 G o (ts.take j) ∧ Below (w.heap.size + 1 + 1) (((w.alloc (.cells #[.int .i64 k, .int .i64 n, .int .i64 e, .string s, .slice a ts.length cap] 26)).alloc (.cells #[.int .i64 0, .int .i64 0, .int .i64 0, .string ⟨#[]⟩, .slice none 0 0] 26)).alloc (.cells (madeCells (Value.agg #[.int .i64 0, .int .i64 0, .int .i64 0, .string ⟨#[]⟩, .slice none 0 0]).cells ((ts.length : Int).toNat * 5)) 26)) wr) (fun _ i _ _ => ts.length - (intOf i).toNat)
    case atStart => exact ⟨0, _, by omega, rfl, R0.out, Below.refl _ _⟩
    case round =>
      obtain ⟨j, G, hj, rfl, hrow, hbl⟩ := hrel
      have HROW := Lib.hid hrow; clear hrow
      have HBL := Lib.hid (HBW.out.trans (hbl.mono (by omega)))
      have hz9 := hbl.size
      rw [HZW.out] at hz9
      by_cases hlt : j < ts.length
      · have hne : ts ≠ [] := by intro e; rw [e] at hlt; simp at hlt
        obtain ⟨rfl, hbw⟩ := HA.out hne
        have HWR := Lib.hid (HW.out.trans (HBL.out.mono HW.out.size))
        obtain ⟨c0, c1, c2, c3, c4⟩ := (HE.out j hlt).1.keep (HWR.out.block b hbw)
        have VJ := Lib.hid (fun (W : World) (hW : Below wr.heap.size wr W) => V1.out j hlt W (below_step HWR.out hW (by have := HWR.out.size; omega)))
        have HT := Lib.hid (show ts.take (j + 1) = ts.take j ++ [ts[j]] from List.take_succ_eq_append_getElem hlt)
        have HLEN := Lib.hid (show (ts.take j).length ≤ 1048576 by rw [List.length_take]; omega)
        obtain ⟨a3, cap3, hs3⟩ := (HE.out j hlt).2.2.slice
        rw [hs3] at c4 VJ
        clear hs3 V1
        unfold V.agg at VJ
        generalize ts[j] = tk at *
        generalize ts.take j = L at *
        go_wp2_with fail
        refine (VJ.out _ ((by (repeat' (first | with_reducible exact Below.refl _ _ | with_reducible refine below_alloc ?_ _ ?_ | with_reducible refine Below.setCell ?_ ?_ _ | with_reducible refine Below.drew ?_ | with_reducible refine below_drewN ?_ _ | with_reducible refine below_step ?_ (by assumption) ?_ | with_reducible refine below_mark ?_ (by assumption) ?_)); all_goals (first | omega | (simp; done) | (simp; omega))))).mono ?_
        rintro x w1 ⟨s2, rfl, twf, ho, hb1⟩
        obtain ⟨sa, sn, sc, rfl⟩ : ∃ sa sn sc, s2 = .slice sa sn sc := by obtain ⟨p, q, e⟩ := ho.slice; exact ⟨p, _, q, e⟩
        unfold V.agg
        have hz1 := hb1.size
        simp at hz1
        have HO := Lib.hid ho.bound; clear ho
        have HWF := Lib.hid twf; clear twf
        have B1 := Lib.hid (heap_alloc_new w1 (.cells #[.int .i64 tk.k, .int .i64 tk.n, .int .i64 tk.e, .string tk.s, .slice sa sn sc] 26))
        have R1 := Lib.hid ((HROW.out.keep (show Below wr.heap.size wr w1 from (by (repeat' (first | with_reducible exact Below.refl _ _ | with_reducible refine below_alloc ?_ _ ?_ | with_reducible refine Below.setCell ?_ ?_ _ | with_reducible refine Below.drew ?_ | with_reducible refine below_drewN ?_ _ | with_reducible refine below_step ?_ (by assumption) ?_ | with_reducible refine below_mark ?_ (by assumption) ?_)); all_goals (first | omega | (simp; done) | (simp; omega))))).keep ((Below.refl _ _).alloc (Nat.le_refl w1.heap.size) (.cells #[.int .i64 tk.k, .int .i64 tk.n, .int .i64 tk.e, .string tk.s, .slice sa sn sc] 26)))
        have O1 := Lib.hid ((HO.out.mono (F' := fun x => wr.heap.size ≤ x ∧ x < w1.heap.size) (fun x hx => ⟨by have := hx.1; simp at this; omega, hx.2⟩)).alloc (.cells #[.int .i64 tk.k, .int .i64 tk.n, .int .i64 tk.e, .string tk.s, .slice sa sn sc] 26))
        have HF1 := Lib.hid (show ∀ x, (wr.heap.size ≤ x ∧ x < w1.heap.size) → w.heap.size + 1 + 1 ≤ x ∧ x < (w1.alloc (.cells #[.int .i64 tk.k, .int .i64 tk.n, .int .i64 tk.e, .string tk.s, .slice sa sn sc] 26)).heap.size ∧ ¬ G x ∧ u3.ownBlock ≠ some x from
          fun x ⟨h1, h2⟩ => ⟨by omega, by simp; omega, fun hG => by have := (HROW.out.inG x hG).2; omega, fun e => by have := (HROW.out.lt x e).2; omega⟩)
        go_wp2_with (at_builtin; refine app_own rfl _ _ rfl (w.heap.size + 1 + 1) G (fun x => wr.heap.size ≤ x ∧ x < w1.heap.size) _ L rfl R1.out tk (.slice sa sn sc) w1.heap.size rfl B1.out HWF.out O1.out HF1.out (by have := HLEN.out; omega) (by simp; omega) ?_; intro v2 w2 hrow2 hg2 hfr2; have HR2 := Lib.hid hrow2; have HG2 := Lib.hid hg2; clear hrow2 hg2 hfr2)
        go_roundw
        case rel => exact ⟨j + 1, _, by omega, by go_num, by rw [HT.out]; exact HR2.out, hbl.trans (Below.grown ((by (repeat' (first | with_reducible exact Below.refl _ _ | with_reducible refine below_alloc ?_ _ ?_ | with_reducible refine Below.setCell ?_ ?_ _ | with_reducible refine Below.drew ?_ | with_reducible refine below_drewN ?_ _ | with_reducible refine below_step ?_ (by assumption) ?_ | with_reducible refine below_mark ?_ (by assumption) ?_)); all_goals (first | omega | (simp; done) | (simp; omega)))) HG2.out (by simp; omega) (fun x hx => (HROW.out.lt x hx).1))⟩
        case measure => simp [intOf]; omega
      · have H := Lib.hid (show ts.take j = ts from List.take_of_length_le (by omega))
        obtain ⟨oa, on, oc, rfl⟩ := HROW.out.slice3
        obtain ⟨hc, hf⟩ := bcell hbl
        have HO := Lib.hid (show OwnS wr (fun x => w.heap.size + 1 + 1 ≤ x) (.slice oa on oc) ts by have := HROW.out.own; rwa [H.out] at this)
        obtain ⟨d0, d1, d2, d3, d4⟩ := (show Box wr w.heap.size k n e s (.slice a ts.length cap) 26 from (hbl.block w.heap.size (by omega)).trans (BXW.out)).cells
        obtain ⟨z0, z1, z2, z3, z4⟩ := (show Box wr (w.heap.size + 1) 0 0 0 ⟨#[]⟩ (.slice none 0 0) 26 from (hbl.block (w.heap.size + 1) (by omega)).trans (BZW.out)).cells
        clear H HROW HE HA V1
        go_wp2_with fail
        refine bodyPost_ret (v := .agg #[.int .i64 k, .int .i64 n, .int .i64 e, .string s, .slice oa on oc]) (by simp [results, Tryd.results39, go_sem, z0, z1, z2, z3, z4]) rfl (HP.out _ _ ⟨_, rfl, ?_, ?_⟩)
        · refine OwnS.mono (F := fun x => w.heap.size + 1 + 1 ≤ x) ?_ (fun x hx => by omega)
          repeat refine OwnS.set ?_ _ _ (by first | omega | (simp; done) | (simp; omega))
          exact HO.out
        · repeat' (refine Below.setCell ?_ ?_ _)
          all_goals (first | exact HBL.out | (simp; done) | (simp; omega))
theorem own_any (w0 : World) (v : Value) (t : V) (h : Rep w0 v t) (hsz : t.sz ≤ 1048576) (w : World) (hw : Below w0.heap.size w0 w) : Calls Tryd.prog 39 #[v] w (ValRet w t) :=
  own_all w0 _ v t (Nat.lt_succ_self _) h hsz w hw
end Go.Proofs.YtppmoajoffeleaaDoor
namespace Go.Proofs.YtppmoajoffeleaaDoor
set_option linter.unusedSimpArgs false
set_option linter.unusedVariables false
set_option maxRecDepth 100000
open Go.RowKit
theorem VRows.setc {w : World} {base : Nat} {E : TypeId} {G : Nat → Prop} {v : Value} {ts : List V} (h : VRows w base E G v ts) (p : Addr) (u : Value) (hp : p.block < base) : VRows (w.setCell p u) base E G v ts :=
  h.move (by simp) (fun x hx => by
    have hb : base ≤ x := hx.elim (fun h1 => (h.inG x h1).1) (fun h1 => (h.lt x h1).1)
    exact heap_setCell_other w p x u (show ¬ x = p.block by omega))
theorem VRows.low {w : World} {B B' : Nat} {E : TypeId} {G : Nat → Prop} {v : Value} {ts : List V} (h : VRows w B E G v ts) (hB : B' ≤ B) : VRows w B' E G v ts := by
  obtain ⟨sls, Fs, h⟩ := h
  refine ⟨sls, Fs, ⟨⟨h.row.1, ?_⟩, h.len, h.wfs, h.kids, h.sub, h.dis, h.own, fun x hx => ⟨Nat.le_trans hB (h.inG x hx).1, (h.inG x hx).2⟩⟩⟩
  rcases h.row.2 with h2 | ⟨g, cap, cur, rfl, hbg, r⟩
  · exact .inl h2
  · exact .inr ⟨g, cap, cur, rfl, by omega, r⟩
theorem VRows.toP {w : World} {B : Nat} {G : Nat → Prop} {v : Value} {ts : List V} (h : VRows w B 26 G v ts) : PRow w B G v ts := by
  obtain ⟨sls, Fs, h⟩ := h
  exact ⟨sls, ⟨h.row, h.len, h.wfs, fun i hi => (h.kids i hi).toF.mono (fun x hx _ => h.sub i hi x hx), h.own, fun x hx => (h.inG x hx).2⟩⟩
def RowRet (w : World) (ts : List V) (e : Ending) (w' : World) : Prop := ∃ v G, e = .returned v ∧ VRows w' w.heap.size 26 G v ts ∧ Below w.heap.size w w'
def ValRetR (w : World) (t : V) (e : Ending) (w' : World) : Prop := ∃ sl G, e = .returned (t.agg sl) ∧ t.wf ∧ VRows w' w.heap.size 26 G sl t.kids ∧ Below w.heap.size w w'
set_option maxHeartbeats 1000000 in
theorem copy_allR (w0 : World) (v : Value) (ts : List V) (h : RepS w0 v ts) (hsz : szs ts ≤ 1048576) (w : World) (hw : Below w0.heap.size w0 w) :
    Calls Tryd.prog 69 #[v] w (RowRet w ts) := by
  obtain ⟨a, b, off, cap, rfl, ha, hc, hm, sls, hel⟩ := h.opened
  have hlen := szs_length ts
  have HA := Lib.hid ha; have HE := Lib.hid hel; have HW := Lib.hid hw
  have V1 := Lib.hid (fun (j : Nat) (hj : j < ts.length) (W : World) (hW : Below w0.heap.size w0 W) => copy_value ts[j] (sls j) W (HE.out j hj).2.1 (by obtain ⟨a, c, e⟩ := (HE.out j hj).2.2.slice; exact ⟨a, _, c, e⟩)
    (fun W' hW' => copy_all w0 _ (sls j) ts[j].kids (Nat.le_refl _) (HE.out j hj).2.2 (by have h1 := szs_mem (List.getElem_mem hj); have h2 := V.sz_eq ts[j]; omega) W' (below_step hW hW' (Nat.le_refl _))))
  clear h hel ha hc hm
  have R0 := Lib.hid (VRows.made0 (w := w.alloc (.cells #[] 26)) (base := w.heap.size) (Nat.le_refl _) (heap_alloc_new w (.cells #[] 26)))
  go_enter Tryd.func69, Tryd.ntmps69
  go_wp2_with fail
  go_loopw [3, 4] (fun o i wr => ∃ (k : Nat) (G : Nat → Prop), k ≤ ts.length ∧ i = .int .i64 k ∧ VRows wr w.heap.size 26 G o (ts.take k) ∧ Below w.heap.size w wr) (fun _ i _ => ts.length + 1 - (intOf i).toNat)
  case atStart => exact ⟨0, _, by omega, rfl, R0.out, (by (repeat' (first | with_reducible exact Below.refl _ _ | with_reducible refine below_alloc ?_ _ ?_ | with_reducible refine Below.setCell ?_ ?_ _ | with_reducible refine Below.drew ?_ | with_reducible refine below_drewN ?_ _ | with_reducible refine below_step ?_ (by assumption) ?_ | with_reducible refine below_mark ?_ (by assumption) ?_)); all_goals (first | omega | (simp; done) | (simp; omega)))⟩
  case round =>
    obtain ⟨k, G, hk, rfl, hrow, hbl⟩ := hrel
    have HROW := Lib.hid hrow; clear hrow
    by_cases hlt : k < ts.length
    · have hne : ts ≠ [] := by intro e; rw [e] at hlt; simp at hlt
      obtain ⟨rfl, hbw⟩ := HA.out hne
      have HWR := Lib.hid (HW.out.trans (hbl.mono HW.out.size))
      obtain ⟨c0, c1, c2, c3, c4⟩ := (HE.out k hlt).1.keep (HWR.out.block b hbw)
      have VJ := Lib.hid (fun (W : World) (hW : Below wr.heap.size wr W) => V1.out k hlt W (below_step HWR.out hW (by have := HWR.out.size; omega)))
      have HT := Lib.hid (show ts.take (k + 1) = ts.take k ++ [ts[k]] from List.take_succ_eq_append_getElem hlt)
      have HLEN := Lib.hid (show (ts.take k).length ≤ 1048576 by rw [List.length_take]; omega)
      obtain ⟨a3, cap3, hs3⟩ := (HE.out k hlt).2.2.slice
      rw [hs3] at c4 VJ
      clear hs3
      have HG := Lib.hid hbl.size
      have hz9 := hbl.size
      unfold V.agg at VJ
      generalize hgn : ts[k] = tk at *
      generalize ts.take k = L at *
      go_wp2_with fail
      refine (VJ.out _ (Below.refl _ _)).mono ?_
      rintro x w1 ⟨s2, rfl, twf, ho, hb1⟩
      obtain ⟨sa, sn, sc, rfl⟩ : ∃ sa sn sc, s2 = .slice sa sn sc := by obtain ⟨p, q, e⟩ := ho.slice; exact ⟨p, _, q, e⟩
      unfold V.agg
      have hz1 := hb1.size
      have HO := Lib.hid ho.bound; clear ho
      have HWF := Lib.hid twf; clear twf
      have B1 := Lib.hid (heap_alloc_new w1 (.cells #[.int .i64 tk.k, .int .i64 tk.n, .int .i64 tk.e, .string tk.s, .slice sa sn sc] 26))
      have R1 := Lib.hid ((HROW.out.keep hb1).keep ((Below.refl _ _).alloc (Nat.le_refl w1.heap.size) (.cells #[.int .i64 tk.k, .int .i64 tk.n, .int .i64 tk.e, .string tk.s, .slice sa sn sc] 26)))
      have O1 := Lib.hid (HO.out.alloc (.cells #[.int .i64 tk.k, .int .i64 tk.n, .int .i64 tk.e, .string tk.s, .slice sa sn sc] 26))
      have HF1 := Lib.hid (show ∀ x, (wr.heap.size ≤ x ∧ x < w1.heap.size) → w.heap.size ≤ x ∧ x < (w1.alloc (.cells #[.int .i64 tk.k, .int .i64 tk.n, .int .i64 tk.e, .string tk.s, .slice sa sn sc] 26)).heap.size ∧ ¬ G x ∧ u3.ownBlock ≠ some x from
        fun x ⟨h1, h2⟩ => ⟨by omega, by simp; omega, fun hG => by have := (HROW.out.inG x hG).2; omega, fun e => by have := (HROW.out.lt x e).2; omega⟩)
      go_wp2_with (at_builtin; refine app_own rfl _ _ rfl w.heap.size G (fun x => wr.heap.size ≤ x ∧ x < w1.heap.size) _ L rfl R1.out tk (.slice sa sn sc) w1.heap.size rfl B1.out HWF.out O1.out HF1.out (by have := HLEN.out; omega) (by simp; omega) ?_; intro v2 w2 hrow2 hg2 hfr2; have HR2 := Lib.hid hrow2; have HG2 := Lib.hid hg2; clear hrow2 hg2 hfr2)
      go_roundw
      case rel => exact ⟨k + 1, _, by omega, by go_num, by rw [HT.out]; exact HR2.out, Below.grown ((by (repeat' (first | with_reducible exact Below.refl _ _ | with_reducible refine below_alloc ?_ _ ?_ | with_reducible refine Below.setCell ?_ ?_ _ | with_reducible refine Below.drew ?_ | with_reducible refine below_drewN ?_ _ | with_reducible refine below_step ?_ (by assumption) ?_ | with_reducible refine below_mark ?_ (by assumption) ?_)); all_goals (first | omega | (simp; done) | (simp; omega)))) HG2.out (by simp; omega) (fun x hx => (HROW.out.lt x hx).1)⟩
      case measure => simp [intOf]; omega
    · have H := Lib.hid (show ts.take k = ts from List.take_of_length_le (by omega))
      go_wp2_with fail
      go_ret
      exact ⟨_, _, rfl, by have := HROW.out; rwa [H.out] at this, hbl⟩
set_option maxHeartbeats 400000 in
theorem copy_valueR (t : V) (sl : Value) (w : World) (hwf : t.wf) (hsl : ∃ a n c, sl = .slice a n c)
    (hall : ∀ W : World, Below w.heap.size w W → Calls Tryd.prog 69 #[sl] W (RowRet W t.kids)) :
    Calls Tryd.prog 41 #[t.agg sl] w (ValRetR w t) := by
  obtain ⟨a0, n0, c0, rfl⟩ := hsl
  have IH := Lib.hid hall; clear hall
  have HP := Lib.hid (show ∀ e w', (∃ sl G, e = .returned (t.agg sl) ∧ VRows w' w.heap.size 26 G sl t.kids ∧ Below w.heap.size w w') → ValRetR w t e w' from fun e w' ⟨sl, G, h1, h2, h3⟩ => ⟨sl, G, h1, hwf, h2, h3⟩)
  clear hwf
  unfold V.agg at HP ⊢
  generalize t.k = k at *
  generalize t.n = n at *
  generalize t.e = e at *
  generalize t.s = s at *
  go_enter Tryd.func41, Tryd.ntmps41
  go_wp2_with fail
  refine (IH.out _ (by (repeat' (first | with_reducible exact Below.refl _ _ | with_reducible refine below_alloc ?_ _ ?_ | with_reducible refine Below.setCell ?_ ?_ _ | with_reducible refine Below.drew ?_ | with_reducible refine below_drewN ?_ _ | with_reducible refine below_step ?_ (by assumption) ?_ | with_reducible refine below_mark ?_ (by assumption) ?_)); all_goals (first | omega | (simp; done) | (simp; omega)))).mono ?_
  rintro e1 w1 ⟨v, G, rfl, ho, hb⟩
  obtain ⟨a, cap, rfl⟩ := ho.own.slice
  have hz := hb.size
  simp at hz
  obtain ⟨hc, hf⟩ := bcell hb
  have HO := Lib.hid ho; clear ho
  go_wp2_with fail
  refine bodyPost_ret (v := .agg #[.int .i64 k, .int .i64 n, .int .i64 e, .string s, .slice a t.kids.length cap]) (by simp [results, Tryd.results41, go_sem, hc]) rfl (HP.out _ _ ⟨_, G, rfl, ?_, (by (repeat' (first | with_reducible exact Below.refl _ _ | with_reducible refine below_alloc ?_ _ ?_ | with_reducible refine Below.setCell ?_ ?_ _ | with_reducible refine Below.drew ?_ | with_reducible refine below_drewN ?_ _ | with_reducible refine below_step ?_ (by assumption) ?_ | with_reducible refine below_mark ?_ (by assumption) ?_)); all_goals (first | omega | (simp; done) | (simp; omega)))⟩)
  refine VRows.low (B := w.heap.size + 1 + 1 + 1) ?_ (by omega)
  repeat refine VRows.setc ?_ _ _ (by first | omega | (simp; done) | (simp; omega))
  simpa using HO.out
theorem copy_anyR (w0 : World) (v : Value) (t : V) (h : Rep w0 v t) (hsz : t.sz ≤ 1048576) (w : World) (hw : Below w0.heap.size w0 w) : Calls Tryd.prog 41 #[v] w (ValRetR w t) := by
  obtain ⟨sl, rfl, hwf, hr⟩ := h
  exact copy_valueR t sl w hwf (by obtain ⟨a, c, e⟩ := hr.slice; exact ⟨a, _, c, e⟩) (fun W hW => copy_allR w0 sl t.kids hr (by have := V.sz_eq t; omega) W (hw.trans (hW.mono hw.size)))
end Go.Proofs.YtppmoajoffeleaaDoor
namespace Go.Proofs.YtppmoajoffeleaaDoor
set_option linter.unusedSimpArgs false
set_option linter.unusedVariables false
set_option maxRecDepth 100000
open Go.RowKit
def FldRet (w : World) (y : V) (b : Bool) (e : Ending) (w' : World) : Prop := ∃ sl, e = .returned (.tuple #[y.agg sl, .bool b]) ∧ y.wf ∧ OwnS w' (fun x => w.heap.size ≤ x) sl y.kids ∧ Below w.heap.size w w'
theorem MZ.wf : MZ.wf := ⟨by show In64 0; unfold In64; omega, by show In64 0; unfold In64; omega, by show In64 0; unfold In64; omega, by show ByteArray.size ⟨#[]⟩ ≤ _; simp [ByteArray.size]⟩
set_option maxHeartbeats 2000000 in
theorem Field_any (w0 : World) (v : Value) (t : V) (h : Rep w0 v t) (hsz : t.sz ≤ 1048576) (h8 : t.k = 8) (hev : t.kids.length % 2 = 0) (s : ByteArray) (w : World) (hw : Below w0.heap.size w0 w) :
    Calls Tryd.prog 70 #[v, .string s] w (FldRet w ((lkp s t.kids).getD MZ) (lkp s t.kids).isSome) := by
  obtain ⟨sl, rfl, hwf, hr⟩ := h
  have hts := V.sz_eq t
  have hlen := szs_length t.kids
  have LK := Lib.hid (fun (W : World) (hW : Below w0.heap.size w0 W) => l02Key_any w0 sl t.kids hr (by omega) s W hW)
  obtain ⟨a, b, off, cap, rfl, ha, hc, hm, sls, hel⟩ := hr.opened
  have HA := Lib.hid ha; have HE := Lib.hid hel; have HW := Lib.hid hw
  have CP := Lib.hid (fun (j : Nat) (hj : j < t.kids.length) (W : World) (hW : Below w0.heap.size w0 W) => copy_any w0 (t.kids[j].agg (sls j)) t.kids[j] ⟨_, rfl, (hel j hj).2.1, (hel j hj).2.2⟩ (by have := szs_mem (List.getElem_mem hj); omega) W hW)
  have BX := Lib.hid ((Box.new w t.k t.n t.e t.s (.slice a t.kids.length cap) 26).alloc (.cells #[.int .i64 0, .int .i64 0, .int .i64 0, .string ⟨#[]⟩, .slice none 0 0] 26))
  have BZ := Lib.hid (Box.new (w.alloc (.cells #[.int .i64 t.k, .int .i64 t.n, .int .i64 t.e, .string t.s, .slice a t.kids.length cap] 26)) 0 0 0 ⟨#[]⟩ (.slice none 0 0) 26)
  have hal : Below w.heap.size w ((w.alloc (.cells #[.int .i64 t.k, .int .i64 t.n, .int .i64 t.e, .string t.s, .slice a t.kids.length cap] 26)).alloc (.cells #[.int .i64 0, .int .i64 0, .int .i64 0, .string ⟨#[]⟩, .slice none 0 0] 26)) := (by (with_reducible (repeat' (first | exact Below.refl _ _ | refine below_alloc ?_ _ ?_ | refine Below.setCell ?_ ?_ _ | refine Below.drew ?_ | refine below_drewN ?_ _ | refine below_step ?_ (by assumption) ?_ | refine below_mark ?_ (by assumption) ?_))); all_goals (first | omega | (simp; done) | (simp; omega)))
  have HAL := Lib.hid hal
  have FI := Lib.hid (fk_in s t.kids hev 0)
  have hz0 : (w.alloc (.cells #[.int .i64 t.k, .int .i64 t.n, .int .i64 t.e, .string t.s, .slice a t.kids.length cap] 26)).heap.size = w.heap.size + 1 := by simp
  have hz1 : ((w.alloc (.cells #[.int .i64 t.k, .int .i64 t.n, .int .i64 t.e, .string t.s, .slice a t.kids.length cap] 26)).alloc (.cells #[.int .i64 0, .int .i64 0, .int .i64 0, .string ⟨#[]⟩, .slice none 0 0] 26)).heap.size = w.heap.size + 2 := by simp
  rw [hz0] at BZ
  have t8 : (t.k == 8) = true := by simpa using h8
  have t9 : (t.k != 8) = false := by simpa using h8
  clear ha hel hr hw hwf hal h8 hev
  unfold V.agg
  generalize lkp s t.kids = O at *
  generalize fk s 0 t.kids = F at *
  generalize t.k = k at *
  generalize t.n = n at *
  generalize t.e = ee at *
  generalize t.s = st at *
  go_enter Tryd.func70, Tryd.ntmps70
  go_upto_region 1 with fail
  generalize ((w.alloc (.cells #[.int .i64 k, .int .i64 n, .int .i64 ee, .string st, .slice a t.kids.length cap] 26)).alloc (.cells #[.int .i64 0, .int .i64 0, .int .i64 0, .string ⟨#[]⟩, .slice none 0 0] 26)) = W at *
  have HWW := Lib.hid (HW.out.trans (HAL.out.mono HW.out.size))
  obtain ⟨y0, y1, y2, y3, y4⟩ := BX.out.cells
  obtain ⟨z0, z1, z2, z3, z4⟩ := BZ.out.cells
  have zf0 := BZ.out.free (i := 0); have zf1 := BZ.out.free (i := 1); have zf2 := BZ.out.free (i := 2); have zf3 := BZ.out.free (i := 3); have zf4 := BZ.out.free (i := 4)
  go_wp2_with fail
  refine (LK.out W HWW.out).mono ?_
  rintro e1 w1 ⟨rfl, hw1⟩
  obtain rfl := hw1
  rcases FI.out with ⟨hF, hO⟩ | ⟨j, hj0, hF, hj, hO, -, -⟩
  · obtain rfl := hF
    obtain rfl := hO
    have HF := Lib.hid (show FldRet w MZ false (.returned (.tuple #[MZ.agg (.slice none 0 0), .bool false])) (set5 W (w.heap.size + 1) (.int .i64 0) (.int .i64 0) (.int .i64 0) (.string ⟨#[]⟩) (.slice none 0 0)) from
      ⟨_, rfl, MZ.wf, OwnS.nil _ _, HAL.out.trans ((below_set5 W (w.heap.size + 1) _ _ _ _ _).mono (by omega))⟩)
    go_wp2_with fail
    exact bodyPost_ret (v := .tuple #[.agg #[.int .i64 0, .int .i64 0, .int .i64 0, .string ⟨#[]⟩, .slice none 0 0], .bool false]) (by simp [results, Tryd.results70, go_sem, z0, z1, z2, z3, z4]) rfl HF.out
  · have hne : t.kids ≠ [] := by intro e; rw [e] at hj; simp at hj
    obtain ⟨rfl, hbw⟩ := HA.out hne
    obtain ⟨c0, c1, c2, c3, c4⟩ := (HE.out (j + 1) hj).1.keep (HWW.out.block b hbw)
    have CJ := Lib.hid (CP.out (j + 1) hj W HWW.out)
    obtain ⟨a3, cap3, hs3⟩ := (HE.out (j + 1) hj).2.2.slice
    rw [hs3] at c4 CJ
    rw [Nat.zero_add] at hF
    obtain rfl := hF
    clear hs3 CP HE HA
    obtain rfl := hO
    unfold V.agg at CJ
    unfold ValRet at CJ
    generalize t.kids[j + 1] = y at *
    go_wp2_with fail
    refine CJ.out.mono ?_
    rintro e2 w2 ⟨sl2, rfl, ywf, yo, hb2⟩
    obtain ⟨pa, pc, rfl⟩ := yo.slice
    have BZ2 := Lib.hid (BZ.out.stay hb2)
    clear z0 z1 z2 z3 z4 zf0 zf1 zf2 zf3 zf4
    obtain ⟨z0, z1, z2, z3, z4⟩ := BZ2.out.cells
    have zf0 := BZ2.out.free (i := 0); have zf1 := BZ2.out.free (i := 1); have zf2 := BZ2.out.free (i := 2); have zf3 := BZ2.out.free (i := 3); have zf4 := BZ2.out.free (i := 4)
    have HF := Lib.hid (show FldRet w y true (.returned (.tuple #[y.agg (.slice pa y.kids.length pc), .bool true])) (set5 w2 (w.heap.size + 1) (.int .i64 y.k) (.int .i64 y.n) (.int .i64 y.e) (.string y.s) (.slice pa y.kids.length pc)) from
      ⟨_, rfl, ywf, OwnS.mono (yo.set5 (w.heap.size + 1) (by omega) _ _ _ _ _) (fun x hx => by omega), (HAL.out.trans (hb2.mono HAL.out.size)).trans ((below_set5 w2 (w.heap.size + 1) _ _ _ _ _).mono (by omega))⟩)
    clear ywf yo hb2
    unfold V.agg
    go_wp2_with fail
    exact bodyPost_ret (v := .tuple #[y.agg (.slice pa y.kids.length pc), .bool true]) (by simp [results, Tryd.results70, go_sem, z0, z1, z2, z3, z4, V.agg]) rfl HF.out
end Go.Proofs.YtppmoajoffeleaaDoor
