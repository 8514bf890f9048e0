/- Trees of values that a call itself made: each node's row is a block of its own. -/
import Derived.Test.YtiemlefmhleaeaaDoorVal
namespace Go.Proofs.YtiemlefmhleaeaaDoor
set_option linter.unusedVariables false
set_option maxRecDepth 100000
open Go.RowKit
/-- as RepS, and every row lies in a block of its own, all of them in F, none frozen -/
inductive OwnS (w : World) : (Nat → Prop) → Value → List V → Prop
  | mk (F : Nat → Prop) (a : Option Addr) (b off cap : Nat) (ts : List V) (sls : Nat → Value) (Fs : Nat → Nat → Prop) (ha : ts ≠ [] → a = some ⟨b, off, none⟩) (hc : ts.length ≤ cap) (hm : cap ≤ 9223372036854775807)
      (hb : ts ≠ [] → F b ∧ ∃ cur e, w.heap[b]? = some (.cells cur e (0, 0)))
      (hF : ∀ i, i < ts.length → ∀ x, Fs i x → F x ∧ x ≠ b) (hd : ∀ i j, i < j → j < ts.length → ∀ x, Fs i x → ¬ Fs j x)
      (cells : ∀ i (h : i < ts.length), Cells5 w b (off + i * 5) ts[i] (sls i)) (wfs : ∀ i (h : i < ts.length), ts[i].wf)
      (kids : ∀ i (h : i < ts.length), OwnS w (Fs i) (sls i) ts[i].kids) : OwnS w F (.slice a ts.length cap) ts
theorem lt_of_heap {w : World} {b : Nat} {o : Obj} (h : w.heap[b]? = some o) : b < w.heap.size := by
  rcases Nat.lt_or_ge b w.heap.size with h1 | h1
  · exact h1
  · rw [Array.getElem?_eq_none h1] at h; cases h
theorem OwnS.rep {w : World} {F : Nat → Prop} {v : Value} {ts : List V} (h : OwnS w F v ts) : RepS w v ts := by
  induction h with
  | mk F a b off cap ts sls Fs ha hc hm hb hF hd cells wfs kids ih =>
    exact .mk a b off cap ts sls ha hc hm (fun hne => by obtain ⟨_, cur, e, h⟩ := hb hne; exact lt_of_heap h) cells wfs ih
theorem OwnS.mono {w : World} {F F' : Nat → Prop} {v : Value} {ts : List V} (h : OwnS w F v ts) (hF : ∀ x, F x → F' x) : OwnS w F' v ts := by
  cases h with
  | mk F0 a b off cap ts0 sls Fs ha hc hm hb hFF hd cells wfs kids =>
    exact .mk F' a b off cap ts sls Fs ha hc hm (fun hne => ⟨hF _ (hb hne).1, (hb hne).2⟩) (fun i hi x hx => ⟨hF _ (hFF i hi x hx).1, (hFF i hi x hx).2⟩) hd cells wfs kids
theorem OwnS.keep {w w' : World} {F : Nat → Prop} {v : Value} {ts : List V} (h : OwnS w F v ts) (hk : ∀ x, F x → x < w.heap.size → w'.heap[x]? = w.heap[x]?) : OwnS w' F v ts := by
  induction h with
  | mk F a b off cap ts sls Fs ha hc hm hb hF hd cells wfs kids ih =>
    have e : ts ≠ [] → w'.heap[b]? = w.heap[b]? := fun hne => by obtain ⟨h1, cur, e, h2⟩ := hb hne; exact hk b h1 (lt_of_heap h2)
    refine .mk F a b off cap ts sls Fs ha hc hm (fun hne => ⟨(hb hne).1, by rw [e hne]; exact (hb hne).2⟩) hF hd ?_ wfs (fun i hi => ih i hi (fun x hx hxs => hk x (hF i hi x hx).1 hxs))
    intro i hi
    exact (cells i hi).keep (e (by intro e; subst e; simp at hi))
/-- its blocks are there -/
theorem OwnS.bound {w : World} {F : Nat → Prop} {v : Value} {ts : List V} (h : OwnS w F v ts) : OwnS w (fun x => F x ∧ x < w.heap.size) v ts := by
  induction h with
  | mk F a b off cap ts sls Fs ha hc hm hb hF hd cells wfs kids ih =>
    refine .mk _ a b off cap ts sls (fun i x => Fs i x ∧ x < w.heap.size) ha hc hm (fun hne => ⟨⟨(hb hne).1, ?_⟩, (hb hne).2⟩) (fun i hi x hx => ⟨⟨(hF i hi x hx.1).1, hx.2⟩, (hF i hi x hx.1).2⟩) (fun i j hij hj x hx hx' => hd i j hij hj x hx.1 hx'.1) cells wfs ih
    obtain ⟨_, cur, e, h⟩ := hb hne; exact lt_of_heap h
theorem OwnS.stay {w w' : World} {B : Nat} {v : Value} {ts : List V} (h : OwnS w (fun x => B ≤ x) v ts) (hb : Below w.heap.size w w') : OwnS w' (fun x => B ≤ x) v ts :=
  h.keep (fun x _ hx => hb.block x hx)
theorem OwnS.set {w : World} {F : Nat → Prop} {v : Value} {ts : List V} (h : OwnS w F v ts) (p : Addr) (u : Value) (hp : ¬ F p.block) : OwnS (w.setCell p u) F v ts :=
  h.keep (fun x hx _ => Below.heap_setCell _ _ _ _ (fun e => hp (e ▸ hx)))
theorem OwnS.alloc {w : World} {F : Nat → Prop} {v : Value} {ts : List V} (h : OwnS w F v ts) (o : Obj) : OwnS (w.alloc o) F v ts :=
  h.keep (fun x _ hs => Below.heap_alloc _ _ _ hs)
theorem OwnS.drew {w : World} {F : Nat → Prop} {v : Value} {ts : List V} (h : OwnS w F v ts) : OwnS w.drew F v ts :=
  h.keep (fun _ _ _ => rfl)
theorem OwnS.nil (w : World) (F : Nat → Prop) : OwnS w F (.slice none 0 0) [] :=
  .mk F none 0 0 0 [] (fun _ => .nilIface) (fun _ _ => False) (by simp) (by simp) (by omega) (by simp) (by simp) (by simp) (by simp) (by simp) (by simp)
theorem OwnS.slice {w : World} {F : Nat → Prop} {v : Value} {ts : List V} (h : OwnS w F v ts) : ∃ a cap, v = .slice a ts.length cap := by
  cases h with
  | mk F0 a b off cap ts0 sls Fs ha hc hm hb hFF hd cells wfs kids => exact ⟨a, cap, rfl⟩
/-- the cells of a row of values -/
def flat : List V → List Value → List Value
  | t :: ts, sl :: sls => .int .i64 t.k :: .int .i64 t.n :: .int .i64 t.e :: .string t.s :: sl :: flat ts sls
  | _, _ => []
theorem flat_length : ∀ (ts : List V) (sls : List Value), sls.length = ts.length → (flat ts sls).length = ts.length * 5
  | [], _, _ => by simp [flat]
  | t :: ts, [], h => by simp at h
  | t :: ts, sl :: sls, h => by simp only [flat, List.length_cons] at *; rw [flat_length ts sls (by omega)]; omega
theorem flat_append : ∀ (ts us : List V) (sls sms : List Value), sls.length = ts.length → flat (ts ++ us) (sls ++ sms) = flat ts sls ++ flat us sms
  | [], us, [], sms, _ => by simp [flat]
  | [], us, _ :: _, sms, h => by simp at h
  | t :: ts, us, [], sms, h => by simp at h
  | t :: ts, us, sl :: sls, sms, h => by simp only [flat, List.cons_append]; rw [flat_append ts us sls sms (by simpa using h)]
theorem flat_get : ∀ (ts : List V) (sls : List Value) (i : Nat) (h : i < ts.length) (h2 : i < sls.length),
    (flat ts sls)[i * 5]? = some (.int .i64 ts[i].k) ∧ (flat ts sls)[i * 5 + 1]? = some (.int .i64 ts[i].n) ∧ (flat ts sls)[i * 5 + 2]? = some (.int .i64 ts[i].e) ∧ (flat ts sls)[i * 5 + 3]? = some (.string ts[i].s) ∧ (flat ts sls)[i * 5 + 4]? = some sls[i]
  | [], _, i, h, _ => by simp at h
  | t :: ts, [], i, _, h => by simp at h
  | t :: ts, sl :: sls, 0, _, _ => by simp [flat]
  | t :: ts, sl :: sls, i + 1, h, h2 => by
    have := flat_get ts sls i (by simpa using h) (by simpa using h2)
    simp only [flat, show (i + 1) * 5 = i * 5 + 5 by omega]
    simpa using this
/-- a slice of values that the call itself made and may still write: its row, and what its elements own -/
structure VRow (w : World) (base : Nat) (E : TypeId) (G : Nat → Prop) (v : Value) (ts : List V) (sls : List Value) (Fs : Nat → Nat → Prop) : Prop where
  row : w.ownsRow base E 5 v ts.length (flat ts sls)
  len : sls.length = ts.length
  wfs : ∀ i (h : i < ts.length), ts[i].wf
  kids : ∀ i (h : i < ts.length), OwnS w (Fs i) (sls.getD i undef) ts[i].kids
  sub : ∀ i, i < ts.length → ∀ x, Fs i x → G x
  dis : ∀ i j, i < j → j < ts.length → ∀ x, Fs i x → ¬ Fs j x
  own : ∀ g, v.ownBlock = some g → ¬ G g
  inG : ∀ x, G x → base ≤ x ∧ x < w.heap.size
def VRows (w : World) (base : Nat) (E : TypeId) (G : Nat → Prop) (v : Value) (ts : List V) : Prop := ∃ sls Fs, VRow w base E G v ts sls Fs
theorem VRows.own {w : World} {base : Nat} {E : TypeId} {G : Nat → Prop} {v : Value} {ts : List V} (h : VRows w base E G v ts) : OwnS w (fun x => base ≤ x) v ts := by
  obtain ⟨sls, Fs, h⟩ := h
  rcases h.row.2 with ⟨rfl, hn⟩ | ⟨g, cap, cur, rfl, hbg, hg, hnc, hcm, hcs, htake⟩
  · obtain rfl : ts = [] := List.eq_nil_of_length_eq_zero hn
    exact OwnS.nil _ _
  · have hcell : ∀ j u, (flat ts sls)[j]? = some u → w.cell? ⟨g, j, none⟩ = some u := by
      intro j u hu
      have := h.row.cells (g := g) rfl j u hu
      rwa [addr_add _ _ rfl, Nat.zero_add] at this
    refine .mk _ (some ⟨g, 0, none⟩) g 0 cap ts (fun i => sls.getD i undef) Fs (fun _ => rfl) hnc (by simpa [maxLen] using hcm) (fun _ => ⟨hbg, cur, E, hg⟩) ?_ h.dis ?_ h.wfs h.kids
    · intro i hi x hx
      have hG := h.sub i hi x hx
      exact ⟨(h.inG x hG).1, by intro e; subst e; exact h.own x rfl hG⟩
    · intro i hi
      have hi2 : i < sls.length := by rw [h.len]; exact hi
      obtain ⟨h0, h1, h2, h3, h4⟩ := flat_get ts sls i hi hi2
      rw [Nat.zero_add, List.getD_eq_getElem?_getD, List.getElem?_eq_getElem hi2]
      exact ⟨hcell _ _ h0, hcell _ _ h1, hcell _ _ h2, hcell _ _ h3, hcell _ _ h4⟩
theorem VRows.inG {w : World} {base : Nat} {E : TypeId} {G : Nat → Prop} {v : Value} {ts : List V} (h : VRows w base E G v ts) : ∀ x, G x → base ≤ x ∧ x < w.heap.size := by
  obtain ⟨sls, Fs, h⟩ := h; exact h.inG
theorem VRows.nil (w : World) (base : Nat) (E : TypeId) : VRows w base E (fun _ => False) (.slice none 0 0) [] :=
  ⟨[], fun _ _ => False, ⟨World.ownsRow_nil w base E 5, rfl, by simp, by simp, by simp, by simp, by simp, by simp⟩⟩
theorem VRows.lt {w : World} {base : Nat} {E : TypeId} {G : Nat → Prop} {v : Value} {ts : List V} (h : VRows w base E G v ts) : ∀ k, v.ownBlock = some k → base ≤ k ∧ k < w.heap.size := by
  obtain ⟨sls, Fs, h⟩ := h; exact h.row.lt
/-- a row stays while no block below the heap's size of its world turns -/
theorem VRows.keep {w w' : World} {base : Nat} {E : TypeId} {G : Nat → Prop} {v : Value} {ts : List V} (h : VRows w base E G v ts) (hb : Below w.heap.size w w') : VRows w' base E G v ts := by
  obtain ⟨sls, Fs, h⟩ := h
  refine ⟨sls, Fs, ⟨h.row.kept (row := none) ⟨hb.os, hb.tape, hb.output, hb.size, fun k hk _ => hb.block k hk⟩ ?_, h.len, h.wfs, fun i hi => (h.kids i hi).keep (fun x _ hx => hb.block x hx), h.sub, h.dis, h.own, fun x hx => ⟨(h.inG x hx).1, Nat.lt_of_lt_of_le (h.inG x hx).2 hb.size⟩⟩⟩
  cases v.ownBlock <;> simp
/-- one more element, behind an append: its kids lie in F, apart from all that was owned -/
theorem VRows.snoc {w w' : World} {base : Nat} {E : TypeId} {G F : Nat → Prop} {v v' : Value} {ts : List V} {t : V} {sl : Value} (h : VRows w base E G v ts) (ht : t.wf) (ho : OwnS w F sl t.kids)
    (hF : ∀ x, F x → base ≤ x ∧ x < w.heap.size ∧ ¬ G x ∧ v.ownBlock ≠ some x)
    (hrow : ∀ sls, w.ownsRow base E 5 v ts.length (flat ts sls) → w'.ownsRow base E 5 v' (ts.length + 1) (flat ts sls ++ flat [t] [sl])) (hg : w.grownBy w' v.ownBlock) (hfr : FreshOr w v v') :
    VRows w' base E (fun x => G x ∨ F x) v' (ts ++ [t]) := by
  obtain ⟨sls, Fs, h⟩ := h
  have hk : ∀ x, (G x ∨ F x) → x < w.heap.size → w'.heap[x]? = w.heap[x]? := by
    intro x hx hs
    refine hg.block x hs (fun e => ?_)
    rcases hx with hx | hx
    · exact h.own x e.symm hx
    · exact (hF x hx).2.2.2 e.symm
  refine ⟨sls ++ [sl], fun i => if i < ts.length then Fs i else F, ?_, by simp [h.len], ?_, ?_, ?_, ?_, ?_, ?_⟩
  · rw [flat_append _ _ _ _ h.len, List.length_append]; exact hrow sls h.row
  · intro i hi
    rw [List.length_append] at hi
    by_cases hlt : i < ts.length
    · rw [List.getElem_append_left hlt]; exact h.wfs i hlt
    · have : i = ts.length := by simp at hi; omega
      subst this; simpa using ht
  · intro i hi
    rw [List.length_append] at hi
    by_cases hlt : i < ts.length
    · have h1 := h.kids i hlt
      rw [if_pos hlt, List.getElem_append_left hlt]
      have : (sls ++ [sl]).getD i undef = sls.getD i undef := by
        rw [List.getD_eq_getElem?_getD, List.getD_eq_getElem?_getD, List.getElem?_append_left (by rw [h.len]; exact hlt)]
      rw [this]
      exact h1.keep (fun x hx hs => hk x (.inl (h.sub i hlt x hx)) hs)
    · have : i = ts.length := by simp at hi; omega
      subst this
      have e : (sls ++ [sl]).getD ts.length undef = sl := by rw [List.getD_eq_getElem?_getD, ← h.len]; simp
      rw [if_neg hlt, e]
      simpa using ho.keep (fun x hx hs => hk x (.inr hx) hs)
  · intro i hi x hx
    by_cases hlt : i < ts.length
    · simp only [if_pos hlt] at hx; exact .inl (h.sub i hlt x hx)
    · simp only [if_neg hlt] at hx; exact .inr hx
  · intro i j hij hj x hx hx'
    rw [List.length_append] at hj
    have hi : i < ts.length := by simp at hj; omega
    simp only [if_pos hi] at hx
    by_cases hlt : j < ts.length
    · simp only [if_pos hlt] at hx'; exact h.dis i j hij hlt x hx hx'
    · simp only [if_neg hlt] at hx'; exact (hF x hx').2.2.1 (h.sub i hi x hx)
  · intro g hg' hG
    rcases hfr with e | e
    · rw [e] at hg'
      rcases hG with hG | hG
      · exact h.own g hg' hG
      · exact (hF g hG).2.2.2 hg'
    · rw [e] at hg'
      simp only [Option.some.injEq] at hg'
      subst hg'
      rcases hG with hG | hG
      · have := (h.inG _ hG).2; omega
      · have := (hF _ hG).2.1; omega
  · intro x hx
    rcases hx with hx | hx
    · exact ⟨(h.inG x hx).1, Nat.lt_of_lt_of_le (h.inG x hx).2 hg.size⟩
    · exact ⟨(hF x hx).1, Nat.lt_of_lt_of_le (hF x hx).2.1 hg.size⟩
theorem flat_set : ∀ (ts : List V) (sls : List Value) (i : Nat) (t : V) (sl : Value), i < ts.length → sls.length = ts.length →
    (((((flat ts sls).set (i * 5) (.int .i64 t.k)).set (i * 5 + 1) (.int .i64 t.n)).set (i * 5 + 2) (.int .i64 t.e)).set (i * 5 + 3) (.string t.s)).set (i * 5 + 4) sl = flat (ts.set i t) (sls.set i sl)
  | [], _, i, _, _, h, _ => by simp at h
  | u :: ts, [], i, _, _, _, h => by simp at h
  | u :: ts, sm :: sls, 0, t, sl, _, _ => by simp [flat]
  | u :: ts, sm :: sls, i + 1, t, sl, h, h2 => by
    have := flat_set ts sls i t sl (by simpa using h) (by simpa using h2)
    simp only [flat, List.set_cons_succ, show (i + 1) * 5 = i * 5 + 5 by omega, show i * 5 + 5 + 1 = i * 5 + 1 + 5 by omega, show i * 5 + 5 + 2 = i * 5 + 2 + 5 by omega, show i * 5 + 5 + 3 = i * 5 + 3 + 5 by omega, show i * 5 + 5 + 4 = i * 5 + 4 + 5 by omega]
    rw [this]
/-- the five stores of a value -/
def put5 (w : World) (g o : Nat) (t : V) (sl : Value) : World :=
  ((((w.setCell ⟨g, o, none⟩ (.int .i64 t.k)).setCell ⟨g, o + 1, none⟩ (.int .i64 t.n)).setCell ⟨g, o + 2, none⟩ (.int .i64 t.e)).setCell ⟨g, o + 3, none⟩ (.string t.s)).setCell ⟨g, o + 4, none⟩ sl
theorem grownBy_cell (w : World) (g o : Nat) (u : Value) : w.grownBy (w.setCell ⟨g, o, none⟩ u) (some g) :=
  ⟨rfl, rfl, rfl, by simp, fun k _ hne => heap_setCell_other w ⟨g, o, none⟩ k u (fun e => hne (by rw [e]))⟩
theorem grownBy_trans {a b c : World} {r : Option Nat} (h : a.grownBy b r) (k : b.grownBy c r) : a.grownBy c r :=
  ⟨k.os.trans h.os, k.tape.trans h.tape, k.output.trans h.output, Nat.le_trans h.size k.size, fun i hi hr => (k.block i (Nat.lt_of_lt_of_le hi h.size) hr).trans (h.block i hi hr)⟩
theorem grownBy_put5 (w : World) (g o : Nat) (t : V) (sl : Value) : w.grownBy (put5 w g o t sl) (some g) :=
  grownBy_trans (grownBy_trans (grownBy_trans (grownBy_trans (grownBy_cell _ _ _ _) (grownBy_cell _ _ _ _)) (grownBy_cell _ _ _ _)) (grownBy_cell _ _ _ _)) (grownBy_cell _ _ _ _)
theorem VRows.set {w : World} {base : Nat} {E : TypeId} {G F : Nat → Prop} {g n cap i : Nat} {ts : List V} {t : V} {sl : Value} (h : VRows w base E G (.slice (some ⟨g, 0, none⟩) n cap) ts) (hi : i < ts.length) (ht : t.wf) (ho : OwnS w F sl t.kids)
    (hF : ∀ x, F x → base ≤ x ∧ x < w.heap.size ∧ ¬ G x ∧ x ≠ g) :
    VRows (put5 w g (i * 5) t sl) base E (fun x => G x ∨ F x) (.slice (some ⟨g, 0, none⟩) n cap) (ts.set i t) := by
  obtain ⟨sls, Fs, h⟩ := h
  have hn : n = ts.length := by
    rcases h.row.2 with ⟨h', _⟩ | ⟨g', cap', cur, h', _⟩ <;> simp at h'; exact h'.2.1
  subst hn
  have hgr := grownBy_put5 w g (i * 5) t sl
  have hk : ∀ x, (G x ∨ F x) → x < w.heap.size → (put5 w g (i * 5) t sl).heap[x]? = w.heap[x]? := by
    intro x hx hs
    refine hgr.block x hs (fun e => ?_)
    simp only [Option.some.injEq] at e
    rcases hx with hx | hx
    · exact h.own x (by rw [e]; rfl) hx
    · exact (hF x hx).2.2.2 e
  refine ⟨sls.set i sl, fun j => if j = i then F else Fs j, ?_, by simp [h.len], ?_, ?_, ?_, ?_, ?_, ?_⟩
  · rw [List.length_set, ← flat_set ts sls i t sl hi h.len]
    exact ((((((h.row.stored (i * 5) (.int .i64 t.k)).1).stored (i * 5 + 1) (.int .i64 t.n)).1.stored (i * 5 + 2) (.int .i64 t.e)).1.stored (i * 5 + 3) (.string t.s)).1.stored (i * 5 + 4) sl).1
  · intro j hj
    rw [List.getElem_set]
    split
    · exact ht
    · exact h.wfs j (by simpa using hj)
  · intro j hj
    have hj' : j < ts.length := by simpa using hj
    rw [List.getElem_set]
    by_cases hji : j = i
    · subst hji
      have e : (sls.set j sl).getD j undef = sl := by rw [List.getD_eq_getElem?_getD, List.getElem?_set_self (by rw [h.len]; exact hj')]; rfl
      rw [if_pos rfl, e, if_pos rfl]
      exact ho.keep (fun x hx hs => hk x (.inr hx) hs)
    · have e : (sls.set i sl).getD j undef = sls.getD j undef := by rw [List.getD_eq_getElem?_getD, List.getD_eq_getElem?_getD, List.getElem?_set_ne (fun e => hji e.symm)]
      rw [if_neg hji, e, if_neg (fun e => hji e.symm)]
      exact (h.kids j hj').keep (fun x hx hs => hk x (.inl (h.sub j hj' x hx)) hs)
  · intro j hj x hx
    have hj' : j < ts.length := by simpa using hj
    by_cases hji : j = i
    · simp only [if_pos hji] at hx; exact .inr hx
    · simp only [if_neg hji] at hx; exact .inl (h.sub j hj' x hx)
  · intro j k hjk hk' x hx hx'
    have hk2 : k < ts.length := by simpa using hk'
    by_cases hji : j = i
    · simp only [if_pos hji] at hx
      have hki : ¬ k = i := by omega
      simp only [if_neg hki] at hx'
      exact (hF x hx).2.2.1 (h.sub k hk2 x hx')
    · simp only [if_neg hji] at hx
      by_cases hki : k = i
      · simp only [if_pos hki] at hx'
        exact (hF x hx').2.2.1 (h.sub j (by omega) x hx)
      · simp only [if_neg hki] at hx'
        exact h.dis j k hjk hk2 x hx hx'
  · intro q hq hG
    rcases hG with hG | hG
    · exact h.own q hq hG
    · simp [Value.ownBlock] at hq; exact (hF q hG).2.2.2 hq.symm
  · intro x hx
    rcases hx with hx | hx
    · exact ⟨(h.inG x hx).1, Nat.lt_of_lt_of_le (h.inG x hx).2 hgr.size⟩
    · exact ⟨(hF x hx).1, Nat.lt_of_lt_of_le (hF x hx).2.1 hgr.size⟩
theorem fill_set {α : Type} (z : α) (ts : List α) (k : Nat) (h : k < ts.length) : (ts.take k ++ List.replicate (ts.length - k) z).set k ts[k] = ts.take (k + 1) ++ List.replicate (ts.length - (k + 1)) z := by
  rw [List.set_append, if_neg (by rw [List.length_take]; omega)]
  have : k - (ts.take k).length = 0 := by rw [List.length_take]; omega
  rw [this, show ts.length - k = (ts.length - (k + 1)) + 1 by omega, List.replicate_succ, List.set_cons_zero, List.take_succ_eq_append_getElem h, List.append_assoc]
  rfl
def V0 : V := .mk 0 0 0 ⟨#[]⟩ []
theorem made_flat (n : Nat) : (madeCells #[.int .i64 0, .int .i64 0, .int .i64 0, .string ⟨#[]⟩, .slice none 0 0] (n * 5)).toList = flat (List.replicate n V0) (List.replicate n (.slice none 0 0)) := by
  apply List.ext_getElem?
  intro j
  by_cases hj : j < n * 5
  · have h := flat_get (List.replicate n V0) (List.replicate n (.slice none 0 0)) (j / 5) (by simp; omega) (by simp; omega)
    simp only [List.getElem_replicate] at h
    have h5 : j % 5 < 5 := Nat.mod_lt _ (by decide)
    have hm : (madeCells #[Value.int .i64 0, .int .i64 0, .int .i64 0, .string ⟨#[]⟩, .slice none 0 0] (n * 5)).toList[j]? = some ((#[Value.int .i64 0, .int .i64 0, .int .i64 0, .string ⟨#[]⟩, .slice none 0 0] : Array Value)[j % 5]'(by simpa using h5)) := by
      simp [madeCells, hj, h5]
    rw [hm]
    have hjj : j = j / 5 * 5 + j % 5 := by omega
    generalize j / 5 = q at *
    generalize hr : j % 5 = r at *
    subst hjj
    match r, h5 with
    | 0, _ => exact h.1.symm
    | 1, _ => rw [h.2.1]; rfl
    | 2, _ => rw [h.2.2.1]; rfl
    | 3, _ => rw [h.2.2.2.1]; rfl
    | 4, _ => rw [h.2.2.2.2]; rfl
  · rw [List.getElem?_eq_none (by simp [madeCells]; omega), List.getElem?_eq_none (by rw [flat_length _ _ (by simp)]; simp; omega)]
theorem VRows.made {w : World} {base : Nat} {E : TypeId} {g n cap : Nat} (h : w.ownsRow base E 5 (.slice (some ⟨g, 0, none⟩) n cap) n (madeCells #[.int .i64 0, .int .i64 0, .int .i64 0, .string ⟨#[]⟩, .slice none 0 0] (n * 5)).toList) :
    VRows w base E (fun _ => False) (.slice (some ⟨g, 0, none⟩) n cap) (List.replicate n V0) := by
  refine ⟨List.replicate n (.slice none 0 0), fun _ _ => False, ⟨by rw [← made_flat]; simpa using h, by simp, ?_, ?_, by simp, by simp, by simp, by simp⟩⟩
  · intro i hi; simp [V0, V.wf, In64, V.k, V.n, V.e, V.s, ByteArray.size]
  · intro i hi
    simp at hi
    rw [List.getD_eq_getElem?_getD, List.getElem?_eq_getElem (by simpa using hi)]
    simp [V0, V.kids]
    exact OwnS.nil _ _
theorem VRows.cells {w : World} {base : Nat} {E : TypeId} {G : Nat → Prop} {g n cap i : Nat} {ts : List V} (h : VRows w base E G (.slice (some ⟨g, 0, none⟩) n cap) ts) (hi : i < ts.length) :
    ∃ sl, Cells5 w g (i * 5) ts[i] sl ∧ ∀ o, w.frozen? ⟨g, o, none⟩ = false := by
  obtain ⟨sls, Fs, h⟩ := h
  have hi2 : i < sls.length := by rw [h.len]; exact hi
  obtain ⟨h0, h1, h2, h3, h4⟩ := flat_get ts sls i hi hi2
  have hcell : ∀ j u, (flat ts sls)[j]? = some u → w.cell? ⟨g, j, none⟩ = some u := by
    intro j u hu
    have := h.row.cells (g := g) rfl j u hu
    rwa [addr_add _ _ rfl, Nat.zero_add] at this
  have hn : n = ts.length := by
    rcases h.row.2 with ⟨h', _⟩ | ⟨g', cap', cur, h', _⟩ <;> simp at h'; exact h'.2.1
  subst hn
  exact ⟨sls[i], ⟨hcell _ _ h0, hcell _ _ h1, hcell _ _ h2, hcell _ _ h3, hcell _ _ h4⟩, fun o => h.row.frozenAt o⟩
/-- a value that a call hands back, made anew -/
def ValRet (w : World) (t : V) (e : Ending) (w' : World) : Prop := ∃ sl, e = .returned (t.agg sl) ∧ t.wf ∧ OwnS w' (fun x => w.heap.size ≤ x) sl t.kids ∧ Below w.heap.size w w'
def ListRet (w : World) (ts : List V) (e : Ending) (w' : World) : Prop := ∃ v, e = .returned v ∧ OwnS w' (fun x => w.heap.size ≤ x) v ts ∧ Below w.heap.size w w'
end Go.Proofs.YtiemlefmhleaeaaDoor
