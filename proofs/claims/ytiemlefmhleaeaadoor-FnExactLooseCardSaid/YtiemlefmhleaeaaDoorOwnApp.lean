/- One value more behind a row of values that the call owns, each kid's row in blocks of its own. -/
import Derived.Test.YtiemlefmhleaeaaDoorPRow
namespace Go.Proofs.YtiemlefmhleaeaaDoor
set_option linter.unusedVariables false
set_option maxRecDepth 100000
open Go.RowKit
/-- a leaf owns nothing, wherever its row lies -/
theorem RepS.empty {w : World} {v : Value} (h : RepS w v []) (F : Nat → Prop) : OwnS w F v [] := by
  generalize hts : ([] : List V) = ts at h
  cases h with
  | mk a b off cap ts sls ha hc hm hbb cells wfs kids =>
    subst hts
    exact OwnS.mk F a b off cap [] sls (fun _ _ => False) (fun h => absurd rfl h) hc hm (fun h => absurd rfl h) (fun i hi => absurd hi (by simp)) (fun i j hij hj => absurd hj (by simp)) (fun i hi => absurd hi (by simp)) (fun i hi => absurd hi (by simp)) (fun i hi => absurd hi (by simp))
theorem VRow.snoc {w w' : World} {base : Nat} {E : TypeId} {G F : Nat → Prop} {v v' : Value} {ts : List V} {sls : List Value} {Fs : Nat → Nat → Prop} {t : V} {sl : Value} (h : VRow w base E G v ts sls Fs) (ht : t.wf) (ho : OwnS w F sl t.kids)
    (hF : ∀ x, F x → base ≤ x ∧ x < w.heap.size ∧ ¬ G x ∧ v.ownBlock ≠ some x)
    (hrow : w'.ownsRow base E 5 v' (ts.length + 1) (flat ts sls ++ flat [t] [sl])) (hg : w.grownBy w' v.ownBlock) (hfr : FreshOr w v v') :
    VRows w' base E (fun x => G x ∨ F x) v' (ts ++ [t]) := by
  have hk : ∀ x, (G x ∨ F x) → x < w.heap.size → w'.heap[x]? = w.heap[x]? := by
    intro x hx hs
    refine hg.block x hs (fun e => ?_)
    rcases hx with hx | hx
    · exact h.own x e.symm hx
    · exact (hF x hx).2.2.2 e.symm
  refine ⟨sls ++ [sl], fun i => if i < ts.length then Fs i else F, ?_, by simp [h.len], ?_, ?_, ?_, ?_, ?_, ?_⟩
  · rw [flat_append _ _ _ _ h.len, List.length_append]; exact hrow
  · intro i hi
    rw [List.length_append] at hi
    by_cases hlt : i < ts.length
    · rw [List.getElem_append_left hlt]; exact h.wfs i hlt
    · have : i = ts.length := by simp at hi; omega
      subst this; simpa using ht
  · intro i hi
    rw [List.length_append] at hi
    by_cases hlt : i < ts.length
    · have h1 := h.kids i hlt
      rw [if_pos hlt, List.getElem_append_left hlt]
      have : (sls ++ [sl]).getD i undef = sls.getD i undef := by
        rw [List.getD_eq_getElem?_getD, List.getD_eq_getElem?_getD, List.getElem?_append_left (by rw [h.len]; exact hlt)]
      rw [this]
      exact h1.keep (fun x hx hs => hk x (.inl (h.sub i hlt x hx)) hs)
    · have : i = ts.length := by simp at hi; omega
      subst this
      have e : (sls ++ [sl]).getD ts.length undef = sl := by rw [List.getD_eq_getElem?_getD, ← h.len]; simp
      rw [if_neg hlt, e]
      simpa using ho.keep (fun x hx hs => hk x (.inr hx) hs)
  · intro i hi x hx
    by_cases hlt : i < ts.length
    · simp only [if_pos hlt] at hx; exact .inl (h.sub i hlt x hx)
    · simp only [if_neg hlt] at hx; exact .inr hx
  · intro i j hij hj x hx hx'
    rw [List.length_append] at hj
    have hi : i < ts.length := by simp at hj; omega
    simp only [if_pos hi] at hx
    by_cases hlt : j < ts.length
    · simp only [if_pos hlt] at hx'; exact h.dis i j hij hlt x hx hx'
    · simp only [if_neg hlt] at hx'; exact (hF x hx').2.2.1 (h.sub i hi x hx)
  · intro g hg' hG
    rcases hfr with e | e
    · rw [e] at hg'
      rcases hG with hG | hG
      · exact h.own g hg' hG
      · exact (hF g hG).2.2.2 hg'
    · rw [e] at hg'
      simp only [Option.some.injEq] at hg'
      subst hg'
      rcases hG with hG | hG
      · have := (h.inG _ hG).2; omega
      · have := (hF _ hG).2.1; omega
  · intro x hx
    rcases hx with hx | hx
    · exact ⟨(h.inG x hx).1, Nat.lt_of_lt_of_le (h.inG x hx).2 hg.size⟩
    · exact ⟨(hF x hx).1, Nat.lt_of_lt_of_le (hF x hx).2.1 hg.size⟩
theorem VRows.slice3 {w : World} {base : Nat} {E : TypeId} {G : Nat → Prop} {v : Value} {ts : List V} (h : VRows w base E G v ts) : ∃ a n cap, v = .slice a n cap := by
  obtain ⟨a, cap, e⟩ := h.own.slice
  exact ⟨a, _, cap, e⟩
/-- what a row of this kind owns, whole -/
theorem VRows.made0 {w : World} {base b : Nat} {E : TypeId} (hb : base ≤ b) (h : w.heap[b]? = some (.cells #[] E (0, 0))) : VRows w base E (fun _ => False) (.slice (some ⟨b, 0, none⟩) 0 0) [] := by
  refine ⟨[], fun _ _ => False, ⟨?_, rfl, by simp, by simp, by simp, by simp, by simp, by simp⟩⟩
  exact ⟨rfl, .inr ⟨b, 0, #[], rfl, hb, h, Nat.le_refl 0, by simp [maxLen], by simp, by simp [flat]⟩⟩
/-- the source of an append: one new element whose kids are owned -/
theorem src_val {w : World} {b : Nat} {t : V} {sl : Value} (hb : w.heap[b]? = some (.cells #[.int .i64 t.k, .int .i64 t.n, .int .i64 t.e, .string t.s, sl] 28 (0, 0))) (h : RepS w sl t.kids) :
    Src Tryd.prog 5 26 (.slice (some ⟨b, 0, none⟩) 1 1) 1 (flat [t] [sl]) w := by
  refine Src.ofSlice _ Tryd.underlying26 _ _ _ _ (by simp [flat]) ?_ (flat_one [t] [sl] ?_)
  · intro j u hu
    rw [addr_add _ _ rfl, Nat.zero_add]
    rw [cell_of_row _ _ _ _ _ (0, 0) hb]
    simpa [flat] using hu
  · intro s hs
    obtain rfl := List.mem_singleton.1 hs
    obtain ⟨a, cap, e⟩ := h.slice
    exact ⟨a, _, cap, e⟩
section
variable {w : World} {ops : Array Oper} {rest : List Oper} {o : Oper} {a : Act} {Q : Exit → Act → World → Prop}
theorem app_own (hgd : o.guard = none) (s x : Operand)
    (ho : o.op = .call { callee := .builtin .append, args := #[s, x], argTypes := #[26, 26] })
    (base : Nat) (G F : Nat → Prop) (v : Value) (ts : List V) (hs : a.eval s = v) (hown : VRows w base 28 G v ts) (t : V) (sl : Value) (b : Nat) (hx : a.eval x = .slice (some ⟨b, 0, none⟩) 1 1)
    (hb : w.heap[b]? = some (.cells #[.int .i64 t.k, .int .i64 t.n, .int .i64 t.e, .string t.s, sl] 28 (0, 0))) (ht : t.wf) (hO : OwnS w F sl t.kids)
    (hF : ∀ x, F x → base ≤ x ∧ x < w.heap.size ∧ ¬ G x ∧ v.ownBlock ≠ some x)
    (h63 : ts.length ≤ 1099511627000) (hbase : base ≤ w.heap.size)
    (h : ∀ v' w', VRows w' base 28 (fun x => G x ∨ F x) v' (ts ++ [t]) → w.grownBy w' v.ownBlock → FreshOr w v v' → wpList Tryd.prog ops Q rest (a.put o.dst v') w') : wpList Tryd.prog ops Q (o :: rest) a w := by
  obtain ⟨i0, hi, hz0, hz1, hz2⟩ := info_parts info_impl
  obtain ⟨sls, Fs, hp⟩ := hown
  exact wpList_app hgd s x 26 26 ho base 28 i0 _ 5 64 Tryd.underlying26 hi hz0 hz1 hz2 rfl (by decide) v ts.length (flat ts sls) hs hp.row _ hx 1 (flat [t] [sl]) (src_val hb hO.rep) (by omega) hbase
    (fun v' w' h1 h2 h3 _ => h v' w' (hp.snoc ht hO hF h1 h2 h3) h2 h3)
theorem step_own {K : Act → World → Prop} {X : Prop} (hgd : o.guard = none) (s x : Operand)
    (ho : o.op = .call { callee := .builtin .append, args := #[s, x], argTypes := #[26, 26] })
    (base : Nat) (G F : Nat → Prop) (v : Value) (ts : List V) (hs : a.eval s = v) (hown : VRows w base 28 G v ts) (t : V) (sl : Value) (b : Nat) (hx : a.eval x = .slice (some ⟨b, 0, none⟩) 1 1)
    (hb : w.heap[b]? = some (.cells #[.int .i64 t.k, .int .i64 t.n, .int .i64 t.e, .string t.s, sl] 28 (0, 0))) (ht : t.wf) (hO : OwnS w F sl t.kids)
    (hF : ∀ x, F x → base ≤ x ∧ x < w.heap.size ∧ ¬ G x ∧ v.ownBlock ≠ some x)
    (h63 : ts.length ≤ 1099511627000) (hbase : base ≤ w.heap.size)
    (h : ∀ v' w', VRows w' base 28 (fun x => G x ∨ F x) v' (ts ++ [t]) → w.grownBy w' v.ownBlock → FreshOr w v v' → K (a.put o.dst v') w') : if Region.wanted o (yielded ops a.tmps) = true then Oper.wp Tryd.prog o a w K Q else X := by
  obtain ⟨i0, hi, hz0, hz1, hz2⟩ := info_parts info_impl
  obtain ⟨sls, Fs, hp⟩ := hown
  exact step_app hgd s x 26 26 ho base 28 i0 _ 5 64 Tryd.underlying26 hi hz0 hz1 hz2 rfl (by decide) v ts.length (flat ts sls) hs hp.row _ hx 1 (flat [t] [sl]) (src_val hb hO.rep) (by omega) hbase
    (fun v' w' h1 h2 h3 _ => h v' w' (hp.snoc ht hO hF h1 h2 h3) h2 h3)
end
end Go.Proofs.YtiemlefmhleaeaaDoor
