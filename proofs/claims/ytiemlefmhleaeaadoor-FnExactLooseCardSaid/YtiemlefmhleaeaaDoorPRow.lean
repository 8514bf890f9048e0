/- Rows of values that a call makes and whose elements' kids lie elsewhere, shared or not: reading with the blocks told. -/
import Derived.Test.YtiemlefmhleaeaaDoorStrs
import Derived.Test.YtiemlefmhleaeaaDoorToVal
import Derived.Test.YtiemlefmhleaeaaDoorLens
namespace Go.Proofs.YtiemlefmhleaeaaDoor
set_option linter.unusedVariables false
set_option maxRecDepth 100000
open Go.RowKit
/-- as RepS; every block that is read is one of G -/
inductive RepF (w : World) (G : Nat → Prop) : Value → List V → Prop
  | mk (a : Option Addr) (b off cap : Nat) (ts : List V) (sls : Nat → Value) (ha : ts ≠ [] → a = some ⟨b, off, none⟩) (hc : ts.length ≤ cap) (hm : cap ≤ 9223372036854775807)
      (hb : ts ≠ [] → b < w.heap.size ∧ G b) (cells : ∀ i (h : i < ts.length), Cells5 w b (off + i * 5) ts[i] (sls i)) (wfs : ∀ i (h : i < ts.length), ts[i].wf)
      (kids : ∀ i (h : i < ts.length), RepF w G (sls i) ts[i].kids) : RepF w G (.slice a ts.length cap) ts
theorem RepF.rep {w : World} {G : Nat → Prop} {v : Value} {ts : List V} (h : RepF w G v ts) : RepS w v ts := by
  induction h with
  | mk a b off cap ts sls ha hc hm hb cells wfs kids ih => exact .mk a b off cap ts sls ha hc hm (fun hne => (hb hne).1) cells wfs ih
theorem RepF.mono {w : World} {G G' : Nat → Prop} {v : Value} {ts : List V} (h : RepF w G v ts) (hG : ∀ x, G x → x < w.heap.size → G' x) : RepF w G' v ts := by
  induction h with
  | mk a b off cap ts sls ha hc hm hb cells wfs kids ih => exact .mk a b off cap ts sls ha hc hm (fun hne => ⟨(hb hne).1, hG _ (hb hne).2 (hb hne).1⟩) cells wfs ih
theorem RepF.keep {w w' : World} {G : Nat → Prop} {v : Value} {ts : List V} (h : RepF w G v ts) (hz : w.heap.size ≤ w'.heap.size) (hk : ∀ x, G x → x < w.heap.size → w'.heap[x]? = w.heap[x]?) : RepF w' G v ts := by
  induction h with
  | mk a b off cap ts sls ha hc hm hb cells wfs kids ih =>
    refine .mk a b off cap ts sls ha hc hm (fun hne => ⟨Nat.lt_of_lt_of_le (hb hne).1 hz, (hb hne).2⟩) (fun i hi => (cells i hi).keep ?_) wfs ih
    have hne : ts ≠ [] := by intro e; subst e; simp at hi
    exact hk b (hb hne).2 (hb hne).1
theorem RepF.stay {w w' : World} {G : Nat → Prop} {v : Value} {ts : List V} (h : RepF w G v ts) (hb : Below w.heap.size w w') : RepF w' G v ts :=
  h.keep hb.size (fun x _ hx => hb.block x hx)
theorem RepF.bound {w : World} {G : Nat → Prop} {v : Value} {ts : List V} (h : RepF w G v ts) : RepF w (fun x => G x ∧ x < w.heap.size) v ts := h.mono (fun x h1 h2 => ⟨h1, h2⟩)
theorem RepS.toF {w : World} {v : Value} {ts : List V} (h : RepS w v ts) : RepF w (fun x => x < w.heap.size) v ts := by
  induction h with
  | mk a b off cap ts sls ha hc hm hb cells wfs kids ih => exact .mk a b off cap ts sls ha hc hm (fun hne => ⟨hb hne, hb hne⟩) cells wfs ih
theorem OwnS.toF {w : World} {F : Nat → Prop} {v : Value} {ts : List V} (h : OwnS w F v ts) : RepF w F v ts := by
  induction h with
  | mk F a b off cap ts sls Fs ha hc hm hb hF hd cells wfs kids ih =>
    exact .mk a b off cap ts sls ha hc hm (fun hne => by obtain ⟨h1, cur, e, h⟩ := hb hne; exact ⟨lt_of_heap h, h1⟩) cells wfs (fun i hi => (ih i hi).mono (fun x hx _ => (hF i hi x hx).1))
theorem RepF.slice {w : World} {G : Nat → Prop} {v : Value} {ts : List V} (h : RepF w G v ts) : ∃ a cap, v = .slice a ts.length cap := by
  cases h with
  | mk a b off cap ts0 sls ha hc hm hb cells wfs kids => exact ⟨a, cap, rfl⟩
theorem RepF.nil (w : World) (G : Nat → Prop) : RepF w G (.slice none 0 0) [] :=
  .mk none 0 0 0 [] (fun _ => .nilIface) (by simp) (by simp) (by omega) (by simp) (by simp) (by simp) (by simp)
/-- a slice of values of the call's own; its elements' kids are read in G -/
structure PRowS (w : World) (base : Nat) (G : Nat → Prop) (v : Value) (ts : List V) (sls : List Value) : Prop where
  row : w.ownsRow base 28 5 v ts.length (flat ts sls)
  len : sls.length = ts.length
  wfs : ∀ i (h : i < ts.length), ts[i].wf
  kids : ∀ i (h : i < ts.length), RepF w G (sls.getD i undef) ts[i].kids
  own : ∀ g, v.ownBlock = some g → ¬ G g
  inG : ∀ x, G x → x < w.heap.size
def PRow (w : World) (base : Nat) (G : Nat → Prop) (v : Value) (ts : List V) : Prop := ∃ sls, PRowS w base G v ts sls
theorem PRow.lt {w : World} {base : Nat} {G : Nat → Prop} {v : Value} {ts : List V} (h : PRow w base G v ts) : ∀ k, v.ownBlock = some k → base ≤ k ∧ k < w.heap.size := by
  obtain ⟨sls, h⟩ := h; exact h.row.lt
theorem PRow.inG {w : World} {base : Nat} {G : Nat → Prop} {v : Value} {ts : List V} (h : PRow w base G v ts) : ∀ x, G x → x < w.heap.size := by
  obtain ⟨sls, h⟩ := h; exact h.inG
theorem PRow.own {w : World} {base : Nat} {G : Nat → Prop} {v : Value} {ts : List V} (h : PRow w base G v ts) : ∀ x, v.ownBlock = some x → ¬ G x := by
  obtain ⟨sls, h⟩ := h; exact h.own
theorem PRow.slice {w : World} {base : Nat} {G : Nat → Prop} {v : Value} {ts : List V} (h : PRow w base G v ts) : ∃ a cap, v = .slice a ts.length cap := by
  obtain ⟨sls, h⟩ := h
  rcases h.row.2 with ⟨rfl, hn⟩ | ⟨g, cap, cur, hv, _⟩
  · exact ⟨none, 0, by rw [hn]⟩
  · exact ⟨_, _, hv⟩
theorem PRow.slice3 {w : World} {base : Nat} {G : Nat → Prop} {v : Value} {ts : List V} (h : PRow w base G v ts) : ∃ a n cap, v = .slice a n cap := by
  obtain ⟨a, cap, e⟩ := h.slice; exact ⟨a, _, cap, e⟩
theorem PRow.repF {w : World} {base : Nat} {G : Nat → Prop} {v : Value} {ts : List V} (h : PRow w base G v ts) : RepF w (fun x => G x ∨ v.ownBlock = some x) v ts := by
  obtain ⟨sls, h⟩ := h
  rcases h.row.2 with ⟨rfl, hn⟩ | ⟨g, cap, cur, rfl, hbg, hg, hnc, hcm, hcs, htake⟩
  · obtain rfl : ts = [] := List.eq_nil_of_length_eq_zero hn
    exact RepF.nil _ _
  · have hcell : ∀ j u, (flat ts sls)[j]? = some u → w.cell? ⟨g, j, none⟩ = some u := by
      intro j u hu
      have := h.row.cells (g := g) rfl j u hu
      rwa [addr_add _ _ rfl, Nat.zero_add] at this
    refine .mk (some ⟨g, 0, none⟩) g 0 cap ts (fun i => sls.getD i undef) (fun _ => rfl) hnc (by simpa [maxLen] using hcm) (fun _ => ⟨lt_of_heap hg, .inr rfl⟩) ?_ h.wfs (fun i hi => (h.kids i hi).mono (fun x hx _ => .inl hx))
    intro i hi
    have hi2 : i < sls.length := by rw [h.len]; exact hi
    obtain ⟨h0, h1, h2, h3, h4⟩ := flat_get ts sls i hi hi2
    rw [Nat.zero_add, List.getD_eq_getElem?_getD, List.getElem?_eq_getElem hi2]
    exact ⟨hcell _ _ h0, hcell _ _ h1, hcell _ _ h2, hcell _ _ h3, hcell _ _ h4⟩
theorem PRow.rep {w : World} {base : Nat} {G : Nat → Prop} {v : Value} {ts : List V} (h : PRow w base G v ts) : RepS w v ts := h.repF.rep
theorem PRow.keep {w w' : World} {base : Nat} {G : Nat → Prop} {v : Value} {ts : List V} (h : PRow w base G v ts) (hz : w.heap.size ≤ w'.heap.size) (hk : ∀ x, (G x ∨ v.ownBlock = some x) → x < w.heap.size → w'.heap[x]? = w.heap[x]?) : PRow w' base G v ts := by
  obtain ⟨sls, h⟩ := h
  refine ⟨sls, ⟨⟨h.row.1, ?_⟩, h.len, h.wfs, fun i hi => (h.kids i hi).keep hz (fun x hx hs => hk x (.inl hx) hs), h.own, fun x hx => Nat.lt_of_lt_of_le (h.inG x hx) hz⟩⟩
  rcases h.row.2 with h2 | ⟨g, cap, cur, rfl, hbg, hg, r⟩
  · exact .inl h2
  · exact .inr ⟨g, cap, cur, rfl, hbg, by rw [hk g (.inr rfl) (lt_of_heap hg)]; exact hg, r⟩
theorem PRow.stay {w w' : World} {base : Nat} {G : Nat → Prop} {v : Value} {ts : List V} (h : PRow w base G v ts) (hb : Below w.heap.size w w') : PRow w' base G v ts :=
  h.keep hb.size (fun x _ hx => hb.block x hx)
theorem PRow.nil (w : World) (base : Nat) : PRow w base (fun _ => False) (.slice none 0 0) [] :=
  ⟨[], ⟨World.ownsRow_nil w base _ 5, rfl, by simp, by simp, by simp, by simp⟩⟩
theorem PRow.made0 {w : World} {base : Nat} (hb : base ≤ w.heap.size) : PRow (w.alloc (.cells #[] 28)) base (fun _ => False) (.slice (some ⟨w.heap.size, 0, none⟩) 0 0) [] :=
  ⟨[], ⟨World.ownsRow_lit (w := w) #[] 0 hb (by simp [maxLen]) rfl, rfl, by simp, by simp, by simp, by simp⟩⟩
/-- more elements, behind an append -/
theorem PRowS.cat {w w' : World} {base : Nat} {G F : Nat → Prop} {v v' : Value} {ts us : List V} {sls sms : List Value} (h : PRowS w base G v ts sls) (hl : sms.length = us.length) (hwf : ∀ i (h : i < us.length), us[i].wf)
    (hk : ∀ i (h : i < us.length), RepF w F (sms.getD i undef) us[i].kids) (hF : ∀ x, F x → x < w.heap.size ∧ v.ownBlock ≠ some x)
    (hrow : w'.ownsRow base 28 5 v' (ts.length + us.length) (flat ts sls ++ flat us sms)) (hg : w.grownBy w' v.ownBlock) (hfr : FreshOr w v v') :
    PRow w' base (fun x => G x ∨ F x) v' (ts ++ us) := by
  have hkeep : ∀ x, (G x ∨ F x) → x < w.heap.size → w'.heap[x]? = w.heap[x]? := by
    intro x hx hs
    refine hg.block x hs (fun e => ?_)
    rcases hx with hx | hx
    · exact h.own x e.symm hx
    · exact (hF x hx).2 e.symm
  refine ⟨sls ++ sms, ⟨?_, by simp [h.len, hl], ?_, ?_, ?_, ?_⟩⟩
  · rw [flat_append _ _ _ _ h.len, List.length_append]; exact hrow
  · intro i hi
    by_cases hlt : i < ts.length
    · rw [List.getElem_append_left hlt]; exact h.wfs i hlt
    · rw [List.getElem_append_right (by omega)]; exact hwf _ (by rw [List.length_append] at hi; omega)
  · intro i hi
    rw [List.length_append] at hi
    by_cases hlt : i < ts.length
    · have e : (sls ++ sms).getD i undef = sls.getD i undef := by
        rw [List.getD_eq_getElem?_getD, List.getD_eq_getElem?_getD, List.getElem?_append_left (by rw [h.len]; exact hlt)]
      rw [List.getElem_append_left hlt, e]
      exact ((h.kids i hlt).keep hg.size (fun x hx hs => hkeep x (.inl hx) hs)).mono (fun x hx _ => .inl hx)
    · have e : (sls ++ sms).getD i undef = sms.getD (i - ts.length) undef := by
        rw [List.getD_eq_getElem?_getD, List.getD_eq_getElem?_getD, List.getElem?_append_right (by rw [h.len]; omega), h.len]
      rw [List.getElem_append_right (by omega), e]
      exact ((hk (i - ts.length) (by omega)).keep hg.size (fun x hx hs => hkeep x (.inr hx) hs)).mono (fun x hx _ => .inr hx)
  · intro g hg' hG
    rcases hfr with e | e
    · rw [e] at hg'
      rcases hG with hG | hG
      · exact h.own g hg' hG
      · exact (hF g hG).2 hg'
    · rw [e] at hg'
      simp only [Option.some.injEq] at hg'
      subst hg'
      rcases hG with hG | hG
      · have := h.inG _ hG; omega
      · have := (hF _ hG).1; omega
  · intro x hx
    rcases hx with hx | hx
    · exact Nat.lt_of_lt_of_le (h.inG x hx) hg.size
    · exact Nat.lt_of_lt_of_le (hF x hx).1 hg.size
theorem flat_one (ts : List V) : ∀ (sls : List Value), (∀ s ∈ sls, ∃ a n c, s = .slice a n c) → ∀ u ∈ flat ts sls, u.oneCell' = true := by
  induction ts with
  | nil => intro sls _ u hu; simp [flat] at hu
  | cons t ts ih =>
    intro sls hs u hu
    match sls, hs, hu with
    | [], _, hu => simp [flat] at hu
    | sl :: sls, hs, hu =>
      simp only [flat, List.mem_cons] at hu
      rcases hu with h | h | h | h | h | h
      · subst h; rfl
      · subst h; rfl
      · subst h; rfl
      · subst h; rfl
      · subst h; obtain ⟨a, n, c, e⟩ := hs _ (List.mem_cons_self ..); rw [e]; rfl
      · exact ih sls (fun s hs' => hs s (List.mem_cons_of_mem _ hs')) u h
/-- an append's source that is a row of values -/
structure VSrc (w : World) (F : Nat → Prop) (xv : Value) (us : List V) (sms : List Value) : Prop where
  src : Src Tryd.prog 5 26 xv us.length (flat us sms) w
  len : sms.length = us.length
  wfs : ∀ i (h : i < us.length), us[i].wf
  kids : ∀ i (h : i < us.length), RepF w F (sms.getD i undef) us[i].kids
theorem vsrc_of {w : World} {F : Nat → Prop} {v : Value} {ts : List V} (h : RepF w F v ts) : ∃ sms, VSrc w F v ts sms := by
  cases h with
  | mk a b off cap ts0 sls ha hc hm hb cells wfs kids =>
    refine ⟨(List.range ts.length).map sls, ⟨?_, by simp, wfs, ?_⟩⟩
    · by_cases hne : ts = []
      · subst hne
        cases a with
        | none => exact Src.ofNil w Tryd.underlying26 cap
        | some a => exact Src.ofSlice w Tryd.underlying26 a _ _ _ (by simp [flat]) (by simp [flat]) (by simp [flat])
      · obtain rfl := ha hne
        refine Src.ofSlice w Tryd.underlying26 _ _ _ _ (by rw [flat_length _ _ (by simp)]) ?_ (flat_one ts _ ?_)
        · intro j u hu
          rw [addr_add _ _ rfl]
          have hj : j < ts.length * 5 := by
            rcases Nat.lt_or_ge j (flat ts ((List.range ts.length).map sls)).length with h1 | h1
            · rwa [flat_length _ _ (by simp)] at h1
            · rw [List.getElem?_eq_none h1] at hu; cases hu
          have hj5 : j / 5 < ts.length := by omega
          obtain ⟨h0, h1, h2, h3, h4⟩ := flat_get ts ((List.range ts.length).map sls) (j / 5) hj5 (by simpa using hj5)
          obtain ⟨c0, c1, c2, c3, c4⟩ := cells (j / 5) hj5
          have h5 : j % 5 < 5 := Nat.mod_lt _ (by decide)
          have hjj : j = j / 5 * 5 + j % 5 := by omega
          generalize j / 5 = q at *
          generalize j % 5 = r at *
          subst hjj
          match r, h5 with
          | 0, _ => have hu' : (flat ts (List.map sls (List.range ts.length)))[q * 5]? = some u := hu; rw [h0] at hu'; cases hu'; exact c0
          | 1, _ => rw [h1] at hu; cases hu; rw [← Nat.add_assoc]; exact c1
          | 2, _ => rw [h2] at hu; cases hu; rw [← Nat.add_assoc]; exact c2
          | 3, _ => rw [h3] at hu; cases hu; rw [← Nat.add_assoc]; exact c3
          | 4, _ => rw [h4] at hu; cases hu; rw [← Nat.add_assoc]; simpa using c4
        · intro s hs
          obtain ⟨i, hi, rfl⟩ := List.mem_map.1 hs
          obtain ⟨a, cap, e⟩ := (kids i (by simpa using hi)).slice
          exact ⟨a, _, cap, e⟩
    · intro i hi
      have : ((List.range ts.length).map sls).getD i undef = sls i := by simp [List.getD_eq_getElem?_getD, List.getElem?_map, List.getElem?_range hi]
      rw [this]; exact kids i hi
/-- of one new element -/
theorem vsrc_one {w : World} {F : Nat → Prop} {t : V} {sl : Value} (hw : t.wf) (h : RepF w F sl t.kids) :
    VSrc (w.alloc (.cells #[.int .i64 t.k, .int .i64 t.n, .int .i64 t.e, .string t.s, sl] 28)) F (.slice (some ⟨w.heap.size, 0, none⟩) 1 1) [t] [sl] := by
  refine ⟨Src.ofSlice _ Tryd.underlying26 _ _ _ _ (by simp [flat]) ?_ (flat_one [t] [sl] ?_), rfl, ?_, ?_⟩
  · intro j u hu
    rw [addr_add _ _ rfl, Nat.zero_add]
    have hh := heap_alloc_new w (.cells #[.int .i64 t.k, .int .i64 t.n, .int .i64 t.e, .string t.s, sl] 28)
    rw [cell_of_row _ _ _ _ _ (0, 0) hh]
    simpa [flat] using hu
  · intro s hs
    obtain rfl := List.mem_singleton.1 hs
    obtain ⟨a, cap, e⟩ := h.slice
    exact ⟨a, _, cap, e⟩
  · intro i hi
    obtain rfl : i = 0 := by simpa using hi
    exact hw
  · intro i hi
    obtain rfl : i = 0 := by simpa using hi
    exact h.stay ((Below.refl _ _).alloc (Nat.le_refl _) _)
section
variable {w : World} {ops : Array Oper} {rest : List Oper} {o : Oper} {a : Act} {Q : Exit → Act → World → Prop}
theorem app_vals (hgd : o.guard = none) (s x : Operand)
    (ho : o.op = .call { callee := .builtin .append, args := #[s, x], argTypes := #[26, 26] })
    (base : Nat) (G F : Nat → Prop) (v : Value) (ts us : List V) (sms : List Value) (hs : a.eval s = v) (hown : PRow w base G v ts) (xv : Value) (hx : a.eval x = xv) (hsrc : VSrc w F xv us sms) (hF : ∀ x, F x → x < w.heap.size ∧ v.ownBlock ≠ some x)
    (h63 : ts.length + us.length ≤ 1099511627776) (hbase : base ≤ w.heap.size)
    (h : ∀ v' w', PRow w' base (fun x => G x ∨ F x) v' (ts ++ us) → w.grownBy w' v.ownBlock → FreshOr w v v' → wpList Tryd.prog ops Q rest (a.put o.dst v') w') : wpList Tryd.prog ops Q (o :: rest) a w := by
  obtain ⟨i0, hi, hz0, hz1, hz2⟩ := info_parts info_impl
  obtain ⟨sls, hp⟩ := hown
  exact wpList_app hgd s x 26 26 ho base 28 i0 _ 5 64 Tryd.underlying26 hi hz0 hz1 hz2 rfl (by decide) v ts.length (flat ts sls) hs hp.row xv hx us.length (flat us sms) hsrc.src h63 hbase
    (fun v' w' h1 h2 h3 _ => h v' w' (hp.cat hsrc.len hsrc.wfs hsrc.kids hF h1 h2 h3) h2 h3)
theorem step_vals {K : Act → World → Prop} {X : Prop} (hgd : o.guard = none) (s x : Operand)
    (ho : o.op = .call { callee := .builtin .append, args := #[s, x], argTypes := #[26, 26] })
    (base : Nat) (G F : Nat → Prop) (v : Value) (ts us : List V) (sms : List Value) (hs : a.eval s = v) (hown : PRow w base G v ts) (xv : Value) (hx : a.eval x = xv) (hsrc : VSrc w F xv us sms) (hF : ∀ x, F x → x < w.heap.size ∧ v.ownBlock ≠ some x)
    (h63 : ts.length + us.length ≤ 1099511627776) (hbase : base ≤ w.heap.size)
    (h : ∀ v' w', PRow w' base (fun x => G x ∨ F x) v' (ts ++ us) → w.grownBy w' v.ownBlock → FreshOr w v v' → K (a.put o.dst v') w') : if Region.wanted o (yielded ops a.tmps) = true then Oper.wp Tryd.prog o a w K Q else X := by
  obtain ⟨i0, hi, hz0, hz1, hz2⟩ := info_parts info_impl
  obtain ⟨sls, hp⟩ := hown
  exact step_app hgd s x 26 26 ho base 28 i0 _ 5 64 Tryd.underlying26 hi hz0 hz1 hz2 rfl (by decide) v ts.length (flat ts sls) hs hp.row xv hx us.length (flat us sms) hsrc.src h63 hbase
    (fun v' w' h1 h2 h3 _ => h v' w' (hp.cat hsrc.len hsrc.wfs hsrc.kids hF h1 h2 h3) h2 h3)
end
end Go.Proofs.YtiemlefmhleaeaaDoor
