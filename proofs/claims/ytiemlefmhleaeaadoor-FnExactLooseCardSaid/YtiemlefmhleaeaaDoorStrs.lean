/- Lists of strings: how they read; rows of them that a call itself made. -/
import Derived.Test.YtiemlefmhleaeaaDoorBytes
import Derived.Test.YtiemlefmhleaeaaDoorOwnV
import Derived.SliceStrings
namespace Go.Proofs.YtiemlefmhleaeaaDoor
set_option linter.unusedVariables false
set_option maxRecDepth 100000
open Go.RowKit Go.ChangeShapes Go.WideShapes
/-- a slice reads as a list of strings -/
def RepSs (w : World) (v : Value) (l : List ByteArray) : Prop := ∃ a b off cap, v = .slice a l.length cap ∧ (l ≠ [] → a = some ⟨b, off, none⟩ ∧ b < w.heap.size) ∧ l.length ≤ cap ∧ cap ≤ 9223372036854775807 ∧
  ∀ i (h : i < l.length), w.cell? ⟨b, off + i, none⟩ = some (.string l[i]) ∧ l[i].size ≤ 9223372036854775807
theorem RepSs.keep {w w' : World} {v : Value} {l : List ByteArray} (h : RepSs w v l) (hb : Below w.heap.size w w') : RepSs w' v l := by
  obtain ⟨a, b, off, cap, hv, ha, hc, hm, hcell⟩ := h
  refine ⟨a, b, off, cap, hv, fun hne => ⟨(ha hne).1, Nat.lt_of_lt_of_le (ha hne).2 hb.size⟩, hc, hm, fun i hi => ⟨?_, (hcell i hi).2⟩⟩
  have hne : l ≠ [] := by intro e; subst e; simp at hi
  rw [World.cell?_of_block (a := ⟨b, off + i, none⟩) (hb.block b (ha hne).2)]
  exact (hcell i hi).1
theorem info_str : (Tryd.prog.info? 9).map (fun i => (i.zero, i.size, i.bytes)) = some (some (.string ⟨#[]⟩), 1, 16) := by kernel_rfl
def SRow (w : World) (base : Nat) (v : Value) (l : List ByteArray) : Prop := w.ownsRow base 9 1 v l.length (l.map .string) ∧ ∀ s ∈ l, s.size ≤ 9223372036854775807
theorem SRow.lt {w : World} {base : Nat} {v : Value} {l : List ByteArray} (h : SRow w base v l) : ∀ k, v.ownBlock = some k → base ≤ k ∧ k < w.heap.size := World.ownsRow.lt h.1
theorem SRow.rep {w : World} {base : Nat} {v : Value} {l : List ByteArray} (h : SRow w base v l) : RepSs w v l := by
  obtain ⟨h, hs⟩ := h
  rcases h.2 with ⟨rfl, hn⟩ | ⟨g, cap, cur, rfl, hbg, hg, hnc, hcm, hcs, htake⟩
  · obtain rfl : l = [] := List.eq_nil_of_length_eq_zero hn
    exact ⟨none, 0, 0, 0, rfl, by simp, by simp, by omega, by simp⟩
  · refine ⟨some ⟨g, 0, none⟩, g, 0, cap, rfl, fun _ => ⟨rfl, by have := World.ownsRow.lt h g rfl; exact this.2⟩, hnc, by simpa [maxLen] using hcm, fun i hi => ⟨?_, hs _ (List.getElem_mem hi)⟩⟩
    have := h.cells (g := g) rfl i (.string l[i]) (by simp [List.getElem?_eq_getElem hi])
    rwa [addr_add _ _ rfl] at this
theorem SRow.lower {w : World} {base base' : Nat} {v : Value} {l : List ByteArray} (h : SRow w base v l) (hb : base' ≤ base) : SRow w base' v l := by
  obtain ⟨⟨h1, h2⟩, hs⟩ := h
  refine ⟨⟨h1, ?_⟩, hs⟩
  rcases h2 with h2 | ⟨g, cap, cur, hv, hbg, r⟩
  · exact .inl h2
  · exact .inr ⟨g, cap, cur, hv, Nat.le_trans hb hbg, r⟩
theorem SRow.slice {w : World} {base : Nat} {v : Value} {l : List ByteArray} (h : SRow w base v l) : ∃ a cap, v = .slice a l.length cap := by
  rcases h.1.2 with ⟨rfl, hn⟩ | ⟨g, cap, cur, hv, _⟩
  · exact ⟨none, 0, by rw [hn]⟩
  · exact ⟨_, _, hv⟩
theorem SRow.slice3 {w : World} {base : Nat} {v : Value} {l : List ByteArray} (h : SRow w base v l) : ∃ a n cap, v = .slice a n cap := by
  obtain ⟨a, cap, e⟩ := h.slice; exact ⟨a, _, cap, e⟩
theorem SRow.nil (w : World) (base : Nat) : SRow w base (.slice none 0 0) [] := ⟨World.ownsRow_nil w base _ 1, by simp⟩
theorem SRow.made0 {w : World} {base : Nat} (hb : base ≤ w.heap.size) : SRow (w.alloc (.cells #[] 9)) base (.slice (some ⟨w.heap.size, 0, none⟩) 0 0) [] :=
  ⟨World.ownsRow_lit (w := w) #[] 0 hb (by simp [maxLen]) rfl, by simp⟩
theorem SRow.keep {w w' : World} {base : Nat} {v : Value} {l : List ByteArray} (h : SRow w base v l) (hk : ∀ x, v.ownBlock = some x → w'.heap[x]? = w.heap[x]?) : SRow w' base v l := by
  obtain ⟨⟨h1, h2⟩, hs⟩ := h
  refine ⟨⟨h1, ?_⟩, hs⟩
  rcases h2 with h2 | ⟨g, cap, cur, rfl, hbg, hg, r⟩
  · exact .inl h2
  · exact .inr ⟨g, cap, cur, rfl, hbg, by rw [hk g rfl]; exact hg, r⟩
theorem SRow.set {w : World} {base g n cap i : Nat} {l : List ByteArray} {s : ByteArray} (h : SRow w base (.slice (some ⟨g, 0, none⟩) n cap) l) (hs : s.size ≤ 9223372036854775807) :
    SRow (w.setCell ⟨g, i, none⟩ (.string s)) base (.slice (some ⟨g, 0, none⟩) n cap) (l.set i s) := by
  have hn : n = l.length := by
    rcases h.1.2 with ⟨h', _⟩ | ⟨g', cap', cur, h', _⟩ <;> simp at h'; exact h'.2.1
  subst hn
  refine ⟨?_, fun x hx => ?_⟩
  · have := (h.1.stored i (.string s)).1
    rw [List.length_set]
    rw [← List.map_set] at this
    exact this
  · rcases List.mem_or_eq_of_mem_set hx with h1 | h1
    · exact h.2 x h1
    · rw [h1]; exact hs
theorem SRow.cells {w : World} {base g n cap i : Nat} {l : List ByteArray} (h : SRow w base (.slice (some ⟨g, 0, none⟩) n cap) l) (hi : i < l.length) :
    w.cell? ⟨g, i, none⟩ = some (.string l[i]) ∧ w.frozen? ⟨g, i, none⟩ = false := by
  have hn : n = l.length := by
    rcases h.1.2 with ⟨h', _⟩ | ⟨g', cap', cur, h', _⟩ <;> simp at h'; exact h'.2.1
  subst hn
  refine ⟨?_, h.1.frozenAt i⟩
  have := h.1.cells (g := g) rfl i (.string l[i]) (by simp [List.getElem?_eq_getElem hi])
  rwa [addr_add _ _ rfl, Nat.zero_add] at this
theorem SRow.made {w : World} {base g n cap : Nat} (h : w.ownsRow base 9 1 (.slice (some ⟨g, 0, none⟩) n cap) n (madeCells #[.string ⟨#[]⟩] (n * 1)).toList) :
    SRow w base (.slice (some ⟨g, 0, none⟩) n cap) (List.replicate n ⟨#[]⟩) := by
  refine ⟨?_, fun s hs => ?_⟩
  · rw [toList_madeCells_one, Nat.mul_one] at h
    simpa using h
  · rw [(List.mem_replicate.1 hs).2]; simp [ByteArray.size]
def StrsRet (w : World) (l : List ByteArray) (e : Ending) (w' : World) : Prop := ∃ v, e = .returned v ∧ SRow w' w.heap.size v l ∧ Below w.heap.size w w'
section
variable {w : World} {ops : Array Oper} {rest : List Oper} {o : Oper} {a : Act} {Q : Exit → Act → World → Prop}
theorem app_strs (hgd : o.guard = none) (s x : Operand) (tx : TypeId)
    (ho : o.op = .call { callee := .builtin .append, args := #[s, x], argTypes := #[62, tx] })
    (base : Nat) (v : Value) (l : List ByteArray) (hs : a.eval s = v) (hown : SRow w base v l) (xv : Value) (hx : a.eval x = xv) (news : List ByteArray) (hsrc : Src Tryd.prog 1 tx xv news.length (news.map .string) w) (hns : ∀ s ∈ news, s.size ≤ 9223372036854775807)
    (h63 : l.length + news.length ≤ 1099511627776) (hbase : base ≤ w.heap.size)
    (h : ∀ v' w', SRow w' base v' (l ++ news) → w.grownBy w' v.ownBlock → FreshOr w v v' → wpList Tryd.prog ops Q rest (a.put o.dst v') w') : wpList Tryd.prog ops Q (o :: rest) a w := by
  obtain ⟨i0, hi, hz0, hz1, hz2⟩ := info_parts info_str
  exact wpList_app hgd s x 62 tx ho base 9 i0 (.string ⟨#[]⟩) 1 16 Tryd.underlying62 hi hz0 hz1 hz2 rfl (by decide) v l.length (l.map .string) hs hown.1 xv hx news.length (news.map .string) hsrc h63 hbase
    (fun v' w' h1 h2 h3 _ => h v' w' ⟨by rw [List.length_append, List.map_append]; exact h1, fun s hs => (List.mem_append.1 hs).elim (hown.2 s) (hns s)⟩ h2 h3)
theorem step_strs {K : Act → World → Prop} {X : Prop} (hgd : o.guard = none) (s x : Operand) (tx : TypeId)
    (ho : o.op = .call { callee := .builtin .append, args := #[s, x], argTypes := #[62, tx] })
    (base : Nat) (v : Value) (l : List ByteArray) (hs : a.eval s = v) (hown : SRow w base v l) (xv : Value) (hx : a.eval x = xv) (news : List ByteArray) (hsrc : Src Tryd.prog 1 tx xv news.length (news.map .string) w) (hns : ∀ s ∈ news, s.size ≤ 9223372036854775807)
    (h63 : l.length + news.length ≤ 1099511627776) (hbase : base ≤ w.heap.size)
    (h : ∀ v' w', SRow w' base v' (l ++ news) → w.grownBy w' v.ownBlock → FreshOr w v v' → K (a.put o.dst v') w') : if Region.wanted o (yielded ops a.tmps) = true then Oper.wp Tryd.prog o a w K Q else X := by
  obtain ⟨i0, hi, hz0, hz1, hz2⟩ := info_parts info_str
  exact step_app hgd s x 62 tx ho base 9 i0 (.string ⟨#[]⟩) 1 16 Tryd.underlying62 hi hz0 hz1 hz2 rfl (by decide) v l.length (l.map .string) hs hown.1 xv hx news.length (news.map .string) hsrc h63 hbase
    (fun v' w' h1 h2 h3 _ => h v' w' ⟨by rw [List.length_append, List.map_append]; exact h1, fun s hs => (List.mem_append.1 hs).elim (hown.2 s) (hns s)⟩ h2 h3)
end
theorem src_strs {w : World} {base : Nat} {v : Value} {l : List ByteArray} (h : SRow w base v l) : Src Tryd.prog 1 62 v l.length (l.map .string) w := by
  have h1 : ∀ u ∈ l.map Value.string, u.oneCell' = true := fun u hu => by obtain ⟨_, _, rfl⟩ := List.mem_map.1 hu; rfl
  rcases h.1.2 with ⟨rfl, hn⟩ | ⟨g, cap, cur, rfl, hbg, hg, hnc, hcm, hcs, htake⟩
  · have : l = [] := List.eq_nil_of_length_eq_zero hn
    subst this
    exact Src.ofNil w Tryd.underlying62 0
  · exact Src.ofSlice w Tryd.underlying62 _ _ _ _ (by simp) (h.1.cells rfl) h1
theorem src_str1 (w : World) (s : ByteArray) : Src Tryd.prog 1 62 (.slice (some ⟨w.heap.size, 0, none⟩) 1 1) [s].length ([s].map .string) (w.alloc (.cells #[.string s] 9)) :=
  Src.ofSlice _ Tryd.underlying62 _ _ _ _ rfl (by intro j u hu; match j, hu with | 0, hu => (simp at hu; subst hu; exact cell_new_one _ _ _)) (by intro u hu; simp at hu; subst hu; rfl)
theorem open_Ss {H : Type} {enc : TypeId × Value → H} {w : World} {sp : Nat → Bool} {hd : Bool} {v : Value} {d : DataW H} {p : List MemPlace} (hv : ∃ a len cap, v = .slice a len cap)
    (h : DataW.Trod enc Tryd.prog w 0 sp hd 62 v d p) : ∃ l, RepSs w v l := by
  obtain ⟨fuel, hf⟩ := h
  obtain ⟨a0, len0, cap0, rfl⟩ := hv
  rcases open_strings Tryd.underlying62 Tryd.underlying9 (by kernel_rfl) hf with ⟨hc, _⟩ | ⟨a, len, cap, ss, hc, _, hlc, hcm, hsl, _, hcell, hss⟩
  · have hc : Value.slice a0 len0 cap0 = .slice none 0 0 := by simpa [Value.cells] using hc
    exact ⟨[], none, 0, 0, 0, hc, by simp, by simp, by omega, by simp⟩
  · have hc : Value.slice a0 len0 cap0 = .slice (some a) len cap := by simpa [Value.cells] using hc
    have hle : len ≤ ss.length := by rw [hsl]; split <;> omega
    have hs0 : 0 < len → a.spot = none ∧ a.block < w.heap.size := by
      intro h0
      have h1 := hcell 0 (by omega)
      have : a.add 0 = a := by unfold Addr.add; simp
      rw [this] at h1
      refine ⟨?_, World.block_lt_of_cell? w a h1⟩
      cases hq : a.spot with
      | none => rfl
      | some q => simp [World.cell?, hq] at h1; split at h1 <;> cases h1
    have hlen : (ss.take len).length = len := by rw [List.length_take]; omega
    refine ⟨ss.take len, some a, a.block, a.off, cap, by rw [hlen]; exact hc, ?_, by rw [hlen]; exact hlc, by simpa [maxLen] using hcm, ?_⟩
    · intro hne
      have h0 : 0 < len := by rcases Nat.eq_zero_or_pos len with e | e; (subst e; simp at hne); exact e
      obtain ⟨h1, h2⟩ := hs0 h0
      refine ⟨?_, h2⟩
      cases a; simp at h1; subst h1; rfl
    · intro i hi
      rw [hlen] at hi
      have h1 := hcell i (by omega)
      rw [addr_add _ _ (hs0 (by omega)).1] at h1
      have e : (ss.take len)[i]'(by rw [hlen]; exact hi) = ss.getD i ByteArray.empty := by
        rw [List.getElem_take, List.getD_eq_getElem?_getD, List.getElem?_eq_getElem (by omega)]; rfl
      rw [e]
      refine ⟨h1, ?_⟩
      rw [← e]
      have := hss _ (List.mem_of_mem_take (List.getElem_mem (by rw [hlen]; exact hi)))
      simpa [maxLen] using this
end Go.Proofs.YtiemlefmhleaeaaDoor
