/- Rows of ints that a call itself made. -/
import Derived.Test.YtiemlefmhleaeaaDoorStrs
namespace Go.Proofs.YtiemlefmhleaeaaDoor
set_option linter.unusedVariables false
set_option maxRecDepth 100000
open Go.RowKit
theorem info_int : (Tryd.prog.info? 3).map (fun i => (i.zero, i.size, i.bytes)) = some (some (.int .i64 0), 1, 8) := by kernel_rfl
def IRow (w : World) (base : Nat) (v : Value) (l : List Int) : Prop := w.ownsRow base 3 1 v l.length (l.map (.int .i64))
theorem IRow.lt {w : World} {base : Nat} {v : Value} {l : List Int} (h : IRow w base v l) : ∀ k, v.ownBlock = some k → base ≤ k ∧ k < w.heap.size := World.ownsRow.lt h
theorem IRow.keep {w w' : World} {base : Nat} {v : Value} {l : List Int} (h : IRow w base v l) (hk : ∀ x, v.ownBlock = some x → w'.heap[x]? = w.heap[x]?) : IRow w' base v l := by
  obtain ⟨h1, h2⟩ := h
  refine ⟨h1, ?_⟩
  rcases h2 with h2 | ⟨g, cap, cur, rfl, hbg, hg, r⟩
  · exact .inl h2
  · exact .inr ⟨g, cap, cur, rfl, hbg, by rw [hk g rfl]; exact hg, r⟩
theorem IRow.made0 {w : World} {base : Nat} (hb : base ≤ w.heap.size) : IRow (w.alloc (.cells #[] 3)) base (.slice (some ⟨w.heap.size, 0, none⟩) 0 0) [] :=
  World.ownsRow_lit (w := w) #[] 0 hb (by simp [maxLen]) rfl
theorem IRow.form {w : World} {base : Nat} {v : Value} {l : List Int} (h : IRow w base v l) : ∃ a cap, v = .slice a l.length cap ∧ l.length ≤ cap ∧ cap ≤ 9223372036854775807 ∧ (l ≠ [] → ∃ g, a = some ⟨g, 0, none⟩ ∧ base ≤ g) := by
  rcases h.2 with ⟨rfl, hn⟩ | ⟨g, cap, cur, hv, hb, hg, hnc, hcm, _⟩
  · exact ⟨none, 0, by rw [hn], by omega, by omega, fun e => absurd (List.eq_nil_of_length_eq_zero hn) e⟩
  · exact ⟨_, _, hv, hnc, by simpa [maxLen] using hcm, fun _ => ⟨g, rfl, hb⟩⟩
theorem IRow.cells {w : World} {base g n cap i : Nat} {l : List Int} (h : IRow w base (.slice (some ⟨g, 0, none⟩) n cap) l) (hi : i < l.length) :
    w.cell? ⟨g, i, none⟩ = some (.int .i64 l[i]) ∧ w.frozen? ⟨g, i, none⟩ = false := by
  have hn : n = l.length := by
    rcases h.2 with ⟨h', _⟩ | ⟨g', cap', cur, h', _⟩ <;> simp at h'; exact h'.2.1
  subst hn
  refine ⟨?_, World.ownsRow.frozenAt h i⟩
  have := World.ownsRow.cells h (g := g) rfl i (.int .i64 l[i]) (by simp [List.getElem?_eq_getElem hi])
  rwa [addr_add _ _ rfl, Nat.zero_add] at this
section
variable {w : World} {ops : Array Oper} {rest : List Oper} {o : Oper} {a : Act} {Q : Exit → Act → World → Prop}
theorem app_ints (hgd : o.guard = none) (s x : Operand) (tx : TypeId)
    (ho : o.op = .call { callee := .builtin .append, args := #[s, x], argTypes := #[110, tx] })
    (base : Nat) (v : Value) (l : List Int) (hs : a.eval s = v) (hown : IRow w base v l) (xv : Value) (hx : a.eval x = xv) (news : List Int) (hsrc : Src Tryd.prog 1 tx xv news.length (news.map (.int .i64)) w)
    (h63 : l.length + news.length ≤ 1099511627776) (hbase : base ≤ w.heap.size)
    (h : ∀ v' w', IRow w' base v' (l ++ news) → w.grownBy w' v.ownBlock → FreshOr w v v' → wpList Tryd.prog ops Q rest (a.put o.dst v') w') : wpList Tryd.prog ops Q (o :: rest) a w := by
  obtain ⟨i0, hi, hz0, hz1, hz2⟩ := info_parts info_int
  exact wpList_app hgd s x 110 tx ho base 3 i0 (.int .i64 0) 1 8 Tryd.underlying110 hi hz0 hz1 hz2 rfl (by decide) v l.length (l.map (.int .i64)) hs hown xv hx news.length (news.map (.int .i64)) hsrc h63 hbase
    (fun v' w' h1 h2 h3 _ => h v' w' (by unfold IRow; rw [List.length_append, List.map_append]; exact h1) h2 h3)
end
theorem src_int1 (w : World) (x : Int) : Src Tryd.prog 1 110 (.slice (some ⟨w.heap.size, 0, none⟩) 1 1) [x].length ([x].map (.int .i64)) (w.alloc (.cells #[.int .i64 x] 3)) :=
  Src.ofSlice _ Tryd.underlying110 _ _ _ _ rfl (by intro j u hu; match j, hu with | 0, hu => (simp at hu; subst hu; exact cell_new_one _ _ _)) (by intro u hu; simp at hu; subst hu; rfl)
end Go.Proofs.YtiemlefmhleaeaaDoor
