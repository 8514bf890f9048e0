/- For every list of values and every place the program's Branch and the reference's return the same numbers, in memory of their own, and leave the argument as it was: the law returns true. -/
import Derived.Test.YtfjehhdahpbbgaaDoorSo01
import Derived.Test.YtfjehhdahpbbgaaDoorSo08
import Derived.Test.YtfjehhdahpbbgaaDoorSo11
import Derived.ChangeSlices
import Derived.Deep.RegionHeld3
import Derived.Deep.RegionLaw
import Derived.Deep.QuietTactic
import Derived.BigRegion
import Derived.BigQuiet
import Derived.WalkSmall
import Derived.Deep.RegionWith
import Derived.StillTailTactics
import Derived.Deep.DeepCutAuto
import Derived.WalkSpells
import Derived.Lib.Hide
namespace Go.Proofs.YtfjehhdahpbbgaaDoor
set_option linter.unusedSimpArgs false
set_option linter.unusedVariables false
set_option maxRecDepth 100000
open Go.RowKit
theorem info_u32 : (Tryd.prog.info? 32).map (fun i => (i.zero, i.size, i.bytes)) = some (some (.int .u32 0), 1, 4) := by kernel_rfl
def URow (w : World) (base : Nat) (v : Value) (l : List Int) : Prop := w.ownsRow base 32 1 v l.length (l.map (.int .u32))
theorem URow.lt {w : World} {base : Nat} {v : Value} {l : List Int} (h : URow w base v l) : ∀ k, v.ownBlock = some k → base ≤ k ∧ k < w.heap.size := World.ownsRow.lt h
theorem URow.keep {w w' : World} {base : Nat} {v : Value} {l : List Int} (h : URow w base v l) (hk : ∀ x, v.ownBlock = some x → w'.heap[x]? = w.heap[x]?) : URow w' base v l := by
  obtain ⟨h1, h2⟩ := h
  refine ⟨h1, ?_⟩
  rcases h2 with h2 | ⟨g, cap, cur, rfl, hbg, hg, r⟩
  · exact .inl h2
  · exact .inr ⟨g, cap, cur, rfl, hbg, by rw [hk g rfl]; exact hg, r⟩
theorem URow.made0 {w : World} {base : Nat} (hb : base ≤ w.heap.size) : URow (w.alloc (.cells #[] 32)) base (.slice (some ⟨w.heap.size, 0, none⟩) 0 0) [] :=
  World.ownsRow_lit (w := w) #[] 0 hb (by simp [maxLen]) rfl
theorem URow.form {w : World} {base : Nat} {v : Value} {l : List Int} (h : URow w base v l) : ∃ a cap, v = .slice a l.length cap ∧ l.length ≤ cap ∧ cap ≤ 9223372036854775807 ∧ (l ≠ [] → ∃ g, a = some ⟨g, 0, none⟩ ∧ base ≤ g) := by
  rcases h.2 with ⟨rfl, hn⟩ | ⟨g, cap, cur, hv, hb, hg, hnc, hcm, _⟩
  · exact ⟨none, 0, by rw [hn], by omega, by omega, fun e => absurd (List.eq_nil_of_length_eq_zero hn) e⟩
  · exact ⟨_, _, hv, hnc, by simpa [maxLen] using hcm, fun _ => ⟨g, rfl, hb⟩⟩
theorem URow.cells {w : World} {base g n cap i : Nat} {l : List Int} (h : URow w base (.slice (some ⟨g, 0, none⟩) n cap) l) (hi : i < l.length) :
    w.cell? ⟨g, i, none⟩ = some (.int .u32 l[i]) ∧ w.frozen? ⟨g, i, none⟩ = false := by
  have hn : n = l.length := by
    rcases h.2 with ⟨h', _⟩ | ⟨g', cap', cur, h', _⟩ <;> simp at h'; exact h'.2.1
  subst hn
  refine ⟨?_, World.ownsRow.frozenAt h i⟩
  have := World.ownsRow.cells h (g := g) rfl i (.int .u32 l[i]) (by simp [List.getElem?_eq_getElem hi])
  rwa [addr_add _ _ rfl, Nat.zero_add] at this
section
variable {w : World} {ops : Array Oper} {rest : List Oper} {o : Oper} {a : Act} {Q : Exit → Act → World → Prop}
end
def URep (w : World) (v : Value) (l : List Int) : Prop := ∃ a b off cap, v = .slice a l.length cap ∧ (l ≠ [] → a = some ⟨b, off, none⟩ ∧ b < w.heap.size) ∧ l.length ≤ cap ∧ cap ≤ 9223372036854775807 ∧ ∀ i (h : i < l.length), w.cell? ⟨b, off + i, none⟩ = some (.int .u32 l[i])
theorem URep.keep {w w' : World} {v : Value} {l : List Int} (h : URep w v l) (hb : Below w.heap.size w w') : URep w' v l := by
  obtain ⟨a, b, off, cap, hv, ha, hc, hm, hcell⟩ := h
  refine ⟨a, b, off, cap, hv, fun hne => ⟨(ha hne).1, Nat.lt_of_lt_of_le (ha hne).2 hb.size⟩, hc, hm, fun i hi => ?_⟩
  have hne : l ≠ [] := by intro e; rw [e] at hi; simp at hi
  rw [hb.cell (p := ⟨b, off + i, none⟩) (ha hne).2]; exact hcell i hi
theorem URow.rep {w : World} {base : Nat} {v : Value} {l : List Int} (h : URow w base v l) : URep w v l := by
  obtain ⟨a, cap, rfl, hc, hm, ha⟩ := h.form
  by_cases hne : l = []
  · exact ⟨a, 0, 0, cap, rfl, fun h => absurd hne h, hc, hm, fun i hi => by rw [hne] at hi; simp at hi⟩
  · obtain ⟨g, rfl, _⟩ := ha hne
    refine ⟨_, g, 0, cap, rfl, fun _ => ⟨rfl, (h.lt g rfl).2⟩, hc, hm, fun i hi => ?_⟩
    rw [Nat.zero_add]; exact (h.cells hi).1
theorem URep.slice {w : World} {v : Value} {l : List Int} (h : URep w v l) : ∃ a cap, v = .slice a l.length cap := by obtain ⟨a, _, _, cap, rfl, _⟩ := h; exact ⟨a, cap, rfl⟩
theorem URow.slice {w : World} {base : Nat} {v : Value} {l : List Int} (h : URow w base v l) : ∃ a cap, v = .slice a l.length cap := h.rep.slice
theorem URow.slice3 {w : World} {base : Nat} {v : Value} {l : List Int} (h : URow w base v l) : ∃ a n cap, v = .slice a n cap := by obtain ⟨a, cap, e⟩ := h.slice; exact ⟨a, _, cap, e⟩
theorem URow.stay2 {w w' : World} {base : Nat} {v : Value} {l : List Int} (h : URow w base v l) (hb : Below w.heap.size w w') : URow w' base v l := h.keep (fun x hx => hb.block x (h.lt x hx).2)
theorem URow.lower {w : World} {base base' : Nat} {v : Value} {l : List Int} (h : URow w base v l) (hb : base' ≤ base) : URow w base' v l := by
  obtain ⟨h1, h2⟩ := h
  refine ⟨h1, ?_⟩
  rcases h2 with h2 | ⟨g, cap, cur, hv, hbg, r⟩
  · exact .inl h2
  · exact .inr ⟨g, cap, cur, hv, Nat.le_trans hb hbg, r⟩
def U32sRet (w : World) (l : List Int) (e : Ending) (w' : World) : Prop := ∃ v, e = .returned v ∧ URow w' w.heap.size v l ∧ Below w.heap.size w w'
def mkU (k : Int) (j : Nat) : List Int := (List.range j).map fun (i : Nat) => (k + (i : Int)) % 4294967296
theorem mkU_length (k : Int) (j : Nat) : (mkU k j).length = j := by simp [mkU]
theorem mkU_get (k : Int) (j i : Nat) (h : i < (mkU k j).length) : (mkU k j)[i] = (k + i) % 4294967296 := by simp [mkU]
theorem mkU_set (k : Int) (l : List Int) (j : Nat) (h : j < l.length) : (mkU k j ++ l.drop j).set j ((k + j) % 4294967296) = mkU k (j + 1) ++ l.drop (j + 1) := by
  rw [List.set_append_right _ _ (by rw [mkU_length]; exact Nat.le_refl _), mkU_length, Nat.sub_self, List.drop_eq_getElem_cons h, List.set_cons_zero]
  simp [mkU, List.range_succ]
theorem URow.set {w : World} {base g n cap i : Nat} {l : List Int} {x : Int} (h : URow w base (.slice (some ⟨g, 0, none⟩) n cap) l) : URow (w.setCell ⟨g, i, none⟩ (.int .u32 x)) base (.slice (some ⟨g, 0, none⟩) n cap) (l.set i x) := by
  have hn : n = l.length := by
    rcases h.2 with ⟨h', _⟩ | ⟨g', cap', cur, h', _⟩ <;> simp at h'; exact h'.2.1
  subst hn
  have := (World.ownsRow.stored h i (.int .u32 x)).1
  unfold URow
  rw [List.length_set, List.map_set]
  exact this
set_option maxHeartbeats 400000 in
theorem markUint32S_any (B : Nat) (v : Value) (l : List Int) (k : Int) (w : World) (hrow : URow w B v l) (hl : l.length ≤ 1099511627776) (hk0 : 0 ≤ k) (hk : k ≤ 1152921504606846976) :
    Calls Tryd.prog 29 #[v, .int .i64 k] w fun e w' => e = .returned (.int .i64 (k + l.length)) ∧ URow w' B v (mkU k l.length) ∧ w.grownBy w' v.ownBlock := by
  obtain ⟨a, cap, rfl, hlc, hcm, ha⟩ := hrow.form
  have HA := Lib.hid ha; have HROW := Lib.hid hrow
  clear ha hrow
  go_enter Tryd.func29, Tryd.ntmps29
  go_wp2_with fail
  go_loopw [1, 5] (fun x i wr => ∃ j : Nat, j ≤ l.length ∧ i = .int .i64 j ∧ x = .int .i64 (k + j) ∧ URow wr B (.slice a l.length cap) (mkU k j ++ l.drop j) ∧ w.grownBy wr (Value.ownBlock (.slice a l.length cap))) (fun _ i _ => l.length - (intOf i).toNat)
  case atStart => exact ⟨0, by omega, rfl, by simp, by simpa [mkU] using HROW.out, grownBy_refl _ _⟩
  case round =>
    obtain ⟨j, hj, rfl, rfl, hrow, hg⟩ := hrel
    have HR := Lib.hid hrow; have HG := Lib.hid hg
    clear hrow hg
    by_cases hlt : j < l.length
    · have hne : l ≠ [] := by intro e; rw [e] at hlt; simp at hlt
      obtain ⟨g, rfl, hBg⟩ := HA.out hne
      have HS := Lib.hid (mkU_set k l j hlt)
      obtain ⟨c1, c2⟩ := HR.out.cells (i := j) (by rw [List.length_append, mkU_length, List.length_drop]; omega)
      have R2 := Lib.hid (URow.set (i := j) (x := (k + j) % 4294967296) HR.out)
      go_wp2_with fail
      go_roundw
      case rel => exact ⟨j + 1, by omega, by go_num, by go_num, by rw [← HS.out]; exact R2.out, grownBy_trans HG.out (grownBy_cell _ _ _ _)⟩
      case measure => simp [intOf]; omega
    · have hj' : j = l.length := by omega
      subst hj'
      go_wp2_with fail
      go_ret
      exact ⟨rfl, by simpa using HR.out, HG.out⟩
set_option maxHeartbeats 400000 in
theorem heldUint32S_any (w0 : World) (v : Value) (k : Int) (n : Nat) (h : URep w0 v (mkU k n)) (w : World) (hw : Below w0.heap.size w0 w) (hn : n ≤ 1099511627776) (hk0 : 0 ≤ k) (hk : k ≤ 1152921504606846976) :
    Calls Tryd.prog 30 #[v, .int .i64 k] w fun e w' => e = .returned (.int .i64 (k + n)) ∧ Below w.heap.size w w' := by
  obtain ⟨a, b, off, cap, rfl, ha, hc, hm, hcell⟩ := h
  rw [mkU_length] at hc ⊢
  have HA := Lib.hid ha; have HC := Lib.hid hcell
  clear ha hcell
  go_enter Tryd.func30, Tryd.ntmps30
  go_wp2_with fail
  go_loopw [1, 5] (fun x i wr => ∃ j : Nat, j ≤ n ∧ i = .int .i64 j ∧ x = .int .i64 (k + j) ∧ Below w.heap.size w wr) (fun _ i _ => n - (intOf i).toNat)
  case atStart => exact ⟨0, by omega, rfl, by simp, Below.refl _ _⟩
  case round =>
    obtain ⟨j, hj, rfl, rfl, hbl⟩ := hrel
    by_cases hlt : j < n
    · have hjm : j < (mkU k n).length := by rw [mkU_length]; exact hlt
      have hne : mkU k n ≠ [] := by intro e; rw [e] at hjm; simp at hjm
      obtain ⟨rfl, hbw⟩ := HA.out hne
      have hcj := HC.out j hjm
      rw [mkU_get] at hcj
      have c1 : wr.cell? ⟨b, off + j, none⟩ = some (.int .u32 ((k + j) % 4294967296)) := by rw [(hw.trans (hbl.mono hw.size)).cell (p := ⟨b, off + j, none⟩) hbw]; exact hcj
      clear hcj
      go_wp2_with fail
      go_roundw
      case rel => exact ⟨j + 1, by omega, by go_num, by go_num, hbl⟩
      case measure => simp [intOf]; omega
    · have hj' : j = n := by omega
      subst hj'
      go_wp2_with fail
      go_ret
      exact ⟨rfl, hbl⟩
set_option maxHeartbeats 400000 in
theorem eqUint32S_any (w0 : World) (v u : Value) (l : List Int) (h : URep w0 v l) (h2 : URep w0 u l) (w : World) (hw : Below w0.heap.size w0 w) :
    Calls Tryd.prog 25 #[v, u] w fun e w' => e = .returned (.bool true) ∧ Below w.heap.size w w' := by
  obtain ⟨a, b, off, cap, rfl, ha, hc, hm, hcell⟩ := h
  obtain ⟨a2, b2, off2, cap2, rfl, ha2, hc2, hm2, hcell2⟩ := h2
  have HA := Lib.hid ha; have HC := Lib.hid hcell; have HA2 := Lib.hid ha2; have HC2 := Lib.hid hcell2
  have hlen : l.length ≤ 9223372036854775807 := by omega
  clear ha hcell ha2 hcell2 hc hm hc2 hm2
  go_enter Tryd.func25, Tryd.ntmps25
  go_wp2_with fail
  go_loopw [5] (fun i wr => ∃ j : Nat, j ≤ l.length ∧ i = .int .i64 j ∧ Below w.heap.size w wr) (fun i _ => l.length - (intOf i).toNat)
  case atStart => exact ⟨0, by omega, rfl, Below.refl _ _⟩
  case round =>
    obtain ⟨j, hj, rfl, hbl⟩ := hrel
    by_cases hlt : j < l.length
    · have hne : l ≠ [] := by intro e; rw [e] at hlt; simp at hlt
      obtain ⟨rfl, hbw⟩ := HA.out hne
      obtain ⟨rfl, hbw2⟩ := HA2.out hne
      have c1 : wr.cell? ⟨b, off + j, none⟩ = some (.int .u32 l[j]) := by rw [(hw.trans (hbl.mono hw.size)).cell (p := ⟨b, off + j, none⟩) hbw]; exact HC.out j hlt
      have c2 : wr.cell? ⟨b2, off2 + j, none⟩ = some (.int .u32 l[j]) := by rw [(hw.trans (hbl.mono hw.size)).cell (p := ⟨b2, off2 + j, none⟩) hbw2]; exact HC2.out j hlt
      have t1 : (l[j] != l[j]) = false := by simp
      generalize l[j] = x at *
      go_wp2_with fail
      go_quiet (fail)
      go_wp2_with fail
      go_roundw
      case rel => exact ⟨j + 1, by omega, by go_num, by first | exact Go.below_drewN hbl _ | exact (by (repeat' (first | with_reducible exact Below.refl _ _ | with_reducible refine below_alloc ?_ _ ?_ | with_reducible refine Below.setCell ?_ ?_ _ | with_reducible refine Below.drew ?_ | with_reducible refine below_drewN ?_ _ | with_reducible refine below_step ?_ (by assumption) ?_ | with_reducible refine below_mark ?_ (by assumption) ?_)); all_goals (first | omega | (simp; done) | (simp; omega)))⟩
      case measure => simp [intOf]; omega
    · go_wp2_with fail
      go_ret
      exact ⟨rfl, hbl⟩
theorem URow.nil (w : World) (base : Nat) : URow w base (.slice none 0 0) [] := World.ownsRow_nil w base _ 1
theorem src_u32_at {w : World} {b : Nat} (x : Int) (h : w.heap[b]? = some (.cells #[.int .u32 x] 32 (0, 0))) : Src Tryd.prog 1 40 (.slice (some ⟨b, 0, none⟩) 1 1) [x].length ([x].map (.int .u32)) w :=
  Src.ofSlice _ Tryd.underlying40 _ _ _ _ rfl (by
    intro j u hu
    match j, hu with
    | 0, hu =>
      simp at hu
      subst hu
      rw [addr_add _ _ rfl, cell_of_row _ _ _ _ _ (0, 0) h]
      rfl) (by intro u hu; simp at hu; subst hu; rfl)
section
variable {w : World} {ops : Array Oper} {rest : List Oper} {o : Oper} {a : Act} {Q : Exit → Act → World → Prop}
theorem step_u32s {K : Act → World → Prop} {X : Prop} (hgd : o.guard = none) (s x : Operand) (tx : TypeId)
    (ho : o.op = .call { callee := .builtin .append, args := #[s, x], argTypes := #[40, tx] })
    (base : Nat) (v : Value) (l : List Int) (hs : a.eval s = v) (hown : URow w base v l) (xv : Value) (hx : a.eval x = xv) (news : List Int) (hsrc : Src Tryd.prog 1 tx xv news.length (news.map (.int .u32)) w)
    (h63 : l.length + news.length ≤ 1099511627776) (hbase : base ≤ w.heap.size)
    (h : ∀ v' w', URow w' base v' (l ++ news) → w.grownBy w' v.ownBlock → FreshOr w v v' → K (a.put o.dst v') w') : if Region.wanted o (yielded ops a.tmps) = true then Oper.wp Tryd.prog o a w K Q else X := by
  obtain ⟨i0, hi, hz0, hz1, hz2⟩ := info_parts info_u32
  exact step_app hgd s x 40 tx ho base 32 i0 (.int .u32 0) 1 4 Tryd.underlying40 hi hz0 hz1 hz2 rfl (by decide) v l.length (l.map (.int .u32)) hs hown xv hx news.length (news.map (.int .u32)) hsrc h63 hbase
    (fun v' w' h1 h2 h3 _ => h v' w' (by unfold URow; rw [List.length_append, List.map_append]; exact h1) h2 h3)
end
def URange (l : List Int) : Prop := ∀ x ∈ l, 0 ≤ x ∧ x < 4294967296
theorem u32_of_wf {n : Int} (h : (Lit.int .u32 n).wf = true) : 0 ≤ n ∧ n < 4294967296 := by
  have h2 : 0 ≤ n ∧ n ≤ 4294967295 := by simpa [Lit.wf, IntKind.min, IntKind.max, IntKind.signed, IntKind.bits] using h
  exact ⟨h2.1, by omega⟩
theorem URow.made {w : World} {base g n cap : Nat} (h : w.ownsRow base 32 1 (.slice (some ⟨g, 0, none⟩) n cap) n (madeCells #[.int .u32 0] (n * 1)).toList) :
    URow w base (.slice (some ⟨g, 0, none⟩) n cap) (List.replicate n 0) := by
  rw [toList_madeCells_one, Nat.mul_one] at h
  unfold URow
  simpa using h
section
open Go.ChangeShapes Go.WideShapes
theorem open_u32s {H : Type} {enc : TypeId × Value → H} {w : World} {sp : Nat → Bool} {hd : Bool} {v : Value} {d : DataW H} {p : List MemPlace} (hv : ∃ a len cap, v = .slice a len cap)
    (h : DataW.Trod enc Tryd.prog w 0 sp hd 40 v d p) : ∃ l, URep w v l ∧ URange l := by
  obtain ⟨fuel, hf⟩ := h
  obtain ⟨a0, len0, cap0, rfl⟩ := hv
  rcases open_ints Tryd.underlying40 Tryd.underlying32 (by kernel_rfl) hf with ⟨hc, _⟩ | ⟨a, len, cap, ss, hc, _, hlc, hcm, hsl, _, hcell, hss⟩
  · have hc : Value.slice a0 len0 cap0 = .slice none 0 0 := by simpa [Value.cells] using hc
    exact ⟨[], ⟨none, 0, 0, 0, hc, by simp, by simp, by omega, by simp⟩, by intro x hx; simp at hx⟩
  · have hc : Value.slice a0 len0 cap0 = .slice (some a) len cap := by simpa [Value.cells] using hc
    have hle : len ≤ ss.length := by rw [hsl]; split <;> omega
    have hs0 : 0 < len → a.spot = none ∧ a.block < w.heap.size := by
      intro h0
      have h1 := hcell 0 (by omega)
      have : a.add 0 = a := by unfold Addr.add; simp
      rw [this] at h1
      refine ⟨?_, World.block_lt_of_cell? w a h1⟩
      cases hq : a.spot with
      | none => rfl
      | some q => simp [World.cell?, hq] at h1; split at h1 <;> cases h1
    have hlen : (ss.take len).length = len := by rw [List.length_take]; omega
    refine ⟨ss.take len, ⟨some a, a.block, a.off, cap, by rw [hlen]; exact hc, ?_, by rw [hlen]; exact hlc, by simpa [maxLen] using hcm, ?_⟩, ?_⟩
    · intro hne
      have h0 : 0 < len := by rcases Nat.eq_zero_or_pos len with e | e; (subst e; simp at hne); exact e
      obtain ⟨h1, h2⟩ := hs0 h0
      refine ⟨?_, h2⟩
      cases a; simp at h1; subst h1; rfl
    · intro i hi
      rw [hlen] at hi
      have h1 := hcell i (by omega)
      rw [addr_add _ _ (hs0 (by omega)).1] at h1
      have e : (ss.take len)[i]'(by rw [hlen]; exact hi) = ss.getD i 0 := by
        rw [List.getElem_take, List.getD_eq_getElem?_getD, List.getElem?_eq_getElem (by omega)]; rfl
      rw [e]
      exact h1
    · intro x hx
      have := hss _ (List.mem_of_mem_take hx)
      have h2 : 0 ≤ x ∧ x ≤ 4294967295 := by simpa [Lit.wf, IntKind.min, IntKind.max, IntKind.signed, IntKind.bits] using this
      exact ⟨h2.1, by omega⟩
end
set_option maxHeartbeats 400000 in
theorem to_u32s (w0 : World) (v : Value) (l : List Int) (h : URep w0 v l) (hl : l.length ≤ 1048576) (w : World) (hw : Below w0.heap.size w0 w) :
    Calls Tryd.prog 23 #[v] w (U32sRet w l) := by
  obtain ⟨a, b, off, cap, rfl, ha, hc, hm, hcell⟩ := h
  have HA := Lib.hid ha; have HC := Lib.hid hcell
  clear ha hcell
  obtain ⟨i0, hi, hz0, hz1, hz2⟩ := info_parts info_u32
  obtain ⟨wm, hrun, hrow, hg⟩ := run_make_full (P := Tryd.prog) w w.heap.size 40 32 i0 _ 1 Tryd.underlying40 hi hz0 hz1 .i64 .i64 l.length (by rw [hz2]; omega) (by simp only [maxLen]; omega) (Nat.le_refl _)
  have HR := Lib.hid (URow.made hrow)
  have hbm : Below w.heap.size w wm := (Below.refl _ _).grown hg (Nat.le_refl _) (by simp)
  clear hi hz0 hz1 hz2 hrow
  generalize hgg : w.heap.size = g at *
  have HG := Lib.hid hgg; clear hgg
  go_enter Tryd.func23, Tryd.ntmps23
  go_wp2_with fail
  clear hrun
  go_loopw [4] (fun i wr => ∃ k : Nat, k ≤ l.length ∧ i = .int .i64 k ∧ URow wr g (.slice (some ⟨g, 0, none⟩) l.length l.length) (l.take k ++ List.replicate (l.length - k) 0) ∧ Below g w wr) (fun i _ => l.length - (intOf i).toNat)
  case atStart => exact ⟨0, by omega, rfl, by simpa using HR.out, hbm⟩
  case round =>
    obtain ⟨k, hk, rfl, hrow, hbl⟩ := hrel
    have HROW := Lib.hid hrow; clear hrow
    by_cases hlt : k < l.length
    · have hne : l ≠ [] := by intro e; rw [e] at hlt; simp at hlt
      obtain ⟨rfl, hbw⟩ := HA.out hne
      have hcell : wr.cell? ⟨b, off + k, none⟩ = some (.int .u32 l[k]) := by rw [World.cell?_of_block (a := ⟨b, off + k, none⟩) ((hbl.block b (by rw [← HG.out]; exact Nat.lt_of_lt_of_le hbw hw.size)).trans (hw.block b hbw))]; exact HC.out k hlt
      have HS := Lib.hid (URow.set (i := k) (x := l[k]) HROW.out)
      have HE := Lib.hid (fill_set (0 : Int) l k hlt)
      obtain ⟨c1, c2⟩ := HROW.out.cells (i := k) (by simp; omega)
      generalize l[k] = s at *
      go_wp2_with fail
      go_roundw
      case rel => exact ⟨k + 1, by omega, by go_num, by rw [← HE.out]; exact HS.out, (by (repeat' (first | with_reducible exact Below.refl _ _ | with_reducible refine below_alloc ?_ _ ?_ | with_reducible refine Below.setCell ?_ ?_ _ | with_reducible refine Below.drew ?_ | with_reducible refine below_drewN ?_ _ | with_reducible refine below_step ?_ (by assumption) ?_ | with_reducible refine below_mark ?_ (by assumption) ?_)); all_goals (first | omega | (simp; done) | (simp; omega)))⟩
      case measure => simp [intOf]; omega
    · have hkl : k = l.length := by omega
      subst hkl
      go_wp2_with fail
      go_ret
      exact ⟨_, rfl, by rw [HG.out]; simpa using HROW.out, by rw [HG.out]; exact hbl⟩
end Go.Proofs.YtfjehhdahpbbgaaDoor
namespace Go.Proofs.YtfjehhdahpbbgaaDoor
set_option linter.unusedSimpArgs false
set_option linter.unusedVariables false
set_option maxRecDepth 100000
open Go.RowKit
theorem szs_takeL (l : List V) (i : Nat) : szs (l.take i) ≤ szs l := by
  have h := szs_append (l.take i) (l.drop i)
  rw [List.take_append_drop] at h; omega
theorem szs_dropL (l : List V) (i : Nat) : szs (l.drop i) ≤ szs l := by
  have h := szs_append (l.take i) (l.drop i)
  rw [List.take_append_drop] at h; omega
theorem half_take {w : World} {a : Option Addr} {n cap h : Nat} {ts : List V} (hr : RepS w (.slice a n cap) ts) (hh : h ≤ ts.length) : RepS w (.slice a h cap) (ts.take h) := (hr.toF.takeS hh).rep
theorem half_drop {w : World} {a : Option Addr} {n cap h : Nat} {ts : List V} (hr : RepS w (.slice a n cap) ts) (hh : h ≤ ts.length) : RepS w (.slice (if cap = h then a else Option.map (fun x => x.add (h * 5)) a) (n - h) (cap - h)) (ts.drop h) := (hr.toF.dropG hh).rep
set_option maxHeartbeats 4000000 in
theorem Root_impl0 (w0 : World) (hE : Env w0) : ∀ (N : Nat) (v : Value) (ts : List V), ts.length ≤ N → RepS w0 v ts → szs ts ≤ 1048576 → ∀ (w : World), Below w0.heap.size w0 w → Calls Tryd.prog 20 #[v] w (U32Ret w (root ts)) := by
  intro N
  induction N with
  | zero =>
    intro v ts hl h hsz w hw
    obtain ⟨a, cap, rfl⟩ := h.slice
    have hl0 : ts.length = 0 := by omega
    have HR := Lib.hid (root_nil hl0)
    rw [hl0]
    clear h hsz hl hl0 hw
    generalize root ts = R at *
    go_enter Tryd.func20, Tryd.ntmps20
    go_wp2_with fail
    go_ret
    exact ⟨by rw [HR.out]; rfl, Below.refl _ _⟩
  | succ N ih =>
    intro v ts hl h hsz w hw
    by_cases h0 : ts.length = 0
    · obtain ⟨a, cap, rfl⟩ := h.slice
      have HR := Lib.hid (root_nil h0)
      rw [h0]
      clear h hsz hl h0 hw ih
      generalize root ts = R at *
      go_enter Tryd.func20, Tryd.ntmps20
      go_wp2_with fail
      go_ret
      exact ⟨by rw [HR.out]; rfl, Below.refl _ _⟩
    by_cases h1 : ts.length = 1
    · obtain ⟨a, b, off, cap, rfl, ha, hc, hm, sls, hel⟩ := h.toF.opened
      obtain ⟨rfl, hbw, -⟩ := ha (by intro e; rw [e] at h1; simp at h1)
      obtain ⟨c5, wf, rp⟩ := hel 0 (by omega)
      obtain ⟨sa, sc, hsl⟩ := rp.slice
      rw [hsl] at c5 rp
      have HR := Lib.hid (root_one h1)
      have hz : (ts[0]'(by omega)).sz ≤ 1048576 := by
        have := szs_mem (List.getElem_mem (l := ts) (n := 0) (by omega)); omega
      have SO := Lib.hid (SumOf_impl0 w0 hE _ (ts[0]'(by omega)) ⟨_, rfl, wf, rp.rep⟩ hz w hw)
      rw [Nat.zero_mul, Nat.add_zero] at c5
      obtain ⟨c0, c1, c2, c3, c4⟩ := c5.keep (hw.block b hbw)
      unfold V.agg at SO
      rw [h1]
      clear rp wf hel ha hl h0 ih hz c5 hsl
      generalize ts[0] = t at *
      generalize sumV t = x at *
      generalize root ts = R at *
      clear hsz h h1
      go_enter Tryd.func20, Tryd.ntmps20
      go_wp2_with fail
      refine SO.out.mono ?_
      rintro e1 w1 ⟨rfl, hb1⟩
      go_wp2_with fail
      go_ret
      exact ⟨by rw [HR.out]; rfl, hb1⟩
    obtain ⟨a, cap, rfl⟩ := h.slice
    have hcap : ts.length ≤ cap ∧ cap ≤ 9223372036854775807 := by
      obtain ⟨a', b, off, cap', e, ha, hc, hm, sls, hel⟩ := h.toF.opened
      injection e with e1 e2 e3
      omega
    obtain ⟨n, hn⟩ : ∃ n, n = ts.length := ⟨_, rfl⟩
    obtain ⟨h2, hh2⟩ : ∃ h2, h2 = (n + 1) / 2 := ⟨_, rfl⟩
    have hn2 : n ≤ 1048576 := by have := szs_length ts; omega
    have HR := Lib.hid (root_two (l := ts) (by omega))
    rw [← hn] at h HR hcap ⊢
    rw [← hh2] at HR
    have IA := Lib.hid (fun (W : World) (hW : Below w.heap.size w W) => ih _ _ (by rw [List.length_take]; omega) (half_take h (h := h2) (by omega)) (by have := szs_takeL ts h2; omega) W (hw.trans (hW.mono hw.size)))
    have IB := Lib.hid (fun (W : World) (hW : Below w.heap.size w W) => ih _ _ (by rw [List.length_drop]; omega) (half_drop h (h := h2) (by omega)) (by have := szs_dropL ts h2; omega) W (hw.trans (hW.mono hw.size)))
    have BO := Lib.hid (fun W => both_impl (root (ts.take h2)) (root (ts.drop h2)) W (root_range _).1 (root_range _).2 (root_range _).1 (root_range _).2)
    generalize root (ts.take h2) = x at *
    generalize root (ts.drop h2) = y at *
    generalize root ts = R at *
    have hlt : h2 < n ∧ 1 ≤ h2 := by omega
    obtain ⟨hlt, hh1⟩ := hlt
    obtain ⟨hcap, hcm⟩ := hcap
    have hn3 : 2 ≤ n := by omega
    have HH := Lib.hid hh2
    clear hn hl h0 h1 ih h hsz hh2
    go_enter Tryd.func20, Tryd.ntmps20
    go_upto_region 3 with fail
    go_cut [4] (fun s wx => s = .int .i64 h2 ∧ wx = w)
    case first =>
      go_wp2_with fail
      go_meet
      exact ⟨by rw [HH.out]; go_num, rfl⟩
    case rest =>
      obtain ⟨rfl, rfl⟩ := hcut
      go_upto_region 4 with fail
      refine wp_region_held_drew (S := fun _ => True) (by kernel_rfl) trivial (fun hHeld => ?_)
      have HB0 := Lib.hid (show Below wc.heap.size wc wc.drew from (Below.refl _ _).drew)
      refine wpAnyH_take (i := 0) (v := ?_) rfl (by kernel_rfl) (by kernel_rfl) (by kernel_rfl) (fun _ _ _ h => h) (Or.inl ⟨by rfl, ?_⟩) hHeld ?_
      rotate_left
      · (intro w hSw; (try dsimp only at hSw); (try simp only [List.getElem_toArray, List.getElem_cons_succ, List.getElem_cons_zero]); go_simp <;> with_reducible rfl)
      try simp only [List.getElem_toArray, List.getElem_cons_succ, List.getElem_cons_zero, Act.put, List.setIfInBounds_toArray, List.set_cons_zero, List.set_cons_succ]
      refine wpAnyH_take (i := 1) (v := ?_) rfl (by kernel_rfl) (by kernel_rfl) (by kernel_rfl) (fun _ _ _ h => h) (Or.inl ⟨by rfl, ?_⟩) hHeld ?_
      rotate_left
      · (intro w hSw; (try dsimp only at hSw); (try simp only [List.getElem_toArray, List.getElem_cons_succ, List.getElem_cons_zero]); go_simp <;> with_reducible rfl)
      try simp only [List.getElem_toArray, List.getElem_cons_succ, List.getElem_cons_zero, Act.put, List.setIfInBounds_toArray, List.set_cons_zero, List.set_cons_succ]
      refine wpAnyH_take (i := 2) (v := .slice a h2 cap) rfl (by kernel_rfl) (by kernel_rfl) (by kernel_rfl) (fun _ _ _ h => h) (Or.inl ⟨by rfl, ?_⟩) hHeld ?_
      · (intro w hSw; (try dsimp only at hSw); (try simp only [List.getElem_toArray, List.getElem_cons_succ, List.getElem_cons_zero]); go_simp; intro hc; exfalso; omega)
      try simp only [List.getElem_toArray, List.getElem_cons_succ, List.getElem_cons_zero, Act.put, List.setIfInBounds_toArray, List.set_cons_zero, List.set_cons_succ]
      refine wpAnyH_take (i := 4) (v := ?_) rfl (by kernel_rfl) (by kernel_rfl) (by kernel_rfl) (fun _ _ _ h => h) (Or.inl ⟨by rfl, ?_⟩) hHeld ?_
      rotate_left
      · (intro w hSw; (try dsimp only at hSw); (try simp only [List.getElem_toArray, List.getElem_cons_succ, List.getElem_cons_zero]); go_simp <;> with_reducible rfl)
      try simp only [List.getElem_toArray, List.getElem_cons_succ, List.getElem_cons_zero, Act.put, List.setIfInBounds_toArray, List.set_cons_zero, List.set_cons_succ]
      refine wpAnyH_take (i := 5) (v := ?_) rfl (by kernel_rfl) (by kernel_rfl) (by kernel_rfl) (fun _ _ _ h => h) (Or.inl ⟨by rfl, ?_⟩) hHeld ?_
      rotate_left
      · (intro w hSw; (try dsimp only at hSw); (try simp only [List.getElem_toArray, List.getElem_cons_succ, List.getElem_cons_zero]); go_simp <;> with_reducible rfl)
      try simp only [List.getElem_toArray, List.getElem_cons_succ, List.getElem_cons_zero, Act.put, List.setIfInBounds_toArray, List.set_cons_zero, List.set_cons_succ]
      refine wpAnyH_take (i := 6) (v := .slice (if cap = h2 then a else Option.map (fun x => x.add (h2 * 5)) a) (n - h2) (cap - h2)) rfl (by kernel_rfl) (by kernel_rfl) (by kernel_rfl) (fun _ _ _ h => h) (Or.inl ⟨by rfl, ?_⟩) hHeld ?_
      · (intro w hSw; (try dsimp only at hSw); (try simp only [List.getElem_toArray, List.getElem_cons_succ, List.getElem_cons_zero]); first | (go_simp; done) | (go_simp; intro hc; exfalso; omega))
      try simp only [List.getElem_toArray, List.getElem_cons_succ, List.getElem_cons_zero, Act.put, List.setIfInBounds_toArray, List.set_cons_zero, List.set_cons_succ]
      refine wpAnyH_ready (rs := [3]) (by kernel_rfl) (by simp) ?_
      refine AllReadyH.cons rfl (fun K hK => ?_) ?_
      · go_simp
        refine (IA.out _ HB0.out).mono ?_
        rintro e1 w1 ⟨rfl, hb1⟩
        have HB1 := Lib.hid (HB0.out.trans (hb1.mono HB0.out.size))
        clear hb1
        refine hK.out _ _ ?_ (fun hHeld => ?_)
        · exact trivial
        clear hK K
        try simp only [List.getElem_toArray, List.getElem_cons_succ, List.getElem_cons_zero, Act.put, List.setIfInBounds_toArray, List.set_cons_zero, List.set_cons_succ]
        refine wpAnyH_ready (rs := [7]) (by kernel_rfl) (by simp) ?_
        refine AllReadyH.cons rfl (fun K hK => ?_) ?_
        · go_simp
          refine (IB.out _ HB1.out).mono ?_
          rintro e2 w2 ⟨rfl, hb2⟩
          have HB2 := Lib.hid (HB1.out.trans (hb2.mono HB1.out.size))
          clear hb2
          refine hK.out _ _ ?_ (fun hHeld => ?_)
          · exact trivial
          clear hK K
          try simp only [List.getElem_toArray, List.getElem_cons_succ, List.getElem_cons_zero, Act.put, List.setIfInBounds_toArray, List.set_cons_zero, List.set_cons_succ]
          refine wpAnyH_ready (rs := [8]) (by kernel_rfl) (by simp) ?_
          refine AllReadyH.cons rfl (fun K hK => ?_) ?_
          · go_simp
            refine (BO.out _).mono ?_
            rintro e3 w3 ⟨rfl, hb3⟩
            have HB3 := Lib.hid (HB2.out.trans (hb3.mono HB2.out.size))
            clear hb3
            refine hK.out _ _ ?_ (fun hHeld => ?_)
            · exact trivial
            clear hK K
            try simp only [List.getElem_toArray, List.getElem_cons_succ, List.getElem_cons_zero, Act.put, List.setIfInBounds_toArray, List.set_cons_zero, List.set_cons_succ]
            refine wpAnyH_take (i := 9) (v := ?_) rfl (by kernel_rfl) (by kernel_rfl) (by kernel_rfl) (fun _ _ _ h => h) (Or.inl ⟨by rfl, ?_⟩) hHeld ?_
            rotate_left
            · (intro w hSw; (try dsimp only at hSw); (try simp only [List.getElem_toArray, List.getElem_cons_succ, List.getElem_cons_zero]); go_simp <;> with_reducible rfl)
            try simp only [List.getElem_toArray, List.getElem_cons_succ, List.getElem_cons_zero, Act.put, List.setIfInBounds_toArray, List.set_cons_zero, List.set_cons_succ]
            refine wpAnyH_done (by kernel_rfl) ?_ _
            go_wp2_with fail
            go_ret
            exact ⟨by rw [HR.out]; rfl, HB3.out⟩
          exact AllReadyH.nil
        exact AllReadyH.nil
      exact AllReadyH.nil
set_option maxHeartbeats 4000000 in
theorem Root_spec0 (w0 : World) : ∀ (N : Nat) (v : Value) (ts : List V), ts.length ≤ N → RepS w0 v ts → szs ts ≤ 1048576 → ∀ (w : World), Below w0.heap.size w0 w → Calls Tryd.prog 18 #[v] w (U32Ret w (root ts)) := by
  intro N
  induction N with
  | zero =>
    intro v ts hl h hsz w hw
    obtain ⟨a, cap, rfl⟩ := h.slice
    have hl0 : ts.length = 0 := by omega
    have HR := Lib.hid (root_nil hl0)
    rw [hl0]
    clear h hsz hl hl0 hw
    generalize root ts = R at *
    go_enter Tryd.func18, Tryd.ntmps18
    go_wp2_with fail
    go_ret
    exact ⟨by rw [HR.out]; rfl, Below.refl _ _⟩
  | succ N ih =>
    intro v ts hl h hsz w hw
    by_cases h0 : ts.length = 0
    · obtain ⟨a, cap, rfl⟩ := h.slice
      have HR := Lib.hid (root_nil h0)
      rw [h0]
      clear h hsz hl h0 hw ih
      generalize root ts = R at *
      go_enter Tryd.func18, Tryd.ntmps18
      go_wp2_with fail
      go_ret
      exact ⟨by rw [HR.out]; rfl, Below.refl _ _⟩
    by_cases h1 : ts.length = 1
    · obtain ⟨a, b, off, cap, rfl, ha, hc, hm, sls, hel⟩ := h.toF.opened
      obtain ⟨rfl, hbw, -⟩ := ha (by intro e; rw [e] at h1; simp at h1)
      obtain ⟨c5, wf, rp⟩ := hel 0 (by omega)
      obtain ⟨sa, sc, hsl⟩ := rp.slice
      rw [hsl] at c5 rp
      have HR := Lib.hid (root_one h1)
      have hz : (ts[0]'(by omega)).sz ≤ 1048576 := by
        have := szs_mem (List.getElem_mem (l := ts) (n := 0) (by omega)); omega
      have SO := Lib.hid (SumOf_spec0 w0 _ (ts[0]'(by omega)) ⟨_, rfl, wf, rp.rep⟩ hz w hw)
      rw [Nat.zero_mul, Nat.add_zero] at c5
      obtain ⟨c0, c1, c2, c3, c4⟩ := c5.keep (hw.block b hbw)
      unfold V.agg at SO
      rw [h1]
      clear rp wf hel ha hl h0 ih hz c5 hsl
      generalize ts[0] = t at *
      generalize sumV t = x at *
      generalize root ts = R at *
      clear hsz h h1
      go_enter Tryd.func18, Tryd.ntmps18
      go_wp2_with fail
      refine SO.out.mono ?_
      rintro e1 w1 ⟨rfl, hb1⟩
      go_wp2_with fail
      go_ret
      exact ⟨by rw [HR.out]; rfl, hb1⟩
    obtain ⟨a, cap, rfl⟩ := h.slice
    have hcap : ts.length ≤ cap ∧ cap ≤ 9223372036854775807 := by
      obtain ⟨a', b, off, cap', e, ha, hc, hm, sls, hel⟩ := h.toF.opened
      injection e with e1 e2 e3
      omega
    obtain ⟨n, hn⟩ : ∃ n, n = ts.length := ⟨_, rfl⟩
    obtain ⟨h2, hh2⟩ : ∃ h2, h2 = (n + 1) / 2 := ⟨_, rfl⟩
    have hn2 : n ≤ 1048576 := by have := szs_length ts; omega
    have HR := Lib.hid (root_two (l := ts) (by omega))
    rw [← hn] at h HR hcap ⊢
    rw [← hh2] at HR
    have IA := Lib.hid (fun (W : World) (hW : Below w.heap.size w W) => ih _ _ (by rw [List.length_take]; omega) (half_take h (h := h2) (by omega)) (by have := szs_takeL ts h2; omega) W (hw.trans (hW.mono hw.size)))
    have IB := Lib.hid (fun (W : World) (hW : Below w.heap.size w W) => ih _ _ (by rw [List.length_drop]; omega) (half_drop h (h := h2) (by omega)) (by have := szs_dropL ts h2; omega) W (hw.trans (hW.mono hw.size)))
    have BO := Lib.hid (fun W => both_spec (root (ts.take h2)) (root (ts.drop h2)) W (root_range _).1 (root_range _).2 (root_range _).1 (root_range _).2)
    generalize root (ts.take h2) = x at *
    generalize root (ts.drop h2) = y at *
    generalize root ts = R at *
    have hlt : h2 < n ∧ 1 ≤ h2 := by omega
    obtain ⟨hlt, hh1⟩ := hlt
    obtain ⟨hcap, hcm⟩ := hcap
    have hn3 : 2 ≤ n := by omega
    have HH := Lib.hid hh2
    clear hn hl h0 h1 ih h hsz hh2
    go_enter Tryd.func18, Tryd.ntmps18
    go_upto_region 6 with fail
    go_cut [3] (fun s wx => s = .int .i64 h2 ∧ wx = w)
    case first =>
      go_wp2_with fail
      go_meet
      exact ⟨by rw [HH.out]; go_num, rfl⟩
    case rest =>
      obtain ⟨rfl, rfl⟩ := hcut
      go_upto_region 7 with fail
      refine wp_region_held_drew (S := fun _ => True) (by kernel_rfl) trivial (fun hHeld => ?_)
      have HB0 := Lib.hid (show Below wc.heap.size wc wc.drew from (Below.refl _ _).drew)
      refine wpAnyH_take (i := 0) (v := ?_) rfl (by kernel_rfl) (by kernel_rfl) (by kernel_rfl) (fun _ _ _ h => h) (Or.inl ⟨by rfl, ?_⟩) hHeld ?_
      rotate_left
      · (intro w hSw; (try dsimp only at hSw); (try simp only [List.getElem_toArray, List.getElem_cons_succ, List.getElem_cons_zero]); go_simp <;> with_reducible rfl)
      try simp only [List.getElem_toArray, List.getElem_cons_succ, List.getElem_cons_zero, Act.put, List.setIfInBounds_toArray, List.set_cons_zero, List.set_cons_succ]
      refine wpAnyH_take (i := 1) (v := ?_) rfl (by kernel_rfl) (by kernel_rfl) (by kernel_rfl) (fun _ _ _ h => h) (Or.inl ⟨by rfl, ?_⟩) hHeld ?_
      rotate_left
      · (intro w hSw; (try dsimp only at hSw); (try simp only [List.getElem_toArray, List.getElem_cons_succ, List.getElem_cons_zero]); go_simp <;> with_reducible rfl)
      try simp only [List.getElem_toArray, List.getElem_cons_succ, List.getElem_cons_zero, Act.put, List.setIfInBounds_toArray, List.set_cons_zero, List.set_cons_succ]
      refine wpAnyH_take (i := 2) (v := .slice a h2 cap) rfl (by kernel_rfl) (by kernel_rfl) (by kernel_rfl) (fun _ _ _ h => h) (Or.inl ⟨by rfl, ?_⟩) hHeld ?_
      · (intro w hSw; (try dsimp only at hSw); (try simp only [List.getElem_toArray, List.getElem_cons_succ, List.getElem_cons_zero]); go_simp; intro hc; exfalso; omega)
      try simp only [List.getElem_toArray, List.getElem_cons_succ, List.getElem_cons_zero, Act.put, List.setIfInBounds_toArray, List.set_cons_zero, List.set_cons_succ]
      refine wpAnyH_take (i := 4) (v := ?_) rfl (by kernel_rfl) (by kernel_rfl) (by kernel_rfl) (fun _ _ _ h => h) (Or.inl ⟨by rfl, ?_⟩) hHeld ?_
      rotate_left
      · (intro w hSw; (try dsimp only at hSw); (try simp only [List.getElem_toArray, List.getElem_cons_succ, List.getElem_cons_zero]); go_simp <;> with_reducible rfl)
      try simp only [List.getElem_toArray, List.getElem_cons_succ, List.getElem_cons_zero, Act.put, List.setIfInBounds_toArray, List.set_cons_zero, List.set_cons_succ]
      refine wpAnyH_take (i := 5) (v := ?_) rfl (by kernel_rfl) (by kernel_rfl) (by kernel_rfl) (fun _ _ _ h => h) (Or.inl ⟨by rfl, ?_⟩) hHeld ?_
      rotate_left
      · (intro w hSw; (try dsimp only at hSw); (try simp only [List.getElem_toArray, List.getElem_cons_succ, List.getElem_cons_zero]); go_simp <;> with_reducible rfl)
      try simp only [List.getElem_toArray, List.getElem_cons_succ, List.getElem_cons_zero, Act.put, List.setIfInBounds_toArray, List.set_cons_zero, List.set_cons_succ]
      refine wpAnyH_take (i := 6) (v := .slice (if cap = h2 then a else Option.map (fun x => x.add (h2 * 5)) a) (n - h2) (cap - h2)) rfl (by kernel_rfl) (by kernel_rfl) (by kernel_rfl) (fun _ _ _ h => h) (Or.inl ⟨by rfl, ?_⟩) hHeld ?_
      · (intro w hSw; (try dsimp only at hSw); (try simp only [List.getElem_toArray, List.getElem_cons_succ, List.getElem_cons_zero]); first | (go_simp; done) | (go_simp; intro hc; exfalso; omega))
      try simp only [List.getElem_toArray, List.getElem_cons_succ, List.getElem_cons_zero, Act.put, List.setIfInBounds_toArray, List.set_cons_zero, List.set_cons_succ]
      refine wpAnyH_ready (rs := [3]) (by kernel_rfl) (by simp) ?_
      refine AllReadyH.cons rfl (fun K hK => ?_) ?_
      · go_simp
        refine (IA.out _ HB0.out).mono ?_
        rintro e4 w4 ⟨rfl, hb4⟩
        have HB4 := Lib.hid (HB0.out.trans (hb4.mono HB0.out.size))
        clear hb4
        refine hK.out _ _ ?_ (fun hHeld => ?_)
        · exact trivial
        clear hK K
        try simp only [List.getElem_toArray, List.getElem_cons_succ, List.getElem_cons_zero, Act.put, List.setIfInBounds_toArray, List.set_cons_zero, List.set_cons_succ]
        refine wpAnyH_ready (rs := [7]) (by kernel_rfl) (by simp) ?_
        refine AllReadyH.cons rfl (fun K hK => ?_) ?_
        · go_simp
          refine (IB.out _ HB4.out).mono ?_
          rintro e5 w5 ⟨rfl, hb5⟩
          have HB5 := Lib.hid (HB4.out.trans (hb5.mono HB4.out.size))
          clear hb5
          refine hK.out _ _ ?_ (fun hHeld => ?_)
          · exact trivial
          clear hK K
          try simp only [List.getElem_toArray, List.getElem_cons_succ, List.getElem_cons_zero, Act.put, List.setIfInBounds_toArray, List.set_cons_zero, List.set_cons_succ]
          refine wpAnyH_ready (rs := [8]) (by kernel_rfl) (by simp) ?_
          refine AllReadyH.cons rfl (fun K hK => ?_) ?_
          · go_simp
            refine (BO.out _).mono ?_
            rintro e6 w6 ⟨rfl, hb6⟩
            have HB6 := Lib.hid (HB5.out.trans (hb6.mono HB5.out.size))
            clear hb6
            refine hK.out _ _ ?_ (fun hHeld => ?_)
            · exact trivial
            clear hK K
            try simp only [List.getElem_toArray, List.getElem_cons_succ, List.getElem_cons_zero, Act.put, List.setIfInBounds_toArray, List.set_cons_zero, List.set_cons_succ]
            refine wpAnyH_take (i := 9) (v := ?_) rfl (by kernel_rfl) (by kernel_rfl) (by kernel_rfl) (fun _ _ _ h => h) (Or.inl ⟨by rfl, ?_⟩) hHeld ?_
            rotate_left
            · (intro w hSw; (try dsimp only at hSw); (try simp only [List.getElem_toArray, List.getElem_cons_succ, List.getElem_cons_zero]); go_simp <;> with_reducible rfl)
            try simp only [List.getElem_toArray, List.getElem_cons_succ, List.getElem_cons_zero, Act.put, List.setIfInBounds_toArray, List.set_cons_zero, List.set_cons_succ]
            refine wpAnyH_done (by kernel_rfl) ?_ _
            go_wp2_with fail
            go_ret
            exact ⟨by rw [HR.out]; rfl, HB6.out⟩
          exact AllReadyH.nil
        exact AllReadyH.nil
      exact AllReadyH.nil
set_option maxHeartbeats 4000000 in
theorem Branch_impl0 (w0 : World) (hE : Env w0) : ∀ (N : Nat) (v : Value) (ts : List V) (i : Int), ts.length ≤ N → RepS w0 v ts → szs ts ≤ 1048576 → In64 i → ∀ (w : World), Below w0.heap.size w0 w → Calls Tryd.prog 27 #[v, .int .i64 i] w (U32sRet w (branch ts i)) := by
  intro N
  induction N with
  | zero =>
    intro v ts i hl h hsz hi w hw
    obtain ⟨a, cap, rfl⟩ := h.slice
    have hl0 : ts.length = 0 := by omega
    have HR := Lib.hid (branch_out (l := ts) (i := i) (by omega))
    rw [hl0]
    clear h hsz hl hl0 hw
    generalize branch ts i = R at *
    unfold In64 at hi
    go_enter Tryd.func27, Tryd.ntmps27
    go_wp2_with fail
    refine (within_no _ _ _ _ (by omega)).mono ?_
    rintro e w' ⟨rfl, rfl⟩
    go_wp2_with fail
    go_ret
    exact ⟨_, rfl, by rw [HR.out]; exact URow.nil _ _, Below.refl _ _⟩
  | succ N ih =>
    intro v ts i hl h hsz hi w hw
    obtain ⟨a, cap, rfl⟩ := h.slice
    have hcap : ts.length ≤ cap ∧ cap ≤ 9223372036854775807 := by
      obtain ⟨a', b, off, cap', e, ha, hc, hm, sls, hel⟩ := h.toF.opened
      injection e with e1 e2 e3
      omega
    have hn2 : ts.length ≤ 1048576 := by have := szs_length ts; omega
    by_cases hout : i < 0 ∨ (ts.length : Int) - 1 < i
    · have HR := Lib.hid (branch_out (l := ts) (i := i) (by omega))
      clear h hsz hl hw ih
      generalize branch ts i = R at *
      generalize ts.length = n at *
      unfold In64 at hi
      go_enter Tryd.func27, Tryd.ntmps27
      go_wp2_with fail
      refine (within_no _ _ _ _ (by omega)).mono ?_
      rintro e w' ⟨rfl, rfl⟩
      go_wp2_with fail
      go_ret
      exact ⟨_, rfl, by rw [HR.out]; exact URow.nil _ _, Below.refl _ _⟩
    by_cases h1 : ts.length = 1
    · have HR := Lib.hid (branch_out (l := ts) (i := i) (by omega))
      rw [h1]
      rw [h1] at hout
      clear h hsz hl hw ih hcap hn2 h1
      generalize branch ts i = R at *
      unfold In64 at hi
      go_enter Tryd.func27, Tryd.ntmps27
      go_wp2_with fail
      refine (within_yes _ _ _ _ (by omega) (by omega)).mono ?_
      rintro e w' ⟨rfl, rfl⟩
      go_wp2_with fail
      go_ret
      exact ⟨_, rfl, by rw [HR.out]; exact URow.nil _ _, Below.refl _ _⟩
    obtain ⟨n, hn⟩ : ∃ n, n = ts.length := ⟨_, rfl⟩
    obtain ⟨h2, hh2⟩ : ∃ h2, h2 = (n + 1) / 2 := ⟨_, rfl⟩
    have hno : ¬ (i < 0 ∨ (ts.length : Int) - 1 < i ∨ ts.length = 1) := by omega
    rw [← hn] at h hcap hn2 ⊢
    have hi0 : 0 ≤ i := by omega
    have hi1 : i ≤ (n : Int) - 1 := by omega
    have hlt : h2 < n ∧ 1 ≤ h2 := by omega
    obtain ⟨hlt, hh1⟩ := hlt
    obtain ⟨hcap, hcm⟩ := hcap
    have hn3 : 2 ≤ n := by omega
    by_cases hf : i < (h2 : Int)
    · have HR := Lib.hid (branch_first hno (by rw [← hn, ← hh2]; exact hf))
      rw [← hn, ← hh2] at HR
      have IA := Lib.hid (fun (W : World) (hW : Below w.heap.size w W) => ih _ _ i (by rw [List.length_take]; omega) (half_take h (h := h2) (by omega)) (by have := szs_takeL ts h2; omega) (by unfold In64 at *; omega) W (hw.trans (hW.mono hw.size)))
      have IB := Lib.hid (fun (W : World) (hW : Below w.heap.size w W) => Root_impl0 w0 hE _ _ _ (Nat.le_refl _) (half_drop h (h := h2) (by omega)) (by have := szs_dropL ts h2; omega) W (hw.trans (hW.mono hw.size)))
      have hbl : (branch (ts.take h2) i).length ≤ 1048576 := by have := branch_len (ts.take h2) i; rw [List.length_take] at this; omega
      have HWI := Lib.hid (show IntKind.i64.wrap (i - (h2 : Int)) = i - h2 from by simp [IntKind.wrap, IntKind.signed, IntKind.bits]; omega)
      generalize branch (ts.take h2) i = la at *
      generalize root (ts.drop h2) = y at *
      generalize branch ts i = R at *
      have HH := Lib.hid hh2
      clear hn hl hout h1 hno ih h hsz hh2
      unfold In64 at hi
      go_enter Tryd.func27, Tryd.ntmps27
      go_wp2_with fail
      refine (within_yes _ _ _ _ (by omega) (by omega)).mono ?_
      rintro e w' ⟨rfl, hww⟩
      subst hww
      go_upto_region 3 with fail
      go_cut [5] (fun s wx => s = .int .i64 h2 ∧ wx = w')
      case first =>
        go_wp2_with fail
        go_meet
        exact ⟨by rw [HH.out]; go_num, rfl⟩
      case rest =>
        obtain ⟨rfl, rfl⟩ := hcut
        go_upto_region 5 with fail
        have HB0 := Lib.hid (show Below wc.heap.size wc wc.drew from (Below.refl _ _).drew)
        refine wp_region_held_drew (S := fun _ => True) (by kernel_rfl) trivial (fun hHeld => ?_)
        refine wpAnyH_take (i := 0) (v := ?_) rfl (by kernel_rfl) (by kernel_rfl) (by kernel_rfl) (fun _ _ _ h => h) (Or.inl ⟨by rfl, ?_⟩) hHeld ?_
        rotate_left
        · (intro w hSw; (try dsimp only at hSw); (try simp only [List.getElem_toArray, List.getElem_cons_succ, List.getElem_cons_zero]); go_simp <;> with_reducible rfl)
        try simp only [List.getElem_toArray, List.getElem_cons_succ, List.getElem_cons_zero, Act.put, List.setIfInBounds_toArray, List.set_cons_zero, List.set_cons_succ]
        refine wpAnyH_take (i := 1) (v := ?_) rfl (by kernel_rfl) (by kernel_rfl) (by kernel_rfl) (fun _ _ _ h => h) (Or.inl ⟨by rfl, ?_⟩) hHeld ?_
        rotate_left
        · (intro w hSw; (try dsimp only at hSw); (try simp only [List.getElem_toArray, List.getElem_cons_succ, List.getElem_cons_zero]); go_simp <;> with_reducible rfl)
        try simp only [List.getElem_toArray, List.getElem_cons_succ, List.getElem_cons_zero, Act.put, List.setIfInBounds_toArray, List.set_cons_zero, List.set_cons_succ]
        refine wpAnyH_take (i := 2) (v := .slice a h2 cap) rfl (by kernel_rfl) (by kernel_rfl) (by kernel_rfl) (fun _ _ _ h => h) (Or.inl ⟨by rfl, ?_⟩) hHeld ?_
        · (intro w hSw; (try dsimp only at hSw); (try simp only [List.getElem_toArray, List.getElem_cons_succ, List.getElem_cons_zero]); first | (go_simp; done) | (go_simp; intro hc; exfalso; omega))
        try simp only [List.getElem_toArray, List.getElem_cons_succ, List.getElem_cons_zero, Act.put, List.setIfInBounds_toArray, List.set_cons_zero, List.set_cons_succ]
        refine wpAnyH_take (i := 3) (v := ?_) rfl (by kernel_rfl) (by kernel_rfl) (by kernel_rfl) (fun _ _ _ h => h) (Or.inl ⟨by rfl, ?_⟩) hHeld ?_
        rotate_left
        · (intro w hSw; (try dsimp only at hSw); (try simp only [List.getElem_toArray, List.getElem_cons_succ, List.getElem_cons_zero]); go_simp <;> with_reducible rfl)
        try simp only [List.getElem_toArray, List.getElem_cons_succ, List.getElem_cons_zero, Act.put, List.setIfInBounds_toArray, List.set_cons_zero, List.set_cons_succ]
        refine wpAnyH_take (i := 5) (v := ?_) rfl (by kernel_rfl) (by kernel_rfl) (by kernel_rfl) (fun _ _ _ h => h) (Or.inl ⟨by rfl, ?_⟩) hHeld ?_
        rotate_left
        · (intro w hSw; (try dsimp only at hSw); (try simp only [List.getElem_toArray, List.getElem_cons_succ, List.getElem_cons_zero]); go_simp <;> with_reducible rfl)
        try simp only [List.getElem_toArray, List.getElem_cons_succ, List.getElem_cons_zero, Act.put, List.setIfInBounds_toArray, List.set_cons_zero, List.set_cons_succ]
        refine wpAnyH_take (i := 6) (v := ?_) rfl (by kernel_rfl) (by kernel_rfl) (by kernel_rfl) (fun _ _ _ h => h) (Or.inl ⟨by rfl, ?_⟩) hHeld ?_
        rotate_left
        · (intro w hSw; (try dsimp only at hSw); (try simp only [List.getElem_toArray, List.getElem_cons_succ, List.getElem_cons_zero]); go_simp <;> with_reducible rfl)
        try simp only [List.getElem_toArray, List.getElem_cons_succ, List.getElem_cons_zero, Act.put, List.setIfInBounds_toArray, List.set_cons_zero, List.set_cons_succ]
        refine wpAnyH_take (i := 7) (v := .slice (if cap = h2 then a else Option.map (fun x => x.add (h2 * 5)) a) (n - h2) (cap - h2)) rfl (by kernel_rfl) (by kernel_rfl) (by kernel_rfl) (fun _ _ _ h => h) (Or.inl ⟨by rfl, ?_⟩) hHeld ?_
        · (intro w hSw; (try dsimp only at hSw); (try simp only [List.getElem_toArray, List.getElem_cons_succ, List.getElem_cons_zero]); first | (go_simp; done) | (go_simp; intro hc; exfalso; omega))
        try simp only [List.getElem_toArray, List.getElem_cons_succ, List.getElem_cons_zero, Act.put, List.setIfInBounds_toArray, List.set_cons_zero, List.set_cons_succ]
        refine wpAnyH_ready (rs := [4]) (by kernel_rfl) (by simp) ?_
        refine AllReadyH.cons rfl (fun K hK => ?_) ?_
        · go_simp
          refine (IA.out _ HB0.out).mono ?_
          rintro e7 w7 ⟨v7, rfl, hrow, hb7⟩
          obtain ⟨va7, vn7, vc7, rfl⟩ := hrow.slice3
          have HP7 := Lib.hid (hrow.lower HB0.out.size)
          have HB7 := Lib.hid (HB0.out.trans (hb7.mono HB0.out.size))
          clear hb7 hrow
          refine hK.out _ _ ?_ (fun hHeld => ?_)
          · exact trivial
          clear hK K
          try simp only [List.getElem_toArray, List.getElem_cons_succ, List.getElem_cons_zero, Act.put, List.setIfInBounds_toArray, List.set_cons_zero, List.set_cons_succ]
          refine wpAnyH_ready (rs := [8]) (by kernel_rfl) (by simp) ?_
          refine AllReadyH.cons rfl (fun K hK => ?_) ?_
          · go_simp
            refine (IB.out _ HB7.out).mono ?_
            rintro e8 w8 ⟨rfl, hb8⟩
            have HP8 := Lib.hid (HP7.out.stay2 hb8)
            have HB8 := Lib.hid (HB7.out.trans (hb8.mono HB7.out.size))
            clear hb8
            refine hK.out _ _ ?_ (fun hHeld => ?_)
            · exact trivial
            clear hK K
            try simp only [List.getElem_toArray, List.getElem_cons_succ, List.getElem_cons_zero, Act.put, List.setIfInBounds_toArray, List.set_cons_zero, List.set_cons_succ]
            refine wpAnyH_ready (rs := [9]) (by kernel_rfl) (by simp) ?_
            refine AllReadyH.cons rfl (fun K hK => ?_) ?_
            · have HP9 := Lib.hid (HP8.out.stay2 (show Below w8.heap.size w8 (w8.alloc (.cells #[.int .u32 y] 32)) from (Below.refl _ _).alloc (Nat.le_refl _) _))
              have HB9 := Lib.hid (show Below wc.heap.size wc (w8.alloc (.cells #[.int .u32 y] 32)) from HB8.out.alloc HB8.out.size _)
              have HS9 := Lib.hid (src_u32_at (w := (w8.alloc (.cells #[.int .u32 y] 32))) (b := w8.heap.size) y (heap_alloc_new w8 (.cells #[.int .u32 y] 32)))
              go_simp
              refine hK.out _ _ ?_ (fun hHeld => ?_)
              · exact trivial
              clear hK K
              try simp only [List.getElem_toArray, List.getElem_cons_succ, List.getElem_cons_zero, Act.put, List.setIfInBounds_toArray, List.set_cons_zero, List.set_cons_succ]
              refine wpAnyH_ready (rs := [10]) (by kernel_rfl) (by simp) ?_
              refine AllReadyH.cons rfl (fun K hK => ?_) ?_
              · refine step_u32s rfl _ _ _ rfl wc.heap.size _ la rfl HP9.out _ rfl [y] HS9.out (by simp; omega) HB9.out.size ?_
                intro v10 w10 hrow hg hfr
                obtain ⟨va10, vn10, vc10, rfl⟩ := hrow.slice3
                have HP10 := Lib.hid hrow
                have HB10 := Lib.hid (HB9.out.grown hg HB9.out.size (fun x hx => (HP9.out.lt x hx).1))
                clear hrow hg hfr
                refine hK.out _ _ ?_ (fun hHeld => ?_)
                · exact trivial
                clear hK K
                try simp only [List.getElem_toArray, List.getElem_cons_succ, List.getElem_cons_zero, Act.put, List.setIfInBounds_toArray, List.set_cons_zero, List.set_cons_succ]
                refine wpAnyH_take (i := 11) (v := ?_) rfl (by kernel_rfl) (by kernel_rfl) (by kernel_rfl) (fun _ _ _ h => h) (Or.inl ⟨by rfl, ?_⟩) hHeld ?_
                rotate_left
                · (intro w hSw; (try dsimp only at hSw); (try simp only [List.getElem_toArray, List.getElem_cons_succ, List.getElem_cons_zero]); go_simp <;> with_reducible rfl)
                try simp only [List.getElem_toArray, List.getElem_cons_succ, List.getElem_cons_zero, Act.put, List.setIfInBounds_toArray, List.set_cons_zero, List.set_cons_succ]
                refine wpAnyH_done (by kernel_rfl) ?_ _
                go_wp2_with fail
                go_ret
                exact ⟨_, rfl, by rw [HR.out]; exact HP10.out, HB10.out⟩
              exact AllReadyH.nil
            exact AllReadyH.nil
          exact AllReadyH.nil
        exact AllReadyH.nil
    · have HR := Lib.hid (branch_later hno (by rw [← hn, ← hh2]; exact hf))
      rw [← hn, ← hh2] at HR
      have IA := Lib.hid (fun (W : World) (hW : Below w.heap.size w W) => ih _ _ (i - (h2 : Int)) (by rw [List.length_drop]; omega) (half_drop h (h := h2) (by omega)) (by have := szs_dropL ts h2; omega) (by unfold In64 at *; omega) W (hw.trans (hW.mono hw.size)))
      have IB := Lib.hid (fun (W : World) (hW : Below w.heap.size w W) => Root_impl0 w0 hE _ _ _ (Nat.le_refl _) (half_take h (h := h2) (by omega)) (by have := szs_takeL ts h2; omega) W (hw.trans (hW.mono hw.size)))
      have hbl : (branch (ts.drop h2) (i - (h2 : Int))).length ≤ 1048576 := by have := branch_len (ts.drop h2) (i - (h2 : Int)); rw [List.length_drop] at this; omega
      have HWI := Lib.hid (show IntKind.i64.wrap (i - (h2 : Int)) = i - h2 from by simp [IntKind.wrap, IntKind.signed, IntKind.bits]; omega)
      generalize branch (ts.drop h2) (i - (h2 : Int)) = la at *
      generalize root (ts.take h2) = y at *
      generalize branch ts i = R at *
      have HH := Lib.hid hh2
      clear hn hl hout h1 hno ih h hsz hh2
      unfold In64 at hi
      go_enter Tryd.func27, Tryd.ntmps27
      go_wp2_with fail
      refine (within_yes _ _ _ _ (by omega) (by omega)).mono ?_
      rintro e w' ⟨rfl, hww⟩
      subst hww
      go_upto_region 3 with fail
      go_cut [5] (fun s wx => s = .int .i64 h2 ∧ wx = w')
      case first =>
        go_wp2_with fail
        go_meet
        exact ⟨by rw [HH.out]; go_num, rfl⟩
      case rest =>
        obtain ⟨rfl, rfl⟩ := hcut
        go_upto_region 6 with fail
        have HB0 := Lib.hid (show Below wc.heap.size wc wc.drew from (Below.refl _ _).drew)
        refine wp_region_held_drew (S := fun _ => True) (by kernel_rfl) trivial (fun hHeld => ?_)
        refine wpAnyH_take (i := 0) (v := ?_) rfl (by kernel_rfl) (by kernel_rfl) (by kernel_rfl) (fun _ _ _ h => h) (Or.inl ⟨by rfl, ?_⟩) hHeld ?_
        rotate_left
        · (intro w hSw; (try dsimp only at hSw); (try simp only [List.getElem_toArray, List.getElem_cons_succ, List.getElem_cons_zero]); go_simp <;> with_reducible rfl)
        try simp only [List.getElem_toArray, List.getElem_cons_succ, List.getElem_cons_zero, Act.put, List.setIfInBounds_toArray, List.set_cons_zero, List.set_cons_succ]
        refine wpAnyH_take (i := 1) (v := ?_) rfl (by kernel_rfl) (by kernel_rfl) (by kernel_rfl) (fun _ _ _ h => h) (Or.inl ⟨by rfl, ?_⟩) hHeld ?_
        rotate_left
        · (intro w hSw; (try dsimp only at hSw); (try simp only [List.getElem_toArray, List.getElem_cons_succ, List.getElem_cons_zero]); go_simp <;> with_reducible rfl)
        try simp only [List.getElem_toArray, List.getElem_cons_succ, List.getElem_cons_zero, Act.put, List.setIfInBounds_toArray, List.set_cons_zero, List.set_cons_succ]
        refine wpAnyH_take (i := 2) (v := .slice (if cap = h2 then a else Option.map (fun x => x.add (h2 * 5)) a) (n - h2) (cap - h2)) rfl (by kernel_rfl) (by kernel_rfl) (by kernel_rfl) (fun _ _ _ h => h) (Or.inl ⟨by rfl, ?_⟩) hHeld ?_
        · (intro w hSw; (try dsimp only at hSw); (try simp only [List.getElem_toArray, List.getElem_cons_succ, List.getElem_cons_zero]); first | (go_simp; done) | (go_simp; intro hc; exfalso; omega))
        try simp only [List.getElem_toArray, List.getElem_cons_succ, List.getElem_cons_zero, Act.put, List.setIfInBounds_toArray, List.set_cons_zero, List.set_cons_succ]
        refine wpAnyH_take (i := 3) (v := ?_) rfl (by kernel_rfl) (by kernel_rfl) (by kernel_rfl) (fun _ _ _ h => h) (Or.inl ⟨by rfl, ?_⟩) hHeld ?_
        rotate_left
        · (intro w hSw; (try dsimp only at hSw); (try simp only [List.getElem_toArray, List.getElem_cons_succ, List.getElem_cons_zero]); go_simp <;> with_reducible rfl)
        try simp only [List.getElem_toArray, List.getElem_cons_succ, List.getElem_cons_zero, Act.put, List.setIfInBounds_toArray, List.set_cons_zero, List.set_cons_succ]
        refine wpAnyH_take (i := 4) (v := ?_) rfl (by kernel_rfl) (by kernel_rfl) (by kernel_rfl) (fun _ _ _ h => h) (Or.inl ⟨by rfl, ?_⟩) hHeld ?_
        rotate_left
        · (intro w hSw; (try dsimp only at hSw); (try simp only [List.getElem_toArray, List.getElem_cons_succ, List.getElem_cons_zero]); go_simp <;> with_reducible rfl)
        try simp only [List.getElem_toArray, List.getElem_cons_succ, List.getElem_cons_zero, Act.put, List.setIfInBounds_toArray, List.set_cons_zero, List.set_cons_succ]
        refine wpAnyH_take (i := 5) (v := .int .i64 (i - h2)) rfl (by kernel_rfl) (by kernel_rfl) (by kernel_rfl) (fun _ _ _ h => h) (Or.inl ⟨by rfl, ?_⟩) hHeld ?_
        · (intro w hSw; (try dsimp only at hSw); (try simp only [List.getElem_toArray, List.getElem_cons_succ, List.getElem_cons_zero]); go_simp; rw [HWI.out])
        try simp only [List.getElem_toArray, List.getElem_cons_succ, List.getElem_cons_zero, Act.put, List.setIfInBounds_toArray, List.set_cons_zero, List.set_cons_succ]
        refine wpAnyH_take (i := 7) (v := ?_) rfl (by kernel_rfl) (by kernel_rfl) (by kernel_rfl) (fun _ _ _ h => h) (Or.inl ⟨by rfl, ?_⟩) hHeld ?_
        rotate_left
        · (intro w hSw; (try dsimp only at hSw); (try simp only [List.getElem_toArray, List.getElem_cons_succ, List.getElem_cons_zero]); go_simp <;> with_reducible rfl)
        try simp only [List.getElem_toArray, List.getElem_cons_succ, List.getElem_cons_zero, Act.put, List.setIfInBounds_toArray, List.set_cons_zero, List.set_cons_succ]
        refine wpAnyH_take (i := 8) (v := ?_) rfl (by kernel_rfl) (by kernel_rfl) (by kernel_rfl) (fun _ _ _ h => h) (Or.inl ⟨by rfl, ?_⟩) hHeld ?_
        rotate_left
        · (intro w hSw; (try dsimp only at hSw); (try simp only [List.getElem_toArray, List.getElem_cons_succ, List.getElem_cons_zero]); go_simp <;> with_reducible rfl)
        try simp only [List.getElem_toArray, List.getElem_cons_succ, List.getElem_cons_zero, Act.put, List.setIfInBounds_toArray, List.set_cons_zero, List.set_cons_succ]
        refine wpAnyH_take (i := 9) (v := .slice a h2 cap) rfl (by kernel_rfl) (by kernel_rfl) (by kernel_rfl) (fun _ _ _ h => h) (Or.inl ⟨by rfl, ?_⟩) hHeld ?_
        · (intro w hSw; (try dsimp only at hSw); (try simp only [List.getElem_toArray, List.getElem_cons_succ, List.getElem_cons_zero]); first | (go_simp; done) | (go_simp; intro hc; exfalso; omega))
        try simp only [List.getElem_toArray, List.getElem_cons_succ, List.getElem_cons_zero, Act.put, List.setIfInBounds_toArray, List.set_cons_zero, List.set_cons_succ]
        refine wpAnyH_ready (rs := [6]) (by kernel_rfl) (by simp) ?_
        refine AllReadyH.cons rfl (fun K hK => ?_) ?_
        · go_simp
          refine (IA.out _ HB0.out).mono ?_
          rintro e11 w11 ⟨v11, rfl, hrow, hb11⟩
          obtain ⟨va11, vn11, vc11, rfl⟩ := hrow.slice3
          have HP11 := Lib.hid (hrow.lower HB0.out.size)
          have HB11 := Lib.hid (HB0.out.trans (hb11.mono HB0.out.size))
          clear hb11 hrow
          refine hK.out _ _ ?_ (fun hHeld => ?_)
          · exact trivial
          clear hK K
          try simp only [List.getElem_toArray, List.getElem_cons_succ, List.getElem_cons_zero, Act.put, List.setIfInBounds_toArray, List.set_cons_zero, List.set_cons_succ]
          refine wpAnyH_ready (rs := [10]) (by kernel_rfl) (by simp) ?_
          refine AllReadyH.cons rfl (fun K hK => ?_) ?_
          · go_simp
            refine (IB.out _ HB11.out).mono ?_
            rintro e12 w12 ⟨rfl, hb12⟩
            have HP12 := Lib.hid (HP11.out.stay2 hb12)
            have HB12 := Lib.hid (HB11.out.trans (hb12.mono HB11.out.size))
            clear hb12
            refine hK.out _ _ ?_ (fun hHeld => ?_)
            · exact trivial
            clear hK K
            try simp only [List.getElem_toArray, List.getElem_cons_succ, List.getElem_cons_zero, Act.put, List.setIfInBounds_toArray, List.set_cons_zero, List.set_cons_succ]
            refine wpAnyH_ready (rs := [11]) (by kernel_rfl) (by simp) ?_
            refine AllReadyH.cons rfl (fun K hK => ?_) ?_
            · have HP13 := Lib.hid (HP12.out.stay2 (show Below w12.heap.size w12 (w12.alloc (.cells #[.int .u32 y] 32)) from (Below.refl _ _).alloc (Nat.le_refl _) _))
              have HB13 := Lib.hid (show Below wc.heap.size wc (w12.alloc (.cells #[.int .u32 y] 32)) from HB12.out.alloc HB12.out.size _)
              have HS13 := Lib.hid (src_u32_at (w := (w12.alloc (.cells #[.int .u32 y] 32))) (b := w12.heap.size) y (heap_alloc_new w12 (.cells #[.int .u32 y] 32)))
              go_simp
              refine hK.out _ _ ?_ (fun hHeld => ?_)
              · exact trivial
              clear hK K
              try simp only [List.getElem_toArray, List.getElem_cons_succ, List.getElem_cons_zero, Act.put, List.setIfInBounds_toArray, List.set_cons_zero, List.set_cons_succ]
              refine wpAnyH_ready (rs := [12]) (by kernel_rfl) (by simp) ?_
              refine AllReadyH.cons rfl (fun K hK => ?_) ?_
              · refine step_u32s rfl _ _ _ rfl wc.heap.size _ la rfl HP13.out _ rfl [y] HS13.out (by simp; omega) HB13.out.size ?_
                intro v14 w14 hrow hg hfr
                obtain ⟨va14, vn14, vc14, rfl⟩ := hrow.slice3
                have HP14 := Lib.hid hrow
                have HB14 := Lib.hid (HB13.out.grown hg HB13.out.size (fun x hx => (HP13.out.lt x hx).1))
                clear hrow hg hfr
                refine hK.out _ _ ?_ (fun hHeld => ?_)
                · exact trivial
                clear hK K
                try simp only [List.getElem_toArray, List.getElem_cons_succ, List.getElem_cons_zero, Act.put, List.setIfInBounds_toArray, List.set_cons_zero, List.set_cons_succ]
                refine wpAnyH_take (i := 13) (v := ?_) rfl (by kernel_rfl) (by kernel_rfl) (by kernel_rfl) (fun _ _ _ h => h) (Or.inl ⟨by rfl, ?_⟩) hHeld ?_
                rotate_left
                · (intro w hSw; (try dsimp only at hSw); (try simp only [List.getElem_toArray, List.getElem_cons_succ, List.getElem_cons_zero]); go_simp <;> with_reducible rfl)
                try simp only [List.getElem_toArray, List.getElem_cons_succ, List.getElem_cons_zero, Act.put, List.setIfInBounds_toArray, List.set_cons_zero, List.set_cons_succ]
                refine wpAnyH_done (by kernel_rfl) ?_ _
                go_wp2_with fail
                go_ret
                exact ⟨_, rfl, by rw [HR.out]; exact HP14.out, HB14.out⟩
              exact AllReadyH.nil
            exact AllReadyH.nil
          exact AllReadyH.nil
        exact AllReadyH.nil
set_option maxHeartbeats 4000000 in
theorem Branch_spec0 (w0 : World) : ∀ (N : Nat) (v : Value) (ts : List V) (i : Int), ts.length ≤ N → RepS w0 v ts → szs ts ≤ 1048576 → In64 i → ∀ (w : World), Below w0.heap.size w0 w → Calls Tryd.prog 26 #[v, .int .i64 i] w (U32sRet w (branch ts i)) := by
  intro N
  induction N with
  | zero =>
    intro v ts i hl h hsz hi w hw
    obtain ⟨a, cap, rfl⟩ := h.slice
    have hl0 : ts.length = 0 := by omega
    have HR := Lib.hid (branch_out (l := ts) (i := i) (by omega))
    rw [hl0]
    clear h hsz hl hl0 hw
    generalize branch ts i = R at *
    unfold In64 at hi
    go_enter Tryd.func26, Tryd.ntmps26
    go_wp2_with fail
    refine (l01In_no _ _ _ _ (by omega)).mono ?_
    rintro e w' ⟨rfl, rfl⟩
    go_wp2_with fail
    go_ret
    exact ⟨_, rfl, by rw [HR.out]; exact URow.made0 (Nat.le_refl _), (by (with_reducible (repeat' (first | exact Below.refl _ _ | refine below_alloc ?_ _ ?_ | refine Below.setCell ?_ ?_ _ | refine Below.drew ?_ | refine below_drewN ?_ _ | refine below_step ?_ (by assumption) ?_ | refine below_mark ?_ (by assumption) ?_))); all_goals (first | omega | (simp; done) | (simp; omega)))⟩
  | succ N ih =>
    intro v ts i hl h hsz hi w hw
    obtain ⟨a, cap, rfl⟩ := h.slice
    have hcap : ts.length ≤ cap ∧ cap ≤ 9223372036854775807 := by
      obtain ⟨a', b, off, cap', e, ha, hc, hm, sls, hel⟩ := h.toF.opened
      injection e with e1 e2 e3
      omega
    have hn2 : ts.length ≤ 1048576 := by have := szs_length ts; omega
    by_cases hout : i < 0 ∨ (ts.length : Int) - 1 < i
    · have HR := Lib.hid (branch_out (l := ts) (i := i) (by omega))
      clear h hsz hl hw ih
      generalize branch ts i = R at *
      generalize ts.length = n at *
      unfold In64 at hi
      go_enter Tryd.func26, Tryd.ntmps26
      go_wp2_with fail
      refine (l01In_no _ _ _ _ (by omega)).mono ?_
      rintro e w' ⟨rfl, rfl⟩
      go_wp2_with fail
      go_ret
      exact ⟨_, rfl, by rw [HR.out]; exact URow.made0 (Nat.le_refl _), (by (with_reducible (repeat' (first | exact Below.refl _ _ | refine below_alloc ?_ _ ?_ | refine Below.setCell ?_ ?_ _ | refine Below.drew ?_ | refine below_drewN ?_ _ | refine below_step ?_ (by assumption) ?_ | refine below_mark ?_ (by assumption) ?_))); all_goals (first | omega | (simp; done) | (simp; omega)))⟩
    by_cases h1 : ts.length = 1
    · have HR := Lib.hid (branch_out (l := ts) (i := i) (by omega))
      rw [h1]
      rw [h1] at hout
      clear h hsz hl hw ih hcap hn2 h1
      generalize branch ts i = R at *
      unfold In64 at hi
      go_enter Tryd.func26, Tryd.ntmps26
      go_wp2_with fail
      refine (l01In_yes _ _ _ _ (by omega) (by omega)).mono ?_
      rintro e w' ⟨rfl, rfl⟩
      go_wp2_with fail
      go_ret
      exact ⟨_, rfl, by rw [HR.out]; exact URow.made0 (Nat.le_refl _), (by (with_reducible (repeat' (first | exact Below.refl _ _ | refine below_alloc ?_ _ ?_ | refine Below.setCell ?_ ?_ _ | refine Below.drew ?_ | refine below_drewN ?_ _ | refine below_step ?_ (by assumption) ?_ | refine below_mark ?_ (by assumption) ?_))); all_goals (first | omega | (simp; done) | (simp; omega)))⟩
    obtain ⟨n, hn⟩ : ∃ n, n = ts.length := ⟨_, rfl⟩
    obtain ⟨h2, hh2⟩ : ∃ h2, h2 = (n + 1) / 2 := ⟨_, rfl⟩
    have hno : ¬ (i < 0 ∨ (ts.length : Int) - 1 < i ∨ ts.length = 1) := by omega
    rw [← hn] at h hcap hn2 ⊢
    have hi0 : 0 ≤ i := by omega
    have hi1 : i ≤ (n : Int) - 1 := by omega
    have hlt : h2 < n ∧ 1 ≤ h2 := by omega
    obtain ⟨hlt, hh1⟩ := hlt
    obtain ⟨hcap, hcm⟩ := hcap
    have hn3 : 2 ≤ n := by omega
    by_cases hf : i < (h2 : Int)
    · have HR := Lib.hid (branch_first hno (by rw [← hn, ← hh2]; exact hf))
      rw [← hn, ← hh2] at HR
      have IA := Lib.hid (fun (W : World) (hW : Below w.heap.size w W) => ih _ _ i (by rw [List.length_take]; omega) (half_take h (h := h2) (by omega)) (by have := szs_takeL ts h2; omega) (by unfold In64 at *; omega) W (hw.trans (hW.mono hw.size)))
      have IB := Lib.hid (fun (W : World) (hW : Below w.heap.size w W) => Root_spec0 w0 _ _ _ (Nat.le_refl _) (half_drop h (h := h2) (by omega)) (by have := szs_dropL ts h2; omega) W (hw.trans (hW.mono hw.size)))
      have hbl : (branch (ts.take h2) i).length ≤ 1048576 := by have := branch_len (ts.take h2) i; rw [List.length_take] at this; omega
      have HWI := Lib.hid (show IntKind.i64.wrap (i - (h2 : Int)) = i - h2 from by simp [IntKind.wrap, IntKind.signed, IntKind.bits]; omega)
      generalize branch (ts.take h2) i = la at *
      generalize root (ts.drop h2) = y at *
      generalize branch ts i = R at *
      have HH := Lib.hid hh2
      clear hn hl hout h1 hno ih h hsz hh2
      unfold In64 at hi
      go_enter Tryd.func26, Tryd.ntmps26
      go_wp2_with fail
      refine (l01In_yes _ _ _ _ (by omega) (by omega)).mono ?_
      rintro e w' ⟨rfl, hww⟩
      subst hww
      go_upto_region 3 with fail
      go_cut [5] (fun s wx => s = .int .i64 h2 ∧ wx = w')
      case first =>
        go_wp2_with fail
        go_meet
        exact ⟨by rw [HH.out]; go_num, rfl⟩
      case rest =>
        obtain ⟨rfl, rfl⟩ := hcut
        go_upto_region 5 with fail
        have HB0 := Lib.hid (show Below wc.heap.size wc wc.drew from (Below.refl _ _).drew)
        refine wp_region_held_drew (S := fun _ => True) (by kernel_rfl) trivial (fun hHeld => ?_)
        refine wpAnyH_take (i := 0) (v := ?_) rfl (by kernel_rfl) (by kernel_rfl) (by kernel_rfl) (fun _ _ _ h => h) (Or.inl ⟨by rfl, ?_⟩) hHeld ?_
        rotate_left
        · (intro w hSw; (try dsimp only at hSw); (try simp only [List.getElem_toArray, List.getElem_cons_succ, List.getElem_cons_zero]); go_simp <;> with_reducible rfl)
        try simp only [List.getElem_toArray, List.getElem_cons_succ, List.getElem_cons_zero, Act.put, List.setIfInBounds_toArray, List.set_cons_zero, List.set_cons_succ]
        refine wpAnyH_take (i := 1) (v := ?_) rfl (by kernel_rfl) (by kernel_rfl) (by kernel_rfl) (fun _ _ _ h => h) (Or.inl ⟨by rfl, ?_⟩) hHeld ?_
        rotate_left
        · (intro w hSw; (try dsimp only at hSw); (try simp only [List.getElem_toArray, List.getElem_cons_succ, List.getElem_cons_zero]); go_simp <;> with_reducible rfl)
        try simp only [List.getElem_toArray, List.getElem_cons_succ, List.getElem_cons_zero, Act.put, List.setIfInBounds_toArray, List.set_cons_zero, List.set_cons_succ]
        refine wpAnyH_take (i := 2) (v := .slice a h2 cap) rfl (by kernel_rfl) (by kernel_rfl) (by kernel_rfl) (fun _ _ _ h => h) (Or.inl ⟨by rfl, ?_⟩) hHeld ?_
        · (intro w hSw; (try dsimp only at hSw); (try simp only [List.getElem_toArray, List.getElem_cons_succ, List.getElem_cons_zero]); first | (go_simp; done) | (go_simp; intro hc; exfalso; omega))
        try simp only [List.getElem_toArray, List.getElem_cons_succ, List.getElem_cons_zero, Act.put, List.setIfInBounds_toArray, List.set_cons_zero, List.set_cons_succ]
        refine wpAnyH_take (i := 3) (v := ?_) rfl (by kernel_rfl) (by kernel_rfl) (by kernel_rfl) (fun _ _ _ h => h) (Or.inl ⟨by rfl, ?_⟩) hHeld ?_
        rotate_left
        · (intro w hSw; (try dsimp only at hSw); (try simp only [List.getElem_toArray, List.getElem_cons_succ, List.getElem_cons_zero]); go_simp <;> with_reducible rfl)
        try simp only [List.getElem_toArray, List.getElem_cons_succ, List.getElem_cons_zero, Act.put, List.setIfInBounds_toArray, List.set_cons_zero, List.set_cons_succ]
        refine wpAnyH_take (i := 5) (v := ?_) rfl (by kernel_rfl) (by kernel_rfl) (by kernel_rfl) (fun _ _ _ h => h) (Or.inl ⟨by rfl, ?_⟩) hHeld ?_
        rotate_left
        · (intro w hSw; (try dsimp only at hSw); (try simp only [List.getElem_toArray, List.getElem_cons_succ, List.getElem_cons_zero]); go_simp <;> with_reducible rfl)
        try simp only [List.getElem_toArray, List.getElem_cons_succ, List.getElem_cons_zero, Act.put, List.setIfInBounds_toArray, List.set_cons_zero, List.set_cons_succ]
        refine wpAnyH_take (i := 6) (v := ?_) rfl (by kernel_rfl) (by kernel_rfl) (by kernel_rfl) (fun _ _ _ h => h) (Or.inl ⟨by rfl, ?_⟩) hHeld ?_
        rotate_left
        · (intro w hSw; (try dsimp only at hSw); (try simp only [List.getElem_toArray, List.getElem_cons_succ, List.getElem_cons_zero]); go_simp <;> with_reducible rfl)
        try simp only [List.getElem_toArray, List.getElem_cons_succ, List.getElem_cons_zero, Act.put, List.setIfInBounds_toArray, List.set_cons_zero, List.set_cons_succ]
        refine wpAnyH_take (i := 7) (v := .slice (if cap = h2 then a else Option.map (fun x => x.add (h2 * 5)) a) (n - h2) (cap - h2)) rfl (by kernel_rfl) (by kernel_rfl) (by kernel_rfl) (fun _ _ _ h => h) (Or.inl ⟨by rfl, ?_⟩) hHeld ?_
        · (intro w hSw; (try dsimp only at hSw); (try simp only [List.getElem_toArray, List.getElem_cons_succ, List.getElem_cons_zero]); first | (go_simp; done) | (go_simp; intro hc; exfalso; omega))
        try simp only [List.getElem_toArray, List.getElem_cons_succ, List.getElem_cons_zero, Act.put, List.setIfInBounds_toArray, List.set_cons_zero, List.set_cons_succ]
        refine wpAnyH_ready (rs := [4]) (by kernel_rfl) (by simp) ?_
        refine AllReadyH.cons rfl (fun K hK => ?_) ?_
        · go_simp
          refine (IA.out _ HB0.out).mono ?_
          rintro e15 w15 ⟨v15, rfl, hrow, hb15⟩
          obtain ⟨va15, vn15, vc15, rfl⟩ := hrow.slice3
          have HP15 := Lib.hid (hrow.lower HB0.out.size)
          have HB15 := Lib.hid (HB0.out.trans (hb15.mono HB0.out.size))
          clear hb15 hrow
          refine hK.out _ _ ?_ (fun hHeld => ?_)
          · exact trivial
          clear hK K
          try simp only [List.getElem_toArray, List.getElem_cons_succ, List.getElem_cons_zero, Act.put, List.setIfInBounds_toArray, List.set_cons_zero, List.set_cons_succ]
          refine wpAnyH_ready (rs := [8]) (by kernel_rfl) (by simp) ?_
          refine AllReadyH.cons rfl (fun K hK => ?_) ?_
          · go_simp
            refine (IB.out _ HB15.out).mono ?_
            rintro e16 w16 ⟨rfl, hb16⟩
            have HP16 := Lib.hid (HP15.out.stay2 hb16)
            have HB16 := Lib.hid (HB15.out.trans (hb16.mono HB15.out.size))
            clear hb16
            refine hK.out _ _ ?_ (fun hHeld => ?_)
            · exact trivial
            clear hK K
            try simp only [List.getElem_toArray, List.getElem_cons_succ, List.getElem_cons_zero, Act.put, List.setIfInBounds_toArray, List.set_cons_zero, List.set_cons_succ]
            refine wpAnyH_ready (rs := [9]) (by kernel_rfl) (by simp) ?_
            refine AllReadyH.cons rfl (fun K hK => ?_) ?_
            · have HP17 := Lib.hid (HP16.out.stay2 (show Below w16.heap.size w16 (w16.alloc (.cells #[.int .u32 y] 32)) from (Below.refl _ _).alloc (Nat.le_refl _) _))
              have HB17 := Lib.hid (show Below wc.heap.size wc (w16.alloc (.cells #[.int .u32 y] 32)) from HB16.out.alloc HB16.out.size _)
              have HS17 := Lib.hid (src_u32_at (w := (w16.alloc (.cells #[.int .u32 y] 32))) (b := w16.heap.size) y (heap_alloc_new w16 (.cells #[.int .u32 y] 32)))
              go_simp
              refine hK.out _ _ ?_ (fun hHeld => ?_)
              · exact trivial
              clear hK K
              try simp only [List.getElem_toArray, List.getElem_cons_succ, List.getElem_cons_zero, Act.put, List.setIfInBounds_toArray, List.set_cons_zero, List.set_cons_succ]
              refine wpAnyH_ready (rs := [10]) (by kernel_rfl) (by simp) ?_
              refine AllReadyH.cons rfl (fun K hK => ?_) ?_
              · refine step_u32s rfl _ _ _ rfl wc.heap.size _ la rfl HP17.out _ rfl [y] HS17.out (by simp; omega) HB17.out.size ?_
                intro v18 w18 hrow hg hfr
                obtain ⟨va18, vn18, vc18, rfl⟩ := hrow.slice3
                have HP18 := Lib.hid hrow
                have HB18 := Lib.hid (HB17.out.grown hg HB17.out.size (fun x hx => (HP17.out.lt x hx).1))
                clear hrow hg hfr
                refine hK.out _ _ ?_ (fun hHeld => ?_)
                · exact trivial
                clear hK K
                try simp only [List.getElem_toArray, List.getElem_cons_succ, List.getElem_cons_zero, Act.put, List.setIfInBounds_toArray, List.set_cons_zero, List.set_cons_succ]
                refine wpAnyH_take (i := 11) (v := ?_) rfl (by kernel_rfl) (by kernel_rfl) (by kernel_rfl) (fun _ _ _ h => h) (Or.inl ⟨by rfl, ?_⟩) hHeld ?_
                rotate_left
                · (intro w hSw; (try dsimp only at hSw); (try simp only [List.getElem_toArray, List.getElem_cons_succ, List.getElem_cons_zero]); go_simp <;> with_reducible rfl)
                try simp only [List.getElem_toArray, List.getElem_cons_succ, List.getElem_cons_zero, Act.put, List.setIfInBounds_toArray, List.set_cons_zero, List.set_cons_succ]
                refine wpAnyH_done (by kernel_rfl) ?_ _
                go_wp2_with fail
                go_ret
                exact ⟨_, rfl, by rw [HR.out]; exact HP18.out, HB18.out⟩
              exact AllReadyH.nil
            exact AllReadyH.nil
          exact AllReadyH.nil
        exact AllReadyH.nil
    · have HR := Lib.hid (branch_later hno (by rw [← hn, ← hh2]; exact hf))
      rw [← hn, ← hh2] at HR
      have IA := Lib.hid (fun (W : World) (hW : Below w.heap.size w W) => ih _ _ (i - (h2 : Int)) (by rw [List.length_drop]; omega) (half_drop h (h := h2) (by omega)) (by have := szs_dropL ts h2; omega) (by unfold In64 at *; omega) W (hw.trans (hW.mono hw.size)))
      have IB := Lib.hid (fun (W : World) (hW : Below w.heap.size w W) => Root_spec0 w0 _ _ _ (Nat.le_refl _) (half_take h (h := h2) (by omega)) (by have := szs_takeL ts h2; omega) W (hw.trans (hW.mono hw.size)))
      have hbl : (branch (ts.drop h2) (i - (h2 : Int))).length ≤ 1048576 := by have := branch_len (ts.drop h2) (i - (h2 : Int)); rw [List.length_drop] at this; omega
      have HWI := Lib.hid (show IntKind.i64.wrap (i - (h2 : Int)) = i - h2 from by simp [IntKind.wrap, IntKind.signed, IntKind.bits]; omega)
      generalize branch (ts.drop h2) (i - (h2 : Int)) = la at *
      generalize root (ts.take h2) = y at *
      generalize branch ts i = R at *
      have HH := Lib.hid hh2
      clear hn hl hout h1 hno ih h hsz hh2
      unfold In64 at hi
      go_enter Tryd.func26, Tryd.ntmps26
      go_wp2_with fail
      refine (l01In_yes _ _ _ _ (by omega) (by omega)).mono ?_
      rintro e w' ⟨rfl, hww⟩
      subst hww
      go_upto_region 3 with fail
      go_cut [5] (fun s wx => s = .int .i64 h2 ∧ wx = w')
      case first =>
        go_wp2_with fail
        go_meet
        exact ⟨by rw [HH.out]; go_num, rfl⟩
      case rest =>
        obtain ⟨rfl, rfl⟩ := hcut
        go_upto_region 6 with fail
        have HB0 := Lib.hid (show Below wc.heap.size wc wc.drew from (Below.refl _ _).drew)
        refine wp_region_held_drew (S := fun _ => True) (by kernel_rfl) trivial (fun hHeld => ?_)
        refine wpAnyH_take (i := 0) (v := ?_) rfl (by kernel_rfl) (by kernel_rfl) (by kernel_rfl) (fun _ _ _ h => h) (Or.inl ⟨by rfl, ?_⟩) hHeld ?_
        rotate_left
        · (intro w hSw; (try dsimp only at hSw); (try simp only [List.getElem_toArray, List.getElem_cons_succ, List.getElem_cons_zero]); go_simp <;> with_reducible rfl)
        try simp only [List.getElem_toArray, List.getElem_cons_succ, List.getElem_cons_zero, Act.put, List.setIfInBounds_toArray, List.set_cons_zero, List.set_cons_succ]
        refine wpAnyH_take (i := 1) (v := ?_) rfl (by kernel_rfl) (by kernel_rfl) (by kernel_rfl) (fun _ _ _ h => h) (Or.inl ⟨by rfl, ?_⟩) hHeld ?_
        rotate_left
        · (intro w hSw; (try dsimp only at hSw); (try simp only [List.getElem_toArray, List.getElem_cons_succ, List.getElem_cons_zero]); go_simp <;> with_reducible rfl)
        try simp only [List.getElem_toArray, List.getElem_cons_succ, List.getElem_cons_zero, Act.put, List.setIfInBounds_toArray, List.set_cons_zero, List.set_cons_succ]
        refine wpAnyH_take (i := 2) (v := .slice (if cap = h2 then a else Option.map (fun x => x.add (h2 * 5)) a) (n - h2) (cap - h2)) rfl (by kernel_rfl) (by kernel_rfl) (by kernel_rfl) (fun _ _ _ h => h) (Or.inl ⟨by rfl, ?_⟩) hHeld ?_
        · (intro w hSw; (try dsimp only at hSw); (try simp only [List.getElem_toArray, List.getElem_cons_succ, List.getElem_cons_zero]); first | (go_simp; done) | (go_simp; intro hc; exfalso; omega))
        try simp only [List.getElem_toArray, List.getElem_cons_succ, List.getElem_cons_zero, Act.put, List.setIfInBounds_toArray, List.set_cons_zero, List.set_cons_succ]
        refine wpAnyH_take (i := 3) (v := ?_) rfl (by kernel_rfl) (by kernel_rfl) (by kernel_rfl) (fun _ _ _ h => h) (Or.inl ⟨by rfl, ?_⟩) hHeld ?_
        rotate_left
        · (intro w hSw; (try dsimp only at hSw); (try simp only [List.getElem_toArray, List.getElem_cons_succ, List.getElem_cons_zero]); go_simp <;> with_reducible rfl)
        try simp only [List.getElem_toArray, List.getElem_cons_succ, List.getElem_cons_zero, Act.put, List.setIfInBounds_toArray, List.set_cons_zero, List.set_cons_succ]
        refine wpAnyH_take (i := 4) (v := ?_) rfl (by kernel_rfl) (by kernel_rfl) (by kernel_rfl) (fun _ _ _ h => h) (Or.inl ⟨by rfl, ?_⟩) hHeld ?_
        rotate_left
        · (intro w hSw; (try dsimp only at hSw); (try simp only [List.getElem_toArray, List.getElem_cons_succ, List.getElem_cons_zero]); go_simp <;> with_reducible rfl)
        try simp only [List.getElem_toArray, List.getElem_cons_succ, List.getElem_cons_zero, Act.put, List.setIfInBounds_toArray, List.set_cons_zero, List.set_cons_succ]
        refine wpAnyH_take (i := 5) (v := .int .i64 (i - h2)) rfl (by kernel_rfl) (by kernel_rfl) (by kernel_rfl) (fun _ _ _ h => h) (Or.inl ⟨by rfl, ?_⟩) hHeld ?_
        · (intro w hSw; (try dsimp only at hSw); (try simp only [List.getElem_toArray, List.getElem_cons_succ, List.getElem_cons_zero]); go_simp; rw [HWI.out])
        try simp only [List.getElem_toArray, List.getElem_cons_succ, List.getElem_cons_zero, Act.put, List.setIfInBounds_toArray, List.set_cons_zero, List.set_cons_succ]
        refine wpAnyH_take (i := 7) (v := ?_) rfl (by kernel_rfl) (by kernel_rfl) (by kernel_rfl) (fun _ _ _ h => h) (Or.inl ⟨by rfl, ?_⟩) hHeld ?_
        rotate_left
        · (intro w hSw; (try dsimp only at hSw); (try simp only [List.getElem_toArray, List.getElem_cons_succ, List.getElem_cons_zero]); go_simp <;> with_reducible rfl)
        try simp only [List.getElem_toArray, List.getElem_cons_succ, List.getElem_cons_zero, Act.put, List.setIfInBounds_toArray, List.set_cons_zero, List.set_cons_succ]
        refine wpAnyH_take (i := 8) (v := ?_) rfl (by kernel_rfl) (by kernel_rfl) (by kernel_rfl) (fun _ _ _ h => h) (Or.inl ⟨by rfl, ?_⟩) hHeld ?_
        rotate_left
        · (intro w hSw; (try dsimp only at hSw); (try simp only [List.getElem_toArray, List.getElem_cons_succ, List.getElem_cons_zero]); go_simp <;> with_reducible rfl)
        try simp only [List.getElem_toArray, List.getElem_cons_succ, List.getElem_cons_zero, Act.put, List.setIfInBounds_toArray, List.set_cons_zero, List.set_cons_succ]
        refine wpAnyH_take (i := 9) (v := .slice a h2 cap) rfl (by kernel_rfl) (by kernel_rfl) (by kernel_rfl) (fun _ _ _ h => h) (Or.inl ⟨by rfl, ?_⟩) hHeld ?_
        · (intro w hSw; (try dsimp only at hSw); (try simp only [List.getElem_toArray, List.getElem_cons_succ, List.getElem_cons_zero]); first | (go_simp; done) | (go_simp; intro hc; exfalso; omega))
        try simp only [List.getElem_toArray, List.getElem_cons_succ, List.getElem_cons_zero, Act.put, List.setIfInBounds_toArray, List.set_cons_zero, List.set_cons_succ]
        refine wpAnyH_ready (rs := [6]) (by kernel_rfl) (by simp) ?_
        refine AllReadyH.cons rfl (fun K hK => ?_) ?_
        · go_simp
          refine (IA.out _ HB0.out).mono ?_
          rintro e19 w19 ⟨v19, rfl, hrow, hb19⟩
          obtain ⟨va19, vn19, vc19, rfl⟩ := hrow.slice3
          have HP19 := Lib.hid (hrow.lower HB0.out.size)
          have HB19 := Lib.hid (HB0.out.trans (hb19.mono HB0.out.size))
          clear hb19 hrow
          refine hK.out _ _ ?_ (fun hHeld => ?_)
          · exact trivial
          clear hK K
          try simp only [List.getElem_toArray, List.getElem_cons_succ, List.getElem_cons_zero, Act.put, List.setIfInBounds_toArray, List.set_cons_zero, List.set_cons_succ]
          refine wpAnyH_ready (rs := [10]) (by kernel_rfl) (by simp) ?_
          refine AllReadyH.cons rfl (fun K hK => ?_) ?_
          · go_simp
            refine (IB.out _ HB19.out).mono ?_
            rintro e20 w20 ⟨rfl, hb20⟩
            have HP20 := Lib.hid (HP19.out.stay2 hb20)
            have HB20 := Lib.hid (HB19.out.trans (hb20.mono HB19.out.size))
            clear hb20
            refine hK.out _ _ ?_ (fun hHeld => ?_)
            · exact trivial
            clear hK K
            try simp only [List.getElem_toArray, List.getElem_cons_succ, List.getElem_cons_zero, Act.put, List.setIfInBounds_toArray, List.set_cons_zero, List.set_cons_succ]
            refine wpAnyH_ready (rs := [11]) (by kernel_rfl) (by simp) ?_
            refine AllReadyH.cons rfl (fun K hK => ?_) ?_
            · have HP21 := Lib.hid (HP20.out.stay2 (show Below w20.heap.size w20 (w20.alloc (.cells #[.int .u32 y] 32)) from (Below.refl _ _).alloc (Nat.le_refl _) _))
              have HB21 := Lib.hid (show Below wc.heap.size wc (w20.alloc (.cells #[.int .u32 y] 32)) from HB20.out.alloc HB20.out.size _)
              have HS21 := Lib.hid (src_u32_at (w := (w20.alloc (.cells #[.int .u32 y] 32))) (b := w20.heap.size) y (heap_alloc_new w20 (.cells #[.int .u32 y] 32)))
              go_simp
              refine hK.out _ _ ?_ (fun hHeld => ?_)
              · exact trivial
              clear hK K
              try simp only [List.getElem_toArray, List.getElem_cons_succ, List.getElem_cons_zero, Act.put, List.setIfInBounds_toArray, List.set_cons_zero, List.set_cons_succ]
              refine wpAnyH_ready (rs := [12]) (by kernel_rfl) (by simp) ?_
              refine AllReadyH.cons rfl (fun K hK => ?_) ?_
              · refine step_u32s rfl _ _ _ rfl wc.heap.size _ la rfl HP21.out _ rfl [y] HS21.out (by simp; omega) HB21.out.size ?_
                intro v22 w22 hrow hg hfr
                obtain ⟨va22, vn22, vc22, rfl⟩ := hrow.slice3
                have HP22 := Lib.hid hrow
                have HB22 := Lib.hid (HB21.out.grown hg HB21.out.size (fun x hx => (HP21.out.lt x hx).1))
                clear hrow hg hfr
                refine hK.out _ _ ?_ (fun hHeld => ?_)
                · exact trivial
                clear hK K
                try simp only [List.getElem_toArray, List.getElem_cons_succ, List.getElem_cons_zero, Act.put, List.setIfInBounds_toArray, List.set_cons_zero, List.set_cons_succ]
                refine wpAnyH_take (i := 13) (v := ?_) rfl (by kernel_rfl) (by kernel_rfl) (by kernel_rfl) (fun _ _ _ h => h) (Or.inl ⟨by rfl, ?_⟩) hHeld ?_
                rotate_left
                · (intro w hSw; (try dsimp only at hSw); (try simp only [List.getElem_toArray, List.getElem_cons_succ, List.getElem_cons_zero]); go_simp <;> with_reducible rfl)
                try simp only [List.getElem_toArray, List.getElem_cons_succ, List.getElem_cons_zero, Act.put, List.setIfInBounds_toArray, List.set_cons_zero, List.set_cons_succ]
                refine wpAnyH_done (by kernel_rfl) ?_ _
                go_wp2_with fail
                go_ret
                exact ⟨_, rfl, by rw [HR.out]; exact HP22.out, HB22.out⟩
              exact AllReadyH.nil
            exact AllReadyH.nil
          exact AllReadyH.nil
        exact AllReadyH.nil
end Go.Proofs.YtfjehhdahpbbgaaDoor
namespace Go.Proofs.YtfjehhdahpbbgaaDoor
set_option linter.unusedSimpArgs false
set_option linter.unusedVariables false
set_option maxRecDepth 100000
open Go.ChangeShapes Go.WideShapes Go.ChangeAt Go.RowKit Go.Lib
open Go.ChangeMaps (open_string shut_string)
theorem Branch_spec (w0 : World) (v : Value) (ts : List V) (h : RepS w0 v ts) (hz : szs ts ≤ 1048576) (i : Int) (hi : In64 i) (w : World) (hw : Below w0.heap.size w0 w) :
    Calls Tryd.prog 26 #[v, .int .i64 i] w (U32sRet w (branch ts i)) := Branch_spec0 w0 _ v ts i (Nat.le_refl _) h hz hi w hw
theorem Branch_impl (w0 : World) (v : Value) (ts : List V) (h : RepS w0 v ts) (hz : szs ts ≤ 1048576) (i : Int) (hi : In64 i) (w : World) (hw : Below w0.heap.size w0 w) (hE : Env w0) :
    Calls Tryd.prog 27 #[v, .int .i64 i] w (U32sRet w (branch ts i)) := Branch_impl0 w0 hE _ v ts i (Nat.le_refl _) h hz hi w hw
set_option maxHeartbeats 8000000 in
theorem walk_FnExactBranch {w00 : World} (v0 : Value) (t0 : List V) (hv0 : RepS w00 v0 t0) (t1 : Int) (hv10 : (Lit.int .i64 t1).wf = true) (w : World) (hww : w = w00) (hE : Env w) : Calls Tryd.prog 7 #[v0, .int .i64 t1] w (LawRet w) := by
  subst hww
  have hv1 : In64 t1 := in64_of_wf hv10
  have SZ0 := Lib.hid (fun w' (hh : Below w.heap.size w w') (m : Int) (h0 : 0 ≤ m) (h1 : m ≤ 1048576) => sz_list w v0 t0 hv0 w' m h0 h1 hh)
  have TO0 := Lib.hid (fun w' (hh : Below w.heap.size w w') (hz : szs t0 ≤ 1048576) => to_list w v0 t0 hv0 hz w' hh)
  have EQ0 := Lib.hid (fun w1 x y (h1 : RepS w1 x t0) (h2 : RepS w1 y t0) => eq_listB w1 x y t0 h1 h2 w1 (Below.refl _ _))
  have KS := Lib.hid (fun w1 x0 (h0 : RepS w1 x0 t0) (z0 : szs t0 ≤ 1048576) => Branch_spec w1 x0 t0 h0 z0 t1 hv1 w1 (Below.refl _ _))
  have KI := Lib.hid (fun w1 x0 (h0 : RepS w1 x0 t0) (z0 : szs t0 ≤ 1048576) (hh : Below w.heap.size w w1) => Branch_impl w1 x0 t0 h0 z0 t1 hv1 w1 (Below.refl _ _) (Env.keep hE hh))
  clear hE
  have HCN0 := Lib.hid (fun (h : szs t0 ≤ 1048576) => cnts_list_le h)
  have HR0 := Lib.hid (fun (h : szs t0 ≤ 1048576) => show (branch t0 t1).length ≤ 1048576 from Nat.le_trans (branch_len t0 t1) (Nat.le_trans (szs_length t0) h))
  obtain ⟨va0, vc0, rfl⟩ := hv0.slice
  clear hv0
  generalize branch t0 t1 = r0 at *
  go_enter Tryd.func7, Tryd.ntmps7
  go_wp2_with fail
  have HOK0 := Lib.hid (fun (h : ¬ szr (1048576) (szs t0) < 0) => szr_ok h)
  have hlo0 := szr_lo (1048576) (szs t0)
  refine (SZ0.out _ (by (repeat' (first | with_reducible exact Below.refl _ _ | with_reducible refine below_alloc ?_ _ ?_ | with_reducible refine Below.setCell ?_ ?_ _ | with_reducible refine Below.drew ?_ | with_reducible refine below_drewN ?_ _ | with_reducible refine below_step ?_ (by assumption) ?_ | with_reducible refine below_mark ?_ (by assumption) ?_)); all_goals (first | omega | (simp; done) | (simp; omega))) _ (by omega) (by omega)).mono ?_
  rintro e1 w1 ⟨rfl, hb1⟩
  have hz1 := hb1.size; try simp at hz1
  generalize szr (1048576) (szs t0) = m0 at *
  by_cases hm0 : m0 < 0
  · go_wp2_with fail
    go_ret
    exact ⟨rfl, (by (repeat' (first | with_reducible exact Below.refl _ _ | with_reducible refine below_alloc ?_ _ ?_ | with_reducible refine Below.setCell ?_ ?_ _ | with_reducible refine Below.drew ?_ | with_reducible refine below_drewN ?_ _ | with_reducible refine below_step ?_ (by assumption) ?_ | with_reducible refine below_mark ?_ (by assumption) ?_)); all_goals (first | omega | (simp; done) | (simp; omega)))⟩
  obtain ⟨hq0, hr0⟩ := HOK0.out hm0
  have hm0' : ¬ m0 < 0 := hm0
  have hs0 := HCN0.out (by omega)
  go_wp2_with fail
  have hHR0 := HR0.out (by omega)
  refine (TO0.out _ (by (repeat' (first | with_reducible exact Below.refl _ _ | with_reducible refine below_alloc ?_ _ ?_ | with_reducible refine Below.setCell ?_ ?_ _ | with_reducible refine Below.drew ?_ | with_reducible refine below_drewN ?_ _ | with_reducible refine below_step ?_ (by assumption) ?_ | with_reducible refine below_mark ?_ (by assumption) ?_)); all_goals (first | omega | (simp; done) | (simp; omega))) (by omega)).mono ?_
  rintro e2 w2 ⟨_, rfl, po0, hb2⟩
  have hz2 := hb2.size; try simp at hz2
  obtain ⟨pa0, pc0, rfl⟩ := po0.slice
  have pO0 := Lib.hid po0
  have pR0 := Lib.hid po0.rep
  clear po0
  go_wp2_with fail
  refine (KS.out _ _ (pR0.out.keep (by (repeat' (first | with_reducible exact Below.refl _ _ | with_reducible refine below_alloc ?_ _ ?_ | with_reducible refine Below.setCell ?_ ?_ _ | with_reducible refine Below.drew ?_ | with_reducible refine below_drewN ?_ _ | with_reducible refine below_step ?_ (by assumption) ?_ | with_reducible refine below_mark ?_ (by assumption) ?_)); all_goals (first | omega | (simp; done) | (simp; omega)))) (by omega)).mono ?_
  rintro e3 w3 ⟨_, rfl, qo0, hb3⟩
  have hz3 := hb3.size; try simp at hz3
  obtain ⟨qa0, qc0, rfl⟩ := qo0.slice
  have qR0 := Lib.hid qo0.rep
  clear qo0
  go_wp2_with fail
  refine (TO0.out _ (by (repeat' (first | with_reducible exact Below.refl _ _ | with_reducible refine below_alloc ?_ _ ?_ | with_reducible refine Below.setCell ?_ ?_ _ | with_reducible refine Below.drew ?_ | with_reducible refine below_drewN ?_ _ | with_reducible refine below_step ?_ (by assumption) ?_ | with_reducible refine below_mark ?_ (by assumption) ?_)); all_goals (first | omega | (simp; done) | (simp; omega))) (by omega)).mono ?_
  rintro e4 w4 ⟨_, rfl, xo0, hb4⟩
  have hz4 := hb4.size; try simp at hz4
  obtain ⟨xa0, xc0, rfl⟩ := xo0.slice
  have xO0 := Lib.hid xo0.bound
  have xR0 := Lib.hid xo0.rep
  clear xo0
  go_wp2_with fail
  refine (KI.out _ _ (xR0.out.keep (by (repeat' (first | with_reducible exact Below.refl _ _ | with_reducible refine below_alloc ?_ _ ?_ | with_reducible refine Below.setCell ?_ ?_ _ | with_reducible refine Below.drew ?_ | with_reducible refine below_drewN ?_ _ | with_reducible refine below_step ?_ (by assumption) ?_ | with_reducible refine below_mark ?_ (by assumption) ?_)); all_goals (first | omega | (simp; done) | (simp; omega)))) (by omega) (by (repeat' (first | with_reducible exact Below.refl _ _ | with_reducible refine below_alloc ?_ _ ?_ | with_reducible refine Below.setCell ?_ ?_ _ | with_reducible refine Below.drew ?_ | with_reducible refine below_drewN ?_ _ | with_reducible refine below_step ?_ (by assumption) ?_ | with_reducible refine below_mark ?_ (by assumption) ?_)); all_goals (first | omega | (simp; done) | (simp; omega)))).mono ?_
  rintro e5 w5 ⟨_, rfl, go0, hb5⟩
  have hz5 := hb5.size; try simp at hz5
  obtain ⟨ga0, gc0, rfl⟩ := go0.slice
  have gR0 := Lib.hid go0.rep
  have gO0 := Lib.hid go0
  clear go0
  go_wp2_with fail
  refine (eqUint32S_any _ _ _ r0 (gR0.out.keep (by (repeat' (first | with_reducible exact Below.refl _ _ | with_reducible refine below_alloc ?_ _ ?_ | with_reducible refine Below.setCell ?_ ?_ _ | with_reducible refine Below.drew ?_ | with_reducible refine below_drewN ?_ _ | with_reducible refine below_step ?_ (by assumption) ?_ | with_reducible refine below_mark ?_ (by assumption) ?_)); all_goals (first | omega | (simp; done) | (simp; omega)))) (qR0.out.keep (by (repeat' (first | with_reducible exact Below.refl _ _ | with_reducible refine below_alloc ?_ _ ?_ | with_reducible refine Below.setCell ?_ ?_ _ | with_reducible refine Below.drew ?_ | with_reducible refine below_drewN ?_ _ | with_reducible refine below_step ?_ (by assumption) ?_ | with_reducible refine below_mark ?_ (by assumption) ?_)); all_goals (first | omega | (simp; done) | (simp; omega)))) _ (Below.refl _ _)).mono ?_
  rintro e6 w6 ⟨rfl, hb6⟩
  have hz6 := hb6.size; try simp at hz6
  go_wp2_with fail
  refine (TO0.out _ (by (repeat' (first | with_reducible exact Below.refl _ _ | with_reducible refine below_alloc ?_ _ ?_ | with_reducible refine Below.setCell ?_ ?_ _ | with_reducible refine Below.drew ?_ | with_reducible refine below_drewN ?_ _ | with_reducible refine below_step ?_ (by assumption) ?_ | with_reducible refine below_mark ?_ (by assumption) ?_)); all_goals (first | omega | (simp; done) | (simp; omega))) (by omega)).mono ?_
  rintro e7 w7 ⟨_, rfl, yo0, hb7⟩
  have hz7 := hb7.size; try simp at hz7
  have yR0 := Lib.hid yo0.rep
  clear yo0
  go_wp2_with fail
  refine (EQ0.out _ _ _ (xR0.out.keep (by (repeat' (first | with_reducible exact Below.refl _ _ | with_reducible refine below_alloc ?_ _ ?_ | with_reducible refine Below.setCell ?_ ?_ _ | with_reducible refine Below.drew ?_ | with_reducible refine below_drewN ?_ _ | with_reducible refine below_step ?_ (by assumption) ?_ | with_reducible refine below_mark ?_ (by assumption) ?_)); all_goals (first | omega | (simp; done) | (simp; omega)))) yR0.out).mono ?_
  rintro e8 w8 ⟨rfl, hb8⟩
  have hz8 := hb8.size; try simp at hz8
  go_wp2_with fail
  have XB0 := Lib.hid ((xO0.out).keep (w' := w8) (fun x hx hxs => (show Below w4.heap.size w4 w8 by exact (by (repeat' (first | with_reducible exact Below.refl _ _ | with_reducible refine below_alloc ?_ _ ?_ | with_reducible refine Below.setCell ?_ ?_ _ | with_reducible refine Below.drew ?_ | with_reducible refine below_drewN ?_ _ | with_reducible refine below_step ?_ (by assumption) ?_ | with_reducible refine below_mark ?_ (by assumption) ?_)); all_goals (first | omega | (simp; done) | (simp; omega)))).block x hxs))
  refine (mark_list _ t0 (Nat.le_refl _) _ _ (1) _ XB0.out (by omega) (by omega)).mono ?_
  rintro e9 w9 ⟨rfl, ho9, ht9⟩
  have HT9 := Lib.hid ht9; clear ho9 ht9
  have hb9 : Below w3.heap.size w8 w9 := HT9.out.below (fun x hx => by have h1 := hx.1; (first | omega | (simp at h1; done) | (simp at h1; omega))) (by omega)
  have hz9 := HT9.out.size; try simp at hz9
  have gO0_9 := Lib.hid ((gO0.out.stay2 (w' := w8) (by (repeat' (first | with_reducible exact Below.refl _ _ | with_reducible refine below_alloc ?_ _ ?_ | with_reducible refine Below.setCell ?_ ?_ _ | with_reducible refine Below.drew ?_ | with_reducible refine below_drewN ?_ _ | with_reducible refine below_step ?_ (by assumption) ?_ | with_reducible refine below_mark ?_ (by assumption) ?_)); all_goals (first | omega | (simp; done) | (simp; omega)))).keep (w' := w9) (fun x hx => HT9.out.block x (by have h3 := gO0.out.lt x hx; omega) (fun hy => by have h1 := (gO0.out.lt x hx).1; have h2 := hy.2; (first | omega | (simp at h1; done) | (simp at h1; omega)))))
  have gR0_9 := Lib.hid gO0_9.out.rep
  clear gO0 gR0
  have gO0 := gO0_9; have gR0 := gR0_9; clear gO0_9 gR0_9
  have tk : decide ((1 + (cnts t0 : Nat) : Int) < 0) = false := by simp; omega
  go_wp2_with fail
  refine (eqUint32S_any _ _ _ r0 (gR0.out.keep (by (repeat' (first | with_reducible exact Below.refl _ _ | with_reducible refine below_alloc ?_ _ ?_ | with_reducible refine Below.setCell ?_ ?_ _ | with_reducible refine Below.drew ?_ | with_reducible refine below_drewN ?_ _ | with_reducible refine below_step ?_ (by assumption) ?_ | with_reducible refine below_mark ?_ (by assumption) ?_)); all_goals (first | omega | (simp; done) | (simp; omega)))) (qR0.out.keep (by (repeat' (first | with_reducible exact Below.refl _ _ | with_reducible refine below_alloc ?_ _ ?_ | with_reducible refine Below.setCell ?_ ?_ _ | with_reducible refine Below.drew ?_ | with_reducible refine below_drewN ?_ _ | with_reducible refine below_step ?_ (by assumption) ?_ | with_reducible refine below_mark ?_ (by assumption) ?_)); all_goals (first | omega | (simp; done) | (simp; omega)))) _ (Below.refl _ _)).mono ?_
  rintro e10 w10 ⟨rfl, hb10⟩
  have hz10 := hb10.size; try simp at hz10
  go_wp2_with fail
  have GB := Lib.hid (gO0.out.stay2 (w' := w10) (by (repeat' (first | with_reducible exact Below.refl _ _ | with_reducible refine below_alloc ?_ _ ?_ | with_reducible refine Below.setCell ?_ ?_ _ | with_reducible refine Below.drew ?_ | with_reducible refine below_drewN ?_ _ | with_reducible refine below_step ?_ (by assumption) ?_ | with_reducible refine below_mark ?_ (by assumption) ?_)); all_goals (first | omega | (simp; done) | (simp; omega))))
  refine (markUint32S_any _ _ r0 1 _ GB.out (by omega) (by omega) (by omega)).mono ?_
  rintro e11 w11 ⟨rfl, ho11, hg11⟩
  have HU11 := Lib.hid (fun x hx => gO0.out.lt x hx)
  have HT11 := Lib.hid (touch_of_grown hg11); have HM := Lib.hid ho11.rep; clear ho11 hg11
  have hb11 : Below w4.heap.size w10 w11 := HT11.out.below (fun x hx => by have h1 := (HU11.out x hx).1; (first | omega | (simp at h1; done) | (simp at h1; omega))) (by omega)
  have hz11 := HT11.out.size; try simp at hz11
  have t1 : ((1 + (r0.length : Int)) != (1 + (r0.length : Int))) = false := by simp
  have t2 : decide (1 + (r0.length : Int) < 0) = false := by simp; omega
  go_wp2_with fail
  refine (heldUint32S_any _ _ 1 _ (HM.out.keep (by (repeat' (first | with_reducible exact Below.refl _ _ | with_reducible refine below_alloc ?_ _ ?_ | with_reducible refine Below.setCell ?_ ?_ _ | with_reducible refine Below.drew ?_ | with_reducible refine below_drewN ?_ _ | with_reducible refine below_step ?_ (by assumption) ?_ | with_reducible refine below_mark ?_ (by assumption) ?_)); all_goals (first | omega | (simp; done) | (simp; omega)))) _ (Below.refl _ _) (by omega) (by omega) (by omega)).mono ?_
  rintro e12 w12 ⟨rfl, hb12⟩
  have hz12 := hb12.size; try simp at hz12
  go_wp2_with fail
  refine (TO0.out _ (by (repeat' (first | with_reducible exact Below.refl _ _ | with_reducible refine below_alloc ?_ _ ?_ | with_reducible refine Below.setCell ?_ ?_ _ | with_reducible refine Below.drew ?_ | with_reducible refine below_drewN ?_ _ | with_reducible refine below_step ?_ (by assumption) ?_ | with_reducible refine below_mark ?_ (by assumption) ?_)); all_goals (first | omega | (simp; done) | (simp; omega))) (by omega)).mono ?_
  rintro e13 w13 ⟨_, rfl, zo0, hb13⟩
  have hz13 := hb13.size; try simp at hz13
  obtain ⟨za0, zc0, rfl⟩ := zo0.slice
  have zO0 := Lib.hid zo0
  have zR0 := Lib.hid zo0.rep
  clear zo0
  go_wp2_with fail
  refine (KI.out _ _ (zR0.out.keep (by (repeat' (first | with_reducible exact Below.refl _ _ | with_reducible refine below_alloc ?_ _ ?_ | with_reducible refine Below.setCell ?_ ?_ _ | with_reducible refine Below.drew ?_ | with_reducible refine below_drewN ?_ _ | with_reducible refine below_step ?_ (by assumption) ?_ | with_reducible refine below_mark ?_ (by assumption) ?_)); all_goals (first | omega | (simp; done) | (simp; omega)))) (by omega) (by (repeat' (first | with_reducible exact Below.refl _ _ | with_reducible refine below_alloc ?_ _ ?_ | with_reducible refine Below.setCell ?_ ?_ _ | with_reducible refine Below.drew ?_ | with_reducible refine below_drewN ?_ _ | with_reducible refine below_step ?_ (by assumption) ?_ | with_reducible refine below_mark ?_ (by assumption) ?_)); all_goals (first | omega | (simp; done) | (simp; omega)))).mono ?_
  rintro e14 w14 ⟨_, rfl, ho0, hb14⟩
  have hz14 := hb14.size; try simp at hz14
  obtain ⟨ha0, hc0, rfl⟩ := ho0.slice
  have hR0 := Lib.hid ho0.rep
  have hO0 := Lib.hid ho0
  clear ho0
  go_wp2_with fail
  refine (eqUint32S_any _ _ _ r0 (hR0.out.keep (by (repeat' (first | with_reducible exact Below.refl _ _ | with_reducible refine below_alloc ?_ _ ?_ | with_reducible refine Below.setCell ?_ ?_ _ | with_reducible refine Below.drew ?_ | with_reducible refine below_drewN ?_ _ | with_reducible refine below_step ?_ (by assumption) ?_ | with_reducible refine below_mark ?_ (by assumption) ?_)); all_goals (first | omega | (simp; done) | (simp; omega)))) (qR0.out.keep (by (repeat' (first | with_reducible exact Below.refl _ _ | with_reducible refine below_alloc ?_ _ ?_ | with_reducible refine Below.setCell ?_ ?_ _ | with_reducible refine Below.drew ?_ | with_reducible refine below_drewN ?_ _ | with_reducible refine below_step ?_ (by assumption) ?_ | with_reducible refine below_mark ?_ (by assumption) ?_)); all_goals (first | omega | (simp; done) | (simp; omega)))) _ (Below.refl _ _)).mono ?_
  rintro e15 w15 ⟨rfl, hb15⟩
  have hz15 := hb15.size; try simp at hz15
  go_wp2_with fail
  refine (heldUint32S_any _ _ 1 _ (HM.out.keep (by (repeat' (first | with_reducible exact Below.refl _ _ | with_reducible refine below_alloc ?_ _ ?_ | with_reducible refine Below.setCell ?_ ?_ _ | with_reducible refine Below.drew ?_ | with_reducible refine below_drewN ?_ _ | with_reducible refine below_step ?_ (by assumption) ?_ | with_reducible refine below_mark ?_ (by assumption) ?_)); all_goals (first | omega | (simp; done) | (simp; omega)))) _ (Below.refl _ _) (by omega) (by omega) (by omega)).mono ?_
  rintro e16 w16 ⟨rfl, hb16⟩
  have hz16 := hb16.size; try simp at hz16
  go_wp2_with fail
  go_ret
  exact ⟨rfl, (by (repeat' (first | with_reducible exact Below.refl _ _ | with_reducible refine below_alloc ?_ _ ?_ | with_reducible refine Below.setCell ?_ ?_ _ | with_reducible refine Below.drew ?_ | with_reducible refine below_drewN ?_ _ | with_reducible refine below_step ?_ (by assumption) ?_ | with_reducible refine below_mark ?_ (by assumption) ?_)); all_goals (first | omega | (simp; done) | (simp; omega)))⟩
set_option maxRecDepth 100000 in
set_option maxHeartbeats 2000000 in
theorem lifted_FnExactBranch (os : Os) (started : os.Started) (H : Type) (enc : TypeId × Value → H) :
    ReturnsInHanded {} Tryd.checked os 7 .any (fun w args => (Rows.fnExactBranchSpec.pre enc Tryd.prog Tryd.f7 [] false w args ∧ laidMetH Tryd.prog Rows.fnExactBranchRow.laid w) ∧ sizedMet enc Tryd.prog Tryd.f7 (OpenSpec.ofChange Rows.fnExactBranchSpec) false w args)
      (Rows.fnExactBranchSpec.post enc Tryd.prog Tryd.f7 false true false false) := by
  refine returnsInHanded_of_change_and (C := Tryd.checked) (X := fun w _ => laidMetH Tryd.prog Rows.fnExactBranchRow.laid w) (fun _ _ _ hh h => h.of_heap hh) lawOwn started (by kernel_rfl) Tryd.func7
    (ChangeSpec.witness_shaped (enc := enc) (C := Tryd.checked) (os := os) (X := fun w _ => laidMetH Tryd.prog Rows.fnExactBranchRow.laid w) false (World.laidAll Tryd.prog os Rows.fnExactBranchRow.laid) #[.slice none 0 0, .int .i64 0] 8 (World.laidAll_os _ _ _)
      (World.shaped_of_ZipB (by kernel_rfl) (by kernel_rfl)) (by kernel_rfl) (by kernel_rfl) (by kernel_rfl)
      (by rw [MakeChecks.laidMetH_plain _ _ _ (by kernel_rfl)]; exact laidMet_laidAll _ (by kernel_rfl) (by kernel_rfl))) ?_
  intro W base args ds gs before hval0 hW _ _ hL _
  have hval : ∀ (j : Nat) t v, Tryd.f7.params[j]? = some t → args[j]? = some v → Value.okWide Tryd.prog W .any base t v := hval0
  have hW' := hW
  obtain ⟨p, q, hA0, hV, hpq, hfz, hnd⟩ := hW
  have hA : DataW.TrodAll enc Tryd.prog W 0 (fun _ => true) true Tryd.f7.params.toList args.toList ds p := hA0
  rw [Tryd.params7] at hA hval
  rw [MakeChecks.laidMetH_plain _ _ _ (by kernel_rfl)] at hL
  have hE : Env W := env_of (Lib.laidMet.reads hL (.tail _ (.head _))) (Lib.laidMet.reads hL (.head _))
  obtain ⟨v0, vs0, d0, ds0, p0, q0, hargs, rfl, hp, h0, r0⟩ := trodAll_cons hA
  obtain ⟨v1, vs1, d1, ds1, p1, q1, rfl, rfl, rfl, h1, r1⟩ := trodAll_cons r0
  obtain ⟨rfl, rfl, rfl⟩ := trodAll_nil r1
  obtain rfl : args = #[v0, v1] := by cases args; simp_all
  obtain ⟨a0, w0⟩ := open_Vs (okWide_slice Tryd.underlying22 (hval 0 22 v0 rfl rfl)) h0
  obtain ⟨a1, rfl, rfl, rfl, w1⟩ := open_int Tryd.underlying3 (hval 1 3 v1 rfl rfl) h1
  refine (walk_FnExactBranch v0 a0 w0 a1 w1 W rfl hE).mono fun e W' ⟨he, hb⟩ => ?_
  subst he
  refine ⟨_, rfl, law_post rfl rfl rfl ?_ hW' hb⟩
  rw [Tryd.params7]
  intro t ht
  simp only [List.mem_cons, List.not_mem_nil, or_false] at ht
  rcases ht with rfl | rfl
  all_goals exact ⟨by kernel_rfl, of_decide_eq_true (by kernel_rfl)⟩
set_option maxHeartbeats 4000000 in
theorem row_FnExactBranch : Rows.FnExactBranchSaid :=
  OpenClaim.holds_of_wide 7 Tryd.f7 rfl rfl rfl rfl rfl rfl rfl ⟨rfl, rfl, rfl, rfl, rfl⟩ rfl rfl rfl rfl rfl (by as_aux_lemma => kernel_rfl) Tryd.func7 (by as_aux_lemma => kernel_rfl)
    (of_decide_eq_true (by as_aux_lemma => kernel_rfl)) (by unfold Func.isWrapper; first | (rw [if_pos (by decide +kernel)]; kernel_rfl) | (rw [if_neg (by decide +kernel)]; exact ⟨rfl, rfl⟩))
    (fun os started H enc _ => lifted_FnExactBranch os started H enc)
set_option maxHeartbeats 4000000 in
theorem holds_FnExactBranchCard : Rows.FnExactBranchCardSaid :=
  Claim7.holds_tied_plain_at .later [] [.data, .pinned] true (true, "c7085f3e2e44c065c9c42405b29ce271b32a0d9a161dc24b364064584e701bba") true row_FnExactBranch (fun _ h => by cases h) (by as_aux_lemma => kernel_rfl) (fun _ h => by cases h) fnExactBranch_row_tie rfl ⟨rfl, rfl⟩ (by as_aux_lemma => kernel_rfl) rfl
    (fun f fn hf hfn => by
      obtain rfl : f = 7 := Option.some.inj ((show Tryd.prog.funcNamed "loop.example/g00421/laws.FnExactBranch" = some 7 by as_aux_lemma => kernel_rfl).symm.trans hf) |>.symm
      obtain rfl : fn = Tryd.f7 := (Option.some.inj (Tryd.func7.symm.trans hfn)).symm
      exact ⟨by as_aux_lemma => kernel_rfl, fun j t ht => by
        have hm : t ∈ Tryd.f7.params.toList := by simpa using Array.mem_of_getElem? ht
        have hall : (Tryd.f7.params.toList.all fun u => !Tryd.prog.wantsStandIn u) = true := by as_aux_lemma => kernel_rfl
        exact (show Tryd.prog.wantsStandIn t = false by simpa using List.all_eq_true.1 hall t hm)⟩)
    (by as_aux_lemma => kernel_rfl)
#print axioms holds_FnExactBranchCard
end Go.Proofs.YtfjehhdahpbbgaaDoor
