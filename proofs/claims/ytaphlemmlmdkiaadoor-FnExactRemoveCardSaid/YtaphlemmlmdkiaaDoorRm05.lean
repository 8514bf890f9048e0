/- Lemmas for the statement of the last text of this claim: texts joined. -/
import Derived.Test.YtaphlemmlmdkiaaDoorRm01
import Derived.Test.YtaphlemmlmdkiaaDoorRm02
import Derived.Test.YtaphlemmlmdkiaaDoorRm04
import Derived.Deep.RegionLaw
import Derived.Lib.SliceRun
import Derived.Lib.Hide
import Derived.WalkSpells
import Derived.Deep.RegionHeld3
import Derived.OwnWalk
import Derived.Deep.QuietTactic
import Derived.BigQuiet
import Derived.BigRegion
import Derived.Deep.RegionWith
import Derived.Deep.DeepCutAuto
namespace Go.Proofs.YtaphlemmlmdkiaaDoor
set_option linter.unusedSimpArgs false
set_option linter.unusedVariables false
set_option maxRecDepth 100000
open Go.RowKit Go.Lib
def z5 : Array Value := #[.int .i64 0, .int .i64 0, .int .i64 0, .string ⟨#[]⟩, .slice none 0 0]
theorem zc_size (n : Nat) : (Builtin.zeroCells z5 n).toList.length = n * 5 := by simp [Builtin.zeroCells, z5]
theorem zc_one : ∀ v ∈ (Builtin.zeroCells z5 2).toList, v.oneCell' = true := by
  intro v hv
  simp only [Builtin.zeroCells, Array.toList_map, List.mem_map] at hv
  obtain ⟨i, _, rfl⟩ := hv
  have h5 : i % z5.size = 0 ∨ i % z5.size = 1 ∨ i % z5.size = 2 ∨ i % z5.size = 3 ∨ i % z5.size = 4 := by
    have : i % z5.size < z5.size := Nat.mod_lt _ (by decide)
    have h : z5.size = 5 := rfl
    omega
  rcases h5 with h | h | h | h | h <;> rw [h] <;> rfl
theorem run_clear5 (w : World) (ty : TypeId) (b o c : Nat)
    (hc : ∀ j, j < 10 → (w.cell? ⟨b, o + j, none⟩).isSome = true) (hf : ∀ j, j < 10 → w.frozen? ⟨b, o + j, none⟩ = false) :
    (Builtin.clear_ #[28] ty #[.slice (some ⟨b, o, none⟩) 2 c]).run Tryd.prog w = .ok (.tuple #[]) (w.setCells b o (Builtin.zeroCells z5 2).toList) := by
  have hl := zc_size 2
  have hst := run_storeCells_cells (P := Tryd.prog) b o (Builtin.zeroCells z5 2).toList 0 w (by intro j hj; exact hc j (by omega)) (by intro j hj; exact hf j (by omega)) zc_one
  simp only [Nat.add_zero] at hst
  have hv := fun w => Tryd.zeroValue30 w
  have hz : (Value.agg #[Value.int .i64 0, .int .i64 0, .int .i64 0, .string ⟨#[]⟩, .slice none 0 0]).cells = z5 := rfl
  simp [Builtin.clear_, run_underlying Tryd.underlying28, hv, hz, hst]
theorem grownBy_cells (g : Nat) : ∀ (vs : List Value) (o : Nat) (w : World), w.grownBy (w.setCells g o vs) (some g)
  | [], o, w => ⟨rfl, rfl, rfl, Nat.le_refl _, fun _ _ _ => rfl⟩
  | v :: vs, o, w => by
    rw [World.setCells]
    exact grownBy_trans (grownBy_cell w g o v) (grownBy_cells g vs (o + 1) _)
theorem infoSz : ∃ i0, Tryd.prog.info? 30 = some i0 ∧ i0.size = 5 := by
  have h : (Tryd.prog.info? 30).map (fun i => i.size) = some 5 := by kernel_rfl
  rw [Option.map_eq_some_iff] at h
  exact h
set_option maxHeartbeats 2000000 in
theorem Delete_any (g n cap i : Nat) (cur : Array Value) (w : World) (hb : w.heap[g]? = some (.cells cur 30 (0, 0))) (hin : i + 2 ≤ n) (hnc : n ≤ cap) (hn40 : n ≤ 1099511627776) (hm : cap ≤ 9223372036854775807) (hcs : cur.size = cap * 5) (h1 : ∀ u ∈ cur.toList.take (n * 5), u.oneCell' = true) :
    Calls Tryd.prog 60 #[.slice (some ⟨g, 0, none⟩) n cap, .int .i64 (i : Int), .int .i64 ((i : Int) + 2)] w fun e w' => e = .returned (.slice (some ⟨g, 0, none⟩) (n - 2) cap) ∧
      ∃ cur', w'.heap[g]? = some (.cells cur' 30 (0, 0)) ∧ cur'.size = cur.size ∧ cur'.toList.take ((n - 2) * 5) = cur.toList.take (i * 5) ++ (cur.toList.take (n * 5)).drop ((i + 2) * 5) ∧ w.grownBy w' (some g) := by
  obtain ⟨news, hnews⟩ : ∃ news, news = (cur.toList.take (n * 5)).drop ((i + 2) * 5) := ⟨_, rfl⟩
  have hcl : cur.toList.length = cap * 5 := by rw [Array.length_toList, hcs]
  have hlen : news.length = (n - (i + 2)) * 5 := by rw [hnews, List.length_drop, List.length_take, hcl]; omega
  have hcell : ∀ (W : World) (c : Array Value), W.heap[g]? = some (.cells c 30 (0, 0)) → ∀ o, W.cell? ⟨g, o, none⟩ = c[o]? := fun W c h o => cell_of_row W g o c _ (0, 0) h
  obtain ⟨A, hA, hsrc⟩ : ∃ A : Addr, (if cap = i + 2 then some (⟨g, 0, none⟩ : Addr) else some ⟨g, 0 + (i + 2) * 5, none⟩) = some A ∧ Hid (∀ t u, news[t]? = some u → w.drew.cell? (A.add t) = some u) := by
    by_cases h : cap = i + 2
    · refine ⟨⟨g, 0, none⟩, by simp [h], fun t u hu => ?_⟩
      have h0 : news.length = 0 := by rw [hlen]; omega
      rw [List.length_eq_zero_iff.1 h0] at hu
      simp at hu
    · refine ⟨⟨g, 0 + (i + 2) * 5, none⟩, by simp [h], fun t u hu => ?_⟩
      rw [Addr.add_lit]
      show w.cell? _ = _
      rw [hcell w cur hb]
      rw [hnews, List.getElem?_drop, List.getElem?_take] at hu
      split at hu
      · rw [← Array.getElem?_toList]; rw [show 0 + (i + 2) * 5 + t = (i + 2) * 5 + t by omega]; exact hu
      · cases hu
  have hb0 : w.drew.heap[g]? = some (.cells cur 30 (0, 0)) := hb
  have hcl2 : cur.size = cur.toList.length := by simp
  obtain ⟨cur1, hb1, hs1, ht1⟩ := heap_setCells_same g 30 news (0 + i * 5) w.drew cur hb0 (by rw [hlen]; omega)
  obtain ⟨W1, hW1⟩ : ∃ W1, W1 = w.drew.setCells g (0 + i * 5) news := ⟨_, rfl⟩
  rw [← hW1] at hb1
  obtain ⟨cur2, hb2, hs2, ht2⟩ := heap_setCells_same g 30 (Builtin.zeroCells z5 2).toList (0 + (n - 2) * 5) W1 cur1 hb1 (by rw [zc_size, hs1]; omega)
  have s1 : Hid (news.length = (n - (i + 2)) * 5) := Lib.hid hlen
  have s2 : Hid (∀ u ∈ news, u.oneCell' = true) := Lib.hid (fun u hu => h1 u (by rw [hnews] at hu; exact List.mem_of_mem_drop hu))
  have s3 : Hid (∀ t, t < news.length → (w.drew.cell? ⟨g, 0 + i * 5 + t, none⟩).isSome = true ∧ w.drew.frozen? ⟨g, 0 + i * 5 + t, none⟩ = false) := Lib.hid (fun t ht => by
    rw [hlen] at ht
    refine ⟨?_, frozen_of_row w.drew g _ _ _ hb0⟩
    rw [hcell w.drew cur hb0, Array.getElem?_eq_getElem (by omega)]; rfl)
  have hclr : ∀ ty, (Builtin.clear_ #[28] ty #[.slice (some ⟨g, (i + (n - (i + 2))) * 5, none⟩) (n - (i + (n - (i + 2)))) (cap - (i + (n - (i + 2))))]).run Tryd.prog W1 = .ok (.tuple #[]) (W1.setCells g (0 + (n - 2) * 5) (Builtin.zeroCells z5 2).toList) := fun ty => by
    rw [show n - (i + (n - (i + 2))) = 2 by omega, show (i + (n - (i + 2))) * 5 = 0 + (n - 2) * 5 by omega]
    exact run_clear5 W1 ty g _ _ (fun j hj => by rw [hcell W1 cur1 hb1, Array.getElem?_eq_getElem (by omega)]; rfl) (fun j hj => frozen_of_row W1 g _ _ _ hb1)
  obtain ⟨i0, hi0, hz1⟩ := infoSz
  have HF := Lib.hid (show ∃ cur', (W1.setCells g (0 + (n - 2) * 5) (Builtin.zeroCells z5 2).toList).heap[g]? = some (.cells cur' 30 (0, 0)) ∧ cur'.size = cur.size ∧ cur'.toList.take ((n - 2) * 5) = cur.toList.take (i * 5) ++ news ∧ w.grownBy (W1.setCells g (0 + (n - 2) * 5) (Builtin.zeroCells z5 2).toList) (some g) from by
    refine ⟨cur2, hb2, by rw [hs2, hs1], ?_, ?_⟩
    · rw [ht2, ht1]
      rw [Nat.zero_add, Nat.zero_add]
      have e1 : (cur.toList.take (i * 5) ++ news).length = (n - 2) * 5 := by rw [List.length_append, hlen, List.length_take, hcl]; omega
      generalize cur.toList.take (i * 5) ++ news = L at e1 ⊢
      rw [← e1, List.take_left, List.append_assoc, List.take_left]
    · rw [hW1]
      exact grownBy_trans (grownBy_trans (⟨rfl, rfl, rfl, Nat.le_refl _, fun _ _ _ => rfl⟩ : w.grownBy w.drew (some g)) (grownBy_cells g _ _ _)) (grownBy_cells g _ _ _))
  have hW : Hid (W1 = w.drew.setCells g (0 + i * 5) news) := Lib.hid hW1
  have hic : i ≤ cap := by omega
  have hjc : i + 2 ≤ cap := by omega
  have hlt2 : (i : Int) + 2 ≤ (n : Int) := by omega
  have e2 : ((i : Int) + 2).toNat = i + 2 := by omega
  have e3 : ((i : Int) == (i : Int) + 2) = false := by simp; omega
  have h02 : 0 ≤ (i : Int) + 2 := by omega
  rw [Nat.zero_add] at hA
  rw [← hnews]
  clear hW1 hb1 hb2 hs1 hs2 ht1 ht2 hb hb0 hcell hnews hlen hcl hcl2 hcs h1
  go_enter Tryd.func60, Tryd.ntmps60
  go_wp2_with fail
  go_region_law (refine step_append_room rfl (.tmp 22) (.tmp 25) 28 rfl 30 i0 5 Tryd.underlying28 hi0 hz1 g 0 i cap (by simp [Act.eval, Act.put]) A (n - (i + 2)) (cap - (i + 2)) news (by simp [Act.eval, Act.put]) s1.out hsrc.out s2.out (by omega) s3.out ?_; rw [← hW.out])
  all_goals
    go_wp2_with fail
    go_ret
    exact ⟨by rw [show n - 2 = i + (n - (i + 2)) by omega]; rfl, by have h := HF.out; rw [Nat.zero_add] at h; exact h⟩
end Go.Proofs.YtaphlemmlmdkiaaDoor
namespace Go.Proofs.YtaphlemmlmdkiaaDoor
set_option linter.unusedSimpArgs false
set_option linter.unusedVariables false
set_option maxRecDepth 100000
open Go.RowKit
inductive RepF (w : World) (G : Nat → Prop) : Value → List V → Prop
  | mk (a : Option Addr) (b off cap : Nat) (ts : List V) (sls : Nat → Value) (ha : ts ≠ [] → a = some ⟨b, off, none⟩) (hc : ts.length ≤ cap) (hm : cap ≤ 9223372036854775807)
      (hb : ts ≠ [] → b < w.heap.size ∧ G b) (cells : ∀ i (h : i < ts.length), Cells5 w b (off + i * 5) ts[i] (sls i)) (wfs : ∀ i (h : i < ts.length), ts[i].wf)
      (kids : ∀ i (h : i < ts.length), RepF w G (sls i) ts[i].kids) : RepF w G (.slice a ts.length cap) ts
theorem RepF.rep {w : World} {G : Nat → Prop} {v : Value} {ts : List V} (h : RepF w G v ts) : RepS w v ts := by
  induction h with
  | mk a b off cap ts sls ha hc hm hb cells wfs kids ih => exact .mk a b off cap ts sls ha hc hm (fun hne => (hb hne).1) cells wfs ih
theorem RepF.mono {w : World} {G G' : Nat → Prop} {v : Value} {ts : List V} (h : RepF w G v ts) (hG : ∀ x, G x → x < w.heap.size → G' x) : RepF w G' v ts := by
  induction h with
  | mk a b off cap ts sls ha hc hm hb cells wfs kids ih => exact .mk a b off cap ts sls ha hc hm (fun hne => ⟨(hb hne).1, hG _ (hb hne).2 (hb hne).1⟩) cells wfs ih
theorem RepF.keep {w w' : World} {G : Nat → Prop} {v : Value} {ts : List V} (h : RepF w G v ts) (hz : w.heap.size ≤ w'.heap.size) (hk : ∀ x, G x → x < w.heap.size → w'.heap[x]? = w.heap[x]?) : RepF w' G v ts := by
  induction h with
  | mk a b off cap ts sls ha hc hm hb cells wfs kids ih =>
    refine .mk a b off cap ts sls ha hc hm (fun hne => ⟨Nat.lt_of_lt_of_le (hb hne).1 hz, (hb hne).2⟩) (fun i hi => (cells i hi).keep ?_) wfs ih
    have hne : ts ≠ [] := by intro e; subst e; simp at hi
    exact hk b (hb hne).2 (hb hne).1
theorem RepF.stay {w w' : World} {G : Nat → Prop} {v : Value} {ts : List V} (h : RepF w G v ts) (hb : Below w.heap.size w w') : RepF w' G v ts :=
  h.keep hb.size (fun x _ hx => hb.block x hx)
theorem RepF.bound {w : World} {G : Nat → Prop} {v : Value} {ts : List V} (h : RepF w G v ts) : RepF w (fun x => G x ∧ x < w.heap.size) v ts := h.mono (fun x h1 h2 => ⟨h1, h2⟩)
theorem RepS.toF {w : World} {v : Value} {ts : List V} (h : RepS w v ts) : RepF w (fun x => x < w.heap.size) v ts := by
  induction h with
  | mk a b off cap ts sls ha hc hm hb cells wfs kids ih => exact .mk a b off cap ts sls ha hc hm (fun hne => ⟨hb hne, hb hne⟩) cells wfs ih
theorem OwnS.toF {w : World} {F : Nat → Prop} {v : Value} {ts : List V} (h : OwnS w F v ts) : RepF w F v ts := by
  induction h with
  | mk F a b off cap ts sls Fs ha hc hm hb hF hd cells wfs kids ih =>
    exact .mk a b off cap ts sls ha hc hm (fun hne => by obtain ⟨h1, cur, e, h⟩ := hb hne; exact ⟨lt_of_heap h, h1⟩) cells wfs (fun i hi => (ih i hi).mono (fun x hx _ => (hF i hi x hx).1))
theorem RepF.slice {w : World} {G : Nat → Prop} {v : Value} {ts : List V} (h : RepF w G v ts) : ∃ a cap, v = .slice a ts.length cap := by
  cases h with
  | mk a b off cap ts0 sls ha hc hm hb cells wfs kids => exact ⟨a, cap, rfl⟩
theorem RepF.nil (w : World) (G : Nat → Prop) : RepF w G (.slice none 0 0) [] :=
  .mk none 0 0 0 [] (fun _ => .nilIface) (by simp) (by simp) (by omega) (by simp) (by simp) (by simp) (by simp)
structure PRowS (w : World) (base : Nat) (G : Nat → Prop) (v : Value) (ts : List V) (sls : List Value) : Prop where
  row : w.ownsRow base 30 5 v ts.length (flat ts sls)
  len : sls.length = ts.length
  wfs : ∀ i (h : i < ts.length), ts[i].wf
  kids : ∀ i (h : i < ts.length), RepF w G (sls.getD i undef) ts[i].kids
  own : ∀ g, v.ownBlock = some g → ¬ G g
  inG : ∀ x, G x → x < w.heap.size
def PRow (w : World) (base : Nat) (G : Nat → Prop) (v : Value) (ts : List V) : Prop := ∃ sls, PRowS w base G v ts sls
theorem PRow.lt {w : World} {base : Nat} {G : Nat → Prop} {v : Value} {ts : List V} (h : PRow w base G v ts) : ∀ k, v.ownBlock = some k → base ≤ k ∧ k < w.heap.size := by
  obtain ⟨sls, h⟩ := h; exact h.row.lt
theorem PRow.inG {w : World} {base : Nat} {G : Nat → Prop} {v : Value} {ts : List V} (h : PRow w base G v ts) : ∀ x, G x → x < w.heap.size := by
  obtain ⟨sls, h⟩ := h; exact h.inG
theorem PRow.own {w : World} {base : Nat} {G : Nat → Prop} {v : Value} {ts : List V} (h : PRow w base G v ts) : ∀ x, v.ownBlock = some x → ¬ G x := by
  obtain ⟨sls, h⟩ := h; exact h.own
theorem PRow.slice {w : World} {base : Nat} {G : Nat → Prop} {v : Value} {ts : List V} (h : PRow w base G v ts) : ∃ a cap, v = .slice a ts.length cap := by
  obtain ⟨sls, h⟩ := h
  rcases h.row.2 with ⟨rfl, hn⟩ | ⟨g, cap, cur, hv, _⟩
  · exact ⟨none, 0, by rw [hn]⟩
  · exact ⟨_, _, hv⟩
theorem PRow.slice3 {w : World} {base : Nat} {G : Nat → Prop} {v : Value} {ts : List V} (h : PRow w base G v ts) : ∃ a n cap, v = .slice a n cap := by
  obtain ⟨a, cap, e⟩ := h.slice; exact ⟨a, _, cap, e⟩
theorem PRow.repF {w : World} {base : Nat} {G : Nat → Prop} {v : Value} {ts : List V} (h : PRow w base G v ts) : RepF w (fun x => G x ∨ v.ownBlock = some x) v ts := by
  obtain ⟨sls, h⟩ := h
  rcases h.row.2 with ⟨rfl, hn⟩ | ⟨g, cap, cur, rfl, hbg, hg, hnc, hcm, hcs, htake⟩
  · obtain rfl : ts = [] := List.eq_nil_of_length_eq_zero hn
    exact RepF.nil _ _
  · have hcell : ∀ j u, (flat ts sls)[j]? = some u → w.cell? ⟨g, j, none⟩ = some u := by
      intro j u hu
      have := h.row.cells (g := g) rfl j u hu
      rwa [addr_add _ _ rfl, Nat.zero_add] at this
    refine .mk (some ⟨g, 0, none⟩) g 0 cap ts (fun i => sls.getD i undef) (fun _ => rfl) hnc (by simpa [maxLen] using hcm) (fun _ => ⟨lt_of_heap hg, .inr rfl⟩) ?_ h.wfs (fun i hi => (h.kids i hi).mono (fun x hx _ => .inl hx))
    intro i hi
    have hi2 : i < sls.length := by rw [h.len]; exact hi
    obtain ⟨h0, h1, h2, h3, h4⟩ := flat_get ts sls i hi hi2
    rw [Nat.zero_add, List.getD_eq_getElem?_getD, List.getElem?_eq_getElem hi2]
    exact ⟨hcell _ _ h0, hcell _ _ h1, hcell _ _ h2, hcell _ _ h3, hcell _ _ h4⟩
theorem PRow.rep {w : World} {base : Nat} {G : Nat → Prop} {v : Value} {ts : List V} (h : PRow w base G v ts) : RepS w v ts := h.repF.rep
theorem PRow.keep {w w' : World} {base : Nat} {G : Nat → Prop} {v : Value} {ts : List V} (h : PRow w base G v ts) (hz : w.heap.size ≤ w'.heap.size) (hk : ∀ x, (G x ∨ v.ownBlock = some x) → x < w.heap.size → w'.heap[x]? = w.heap[x]?) : PRow w' base G v ts := by
  obtain ⟨sls, h⟩ := h
  refine ⟨sls, ⟨⟨h.row.1, ?_⟩, h.len, h.wfs, fun i hi => (h.kids i hi).keep hz (fun x hx hs => hk x (.inl hx) hs), h.own, fun x hx => Nat.lt_of_lt_of_le (h.inG x hx) hz⟩⟩
  rcases h.row.2 with h2 | ⟨g, cap, cur, rfl, hbg, hg, r⟩
  · exact .inl h2
  · exact .inr ⟨g, cap, cur, rfl, hbg, by rw [hk g (.inr rfl) (lt_of_heap hg)]; exact hg, r⟩
theorem PRow.stay {w w' : World} {base : Nat} {G : Nat → Prop} {v : Value} {ts : List V} (h : PRow w base G v ts) (hb : Below w.heap.size w w') : PRow w' base G v ts :=
  h.keep hb.size (fun x _ hx => hb.block x hx)
theorem PRow.nil (w : World) (base : Nat) : PRow w base (fun _ => False) (.slice none 0 0) [] :=
  ⟨[], ⟨World.ownsRow_nil w base _ 5, rfl, by simp, by simp, by simp, by simp⟩⟩
theorem PRow.made0 {w : World} {base : Nat} (hb : base ≤ w.heap.size) : PRow (w.alloc (.cells #[] 30)) base (fun _ => False) (.slice (some ⟨w.heap.size, 0, none⟩) 0 0) [] :=
  ⟨[], ⟨World.ownsRow_lit (w := w) #[] 0 hb (by simp [maxLen]) rfl, rfl, by simp, by simp, by simp, by simp⟩⟩
theorem PRowS.cat {w w' : World} {base : Nat} {G F : Nat → Prop} {v v' : Value} {ts us : List V} {sls sms : List Value} (h : PRowS w base G v ts sls) (hl : sms.length = us.length) (hwf : ∀ i (h : i < us.length), us[i].wf)
    (hk : ∀ i (h : i < us.length), RepF w F (sms.getD i undef) us[i].kids) (hF : ∀ x, F x → x < w.heap.size ∧ v.ownBlock ≠ some x)
    (hrow : w'.ownsRow base 30 5 v' (ts.length + us.length) (flat ts sls ++ flat us sms)) (hg : w.grownBy w' v.ownBlock) (hfr : FreshOr w v v') :
    PRow w' base (fun x => G x ∨ F x) v' (ts ++ us) := by
  have hkeep : ∀ x, (G x ∨ F x) → x < w.heap.size → w'.heap[x]? = w.heap[x]? := by
    intro x hx hs
    refine hg.block x hs (fun e => ?_)
    rcases hx with hx | hx
    · exact h.own x e.symm hx
    · exact (hF x hx).2 e.symm
  refine ⟨sls ++ sms, ⟨?_, by simp [h.len, hl], ?_, ?_, ?_, ?_⟩⟩
  · rw [flat_append _ _ _ _ h.len, List.length_append]; exact hrow
  · intro i hi
    by_cases hlt : i < ts.length
    · rw [List.getElem_append_left hlt]; exact h.wfs i hlt
    · rw [List.getElem_append_right (by omega)]; exact hwf _ (by rw [List.length_append] at hi; omega)
  · intro i hi
    rw [List.length_append] at hi
    by_cases hlt : i < ts.length
    · have e : (sls ++ sms).getD i undef = sls.getD i undef := by
        rw [List.getD_eq_getElem?_getD, List.getD_eq_getElem?_getD, List.getElem?_append_left (by rw [h.len]; exact hlt)]
      rw [List.getElem_append_left hlt, e]
      exact ((h.kids i hlt).keep hg.size (fun x hx hs => hkeep x (.inl hx) hs)).mono (fun x hx _ => .inl hx)
    · have e : (sls ++ sms).getD i undef = sms.getD (i - ts.length) undef := by
        rw [List.getD_eq_getElem?_getD, List.getD_eq_getElem?_getD, List.getElem?_append_right (by rw [h.len]; omega), h.len]
      rw [List.getElem_append_right (by omega), e]
      exact ((hk (i - ts.length) (by omega)).keep hg.size (fun x hx hs => hkeep x (.inr hx) hs)).mono (fun x hx _ => .inr hx)
  · intro g hg' hG
    rcases hfr with e | e
    · rw [e] at hg'
      rcases hG with hG | hG
      · exact h.own g hg' hG
      · exact (hF g hG).2 hg'
    · rw [e] at hg'
      simp only [Option.some.injEq] at hg'
      subst hg'
      rcases hG with hG | hG
      · have := h.inG _ hG; omega
      · have := (hF _ hG).1; omega
  · intro x hx
    rcases hx with hx | hx
    · exact Nat.lt_of_lt_of_le (h.inG x hx) hg.size
    · exact Nat.lt_of_lt_of_le (hF x hx).1 hg.size
theorem flat_one (ts : List V) : ∀ (sls : List Value), (∀ s ∈ sls, ∃ a n c, s = .slice a n c) → ∀ u ∈ flat ts sls, u.oneCell' = true := by
  induction ts with
  | nil => intro sls _ u hu; simp [flat] at hu
  | cons t ts ih =>
    intro sls hs u hu
    match sls, hs, hu with
    | [], _, hu => simp [flat] at hu
    | sl :: sls, hs, hu =>
      simp only [flat, List.mem_cons] at hu
      rcases hu with h | h | h | h | h | h
      · subst h; rfl
      · subst h; rfl
      · subst h; rfl
      · subst h; rfl
      · subst h; obtain ⟨a, n, c, e⟩ := hs _ (List.mem_cons_self ..); rw [e]; rfl
      · exact ih sls (fun s hs' => hs s (List.mem_cons_of_mem _ hs')) u h
structure VSrc (w : World) (F : Nat → Prop) (xv : Value) (us : List V) (sms : List Value) : Prop where
  src : Src Tryd.prog 5 28 xv us.length (flat us sms) w
  len : sms.length = us.length
  wfs : ∀ i (h : i < us.length), us[i].wf
  kids : ∀ i (h : i < us.length), RepF w F (sms.getD i undef) us[i].kids
theorem vsrc_of {w : World} {F : Nat → Prop} {v : Value} {ts : List V} (h : RepF w F v ts) : ∃ sms, VSrc w F v ts sms := by
  cases h with
  | mk a b off cap ts0 sls ha hc hm hb cells wfs kids =>
    refine ⟨(List.range ts.length).map sls, ⟨?_, by simp, wfs, ?_⟩⟩
    · by_cases hne : ts = []
      · subst hne
        cases a with
        | none => exact Src.ofNil w Tryd.underlying28 cap
        | some a => exact Src.ofSlice w Tryd.underlying28 a _ _ _ (by simp [flat]) (by simp [flat]) (by simp [flat])
      · obtain rfl := ha hne
        refine Src.ofSlice w Tryd.underlying28 _ _ _ _ (by rw [flat_length _ _ (by simp)]) ?_ (flat_one ts _ ?_)
        · intro j u hu
          rw [addr_add _ _ rfl]
          have hj : j < ts.length * 5 := by
            rcases Nat.lt_or_ge j (flat ts ((List.range ts.length).map sls)).length with h1 | h1
            · rwa [flat_length _ _ (by simp)] at h1
            · rw [List.getElem?_eq_none h1] at hu; cases hu
          have hj5 : j / 5 < ts.length := by omega
          obtain ⟨h0, h1, h2, h3, h4⟩ := flat_get ts ((List.range ts.length).map sls) (j / 5) hj5 (by simpa using hj5)
          obtain ⟨c0, c1, c2, c3, c4⟩ := cells (j / 5) hj5
          have h5 : j % 5 < 5 := Nat.mod_lt _ (by decide)
          have hjj : j = j / 5 * 5 + j % 5 := by omega
          generalize j / 5 = q at *
          generalize j % 5 = r at *
          subst hjj
          match r, h5 with
          | 0, _ => have hu' : (flat ts (List.map sls (List.range ts.length)))[q * 5]? = some u := hu; rw [h0] at hu'; cases hu'; exact c0
          | 1, _ => rw [h1] at hu; cases hu; rw [← Nat.add_assoc]; exact c1
          | 2, _ => rw [h2] at hu; cases hu; rw [← Nat.add_assoc]; exact c2
          | 3, _ => rw [h3] at hu; cases hu; rw [← Nat.add_assoc]; exact c3
          | 4, _ => rw [h4] at hu; cases hu; rw [← Nat.add_assoc]; simpa using c4
        · intro s hs
          obtain ⟨i, hi, rfl⟩ := List.mem_map.1 hs
          obtain ⟨a, cap, e⟩ := (kids i (by simpa using hi)).slice
          exact ⟨a, _, cap, e⟩
    · intro i hi
      have : ((List.range ts.length).map sls).getD i undef = sls i := by simp [List.getD_eq_getElem?_getD, List.getElem?_map, List.getElem?_range hi]
      rw [this]; exact kids i hi
section
variable {w : World} {ops : Array Oper} {rest : List Oper} {o : Oper} {a : Act} {Q : Exit → Act → World → Prop}
theorem app_vals (hgd : o.guard = none) (s x : Operand)
    (ho : o.op = .call { callee := .builtin .append, args := #[s, x], argTypes := #[28, 28] })
    (base : Nat) (G F : Nat → Prop) (v : Value) (ts us : List V) (sms : List Value) (hs : a.eval s = v) (hown : PRow w base G v ts) (xv : Value) (hx : a.eval x = xv) (hsrc : VSrc w F xv us sms) (hF : ∀ x, F x → x < w.heap.size ∧ v.ownBlock ≠ some x)
    (h63 : ts.length + us.length ≤ 1099511627776) (hbase : base ≤ w.heap.size)
    (h : ∀ v' w', PRow w' base (fun x => G x ∨ F x) v' (ts ++ us) → w.grownBy w' v.ownBlock → FreshOr w v v' → wpList Tryd.prog ops Q rest (a.put o.dst v') w') : wpList Tryd.prog ops Q (o :: rest) a w := by
  obtain ⟨i0, hi, hz0, hz1, hz2⟩ := info_parts info_impl
  obtain ⟨sls, hp⟩ := hown
  exact wpList_app hgd s x 28 28 ho base 30 i0 _ 5 64 Tryd.underlying28 hi hz0 hz1 hz2 rfl (by decide) v ts.length (flat ts sls) hs hp.row xv hx us.length (flat us sms) hsrc.src h63 hbase
    (fun v' w' h1 h2 h3 _ => h v' w' (hp.cat hsrc.len hsrc.wfs hsrc.kids hF h1 h2 h3) h2 h3)
theorem step_vals {K : Act → World → Prop} {X : Prop} (hgd : o.guard = none) (s x : Operand)
    (ho : o.op = .call { callee := .builtin .append, args := #[s, x], argTypes := #[28, 28] })
    (base : Nat) (G F : Nat → Prop) (v : Value) (ts us : List V) (sms : List Value) (hs : a.eval s = v) (hown : PRow w base G v ts) (xv : Value) (hx : a.eval x = xv) (hsrc : VSrc w F xv us sms) (hF : ∀ x, F x → x < w.heap.size ∧ v.ownBlock ≠ some x)
    (h63 : ts.length + us.length ≤ 1099511627776) (hbase : base ≤ w.heap.size)
    (h : ∀ v' w', PRow w' base (fun x => G x ∨ F x) v' (ts ++ us) → w.grownBy w' v.ownBlock → FreshOr w v v' → K (a.put o.dst v') w') : if Region.wanted o (yielded ops a.tmps) = true then Oper.wp Tryd.prog o a w K Q else X := by
  obtain ⟨i0, hi, hz0, hz1, hz2⟩ := info_parts info_impl
  obtain ⟨sls, hp⟩ := hown
  exact step_app hgd s x 28 28 ho base 30 i0 _ 5 64 Tryd.underlying28 hi hz0 hz1 hz2 rfl (by decide) v ts.length (flat ts sls) hs hp.row xv hx us.length (flat us sms) hsrc.src h63 hbase
    (fun v' w' h1 h2 h3 _ => h v' w' (hp.cat hsrc.len hsrc.wfs hsrc.kids hF h1 h2 h3) h2 h3)
end
end Go.Proofs.YtaphlemmlmdkiaaDoor
namespace Go.Proofs.YtaphlemmlmdkiaaDoor
set_option linter.unusedSimpArgs false
set_option linter.unusedVariables false
set_option maxRecDepth 100000
open Go.RowKit
theorem flat_part (ts : List V) (sls : List Value) (i : Nat) (hl : sls.length = ts.length) (hi : i ≤ ts.length) : flat (ts.take i) (sls.take i) = (flat ts sls).take (i * 5) ∧ flat (ts.drop i) (sls.drop i) = (flat ts sls).drop (i * 5) := by
  have h1 : (sls.take i).length = (ts.take i).length := by rw [List.length_take, List.length_take, hl]
  have h2 := flat_append (ts.take i) (ts.drop i) (sls.take i) (sls.drop i) h1
  rw [List.take_append_drop, List.take_append_drop] at h2
  have h3 : (flat (ts.take i) (sls.take i)).length = i * 5 := by rw [flat_length _ _ h1, List.length_take]; omega
  rw [h2]
  exact ⟨by rw [← h3, List.take_left], by rw [← h3, List.drop_left]⟩
theorem PRow.open {w : World} {base : Nat} {G : Nat → Prop} {g n cap : Nat} {ts : List V} (h : PRow w base G (.slice (some ⟨g, 0, none⟩) n cap) ts) : n = ts.length ∧ n ≤ cap ∧ cap ≤ maxLen ∧ ∃ cur, w.heap[g]? = some (.cells cur 30 (0, 0)) ∧ cur.size = cap * 5 ∧ ∀ u ∈ cur.toList.take (n * 5), u.oneCell' = true := by
  have hs := h
  obtain ⟨sls, hr⟩ := h
  obtain ⟨h1, h2⟩ := hr.row
  rcases h2 with ⟨h2, -⟩ | ⟨g2, cap2, cur, hv, h3, h4, h5, h6, h7, h8⟩
  · cases h2
  · injection hv with e1 e2 e3
    subst e2 e3
    injection e1 with e1
    injection e1 with e1
    subst e1
    refine ⟨rfl, h5, h6, cur, h4, h7, ?_⟩
    rw [h8]
    exact flat_one ts sls (fun s hs => by
      obtain ⟨j, hj, rfl⟩ := List.getElem_of_mem hs
      have hk := hr.kids j (by rw [← hr.len]; exact hj)
      rw [List.getD_eq_getElem?_getD, List.getElem?_eq_getElem hj] at hk
      obtain ⟨a, c, e⟩ := RepF.slice hk
      exact ⟨a, _, c, e⟩)
theorem PRow.cut2 {w w' : World} {base : Nat} {G : Nat → Prop} {g n cap i : Nat} {ts : List V} {cur cur' : Array Value} (h : PRow w base G (.slice (some ⟨g, 0, none⟩) n cap) ts) (hi : i + 2 ≤ ts.length)
    (hb : w.heap[g]? = some (.cells cur 30 (0, 0))) (hb' : w'.heap[g]? = some (.cells cur' 30 (0, 0))) (hs : cur'.size = cur.size)
    (ht : cur'.toList.take ((n - 2) * 5) = cur.toList.take (i * 5) ++ (cur.toList.take (n * 5)).drop ((i + 2) * 5)) (hg : w.grownBy w' (some g)) :
    PRow w' base G (.slice (some ⟨g, 0, none⟩) (n - 2) cap) (ts.take i ++ ts.drop (i + 2)) := by
  obtain ⟨sls, hr⟩ := h
  obtain ⟨h1, h2⟩ := hr.row
  rcases h2 with ⟨h2, -⟩ | ⟨g2, cap2, cur2, hv, h3, h4, h5, h6, h7, h8⟩
  · cases h2
  injection hv with e1 e2 e3
  subst e2 e3
  injection e1 with e1
  injection e1 with e1
  subst e1
  rw [hb] at h4
  injection h4 with h4
  injection h4 with h4
  subst h4
  have hl : (ts.take i ++ ts.drop (i + 2)).length = ts.length - 2 := by rw [List.length_append, List.length_take, List.length_drop]; omega
  have hown := hr.own g rfl
  have hgb : ∀ x, x < w.heap.size → x ≠ g → w'.heap[x]? = w.heap[x]? := fun x hx hxg => hg.block x hx (fun e => hxg (Option.some.inj e))
  refine ⟨sls.take i ++ sls.drop (i + 2), ⟨?_, ?_, ?_, ?_, ?_, ?_⟩⟩
  · have hf : flat (ts.take i ++ ts.drop (i + 2)) (sls.take i ++ sls.drop (i + 2)) = cur.toList.take (i * 5) ++ (cur.toList.take (ts.length * 5)).drop ((i + 2) * 5) := by
      rw [flat_append _ _ _ _ (by rw [List.length_take, List.length_take, hr.len]), (flat_part ts sls i hr.len (by omega)).1, (flat_part ts sls (i + 2) hr.len hi).2, ← h8, List.take_take, Nat.min_eq_left (by omega)]
    rw [hf, hl]
    refine ⟨?_, .inr ⟨g, cap, cur', rfl, h3, hb', by omega, h6, by rw [hs]; exact h7, ht⟩⟩
    rw [← hf, flat_length _ _ (by rw [List.length_append, List.length_append, List.length_take, List.length_take, List.length_drop, List.length_drop, hr.len]), hl]
  · rw [List.length_append, List.length_append, List.length_take, List.length_take, List.length_drop, List.length_drop, hr.len]
  · intro j hj
    have hm : (ts.take i ++ ts.drop (i + 2))[j] ∈ ts := by
      have := List.getElem_mem hj
      rw [List.mem_append] at this
      exact this.elim List.mem_of_mem_take List.mem_of_mem_drop
    obtain ⟨q, hq, e⟩ := List.getElem_of_mem hm
    rw [← e]; exact hr.wfs q hq
  · intro j hj
    have key : ∀ q (hq : q < ts.length), (sls.take i ++ sls.drop (i + 2)).getD j undef = sls.getD q undef → (ts.take i ++ ts.drop (i + 2))[j] = ts[q] → RepF w' G ((sls.take i ++ sls.drop (i + 2)).getD j undef) (ts.take i ++ ts.drop (i + 2))[j].kids := by
      intro q hq e1 e2
      rw [e1, e2]
      exact (hr.kids q hq).keep hg.size (fun x hx hxs => hgb x hxs (fun e => hown (e ▸ hx)))
    by_cases hji : j < i
    · refine key j (by omega) ?_ ?_
      · rw [List.getD_eq_getElem?_getD, List.getD_eq_getElem?_getD, List.getElem?_append_left (by rw [List.length_take, hr.len]; omega), List.getElem?_take, if_pos hji]
      · rw [List.getElem_append_left (by rw [List.length_take]; omega), List.getElem_take]
    · rw [hl] at hj
      refine key (j + 2) (by omega) ?_ ?_
      · rw [List.getD_eq_getElem?_getD, List.getD_eq_getElem?_getD, List.getElem?_append_right (by rw [List.length_take, hr.len]; omega), List.getElem?_drop, List.length_take, hr.len, Nat.min_eq_left (by omega), show i + 2 + (j - i) = j + 2 by omega]
      · rw [List.getElem_append_right (by rw [List.length_take]; omega), List.getElem_drop]
        congr 1
        rw [List.length_take, Nat.min_eq_left (by omega)]; omega
  · intro g2 hg2
    obtain rfl : g = g2 := Option.some.inj hg2
    exact hown
  · intro x hx
    exact Nat.lt_of_lt_of_le (hr.inG x hx) hg.size
end Go.Proofs.YtaphlemmlmdkiaaDoor
namespace Go.Proofs.YtaphlemmlmdkiaaDoor
set_option linter.unusedSimpArgs false
set_option linter.unusedVariables false
set_option maxRecDepth 100000
open Go.RowKit Go.Lib
theorem zc_one1 : ∀ v ∈ (Builtin.zeroCells z5 1).toList, v.oneCell' = true := by
  intro v hv
  simp only [Builtin.zeroCells, Array.toList_map, List.mem_map] at hv
  obtain ⟨i, _, rfl⟩ := hv
  have h5 : i % z5.size = 0 ∨ i % z5.size = 1 ∨ i % z5.size = 2 ∨ i % z5.size = 3 ∨ i % z5.size = 4 := by
    have : i % z5.size < z5.size := Nat.mod_lt _ (by decide)
    have h : z5.size = 5 := rfl
    omega
  rcases h5 with h | h | h | h | h <;> rw [h] <;> rfl
theorem run_clear51 (w : World) (ty : TypeId) (b o c : Nat)
    (hc : ∀ j, j < 5 → (w.cell? ⟨b, o + j, none⟩).isSome = true) (hf : ∀ j, j < 5 → w.frozen? ⟨b, o + j, none⟩ = false) :
    (Builtin.clear_ #[28] ty #[.slice (some ⟨b, o, none⟩) 1 c]).run Tryd.prog w = .ok (.tuple #[]) (w.setCells b o (Builtin.zeroCells z5 1).toList) := by
  have hl := zc_size 1
  have hst := run_storeCells_cells (P := Tryd.prog) b o (Builtin.zeroCells z5 1).toList 0 w (by intro j hj; exact hc j (by omega)) (by intro j hj; exact hf j (by omega)) zc_one1
  simp only [Nat.add_zero] at hst
  have hv := fun w => Tryd.zeroValue30 w
  have hz : (Value.agg #[Value.int .i64 0, .int .i64 0, .int .i64 0, .string ⟨#[]⟩, .slice none 0 0]).cells = z5 := rfl
  simp [Builtin.clear_, run_underlying Tryd.underlying28, hv, hz, hst]
set_option maxHeartbeats 2000000 in
theorem Delete1_any (g n cap i : Nat) (cur : Array Value) (w : World) (hb : w.heap[g]? = some (.cells cur 30 (0, 0))) (hin : i + 1 ≤ n) (hnc : n ≤ cap) (hn40 : n ≤ 1099511627776) (hm : cap ≤ 9223372036854775807) (hcs : cur.size = cap * 5) (h1 : ∀ u ∈ cur.toList.take (n * 5), u.oneCell' = true) :
    Calls Tryd.prog 60 #[.slice (some ⟨g, 0, none⟩) n cap, .int .i64 (i : Int), .int .i64 ((i : Int) + 1)] w fun e w' => e = .returned (.slice (some ⟨g, 0, none⟩) (n - 1) cap) ∧
      ∃ cur', w'.heap[g]? = some (.cells cur' 30 (0, 0)) ∧ cur'.size = cur.size ∧ cur'.toList.take ((n - 1) * 5) = cur.toList.take (i * 5) ++ (cur.toList.take (n * 5)).drop ((i + 1) * 5) ∧ w.grownBy w' (some g) := by
  obtain ⟨news, hnews⟩ : ∃ news, news = (cur.toList.take (n * 5)).drop ((i + 1) * 5) := ⟨_, rfl⟩
  have hcl : cur.toList.length = cap * 5 := by rw [Array.length_toList, hcs]
  have hlen : news.length = (n - (i + 1)) * 5 := by rw [hnews, List.length_drop, List.length_take, hcl]; omega
  have hcell : ∀ (W : World) (c : Array Value), W.heap[g]? = some (.cells c 30 (0, 0)) → ∀ o, W.cell? ⟨g, o, none⟩ = c[o]? := fun W c h o => cell_of_row W g o c _ (0, 0) h
  obtain ⟨A, hA, hsrc⟩ : ∃ A : Addr, (if cap = i + 1 then some (⟨g, 0, none⟩ : Addr) else some ⟨g, 0 + (i + 1) * 5, none⟩) = some A ∧ Hid (∀ t u, news[t]? = some u → w.drew.cell? (A.add t) = some u) := by
    by_cases h : cap = i + 1
    · refine ⟨⟨g, 0, none⟩, by simp [h], fun t u hu => ?_⟩
      have h0 : news.length = 0 := by rw [hlen]; omega
      rw [List.length_eq_zero_iff.1 h0] at hu
      simp at hu
    · refine ⟨⟨g, 0 + (i + 1) * 5, none⟩, by simp [h], fun t u hu => ?_⟩
      rw [Addr.add_lit]
      show w.cell? _ = _
      rw [hcell w cur hb]
      rw [hnews, List.getElem?_drop, List.getElem?_take] at hu
      split at hu
      · rw [← Array.getElem?_toList]; rw [show 0 + (i + 1) * 5 + t = (i + 1) * 5 + t by omega]; exact hu
      · cases hu
  have hb0 : w.drew.heap[g]? = some (.cells cur 30 (0, 0)) := hb
  have hcl2 : cur.size = cur.toList.length := by simp
  obtain ⟨cur1, hb1, hs1, ht1⟩ := heap_setCells_same g 30 news (0 + i * 5) w.drew cur hb0 (by rw [hlen]; omega)
  obtain ⟨W1, hW1⟩ : ∃ W1, W1 = w.drew.setCells g (0 + i * 5) news := ⟨_, rfl⟩
  rw [← hW1] at hb1
  obtain ⟨cur2, hb2, hs2, ht2⟩ := heap_setCells_same g 30 (Builtin.zeroCells z5 1).toList (0 + (n - 1) * 5) W1 cur1 hb1 (by rw [zc_size, hs1]; omega)
  have s1 : Hid (news.length = (n - (i + 1)) * 5) := Lib.hid hlen
  have s2 : Hid (∀ u ∈ news, u.oneCell' = true) := Lib.hid (fun u hu => h1 u (by rw [hnews] at hu; exact List.mem_of_mem_drop hu))
  have s3 : Hid (∀ t, t < news.length → (w.drew.cell? ⟨g, 0 + i * 5 + t, none⟩).isSome = true ∧ w.drew.frozen? ⟨g, 0 + i * 5 + t, none⟩ = false) := Lib.hid (fun t ht => by
    rw [hlen] at ht
    refine ⟨?_, frozen_of_row w.drew g _ _ _ hb0⟩
    rw [hcell w.drew cur hb0, Array.getElem?_eq_getElem (by omega)]; rfl)
  have hclr : ∀ ty, (Builtin.clear_ #[28] ty #[.slice (some ⟨g, (i + (n - (i + 1))) * 5, none⟩) (n - (i + (n - (i + 1)))) (cap - (i + (n - (i + 1))))]).run Tryd.prog W1 = .ok (.tuple #[]) (W1.setCells g (0 + (n - 1) * 5) (Builtin.zeroCells z5 1).toList) := fun ty => by
    rw [show n - (i + (n - (i + 1))) = 1 by omega, show (i + (n - (i + 1))) * 5 = 0 + (n - 1) * 5 by omega]
    exact run_clear51 W1 ty g _ _ (fun j hj => by rw [hcell W1 cur1 hb1, Array.getElem?_eq_getElem (by omega)]; rfl) (fun j hj => frozen_of_row W1 g _ _ _ hb1)
  obtain ⟨i0, hi0, hz1⟩ := infoSz
  have HF := Lib.hid (show ∃ cur', (W1.setCells g (0 + (n - 1) * 5) (Builtin.zeroCells z5 1).toList).heap[g]? = some (.cells cur' 30 (0, 0)) ∧ cur'.size = cur.size ∧ cur'.toList.take ((n - 1) * 5) = cur.toList.take (i * 5) ++ news ∧ w.grownBy (W1.setCells g (0 + (n - 1) * 5) (Builtin.zeroCells z5 1).toList) (some g) from by
    refine ⟨cur2, hb2, by rw [hs2, hs1], ?_, ?_⟩
    · rw [ht2, ht1]
      rw [Nat.zero_add, Nat.zero_add]
      have e1 : (cur.toList.take (i * 5) ++ news).length = (n - 1) * 5 := by rw [List.length_append, hlen, List.length_take, hcl]; omega
      generalize cur.toList.take (i * 5) ++ news = L at e1 ⊢
      rw [← e1, List.take_left, List.append_assoc, List.take_left]
    · rw [hW1]
      exact grownBy_trans (grownBy_trans (⟨rfl, rfl, rfl, Nat.le_refl _, fun _ _ _ => rfl⟩ : w.grownBy w.drew (some g)) (grownBy_cells g _ _ _)) (grownBy_cells g _ _ _))
  have hW : Hid (W1 = w.drew.setCells g (0 + i * 5) news) := Lib.hid hW1
  have hic : i ≤ cap := by omega
  have hjc : i + 1 ≤ cap := by omega
  have hlt2 : (i : Int) + 1 ≤ (n : Int) := by omega
  have e2 : ((i : Int) + 1).toNat = i + 1 := by omega
  have e3 : ((i : Int) == (i : Int) + 1) = false := by simp; omega
  have h02 : 0 ≤ (i : Int) + 1 := by omega
  rw [Nat.zero_add] at hA
  rw [← hnews]
  clear hW1 hb1 hb2 hs1 hs2 ht1 ht2 hb hb0 hcell hnews hlen hcl hcl2 hcs h1
  go_enter Tryd.func60, Tryd.ntmps60
  go_wp2_with fail
  go_region_law (refine step_append_room rfl (.tmp 22) (.tmp 25) 28 rfl 30 i0 5 Tryd.underlying28 hi0 hz1 g 0 i cap (by simp [Act.eval, Act.put]) A (n - (i + 1)) (cap - (i + 1)) news (by simp [Act.eval, Act.put]) s1.out hsrc.out s2.out (by omega) s3.out ?_; rw [← hW.out])
  all_goals
    go_wp2_with fail
    go_ret
    exact ⟨by rw [show n - 1 = i + (n - (i + 1)) by omega]; rfl, by have h := HF.out; rw [Nat.zero_add] at h; exact h⟩
theorem PRow.cut1 {w w' : World} {base : Nat} {G : Nat → Prop} {g n cap i : Nat} {ts : List V} {cur cur' : Array Value} (h : PRow w base G (.slice (some ⟨g, 0, none⟩) n cap) ts) (hi : i + 1 ≤ ts.length)
    (hb : w.heap[g]? = some (.cells cur 30 (0, 0))) (hb' : w'.heap[g]? = some (.cells cur' 30 (0, 0))) (hs : cur'.size = cur.size)
    (ht : cur'.toList.take ((n - 1) * 5) = cur.toList.take (i * 5) ++ (cur.toList.take (n * 5)).drop ((i + 1) * 5)) (hg : w.grownBy w' (some g)) :
    PRow w' base G (.slice (some ⟨g, 0, none⟩) (n - 1) cap) (ts.take i ++ ts.drop (i + 1)) := by
  obtain ⟨sls, hr⟩ := h
  obtain ⟨h1, h2⟩ := hr.row
  rcases h2 with ⟨h2, -⟩ | ⟨g2, cap2, cur2, hv, h3, h4, h5, h6, h7, h8⟩
  · cases h2
  injection hv with e1 e2 e3
  subst e2 e3
  injection e1 with e1
  injection e1 with e1
  subst e1
  rw [hb] at h4
  injection h4 with h4
  injection h4 with h4
  subst h4
  have hl : (ts.take i ++ ts.drop (i + 1)).length = ts.length - 1 := by rw [List.length_append, List.length_take, List.length_drop]; omega
  have hown := hr.own g rfl
  have hgb : ∀ x, x < w.heap.size → x ≠ g → w'.heap[x]? = w.heap[x]? := fun x hx hxg => hg.block x hx (fun e => hxg (Option.some.inj e))
  refine ⟨sls.take i ++ sls.drop (i + 1), ⟨?_, ?_, ?_, ?_, ?_, ?_⟩⟩
  · have hf : flat (ts.take i ++ ts.drop (i + 1)) (sls.take i ++ sls.drop (i + 1)) = cur.toList.take (i * 5) ++ (cur.toList.take (ts.length * 5)).drop ((i + 1) * 5) := by
      rw [flat_append _ _ _ _ (by rw [List.length_take, List.length_take, hr.len]), (flat_part ts sls i hr.len (by omega)).1, (flat_part ts sls (i + 1) hr.len hi).2, ← h8, List.take_take, Nat.min_eq_left (by omega)]
    rw [hf, hl]
    refine ⟨?_, .inr ⟨g, cap, cur', rfl, h3, hb', by omega, h6, by rw [hs]; exact h7, ht⟩⟩
    rw [← hf, flat_length _ _ (by rw [List.length_append, List.length_append, List.length_take, List.length_take, List.length_drop, List.length_drop, hr.len]), hl]
  · rw [List.length_append, List.length_append, List.length_take, List.length_take, List.length_drop, List.length_drop, hr.len]
  · intro j hj
    have hm : (ts.take i ++ ts.drop (i + 1))[j] ∈ ts := by
      have := List.getElem_mem hj
      rw [List.mem_append] at this
      exact this.elim List.mem_of_mem_take List.mem_of_mem_drop
    obtain ⟨q, hq, e⟩ := List.getElem_of_mem hm
    rw [← e]; exact hr.wfs q hq
  · intro j hj
    have key : ∀ q (hq : q < ts.length), (sls.take i ++ sls.drop (i + 1)).getD j undef = sls.getD q undef → (ts.take i ++ ts.drop (i + 1))[j] = ts[q] → RepF w' G ((sls.take i ++ sls.drop (i + 1)).getD j undef) (ts.take i ++ ts.drop (i + 1))[j].kids := by
      intro q hq e1 e2
      rw [e1, e2]
      exact (hr.kids q hq).keep hg.size (fun x hx hxs => hgb x hxs (fun e => hown (e ▸ hx)))
    by_cases hji : j < i
    · refine key j (by omega) ?_ ?_
      · rw [List.getD_eq_getElem?_getD, List.getD_eq_getElem?_getD, List.getElem?_append_left (by rw [List.length_take, hr.len]; omega), List.getElem?_take, if_pos hji]
      · rw [List.getElem_append_left (by rw [List.length_take]; omega), List.getElem_take]
    · rw [hl] at hj
      refine key (j + 1) (by omega) ?_ ?_
      · rw [List.getD_eq_getElem?_getD, List.getD_eq_getElem?_getD, List.getElem?_append_right (by rw [List.length_take, hr.len]; omega), List.getElem?_drop, List.length_take, hr.len, Nat.min_eq_left (by omega), show i + 1 + (j - i) = j + 1 by omega]
      · rw [List.getElem_append_right (by rw [List.length_take]; omega), List.getElem_drop]
        congr 1
        rw [List.length_take, Nat.min_eq_left (by omega)]; omega
  · intro g2 hg2
    obtain rfl : g = g2 := Option.some.inj hg2
    exact hown
  · intro x hx
    exact Nat.lt_of_lt_of_le (hr.inG x hx) hg.size
end Go.Proofs.YtaphlemmlmdkiaaDoor
namespace Go.Proofs.YtaphlemmlmdkiaaDoor
set_option linter.unusedSimpArgs false
set_option linter.unusedVariables false
set_option maxRecDepth 100000
open Go.RowKit
mutual
def V.pre : V → List V
  | .mk k n e s ks => .mk k n e s ks :: pres ks
def pres : List V → List V
  | [] => []
  | t :: ts => t.pre ++ pres ts
 end
end Go.Proofs.YtaphlemmlmdkiaaDoor
namespace Go.Proofs.YtaphlemmlmdkiaaDoor
set_option linter.unusedSimpArgs false
set_option linter.unusedVariables false
set_option maxRecDepth 100000
open Go.RowKit
theorem RepS.opened' {w : World} {v : Value} {ts : List V} (h : RepS w v ts) : ∃ a b off cap, v = .slice a ts.length cap ∧ (ts ≠ [] → a = some ⟨b, off, none⟩ ∧ b < w.heap.size) ∧ ts.length ≤ cap ∧ cap ≤ 9223372036854775807 ∧
    ∃ sls : Nat → Value, ∀ i (h : i < ts.length), Cells5 w b (off + i * 5) ts[i] (sls i) ∧ ts[i].wf ∧ RepS w (sls i) ts[i].kids := by
  cases h with
  | mk a b off cap ts0 sls ha hc hm hbb cells wfs kids => exact ⟨a, b, off, cap, rfl, fun hne => ⟨ha hne, hbb hne⟩, hc, hm, sls, fun i hi => ⟨cells i hi, wfs i hi, kids i hi⟩⟩
theorem RepS.take {w : World} {a : Option Addr} {n cap : Nat} {ts : List V} (h : RepS w (.slice a n cap) ts) (i : Nat) (hi : i ≤ ts.length) : RepS w (.slice a i cap) (ts.take i) := by
  obtain ⟨a', b, off, cap', hv, ha, hc, hm, sls, hel⟩ := h.opened'
  simp only [Value.slice.injEq] at hv
  obtain ⟨rfl, rfl, rfl⟩ := hv
  have hl : (ts.take i).length = i := by rw [List.length_take]; omega
  have := RepS.mk (w := w) a b off cap (ts.take i) sls (fun hne => (ha (fun e => hne (by rw [e]; simp))).1) (by rw [hl]; omega) hm (fun hne => (ha (fun e => hne (by rw [e]; simp))).2)
    (fun j hj => by rw [hl] at hj; rw [List.getElem_take]; exact (hel j (by omega)).1) (fun j hj => by rw [hl] at hj; rw [List.getElem_take]; exact (hel j (by omega)).2.1) (fun j hj => by rw [hl] at hj; rw [List.getElem_take]; exact (hel j (by omega)).2.2)
  rw [hl] at this
  exact this
end Go.Proofs.YtaphlemmlmdkiaaDoor
namespace Go.Proofs.YtaphlemmlmdkiaaDoor
set_option linter.unusedSimpArgs false
set_option linter.unusedVariables false
set_option maxRecDepth 100000
open Go.RowKit
theorem Box.grown {w w' : World} {b : Nat} {k n e : Int} {s : ByteArray} {sl : Value} {T : TypeId} (h : Box w b k n e s sl T) {o : Option Nat} (hg : w.grownBy w' o) (hn : o ≠ some b) : Box w' b k n e s sl T :=
  (hg.block b h.lt (fun e => hn e.symm)).trans h
end Go.Proofs.YtaphlemmlmdkiaaDoor
namespace Go.Proofs.YtaphlemmlmdkiaaDoor
set_option linter.unusedSimpArgs false
set_option linter.unusedVariables false
set_option maxRecDepth 100000
open Go.RowKit
def CloRet (F : Nat → Prop) (w : World) (ts : List V) (e : Ending) (w' : World) : Prop := ∃ v', e = .returned v' ∧ PRow w' w.heap.size (fun x => F x ∧ x < w.heap.size) v' ts ∧ Below w.heap.size w w'
set_option maxHeartbeats 2000000 in
theorem Clone_any (F : Nat → Prop) (v : Value) (ts : List V) (w : World) (h : RepF w F v ts) (hl : ts.length ≤ 2097152) :
    Calls Tryd.prog 59 #[v] w (CloRet F w ts) := by
  obtain ⟨a, cap, rfl⟩ := h.slice
  have q22 : ∀ (w : World) (a : Option Addr) (n c n' c' : Nat), (binOp .eql 28 (.slice a n c) (.slice none n' c')).run Tryd.prog w = .ok (.bool a.isNone) w := fun w a n c n' c' => Lib.run_eql_slice_nil w _ _ a n c n' c' Tryd.underlying28
  cases a with
  | none =>
    have hts : ts = [] := by
      obtain ⟨a2, b, off, cap2, e, ha, -⟩ := h.rep.opened
      injection e with e1 e2 e3
      by_cases hne : ts = []
      · exact hne
      · have := (ha hne).1
        rw [← e1] at this
        cases this
    subst hts
    have HF := Lib.hid (show CloRet F w [] (.returned (.slice none 0 0)) w from ⟨_, rfl, ⟨[], ⟨⟨by simp [flat], .inl ⟨rfl, rfl⟩⟩, rfl, by simp, by simp, (by intro g hg; cases hg), fun x hx => hx.2⟩⟩, Below.refl _ _⟩)
    clear h
    go_enter Tryd.func59, Tryd.ntmps59
    go_wp2_with fail
    go_ret
    exact HF.out
  | some a =>
    have hal : Below w.heap.size w (w.alloc (.cells #[] 30)) := (Below.refl _ _).alloc (Nat.le_refl _) _
    obtain ⟨sms, hs2⟩ := vsrc_of (h.bound.stay hal)
    have HS := Lib.hid hs2
    have R0 := Lib.hid (PRow.made0 (w := w) (Nat.le_refl _))
    have HAL := Lib.hid hal
    clear hs2 h hal
    go_enter Tryd.func59, Tryd.ntmps59
    go_wp2_with (at_builtin; go_loud (refine app_vals rfl _ _ rfl w.heap.size _ _ _ _ _ _ rfl R0.out _ rfl HS.out (fun x hx => ⟨by have := hx.2; simp; omega, fun e => by have h2 := (R0.out.lt x e).1; have := hx.2; omega⟩) (by simp; omega) (by simp) ?_); intro v2 w2 hrow2 hg2 hfr2; have HR := Lib.hid hrow2; have HB := Lib.hid (HAL.out.grown hg2 (by simp) (fun k hk => (R0.out.lt k hk).1)); clear hrow2 hg2 hfr2)
    go_ret
    exact ⟨_, rfl, by have := HR.out; simpa using this, HB.out⟩
end Go.Proofs.YtaphlemmlmdkiaaDoor
namespace Go.Proofs.YtaphlemmlmdkiaaDoor
set_option linter.unusedSimpArgs false
set_option linter.unusedVariables false
set_option maxRecDepth 100000
open Go.RowKit
theorem RepS.empty {w : World} {v : Value} (h : RepS w v []) (F : Nat → Prop) : OwnS w F v [] := by
  generalize hts : ([] : List V) = ts at h
  cases h with
  | mk a b off cap ts sls ha hc hm hbb cells wfs kids =>
    subst hts
    exact OwnS.mk F a b off cap [] sls (fun _ _ => False) (fun h => absurd rfl h) hc hm (fun h => absurd rfl h) (fun i hi => absurd hi (by simp)) (fun i j hij hj => absurd hj (by simp)) (fun i hi => absurd hi (by simp)) (fun i hi => absurd hi (by simp)) (fun i hi => absurd hi (by simp))
theorem VRow.snoc {w w' : World} {base : Nat} {E : TypeId} {G F : Nat → Prop} {v v' : Value} {ts : List V} {sls : List Value} {Fs : Nat → Nat → Prop} {t : V} {sl : Value} (h : VRow w base E G v ts sls Fs) (ht : t.wf) (ho : OwnS w F sl t.kids)
    (hF : ∀ x, F x → base ≤ x ∧ x < w.heap.size ∧ ¬ G x ∧ v.ownBlock ≠ some x)
    (hrow : w'.ownsRow base E 5 v' (ts.length + 1) (flat ts sls ++ flat [t] [sl])) (hg : w.grownBy w' v.ownBlock) (hfr : FreshOr w v v') :
    VRows w' base E (fun x => G x ∨ F x) v' (ts ++ [t]) := by
  have hk : ∀ x, (G x ∨ F x) → x < w.heap.size → w'.heap[x]? = w.heap[x]? := by
    intro x hx hs
    refine hg.block x hs (fun e => ?_)
    rcases hx with hx | hx
    · exact h.own x e.symm hx
    · exact (hF x hx).2.2.2 e.symm
  refine ⟨sls ++ [sl], fun i => if i < ts.length then Fs i else F, ?_, by simp [h.len], ?_, ?_, ?_, ?_, ?_, ?_⟩
  · rw [flat_append _ _ _ _ h.len, List.length_append]; exact hrow
  · intro i hi
    rw [List.length_append] at hi
    by_cases hlt : i < ts.length
    · rw [List.getElem_append_left hlt]; exact h.wfs i hlt
    · have : i = ts.length := by simp at hi; omega
      subst this; simpa using ht
  · intro i hi
    rw [List.length_append] at hi
    by_cases hlt : i < ts.length
    · have h1 := h.kids i hlt
      rw [if_pos hlt, List.getElem_append_left hlt]
      have : (sls ++ [sl]).getD i undef = sls.getD i undef := by
        rw [List.getD_eq_getElem?_getD, List.getD_eq_getElem?_getD, List.getElem?_append_left (by rw [h.len]; exact hlt)]
      rw [this]
      exact h1.keep (fun x hx hs => hk x (.inl (h.sub i hlt x hx)) hs)
    · have : i = ts.length := by simp at hi; omega
      subst this
      have e : (sls ++ [sl]).getD ts.length undef = sl := by rw [List.getD_eq_getElem?_getD, ← h.len]; simp
      rw [if_neg hlt, e]
      simpa using ho.keep (fun x hx hs => hk x (.inr hx) hs)
  · intro i hi x hx
    by_cases hlt : i < ts.length
    · simp only [if_pos hlt] at hx; exact .inl (h.sub i hlt x hx)
    · simp only [if_neg hlt] at hx; exact .inr hx
  · intro i j hij hj x hx hx'
    rw [List.length_append] at hj
    have hi : i < ts.length := by simp at hj; omega
    simp only [if_pos hi] at hx
    by_cases hlt : j < ts.length
    · simp only [if_pos hlt] at hx'; exact h.dis i j hij hlt x hx hx'
    · simp only [if_neg hlt] at hx'; exact (hF x hx').2.2.1 (h.sub i hi x hx)
  · intro g hg' hG
    rcases hfr with e | e
    · rw [e] at hg'
      rcases hG with hG | hG
      · exact h.own g hg' hG
      · exact (hF g hG).2.2.2 hg'
    · rw [e] at hg'
      simp only [Option.some.injEq] at hg'
      subst hg'
      rcases hG with hG | hG
      · have := (h.inG _ hG).2; omega
      · have := (hF _ hG).2.1; omega
  · intro x hx
    rcases hx with hx | hx
    · exact ⟨(h.inG x hx).1, Nat.lt_of_lt_of_le (h.inG x hx).2 hg.size⟩
    · exact ⟨(hF x hx).1, Nat.lt_of_lt_of_le (hF x hx).2.1 hg.size⟩
theorem VRows.slice3 {w : World} {base : Nat} {E : TypeId} {G : Nat → Prop} {v : Value} {ts : List V} (h : VRows w base E G v ts) : ∃ a n cap, v = .slice a n cap := by
  obtain ⟨a, cap, e⟩ := h.own.slice
  exact ⟨a, _, cap, e⟩
theorem VRows.made0 {w : World} {base b : Nat} {E : TypeId} (hb : base ≤ b) (h : w.heap[b]? = some (.cells #[] E (0, 0))) : VRows w base E (fun _ => False) (.slice (some ⟨b, 0, none⟩) 0 0) [] := by
  refine ⟨[], fun _ _ => False, ⟨?_, rfl, by simp, by simp, by simp, by simp, by simp, by simp⟩⟩
  exact ⟨rfl, .inr ⟨b, 0, #[], rfl, hb, h, Nat.le_refl 0, by simp [maxLen], by simp, by simp [flat]⟩⟩
theorem src_val {w : World} {b : Nat} {t : V} {sl : Value} (hb : w.heap[b]? = some (.cells #[.int .i64 t.k, .int .i64 t.n, .int .i64 t.e, .string t.s, sl] 30 (0, 0))) (h : RepS w sl t.kids) :
    Src Tryd.prog 5 28 (.slice (some ⟨b, 0, none⟩) 1 1) 1 (flat [t] [sl]) w := by
  refine Src.ofSlice _ Tryd.underlying28 _ _ _ _ (by simp [flat]) ?_ (flat_one [t] [sl] ?_)
  · intro j u hu
    rw [addr_add _ _ rfl, Nat.zero_add]
    rw [cell_of_row _ _ _ _ _ (0, 0) hb]
    simpa [flat] using hu
  · intro s hs
    obtain rfl := List.mem_singleton.1 hs
    obtain ⟨a, cap, e⟩ := h.slice
    exact ⟨a, _, cap, e⟩
section
variable {w : World} {ops : Array Oper} {rest : List Oper} {o : Oper} {a : Act} {Q : Exit → Act → World → Prop}
theorem app_own (hgd : o.guard = none) (s x : Operand)
    (ho : o.op = .call { callee := .builtin .append, args := #[s, x], argTypes := #[28, 28] })
    (base : Nat) (G F : Nat → Prop) (v : Value) (ts : List V) (hs : a.eval s = v) (hown : VRows w base 30 G v ts) (t : V) (sl : Value) (b : Nat) (hx : a.eval x = .slice (some ⟨b, 0, none⟩) 1 1)
    (hb : w.heap[b]? = some (.cells #[.int .i64 t.k, .int .i64 t.n, .int .i64 t.e, .string t.s, sl] 30 (0, 0))) (ht : t.wf) (hO : OwnS w F sl t.kids)
    (hF : ∀ x, F x → base ≤ x ∧ x < w.heap.size ∧ ¬ G x ∧ v.ownBlock ≠ some x)
    (h63 : ts.length ≤ 1099511627000) (hbase : base ≤ w.heap.size)
    (h : ∀ v' w', VRows w' base 30 (fun x => G x ∨ F x) v' (ts ++ [t]) → w.grownBy w' v.ownBlock → FreshOr w v v' → wpList Tryd.prog ops Q rest (a.put o.dst v') w') : wpList Tryd.prog ops Q (o :: rest) a w := by
  obtain ⟨i0, hi, hz0, hz1, hz2⟩ := info_parts info_impl
  obtain ⟨sls, Fs, hp⟩ := hown
  exact wpList_app hgd s x 28 28 ho base 30 i0 _ 5 64 Tryd.underlying28 hi hz0 hz1 hz2 rfl (by decide) v ts.length (flat ts sls) hs hp.row _ hx 1 (flat [t] [sl]) (src_val hb hO.rep) (by omega) hbase
    (fun v' w' h1 h2 h3 _ => h v' w' (hp.snoc ht hO hF h1 h2 h3) h2 h3)
end
end Go.Proofs.YtaphlemmlmdkiaaDoor
namespace Go.Proofs.YtaphlemmlmdkiaaDoor
set_option linter.unusedSimpArgs false
set_option linter.unusedVariables false
set_option maxRecDepth 100000
open Go.RowKit
theorem Box.set4 {w : World} {b : Nat} {k n e : Int} {s : ByteArray} {sl v : Value} {T : TypeId} (h : Box w b k n e s sl T) : Box (w.setCell ⟨b, 4, none⟩ v) b k n e s v T := by
  unfold Box at *
  rw [heap_setCell_same w b 4 _ _ _ h]; rfl
theorem Box.free {w : World} {b i : Nat} {k n e : Int} {s : ByteArray} {sl : Value} {T : TypeId} (h : Box w b k n e s sl T) : w.frozen? ⟨b, i, none⟩ = false := frozen_of_row w b i _ _ h
theorem VRows.move {w w' : World} {base : Nat} {E : TypeId} {G : Nat → Prop} {v : Value} {ts : List V} (h : VRows w base E G v ts) (hz : w.heap.size ≤ w'.heap.size) (hk : ∀ x, (G x ∨ v.ownBlock = some x) → w'.heap[x]? = w.heap[x]?) : VRows w' base E G v ts := by
  obtain ⟨sls, Fs, h⟩ := h
  refine ⟨sls, Fs, ⟨⟨h.row.1, ?_⟩, h.len, h.wfs, fun i hi => (h.kids i hi).keep (fun x hx _ => hk x (.inl (h.sub i hi x hx))), h.sub, h.dis, h.own, fun x hx => ⟨(h.inG x hx).1, Nat.lt_of_lt_of_le (h.inG x hx).2 hz⟩⟩⟩
  rcases h.row.2 with h2 | ⟨g, cap, cur, rfl, hbg, hg, r⟩
  · exact .inl h2
  · exact .inr ⟨g, cap, cur, rfl, hbg, by rw [hk g (.inr rfl)]; exact hg, r⟩
abbrev set5 (w : World) (c : Nat) (v0 v1 v2 v3 v4 : Value) : World := ((((w.setCell ⟨c, 0, none⟩ v0).setCell ⟨c, 1, none⟩ v1).setCell ⟨c, 2, none⟩ v2).setCell ⟨c, 3, none⟩ v3).setCell ⟨c, 4, none⟩ v4
theorem heap_set5 (w : World) (c x : Nat) (v0 v1 v2 v3 v4 : Value) (h : x ≠ c) : (set5 w c v0 v1 v2 v3 v4).heap[x]? = w.heap[x]? := by
  unfold set5
  rw [heap_setCell_other _ _ _ _ h, heap_setCell_other _ _ _ _ h, heap_setCell_other _ _ _ _ h, heap_setCell_other _ _ _ _ h, heap_setCell_other _ _ _ _ h]
theorem below_set5 (w : World) (c : Nat) (v0 v1 v2 v3 v4 : Value) : Below c w (set5 w c v0 v1 v2 v3 v4) := by
  unfold set5
  exact (((((Below.refl c w).setCell (Nat.le_refl c) v0).setCell (Nat.le_refl c) v1).setCell (Nat.le_refl c) v2).setCell (Nat.le_refl c) v3).setCell (Nat.le_refl c) v4
theorem size_set5 (w : World) (c : Nat) (v0 v1 v2 v3 v4 : Value) : (set5 w c v0 v1 v2 v3 v4).heap.size = w.heap.size := by simp [set5]
theorem OwnS.set5 {w : World} {F : Nat → Prop} {v : Value} {ts : List V} (h : OwnS w F v ts) (c : Nat) (hc : ¬ F c) (v0 v1 v2 v3 v4 : Value) : OwnS (Go.Proofs.YtaphlemmlmdkiaaDoor.set5 w c v0 v1 v2 v3 v4) F v ts :=
  h.keep (fun x hx _ => heap_set5 _ _ _ _ _ _ _ _ (fun e => hc (e ▸ hx)))
theorem Touch.set5 {A A' : Nat → Prop} {w W : World} (h : Touch A A' w W) (c : Nat) (hc : w.heap.size ≤ c) (v0 v1 v2 v3 v4 : Value) : Touch A A' w (Go.Proofs.YtaphlemmlmdkiaaDoor.set5 W c v0 v1 v2 v3 v4) :=
  ⟨(below_set5 W c v0 v1 v2 v3 v4).os.trans h.os, (below_set5 W c v0 v1 v2 v3 v4).tape.trans h.tape, (below_set5 W c v0 v1 v2 v3 v4).output.trans h.output, by rw [size_set5]; exact h.size, fun x hx hn => (heap_set5 _ _ _ _ _ _ _ _ (by omega)).trans (h.block x hx hn), h.new⟩
end Go.Proofs.YtaphlemmlmdkiaaDoor
namespace Go.Proofs.YtaphlemmlmdkiaaDoor
set_option linter.unusedSimpArgs false
set_option linter.unusedVariables false
set_option maxRecDepth 100000
open Go.RowKit
theorem PRow.widen {w : World} {base : Nat} {G F : Nat → Prop} {v : Value} {ts : List V} (h : PRow w base G v ts) (hF : ∀ x, F x → x < w.heap.size ∧ v.ownBlock ≠ some x) : PRow w base (fun x => G x ∨ F x) v ts := by
  obtain ⟨sls, h⟩ := h
  exact ⟨sls, ⟨h.row, h.len, h.wfs, fun i hi => (h.kids i hi).mono (fun x hx _ => .inl hx), fun g hg hx => hx.elim (h.own g hg) (fun hf => (hF g hf).2 hg), fun x hx => hx.elim (h.inG x) (fun hf => (hF x hf).1)⟩⟩
theorem PRow.set1 {w : World} {base : Nat} {G : Nat → Prop} {g n cap i : Nat} {ts : List V} {t : V} {sl : Value} (h : PRow w base G (.slice (some ⟨g, 0, none⟩) n cap) ts) (hi : i < ts.length) (ht : t.wf) (ho : RepF w G sl t.kids) :
    PRow (put5 w g (i * 5) t sl) base G (.slice (some ⟨g, 0, none⟩) n cap) (ts.set i t) := by
  obtain ⟨sls, h⟩ := h
  have hn : n = ts.length := by
    rcases h.row.2 with ⟨h', _⟩ | ⟨g', cap', cur, h', _⟩ <;> simp at h'; exact h'.2.1
  subst hn
  have hgr := grownBy_put5 w g (i * 5) t sl
  have hk : ∀ x, G x → x < w.heap.size → (put5 w g (i * 5) t sl).heap[x]? = w.heap[x]? := by
    intro x hx hs
    refine hgr.block x hs (fun e => ?_)
    simp only [Option.some.injEq] at e
    exact h.own x (by rw [e]; rfl) hx
  refine ⟨sls.set i sl, ⟨?_, by simp [h.len], ?_, ?_, h.own, fun x hx => Nat.lt_of_lt_of_le (h.inG x hx) hgr.size⟩⟩
  · rw [List.length_set, ← flat_set ts sls i t sl hi h.len]
    exact ((((((h.row.stored (i * 5) (.int .i64 t.k)).1).stored (i * 5 + 1) (.int .i64 t.n)).1.stored (i * 5 + 2) (.int .i64 t.e)).1.stored (i * 5 + 3) (.string t.s)).1.stored (i * 5 + 4) sl).1
  · intro j hj
    rw [List.getElem_set]
    split
    · exact ht
    · exact h.wfs j (by simpa using hj)
  · intro j hj
    have hj' : j < ts.length := by simpa using hj
    rw [List.getElem_set]
    by_cases hji : j = i
    · subst hji
      have e : (sls.set j sl).getD j undef = sl := by rw [List.getD_eq_getElem?_getD, List.getElem?_set_self (by rw [h.len]; exact hj')]; rfl
      rw [e, if_pos rfl]
      exact ho.keep hgr.size hk
    · have e : (sls.set i sl).getD j undef = sls.getD j undef := by rw [List.getD_eq_getElem?_getD, List.getD_eq_getElem?_getD, List.getElem?_set_ne (fun e => hji e.symm)]
      rw [e, if_neg (fun e => hji e.symm)]
      exact (h.kids j hj').keep hgr.size hk
theorem PRow.base {w : World} {base base' : Nat} {G : Nat → Prop} {v : Value} {ts : List V} (h : PRow w base G v ts) (hb : base' ≤ base) : PRow w base' G v ts := by
  obtain ⟨sls, h⟩ := h
  refine ⟨sls, ⟨⟨h.row.1, ?_⟩, h.len, h.wfs, h.kids, h.own, h.inG⟩⟩
  rcases h.row.2 with h2 | ⟨g, cap, cur, rfl, hbg, r⟩
  · exact .inl h2
  · exact .inr ⟨g, cap, cur, rfl, by omega, r⟩
theorem PRow.elem {w : World} {base : Nat} {G : Nat → Prop} {g n cap : Nat} {ts : List V} (h : PRow w base G (.slice (some ⟨g, 0, none⟩) n cap) ts) (j : Nat) (hj : j < ts.length) : ∃ a c, Cells5 w g (j * 5) ts[j] (.slice a ts[j].kids.length c) ∧ ts[j].wf ∧ RepF w G (.slice a ts[j].kids.length c) ts[j].kids := by
  obtain ⟨sls, h⟩ := h
  have hcell : ∀ i u, (flat ts sls)[i]? = some u → w.cell? ⟨g, i, none⟩ = some u := by
    intro i u hu
    have := h.row.cells (g := g) rfl i u hu
    rwa [addr_add _ _ rfl, Nat.zero_add] at this
  have hj2 : j < sls.length := by rw [h.len]; exact hj
  have hk := h.kids j hj
  rw [List.getD_eq_getElem?_getD, List.getElem?_eq_getElem hj2, Option.getD_some] at hk
  obtain ⟨a, c, e⟩ := hk.slice
  obtain ⟨h0, h1, h2, h3, h4⟩ := flat_get ts sls j hj hj2
  rw [e] at h4 hk
  exact ⟨a, c, ⟨hcell _ _ h0, hcell _ _ h1, hcell _ _ h2, hcell _ _ h3, hcell _ _ h4⟩, h.wfs j hj, hk⟩
structure MO (A : Nat → Prop) (w3 W : World) (b : Nat) (gp : Option Nat) (us : List V) (o : Value) (G : Nat → Prop) : Prop where
  bel : Below b w3 W
  pk : ∀ g, gp = some g → g < w3.heap.size ∧ g ≠ b ∧ o.ownBlock ≠ some g ∧ W.heap[g]? = w3.heap[g]?
  box : Box W b 8 0 0 ⟨#[]⟩ o 30
  rows : PRow W (b + 1) G o us
  gl : ∀ x, G x → A x
theorem MO.over {A : Nat → Prop} {w3 W W' : World} {b : Nat} {gp : Option Nat} {us : List V} {o : Value} {G : Nat → Prop} (h : MO A w3 W b gp us o G) (hb : Below W.heap.size W W') : MO A w3 W' b gp us o G :=
  ⟨h.bel.trans (hb.mono (Nat.le_of_lt h.box.lt)), fun g hg => by obtain ⟨h1, h2, h3, h4⟩ := h.pk g hg; exact ⟨h1, h2, h3, (hb.block g (Nat.lt_of_lt_of_le h1 h.bel.size)).trans h4⟩, (hb.block b h.box.lt).trans h.box, h.rows.stay hb, h.gl⟩
theorem MO.put {A : Nat → Prop} {w3 W W1 W2 : World} {b : Nat} {gp : Option Nat} {us us2 : List V} {o v2 : Value} {G G2 : Nat → Prop} (h : MO A w3 W b gp us o G) (hW : Below W.heap.size W W1) (hg : W1.grownBy W2 o.ownBlock) (hf : ∀ g, gp = some g → g < W1.heap.size → o.ownBlock ≠ some g → v2.ownBlock ≠ some g) (hr : PRow W2 (b + 1) G2 v2 us2) (hG : ∀ x, G2 x → A x) (hb : ¬ A b) :
    MO A w3 (W2.setCell ⟨b, 4, none⟩ v2) b gp us2 v2 G2 := by
  have hl := h.box.lt
  have z1 := hW.size
  have z2 := hg.size
  have z3 := h.bel.size
  have hn : ∀ x, x < W.heap.size → o.ownBlock ≠ some x → W2.heap[x]? = W.heap[x]? := fun x hx hxo => (hg.block x (by omega) (fun e => hxo e.symm)).trans (hW.block x hx)
  have hob : o.ownBlock ≠ some b := fun e => by have := (h.rows.lt b e).1; omega
  have hs : ∀ x, x ≠ b → (W2.setCell ⟨b, 4, none⟩ v2).heap[x]? = W2.heap[x]? := fun x hx => heap_setCell_other _ _ _ _ (show ¬ x = b from hx)
  refine ⟨⟨hg.os.trans (hW.os.trans h.bel.os), hg.tape.trans (hW.tape.trans h.bel.tape), hg.output.trans (hW.output.trans h.bel.output), by simp; omega, fun x hx => (hs x (by omega)).trans ((hn x (by omega) (fun e => by have := (h.rows.lt x e).1; omega)).trans (h.bel.block x hx))⟩, fun g hgp => ?_, Box.set4 (show Box W2 b 8 0 0 ⟨#[]⟩ o 30 from (hn b hl hob).trans h.box), hr.keep (by simp) (fun x hx _ => hs x ?_), hG⟩
  · obtain ⟨h1, h2, h3, h4⟩ := h.pk g hgp
    exact ⟨h1, h2, hf g hgp (by omega) h3, (hs g h2).trans ((hn g (by omega) h3).trans h4)⟩
  · rcases hx with hx | hx
    · intro e; subst e; exact hb (hG x hx)
    · have := (hr.lt x hx).1; omega
theorem FreshOr.off {w : World} {o v2 : Value} {gp : Option Nat} (hf : FreshOr w o v2) : ∀ g, gp = some g → g < w.heap.size → o.ownBlock ≠ some g → v2.ownBlock ≠ some g := by
  intro g _ hg h3 e
  rcases hf with hf | hf
  · rw [hf] at e; exact h3 e
  · rw [hf] at e
    have := Option.some.inj e
    omega
structure MI (ts us : List V) (m : Nat) (R : List V) (c : Nat) : Prop where
  ev : us.length % 2 = 0
  me : m % 2 = 0
  le : m ≤ ts.length
  tev : ts.length % 2 = 0
  uq : Uq (ts.drop m)
  q : AllP (fun k _ => k.k = 5 → ∀ y, lkp k.s us = some y → Qd y) (ts.drop m)
  len : us.length ≤ c + m
  fin : mgs none us (ts.drop m) = R
theorem MI.two {ts us : List V} {m : Nat} {R : List V} {c : Nat} (_ : MI ts us m R c) (hm : m + 1 < ts.length) : ts.drop m = ts[m] :: ts[m + 1] :: ts.drop (m + 2) := by
  rw [List.drop_eq_getElem_cons (by omega : m < ts.length), List.drop_eq_getElem_cons hm]
theorem MI.old {ts us : List V} {m : Nat} {R : List V} {c : Nat} (h : MI ts us m R c) (hm : m + 1 < ts.length) (h5 : ts[m].k = 5) : Qd (old1 us ts[m]) := by
  have hq := h.q
  rw [h.two hm, AllP] at hq
  unfold old1
  cases hl : lkp ts[m].s us with
  | none => exact .inl rfl
  | some y => exact hq.1 h5 y hl
theorem MI.done {ts us : List V} {m : Nat} {R : List V} {c : Nat} (h : MI ts us m R c) (hm : ¬ m < ts.length) : us = R := by
  have := h.fin
  rw [List.drop_eq_nil_of_le (by omega), mgs] at this
  exact this
end Go.Proofs.YtaphlemmlmdkiaaDoor
namespace Go.Proofs.YtaphlemmlmdkiaaDoor
set_option linter.unusedSimpArgs false
set_option linter.unusedVariables false
set_option maxRecDepth 100000
open Go.RowKit Go.Shelf
def OptRet (B0 : Nat) (o : Option V) (w : World) (e : Ending) (w' : World) : Prop := match o with
  | none => e = .returned (.tuple #[.agg #[.int .i64 0, .int .i64 0, .int .i64 0, .string ⟨#[]⟩, .slice none 0 0], .bool false]) ∧ Below w.heap.size w w'
  | some y => ∃ sl, e = .returned (.tuple #[y.agg sl, .bool true]) ∧ y.wf ∧ RepF w' (fun x => x < B0 ∨ w.heap.size ≤ x) sl y.kids ∧ Below w.heap.size w w'
theorem PRow.some0 {w : World} {base : Nat} {G : Nat → Prop} {v : Value} {ts : List V} (h : PRow w base G v ts) (hne : ts ≠ []) : ∃ g cap, v = .slice (some ⟨g, 0, none⟩) ts.length cap := by
  obtain ⟨sls, hr⟩ := h
  obtain ⟨h1, h2⟩ := hr.row
  rcases h2 with ⟨-, h2⟩ | ⟨g2, cap2, cur2, hv, -⟩
  · exact absurd (List.length_eq_zero_iff.1 h2) hne
  · exact ⟨g2, cap2, hv⟩
def CutRet (base : Nat) (G : Nat → Prop) (us : List V) (W : World) (e : Ending) (w' : World) : Prop := ∃ v2, e = .returned v2 ∧ RepF w' (fun x => G x ∨ base ≤ x) v2 us ∧ Below base W w'
theorem cut2_any (W : World) (v : Value) (ts : List V) (base : Nat) (G : Nat → Prop) (h : PRow W base G v ts) (hl : ts.length ≤ 1048576) (i : Nat) (hi : i + 2 ≤ ts.length) (Q : Int) (hQ : Q = i + 1) :
    Calls Tryd.prog 60 #[v, .int .i64 (Q - 1), .int .i64 (Q + 1)] W (CutRet base G (ts.take i ++ ts.drop (i + 2)) W) := by
  obtain ⟨g, cap, rfl⟩ := h.some0 (by intro e; rw [e] at hi; simp at hi)
  obtain ⟨-, hle, hcm, cur, hcur, hcs, hone⟩ := h.open
  have hg := h.lt g rfl
  rw [show Q - 1 = (i : Int) by omega, show Q + 1 = (i : Int) + 2 by omega]
  refine (Delete_any g ts.length cap i cur W hcur (by omega) hle (by omega) hcm hcs hone).mono ?_
  rintro e w' ⟨rfl, cur', hc', hs', ht', hg'⟩
  exact ⟨_, rfl, (h.cut2 (i := i) (by omega) hcur hc' hs' ht' hg').repF.mono (fun x hx _ => hx.elim .inl (fun e => .inr (h.lt x e).1)), (Below.refl _ _).grown hg' (by omega) (fun k hk => by injection hk with hk; omega)⟩
theorem cut1_any (W : World) (v : Value) (ts : List V) (base : Nat) (G : Nat → Prop) (h : PRow W base G v ts) (hl : ts.length ≤ 1048576) (i : Nat) (hi : i + 1 ≤ ts.length) (Q : Int) (hQ : Q = i) :
    Calls Tryd.prog 60 #[v, .int .i64 Q, .int .i64 (Q + 1)] W (CutRet base G (ts.take i ++ ts.drop (i + 1)) W) := by
  obtain ⟨g, cap, rfl⟩ := h.some0 (by intro e; rw [e] at hi; simp at hi)
  obtain ⟨-, hle, hcm, cur, hcur, hcs, hone⟩ := h.open
  have hg := h.lt g rfl
  rw [hQ]
  refine (Delete1_any g ts.length cap i cur W hcur (by omega) hle (by omega) hcm hcs hone).mono ?_
  rintro e w' ⟨rfl, cur', hc', hs', ht', hg'⟩
  exact ⟨_, rfl, (h.cut1 (i := i) (by omega) hcur hc' hs' ht' hg').repF.mono (fun x hx _ => hx.elim .inl (fun e => .inr (h.lt x e).1)), (Below.refl _ _).grown hg' (by omega) (fun k hk => by injection hk with hk; omega)⟩
theorem wout_fin {R : Option V} {k n e : Int} {st : ByteArray} {us : List V} {w0 w w1 w3 : World} {oa2 : Option Addr} {oc2 : Nat} (hR : R = some (.mk k n e st us)) (hwf : (V.mk k n e st us).wf) (h0 : w0.heap.size ≤ w.heap.size) (h1 : w.heap.size ≤ w1.heap.size) (h2 : w.heap.size + 2 ≤ w1.heap.size)
    (hrep : RepF w3 (fun x => (x < w0.heap.size ∧ x < w1.heap.size) ∨ w1.heap.size ≤ x) (.slice oa2 us.length oc2) us) (hB : Below w.heap.size w w3) :
    OptRet w0.heap.size R w (.returned (.tuple #[.agg #[.int .i64 k, .int .i64 n, .int .i64 e, .string st, .slice oa2 us.length oc2], .bool true])) (set5 (w3.setCell ⟨w.heap.size, 4, none⟩ (.slice oa2 us.length oc2)) (w.heap.size + 1) (.int .i64 k) (.int .i64 n) (.int .i64 e) (.string st) (.slice oa2 us.length oc2)) := by
  rw [hR]
  refine ⟨.slice oa2 us.length oc2, rfl, hwf, (hrep.keep ?_ ?_).mono (fun x hx _ => hx.elim (fun h => .inl h.1) (fun h => .inr (by omega))), ?_⟩
  · rw [size_set5]; simp
  · intro x hx _
    rw [heap_set5 _ _ _ _ _ _ _ _ (by rcases hx with h | h <;> omega), heap_setCell_other _ _ _ _ (by rcases hx with h | h <;> (show x ≠ w.heap.size) <;> omega)]
  · exact (hB.setCell (by exact Nat.le_refl _) _).trans ((below_set5 _ (w.heap.size + 1) _ _ _ _ _).mono (by omega))
set_option maxHeartbeats 4000000 in
theorem without_any (w0 : World) (sl : Value) (t : V) (hwf : t.wf) (hr : RepS w0 sl t.kids) (hl : t.kids.length ≤ 1048576) (s : ByteArray) (hs : s.size ≤ 1048576) (w : World) (hw : Below w0.heap.size w0 w) (hE : EnvD w) :
    Calls Tryd.prog 38 #[t.agg sl, .string s] w (OptRet w0.heap.size (rmv t [s]) w) := by
  obtain ⟨a, cap, rfl⟩ := hr.slice
  have KA := Lib.hid (fun (W : World) (hW : Below w.heap.size w W) => kidAt_any w0 _ t hwf hr hl s hs W (hw.trans (hW.mono hw.size)) (hE.keep hW))
  have hkr := kidI_range t s
  have BV := Lib.hid ((Box.new w t.k t.n t.e t.s (.slice a t.kids.length cap) 30).alloc (.cells #[.int .i64 0, .int .i64 0, .int .i64 0, .string ⟨#[]⟩, .slice none 0 0] 30))
  have BZ := Lib.hid (Box.new (w.alloc (.cells #[.int .i64 t.k, .int .i64 t.n, .int .i64 t.e, .string t.s, .slice a t.kids.length cap] 30)) 0 0 0 ⟨#[]⟩ (.slice none 0 0) 30)
  obtain ⟨W0, hW0⟩ : ∃ W0, W0 = (w.alloc (.cells #[.int .i64 t.k, .int .i64 t.n, .int .i64 t.e, .string t.s, .slice a t.kids.length cap] 30)).alloc (.cells #[.int .i64 0, .int .i64 0, .int .i64 0, .string ⟨#[]⟩, .slice none 0 0] 30) := ⟨_, rfl⟩
  have HB0 := Lib.hid (show Below w.heap.size w W0 from by rw [hW0]; exact (by (with_reducible (repeat' (first | exact Below.refl _ _ | refine below_alloc ?_ _ ?_ | refine Below.setCell ?_ ?_ _ | refine Below.drew ?_ | refine Go.below_drewN ?_ _ | refine below_step ?_ (by assumption) ?_ | refine below_mark ?_ (by assumption) ?_))); all_goals (first | omega | (simp; done) | (simp; omega))))
  rw [← hW0] at BV BZ
  rw [show (w.alloc (.cells #[.int .i64 t.k, .int .i64 t.n, .int .i64 t.e, .string t.s, .slice a t.kids.length cap] 30)).heap.size = w.heap.size + 1 by simp] at BZ
  have HNO := Lib.hid (show kidI t s < 0 ∨ t.k = 9 → rmv t [s] = none from fun h => by rw [rmv, if_pos h])
  have HYES := Lib.hid (show ¬ (kidI t s < 0 ∨ t.k = 9) → rmv t [s] = some (cutV t (kidI t s).toNat) from fun h => by rw [rmv, if_neg h])
  have HC8 := Lib.hid (show ¬ kidI t s < 0 → t.k = 8 → ∃ i : Nat, kidI t s = i + 1 ∧ i + 2 ≤ t.kids.length from fun h h8 => by
    unfold kidI at h ⊢
    rw [if_neg (by omega), if_pos h8] at h ⊢
    rcases fk_range s t.kids 0 with e | ⟨j, e, hj⟩
    · rw [e] at h; simp at h
    · rw [e, if_pos (by omega)]
      exact ⟨j, by omega, by omega⟩)
  have HRP := Lib.hid hr.toF
  have HW := Lib.hid hw
  have hwf2 := hwf
  have HCUT := Lib.hid (show ∀ j, cutV t j = .mk t.k t.n t.e t.s (if t.k = 8 then t.kids.take (j - 1) ++ t.kids.drop (j + 1) else t.kids.take j ++ t.kids.drop (j + 1)) from fun _ => rfl)
  have HWF := Lib.hid (show ∀ ks, (V.mk t.k t.n t.e t.s ks).wf from fun ks => hwf)
  clear hr hw hwf hwf2 hE
  unfold V.agg at KA ⊢
  generalize rmv t [s] = R at *
  generalize kidI t s = Q at *
  generalize cutV t = CUT at *
  generalize t.kids = ts at *
  generalize t.k = k at *
  generalize t.n = n at *
  generalize t.e = ee at *
  generalize t.s = st at *
  go_enter Tryd.func38, Tryd.ntmps38
  go_upto_region 1 with fail
  rw [← hW0]
  clear hW0
  obtain ⟨y0, y1, y2, y3, y4⟩ := BV.out.cells
  go_wp2_with fail
  refine (KA.out _ HB0.out).mono ?_
  rintro e w1 ⟨rfl, hb1⟩
  have HB1 := Lib.hid (HB0.out.trans (hb1.mono HB0.out.size))
  have BV1 := Lib.hid (BV.out.keep hb1 (Nat.le_refl _))
  have BZ1 := Lib.hid (BZ.out.keep hb1 (Nat.le_refl _))
  clear hb1 y0 y1 y2 y3 y4 KA
  obtain ⟨y0, y1, y2, y3, y4⟩ := BV1.out.cells
  obtain ⟨z0, z1, z2, z3, z4⟩ := BZ1.out.cells
  have zf0 := BZ1.out.free (i := 0); have zf1 := BZ1.out.free (i := 1); have zf2 := BZ1.out.free (i := 2); have zf3 := BZ1.out.free (i := 3); have zf4 := BZ1.out.free (i := 4)
  have yf4 := BV1.out.free (i := 4)
  have HZ1 := Lib.hid (show w.heap.size + 2 ≤ w1.heap.size from by have := BZ1.out.lt; omega)
  have HW1 := Lib.hid (HW.out.trans (HB1.out.mono HW.out.size))
  by_cases hno : Q < 0 ∨ k = 9
  · have HF := Lib.hid (show OptRet w0.heap.size R w (.returned (.tuple #[.agg #[.int .i64 0, .int .i64 0, .int .i64 0, .string ⟨#[]⟩, .slice none 0 0], .bool false])) (set5 w1 (w.heap.size + 1) (.int .i64 0) (.int .i64 0) (.int .i64 0) (.string ⟨#[]⟩) (.slice none 0 0)) from by
      rw [HNO.out hno]
      exact ⟨rfl, HB1.out.trans ((below_set5 w1 (w.heap.size + 1) _ _ _ _ _).mono (by omega))⟩)
    clear HNO HYES HC8 HRP HCUT HWF
    by_cases hq : Q < 0
    · go_wp2_with fail
      exact bodyPost_ret (v := .tuple #[.agg #[.int .i64 0, .int .i64 0, .int .i64 0, .string ⟨#[]⟩, .slice none 0 0], .bool false]) (by simp [results, Tryd.results38, go_sem, z0, z1, z2, z3, z4]) rfl HF.out
    · have h9 : k = 9 := by omega
      subst h9
      go_wp2_with fail
      exact bodyPost_ret (v := .tuple #[.agg #[.int .i64 0, .int .i64 0, .int .i64 0, .string ⟨#[]⟩, .slice none 0 0], .bool false]) (by simp [results, Tryd.results38, go_sem, z0, z1, z2, z3, z4]) rfl HF.out
  skip
  have hq : ¬ Q < 0 := fun e => hno (.inl e)
  have h9 : ¬ k = 9 := fun e => hno (.inr e)
  have HY := Lib.hid (HYES.out hno)
  have hql := hkr.2.1
  have t9 : (k == 9) = false := by simpa using h9
  have tq : decide (Q < 0) = false := decide_eq_false hq
  clear HNO HYES hno
  by_cases h8 : k = 8
  · obtain ⟨i, hQi, hi⟩ := HC8.out (by omega) h8
    rw [HCUT.out, if_pos h8, show Q.toNat - 1 = i by omega, show Q.toNat + 1 = i + 2 by omega] at HY
    have t8 : (k == 8) = true := by simpa using h8
    have HQi := Lib.hid hQi
    clear h8 HC8 HCUT hQi
    have CV := Lib.hid (Clone_any (fun x => x < w0.heap.size) _ ts w1 ((HRP.out).stay HW1.out) (by omega))
    have DL := Lib.hid (fun (W : World) (v : Value) (base : Nat) (G : Nat → Prop) (h : PRow W base G v ts) => cut2_any W v ts base G h hl i hi Q HQi.out)
    clear HQi
    go_wp2_with fail
    refine CV.out.mono ?_
    rintro e v1w ⟨v1, rfl, hrow, hb2⟩
    have HB2 := Lib.hid (HB1.out.trans (hb2.mono HB1.out.size))
    have HB12 := Lib.hid hb2
    have HR2 := Lib.hid hrow
    obtain ⟨oa, on, oc, rfl⟩ := hrow.slice3
    clear hb2 hrow y0 y1 y2 y3 y4 z0 z1 z2 z3 z4 zf0 zf1 zf2 zf3 zf4 yf4 CV
    go_wp2_with fail
    refine (DL.out _ _ _ _ HR2.out).mono ?_
    rintro e w3 ⟨v2, rfl, hrep, hb3⟩
    obtain ⟨oa2, oc2, rfl⟩ := hrep.slice
    have HB3 := Lib.hid (HB2.out.trans (hb3.mono HB1.out.size))
    have HB13 := Lib.hid (HB12.out.trans hb3)
    have BV3 := Lib.hid (BV1.out.keep HB13.out (Nat.le_refl _))
    have BZ3 := Lib.hid (BZ1.out.keep HB13.out (Nat.le_refl _))
    obtain ⟨y0, y1, y2, y3, -⟩ := BV3.out.cells
    obtain ⟨z0, z1, z2, z3, z4⟩ := BZ3.out.cells
    have zf0 := BZ3.out.free (i := 0); have zf1 := BZ3.out.free (i := 1); have zf2 := BZ3.out.free (i := 2); have zf3 := BZ3.out.free (i := 3); have zf4 := BZ3.out.free (i := 4)
    have yf4 := BV3.out.free (i := 4)
    have y4s := BV3.out.cells.2.2.2.2
    generalize hus : ts.take i ++ ts.drop (i + 2) = us at *
    have HF := Lib.hid (wout_fin HY.out (HWF.out us) HW.out.size HB1.out.size HZ1.out hrep HB3.out)
    clear hb3 HY HWF hrep hus BV1 BZ1 HB12 HR2 DL
    go_wp2_with fail
    exact bodyPost_ret (v := .tuple #[.agg #[.int .i64 k, .int .i64 n, .int .i64 ee, .string st, .slice oa2 us.length oc2], .bool true]) (by simp [results, Tryd.results38, go_sem, z0, z1, z2, z3, z4]) rfl HF.out
  · have hQi : Q = (Q.toNat : Nat) := by omega
    have hi : Q.toNat + 1 ≤ ts.length := by omega
    rw [HCUT.out, if_neg h8] at HY
    have t8 : (k == 8) = false := by simpa using h8
    generalize Q.toNat = i at *
    have HQi := Lib.hid hQi
    clear h8 HC8 HCUT hQi
    have CV := Lib.hid (Clone_any (fun x => x < w0.heap.size) _ ts w1 ((HRP.out).stay HW1.out) (by omega))
    have DL := Lib.hid (fun (W : World) (v : Value) (base : Nat) (G : Nat → Prop) (h : PRow W base G v ts) => cut1_any W v ts base G h hl i hi Q HQi.out)
    clear HQi
    go_wp2_with fail
    refine CV.out.mono ?_
    rintro e v1w ⟨v1, rfl, hrow, hb2⟩
    have HB2 := Lib.hid (HB1.out.trans (hb2.mono HB1.out.size))
    have HB12 := Lib.hid hb2
    have HR2 := Lib.hid hrow
    obtain ⟨oa, on, oc, rfl⟩ := hrow.slice3
    clear hb2 hrow y0 y1 y2 y3 y4 z0 z1 z2 z3 z4 zf0 zf1 zf2 zf3 zf4 yf4 CV
    go_wp2_with fail
    refine (DL.out _ _ _ _ HR2.out).mono ?_
    rintro e w3 ⟨v2, rfl, hrep, hb3⟩
    obtain ⟨oa2, oc2, rfl⟩ := hrep.slice
    have HB3 := Lib.hid (HB2.out.trans (hb3.mono HB1.out.size))
    have HB13 := Lib.hid (HB12.out.trans hb3)
    have BV3 := Lib.hid (BV1.out.keep HB13.out (Nat.le_refl _))
    have BZ3 := Lib.hid (BZ1.out.keep HB13.out (Nat.le_refl _))
    obtain ⟨y0, y1, y2, y3, -⟩ := BV3.out.cells
    obtain ⟨z0, z1, z2, z3, z4⟩ := BZ3.out.cells
    have zf0 := BZ3.out.free (i := 0); have zf1 := BZ3.out.free (i := 1); have zf2 := BZ3.out.free (i := 2); have zf3 := BZ3.out.free (i := 3); have zf4 := BZ3.out.free (i := 4)
    have yf4 := BV3.out.free (i := 4)
    have y4s := BV3.out.cells.2.2.2.2
    generalize hus : ts.take i ++ ts.drop (i + 1) = us at *
    have HF := Lib.hid (wout_fin HY.out (HWF.out us) HW.out.size HB1.out.size HZ1.out hrep HB3.out)
    clear hb3 HY HWF hrep hus BV1 BZ1 HB12 HR2 DL
    go_wp2_with fail
    exact bodyPost_ret (v := .tuple #[.agg #[.int .i64 k, .int .i64 n, .int .i64 ee, .string st, .slice oa2 us.length oc2], .bool true]) (by simp [results, Tryd.results38, go_sem, z0, z1, z2, z3, z4]) rfl HF.out
end Go.Proofs.YtaphlemmlmdkiaaDoor
namespace Go.Proofs.YtaphlemmlmdkiaaDoor
set_option linter.unusedSimpArgs false
set_option linter.unusedVariables false
set_option maxRecDepth 100000
def turnV (f : V → ByteArray → Option V) : V → List ByteArray → Option V
  | _, [] => none
  | t, [s] => f t s
  | t, s :: s2 :: r => if kidI t s < 0 then none else match turnV f (t.kids.getD (kidI t s).toNat V0) (s2 :: r) with
    | none => none
    | some y => some (setV t (kidI t s).toNat y)
theorem rmv_turn : ∀ (st : List ByteArray) (t : V), rmv t st = turnV (fun t s => rmv t [s]) t st
  | [], t => by rw [rmv, turnV]
  | [s], t => by rw [turnV]
  | s :: s2 :: r, t => by
    rw [rmv, turnV, rmv_turn (s2 :: r)]
    cases turnV (fun t s => rmv t [s]) (t.kids.getD (kidI t s).toNat V0) (s2 :: r) <;> rfl
def remP (t : V) (st : List ByteArray) : Option V := if stepsOk st = true ∧ st ≠ [] ∧ okT t = true then rmv t st else none
def remR (t : V) (st : List ByteArray) : Option V := if (lessV t st).2 = true ∧ okT t = true ∧ okT (lessV t st).1 = true then some (lessV t st).1 else none
theorem remR_remP (t : V) (st : List ByteArray) : remR t st = remP t st := by
  obtain ⟨h1, h2⟩ := less_rmv st t
  unfold remR remP
  rw [h1]
  cases hr : rmv t st with
  | none =>
    rw [if_neg (fun e => by simp at e)]
    split <;> rfl
  | some y =>
    rw [h2 y hr]
    by_cases ht : okT t = true
    · obtain ⟨g1, g2, g3⟩ := rmv_ok ht hr
      rw [if_pos ⟨rfl, ht, g1⟩, if_pos ⟨g2, g3, ht⟩]
    · rw [if_neg (fun e => ht e.2.1), if_neg (fun e => ht e.2.2)]
end Go.Proofs.YtaphlemmlmdkiaaDoor
namespace Go.Proofs.YtaphlemmlmdkiaaDoor
set_option linter.unusedSimpArgs false
set_option linter.unusedVariables false
set_option maxRecDepth 100000
open Go.RowKit Go.Shelf
def CBy (w0 : World) (g : Nat) (cb : Array Value) (f : V → ByteArray → Option V) : Prop := (∀ args w, (callFunc g args).run Tryd.prog w = .ok (.enter g args) w) ∧ ∀ (s : ByteArray) (t : V) (sl : Value) (W : World), s.size ≤ 1048576 → t.wf → t.sz ≤ 1048576 → RepS w0 sl t.kids → Below w0.heap.size w0 W → Calls Tryd.prog g (#[t.agg sl, .string s] ++ cb) W (OptRet w0.heap.size (f t s) W)
theorem box_set5T {W : World} {z : Nat} {k0 n0 e0 : Int} {s0 : ByteArray} {sl0 : Value} {T : TypeId} (h : Box W z k0 n0 e0 s0 sl0 T) (k n e : Int) (s : ByteArray) (sl : Value) : Box (set5 W z (.int .i64 k) (.int .i64 n) (.int .i64 e) (.string s) sl) z k n e s sl T := by
  have h0 := heap_setCell_same W z 0 _ _ (.int .i64 k) h
  have h1 := heap_setCell_same _ z 1 _ _ (.int .i64 n) h0
  have h2 := heap_setCell_same _ z 2 _ _ (.int .i64 e) h1
  have h3 := heap_setCell_same _ z 3 _ _ (.string s) h2
  exact heap_setCell_same _ z 4 _ _ sl h3
theorem repF_set5T {w : World} {F : Nat → Prop} {v : Value} {ts : List V} (h : RepF w F v ts) (c : Nat) (hc : ∀ x, F x → x ≠ c) (v0 v1 v2 v3 v4 : Value) : RepF (set5 w c v0 v1 v2 v3 v4) F v ts :=
  h.keep (by rw [size_set5]; exact Nat.le_refl _) (fun x hx _ => heap_set5 _ _ _ _ _ _ _ _ (hc x hx))
theorem OptRet.set {B0 : Nat} {y : V} {w w1 w2 : World} {sl : Value} (hb : Below w.heap.size w w1) (h2 : w.heap.size + 2 ≤ w2.heap.size) (hwf : y.wf) (hrep : RepF w1 (fun x => x < B0 ∨ w2.heap.size ≤ x) sl y.kids) (h0 : B0 ≤ w.heap.size) (v0 v1 v2 v3 v4 : Value) :
    OptRet B0 (some y) w (.returned (.tuple #[y.agg sl, .bool true])) (set5 w1 (w.heap.size + 1) v0 v1 v2 v3 v4) := by
  refine ⟨sl, rfl, hwf, (hrep.keep (by rw [size_set5]; exact Nat.le_refl _) ?_).mono (fun x hx _ => hx.elim .inl (fun h => .inr (by omega))), hb.trans ((below_set5 _ (w.heap.size + 1) _ _ _ _ _).mono (by omega))⟩
  intro x hx _
  exact heap_set5 _ _ _ _ _ _ _ _ (by rcases hx with h | h <;> omega)
theorem OptRet.none {B0 : Nat} {w w1 : World} (hb : Below w.heap.size w w1) (v0 v1 v2 v3 v4 : Value) :
    OptRet B0 none w (.returned (.tuple #[.agg #[.int .i64 0, .int .i64 0, .int .i64 0, .string ⟨#[]⟩, .slice none 0 0], .bool false])) (set5 w1 (w.heap.size + 1) v0 v1 v2 v3 v4) :=
  ⟨rfl, hb.trans ((below_set5 _ (w.heap.size + 1) _ _ _ _ _).mono (by omega))⟩
set_option maxHeartbeats 8000000 in
theorem turn_one (w0 : World) (g : Nat) (cb : Array Value) (f : V → ByteArray → Option V) (CB : CBy w0 g cb f) (s : ByteArray) (hs : s.size ≤ 1048576) (t : V) (sl vs : Value) (w : World) (hwf : t.wf) (hl : t.sz ≤ 1048576) (hr : RepS w0 sl t.kids) (hv : RepSs w0 vs [s]) (hw : Below w0.heap.size w0 w) :
    Calls Tryd.prog 37 #[t.agg sl, vs, .func (.func g) #[] cb] w (OptRet w0.heap.size (turnV f t [s]) w) := by
  obtain ⟨a, cap, rfl⟩ := hr.slice
  obtain ⟨sa, sb, so, sc, rfl, hsa, hsc, hsm, hcell⟩ := hv
  obtain ⟨rfl, hsb⟩ := hsa (by simp)
  have hc0 := (hcell 0 (by simp)).1
  have BV := Lib.hid ((Box.new w t.k t.n t.e t.s (.slice a t.kids.length cap) 30).alloc (.cells #[.int .i64 0, .int .i64 0, .int .i64 0, .string ⟨#[]⟩, .slice none 0 0] 30))
  have BZ := Lib.hid (Box.new (w.alloc (.cells #[.int .i64 t.k, .int .i64 t.n, .int .i64 t.e, .string t.s, .slice a t.kids.length cap] 30)) 0 0 0 ⟨#[]⟩ (.slice none 0 0) 30)
  obtain ⟨W0, hW0⟩ : ∃ W0, W0 = (w.alloc (.cells #[.int .i64 t.k, .int .i64 t.n, .int .i64 t.e, .string t.s, .slice a t.kids.length cap] 30)).alloc (.cells #[.int .i64 0, .int .i64 0, .int .i64 0, .string ⟨#[]⟩, .slice none 0 0] 30) := ⟨_, rfl⟩
  have hz0 : W0.heap.size = w.heap.size + 2 := by rw [hW0]; simp
  have HB0 := Lib.hid (show Below w.heap.size w W0 from by rw [hW0]; exact (by (with_reducible (repeat' (first | exact Below.refl _ _ | refine below_alloc ?_ _ ?_ | refine Below.setCell ?_ ?_ _ | refine Below.drew ?_ | refine Go.below_drewN ?_ _ | refine below_step ?_ (by assumption) ?_ | refine below_mark ?_ (by assumption) ?_))); all_goals (first | omega | (simp; done) | (simp; omega))))
  rw [← hW0] at BV BZ
  rw [show (w.alloc (.cells #[.int .i64 t.k, .int .i64 t.n, .int .i64 t.e, .string t.s, .slice a t.kids.length cap] 30)).heap.size = w.heap.size + 1 by simp] at BZ
  have HW := Lib.hid hw
  have HWW := Lib.hid (hw.trans (HB0.out.mono hw.size))
  have hsbw : sb < w.heap.size := Nat.lt_of_lt_of_le hsb hw.size
  have SC0 := Lib.hid (show W0.cell? ⟨sb, so, none⟩ = some (.string s) from by
    have h := (HWW.out.cell (p := ⟨sb, so, none⟩) hsb).trans hc0
    exact h)
  have WO := Lib.hid (fun (W : World) (hW : Below w0.heap.size w0 W) => show Calls Tryd.prog g (#[t.agg (.slice a t.kids.length cap), .string s] ++ cb) W (OptRet w0.heap.size (turnV f t [s]) W) from by rw [turnV]; exact CB.2 s t _ W hs hwf hl hr hW)
  have HEN := Lib.hid CB.1
  clear hcell hc0 hr hwf hw hsa CB hl
  rw [show [s].length = 1 from rfl] at *
  generalize turnV f t [s] = R at *
  unfold V.agg at *
  generalize t.kids = ts at *
  generalize t.k = k at *
  generalize t.n = n at *
  generalize t.e = ee at *
  generalize t.s = st at *
  go_enter Tryd.func37, Tryd.ntmps37
  go_upto_region 1 with fail
  rw [← hW0]
  clear hW0
  cases R with
  | none =>
    go_upto_region 2 with fail
    have BVQ := BV
    have SC := SC0
    have hsbq : sb < W0.heap.size := by omega
    have TCB := Lib.hid (show ∀ W' : World, W'.heap[w.heap.size]? = W0.heap[w.heap.size]? → W'.heap[sb]? = W0.heap[sb]? → W'.cell? ⟨w.heap.size, 0, none⟩ = some (.int .i64 k) ∧ W'.cell? ⟨w.heap.size, 1, none⟩ = some (.int .i64 n) ∧ W'.cell? ⟨w.heap.size, 2, none⟩ = some (.int .i64 ee) ∧ W'.cell? ⟨w.heap.size, 3, none⟩ = some (.string st) ∧ W'.cell? ⟨w.heap.size, 4, none⟩ = some (.slice a ts.length cap) ∧ W'.cell? ⟨sb, so, none⟩ = some (.string s) from fun W' h1 h2 => by
      obtain ⟨q0, q1, q2, q3, q4⟩ := Box.cells (show Box W' w.heap.size k n ee st (.slice a ts.length cap) 30 from h1.trans BVQ.out)
      exact ⟨q0, q1, q2, q3, q4, by rw [show W'.cell? ⟨sb, so, none⟩ = W0.cell? ⟨sb, so, none⟩ from World.cell?_of_block h2]; exact SC.out⟩)
    have TC := Lib.hid (fun (W' : World) (h : Below W0.heap.size W0 W') => TCB.out W' (h.block w.heap.size BVQ.out.lt) (h.block sb hsbq))
    have HB9 := Lib.hid (show Below W0.heap.size W0 W0.drew from (Below.refl _ _).drew)
    refine wp_region_held_drew (S := fun W' => W'.cell? ⟨w.heap.size, 0, none⟩ = some (.int .i64 k) ∧ W'.cell? ⟨w.heap.size, 1, none⟩ = some (.int .i64 n) ∧ W'.cell? ⟨w.heap.size, 2, none⟩ = some (.int .i64 ee) ∧ W'.cell? ⟨w.heap.size, 3, none⟩ = some (.string st) ∧ W'.cell? ⟨w.heap.size, 4, none⟩ = some (.slice a ts.length cap) ∧ W'.cell? ⟨sb, so, none⟩ = some (.string s)) (by kernel_rfl) (TC.out _ HB9.out) (fun hHeld => ?_)
    refine wpAnyH_take (i := 0) (v := ?_) rfl (by kernel_rfl) (by kernel_rfl) (by kernel_rfl) (fun _ _ _ h => h) (Or.inl ⟨by rfl, ?_⟩) hHeld ?_
    rotate_left
    · (intro w hSw; (try dsimp only at hSw); (try simp only [List.getElem_toArray, List.getElem_cons_succ, List.getElem_cons_zero]); go_simp <;> with_reducible rfl)
    try simp only [List.getElem_toArray, List.getElem_cons_succ, List.getElem_cons_zero, Act.put, List.setIfInBounds_toArray, List.set_cons_zero, List.set_cons_succ]
    refine wpAnyH_take (i := 1) (v := ?_) rfl (by kernel_rfl) (by kernel_rfl) (by kernel_rfl) (fun _ _ _ h => h) (Or.inl ⟨by rfl, ?_⟩) hHeld ?_
    rotate_left
    · (intro w hSw; (try dsimp only at hSw); (try simp only [List.getElem_toArray, List.getElem_cons_succ, List.getElem_cons_zero]); go_simp <;> with_reducible rfl)
    try simp only [List.getElem_toArray, List.getElem_cons_succ, List.getElem_cons_zero, Act.put, List.setIfInBounds_toArray, List.set_cons_zero, List.set_cons_succ]
    refine wpAnyH_take (i := 2) (v := ?_) rfl (by kernel_rfl) (by kernel_rfl) (by kernel_rfl) (fun _ _ _ h => h) (Or.inl ⟨by rfl, ?_⟩) hHeld ?_
    rotate_left
    · (intro w hSw; (try dsimp only at hSw); (try simp only [List.getElem_toArray, List.getElem_cons_succ, List.getElem_cons_zero]); go_simp <;> with_reducible rfl)
    try simp only [List.getElem_toArray, List.getElem_cons_succ, List.getElem_cons_zero, Act.put, List.setIfInBounds_toArray, List.set_cons_zero, List.set_cons_succ]
    refine wpAnyH_take (i := 3) (v := ?_) rfl (by kernel_rfl) (by kernel_rfl) (by kernel_rfl) (fun _ _ _ h => h) (Or.inl ⟨by rfl, ?_⟩) hHeld ?_
    rotate_left
    · (intro w hSw; (try dsimp only at hSw); (try simp only [List.getElem_toArray, List.getElem_cons_succ, List.getElem_cons_zero]); go_simp <;> with_reducible rfl)
    try simp only [List.getElem_toArray, List.getElem_cons_succ, List.getElem_cons_zero, Act.put, List.setIfInBounds_toArray, List.set_cons_zero, List.set_cons_succ]
    refine wpAnyH_take (i := 4) (v := ?_) rfl (by kernel_rfl) (by kernel_rfl) (by kernel_rfl) (fun _ _ _ h => h) (Or.inl ⟨by rfl, ?_⟩) hHeld ?_
    rotate_left
    · (intro w hSw; (try dsimp only at hSw); (try simp only [List.getElem_toArray, List.getElem_cons_succ, List.getElem_cons_zero]); go_simp <;> with_reducible rfl)
    try simp only [List.getElem_toArray, List.getElem_cons_succ, List.getElem_cons_zero, Act.put, List.setIfInBounds_toArray, List.set_cons_zero, List.set_cons_succ]
    refine wpAnyH_ready (rs := [5]) (by kernel_rfl) (by simp) ?_
    refine AllReadyH.cons rfl (fun K hK => ?_) ?_
    · have CL := Lib.hid (WO.out W0.drew (HWW.out.trans (HB9.out.mono HWW.out.size)))
      unfold OptRet at CL
      dsimp only at CL
      go_simp
      rw [HEN.out]
      refine CL.out.mono ?_
      rintro e5 w5 ⟨rfl, hb5⟩
      skip
      have HB5 := Lib.hid (HB9.out.trans (hb5.mono HB9.out.size))
      have BZ5 := Lib.hid ((HB5.out.block (w.heap.size + 1) BZ.out.lt).trans BZ.out)
      skip
      clear CL hb5
      refine hK.out _ _ ?_ (fun hHeld => ?_)
      · exact TC.out _ HB5.out
      clear hK K
      try simp only [List.getElem_toArray, List.getElem_cons_succ, List.getElem_cons_zero, Act.put, List.setIfInBounds_toArray, List.set_cons_zero, List.set_cons_succ]
      refine wpAnyH_take (i := 6) (v := ?_) rfl (by kernel_rfl) (by kernel_rfl) (by kernel_rfl) (fun _ _ _ h => h) (Or.inl ⟨by rfl, ?_⟩) hHeld ?_
      rotate_left
      · (intro w hSw; (try dsimp only at hSw); (try simp only [List.getElem_toArray, List.getElem_cons_succ, List.getElem_cons_zero]); go_simp <;> with_reducible rfl)
      try simp only [List.getElem_toArray, List.getElem_cons_succ, List.getElem_cons_zero, Act.put, List.setIfInBounds_toArray, List.set_cons_zero, List.set_cons_succ]
      refine wpAnyH_take (i := 7) (v := ?_) rfl (by kernel_rfl) (by kernel_rfl) (by kernel_rfl) (fun _ _ _ h => h) (Or.inl ⟨by rfl, ?_⟩) hHeld ?_
      rotate_left
      · (intro w hSw; (try dsimp only at hSw); (try simp only [List.getElem_toArray, List.getElem_cons_succ, List.getElem_cons_zero]); go_simp <;> with_reducible rfl)
      try simp only [List.getElem_toArray, List.getElem_cons_succ, List.getElem_cons_zero, Act.put, List.setIfInBounds_toArray, List.set_cons_zero, List.set_cons_succ]
      refine wpAnyH_ready (rs := [8]) (by kernel_rfl) (by simp) ?_
      refine AllReadyH.cons rfl (fun K hK => ?_) ?_
      · obtain ⟨z0, z1, z2, z3, z4⟩ := Box.cells BZ5.out
        have zf0 := Box.free (i := 0) BZ5.out; have zf1 := Box.free (i := 1) BZ5.out; have zf2 := Box.free (i := 2) BZ5.out; have zf3 := Box.free (i := 3) BZ5.out; have zf4 := Box.free (i := 4) BZ5.out
        have HF := Lib.hid (fun v0 v1 v2 v3 v4 => OptRet.none (B0 := w0.heap.size) (HB0.out.trans (HB5.out.mono (by omega))) v0 v1 v2 v3 v4)
        go_simp
        refine hK.out _ _ ?_ (fun hHeld => ?_)
        · exact TCB.out _ ((heap_set5 _ _ _ _ _ _ _ _ (by omega)).trans (HB5.out.block w.heap.size BV.out.lt)) ((heap_set5 _ _ _ _ _ _ _ _ (by omega)).trans (HB5.out.block sb hsbq))
        clear hK K
        try simp only [List.getElem_toArray, List.getElem_cons_succ, List.getElem_cons_zero, Act.put, List.setIfInBounds_toArray, List.set_cons_zero, List.set_cons_succ]
        refine wpAnyH_take (i := 9) (v := ?_) rfl (by kernel_rfl) (by kernel_rfl) (by kernel_rfl) (fun _ _ _ h => h) (Or.inl ⟨by rfl, ?_⟩) hHeld ?_
        rotate_left
        · (intro w hSw; (try dsimp only at hSw); (try simp only [List.getElem_toArray, List.getElem_cons_succ, List.getElem_cons_zero]); go_simp <;> with_reducible rfl)
        try simp only [List.getElem_toArray, List.getElem_cons_succ, List.getElem_cons_zero, Act.put, List.setIfInBounds_toArray, List.set_cons_zero, List.set_cons_succ]
        refine wpAnyH_done (by kernel_rfl) ?_ _
        go_wp2_with fail
        exact bodyPost_ret (v := .tuple #[.agg #[.int .i64 0, .int .i64 0, .int .i64 0, .string ⟨#[]⟩, .slice none 0 0], .bool false]) (by simp [results, Tryd.results37, go_sem, z0, z1, z2, z3, z4]) rfl (HF.out _ _ _ _ _)
      exact AllReadyH.nil
    exact AllReadyH.nil
  | some y =>
    go_upto_region 2 with fail
    have BVQ := BV
    have SC := SC0
    have hsbq : sb < W0.heap.size := by omega
    have TCB := Lib.hid (show ∀ W' : World, W'.heap[w.heap.size]? = W0.heap[w.heap.size]? → W'.heap[sb]? = W0.heap[sb]? → W'.cell? ⟨w.heap.size, 0, none⟩ = some (.int .i64 k) ∧ W'.cell? ⟨w.heap.size, 1, none⟩ = some (.int .i64 n) ∧ W'.cell? ⟨w.heap.size, 2, none⟩ = some (.int .i64 ee) ∧ W'.cell? ⟨w.heap.size, 3, none⟩ = some (.string st) ∧ W'.cell? ⟨w.heap.size, 4, none⟩ = some (.slice a ts.length cap) ∧ W'.cell? ⟨sb, so, none⟩ = some (.string s) from fun W' h1 h2 => by
      obtain ⟨q0, q1, q2, q3, q4⟩ := Box.cells (show Box W' w.heap.size k n ee st (.slice a ts.length cap) 30 from h1.trans BVQ.out)
      exact ⟨q0, q1, q2, q3, q4, by rw [show W'.cell? ⟨sb, so, none⟩ = W0.cell? ⟨sb, so, none⟩ from World.cell?_of_block h2]; exact SC.out⟩)
    have TC := Lib.hid (fun (W' : World) (h : Below W0.heap.size W0 W') => TCB.out W' (h.block w.heap.size BVQ.out.lt) (h.block sb hsbq))
    have HB9 := Lib.hid (show Below W0.heap.size W0 W0.drew from (Below.refl _ _).drew)
    refine wp_region_held_drew (S := fun W' => W'.cell? ⟨w.heap.size, 0, none⟩ = some (.int .i64 k) ∧ W'.cell? ⟨w.heap.size, 1, none⟩ = some (.int .i64 n) ∧ W'.cell? ⟨w.heap.size, 2, none⟩ = some (.int .i64 ee) ∧ W'.cell? ⟨w.heap.size, 3, none⟩ = some (.string st) ∧ W'.cell? ⟨w.heap.size, 4, none⟩ = some (.slice a ts.length cap) ∧ W'.cell? ⟨sb, so, none⟩ = some (.string s)) (by kernel_rfl) (TC.out _ HB9.out) (fun hHeld => ?_)
    refine wpAnyH_take (i := 0) (v := ?_) rfl (by kernel_rfl) (by kernel_rfl) (by kernel_rfl) (fun _ _ _ h => h) (Or.inl ⟨by rfl, ?_⟩) hHeld ?_
    rotate_left
    · (intro w hSw; (try dsimp only at hSw); (try simp only [List.getElem_toArray, List.getElem_cons_succ, List.getElem_cons_zero]); go_simp <;> with_reducible rfl)
    try simp only [List.getElem_toArray, List.getElem_cons_succ, List.getElem_cons_zero, Act.put, List.setIfInBounds_toArray, List.set_cons_zero, List.set_cons_succ]
    refine wpAnyH_take (i := 1) (v := ?_) rfl (by kernel_rfl) (by kernel_rfl) (by kernel_rfl) (fun _ _ _ h => h) (Or.inl ⟨by rfl, ?_⟩) hHeld ?_
    rotate_left
    · (intro w hSw; (try dsimp only at hSw); (try simp only [List.getElem_toArray, List.getElem_cons_succ, List.getElem_cons_zero]); go_simp <;> with_reducible rfl)
    try simp only [List.getElem_toArray, List.getElem_cons_succ, List.getElem_cons_zero, Act.put, List.setIfInBounds_toArray, List.set_cons_zero, List.set_cons_succ]
    refine wpAnyH_take (i := 2) (v := ?_) rfl (by kernel_rfl) (by kernel_rfl) (by kernel_rfl) (fun _ _ _ h => h) (Or.inl ⟨by rfl, ?_⟩) hHeld ?_
    rotate_left
    · (intro w hSw; (try dsimp only at hSw); (try simp only [List.getElem_toArray, List.getElem_cons_succ, List.getElem_cons_zero]); go_simp <;> with_reducible rfl)
    try simp only [List.getElem_toArray, List.getElem_cons_succ, List.getElem_cons_zero, Act.put, List.setIfInBounds_toArray, List.set_cons_zero, List.set_cons_succ]
    refine wpAnyH_take (i := 3) (v := ?_) rfl (by kernel_rfl) (by kernel_rfl) (by kernel_rfl) (fun _ _ _ h => h) (Or.inl ⟨by rfl, ?_⟩) hHeld ?_
    rotate_left
    · (intro w hSw; (try dsimp only at hSw); (try simp only [List.getElem_toArray, List.getElem_cons_succ, List.getElem_cons_zero]); go_simp <;> with_reducible rfl)
    try simp only [List.getElem_toArray, List.getElem_cons_succ, List.getElem_cons_zero, Act.put, List.setIfInBounds_toArray, List.set_cons_zero, List.set_cons_succ]
    refine wpAnyH_take (i := 4) (v := ?_) rfl (by kernel_rfl) (by kernel_rfl) (by kernel_rfl) (fun _ _ _ h => h) (Or.inl ⟨by rfl, ?_⟩) hHeld ?_
    rotate_left
    · (intro w hSw; (try dsimp only at hSw); (try simp only [List.getElem_toArray, List.getElem_cons_succ, List.getElem_cons_zero]); go_simp <;> with_reducible rfl)
    try simp only [List.getElem_toArray, List.getElem_cons_succ, List.getElem_cons_zero, Act.put, List.setIfInBounds_toArray, List.set_cons_zero, List.set_cons_succ]
    refine wpAnyH_ready (rs := [5]) (by kernel_rfl) (by simp) ?_
    refine AllReadyH.cons rfl (fun K hK => ?_) ?_
    · have CL := Lib.hid (WO.out W0.drew (HWW.out.trans (HB9.out.mono HWW.out.size)))
      unfold OptRet at CL
      dsimp only at CL
      go_simp
      rw [HEN.out]
      refine CL.out.mono ?_
      rintro e5 w5 ⟨sl5, rfl, ywf, hrep, hb5⟩
      obtain ⟨oa5, oc5, rfl⟩ := hrep.slice
      have HB5 := Lib.hid (HB9.out.trans (hb5.mono HB9.out.size))
      have BZ5 := Lib.hid ((HB5.out.block (w.heap.size + 1) BZ.out.lt).trans BZ.out)
      unfold V.agg
      clear CL hb5
      refine hK.out _ _ ?_ (fun hHeld => ?_)
      · exact TC.out _ HB5.out
      clear hK K
      try simp only [List.getElem_toArray, List.getElem_cons_succ, List.getElem_cons_zero, Act.put, List.setIfInBounds_toArray, List.set_cons_zero, List.set_cons_succ]
      refine wpAnyH_take (i := 6) (v := ?_) rfl (by kernel_rfl) (by kernel_rfl) (by kernel_rfl) (fun _ _ _ h => h) (Or.inl ⟨by rfl, ?_⟩) hHeld ?_
      rotate_left
      · (intro w hSw; (try dsimp only at hSw); (try simp only [List.getElem_toArray, List.getElem_cons_succ, List.getElem_cons_zero]); go_simp <;> with_reducible rfl)
      try simp only [List.getElem_toArray, List.getElem_cons_succ, List.getElem_cons_zero, Act.put, List.setIfInBounds_toArray, List.set_cons_zero, List.set_cons_succ]
      refine wpAnyH_take (i := 7) (v := ?_) rfl (by kernel_rfl) (by kernel_rfl) (by kernel_rfl) (fun _ _ _ h => h) (Or.inl ⟨by rfl, ?_⟩) hHeld ?_
      rotate_left
      · (intro w hSw; (try dsimp only at hSw); (try simp only [List.getElem_toArray, List.getElem_cons_succ, List.getElem_cons_zero]); go_simp <;> with_reducible rfl)
      try simp only [List.getElem_toArray, List.getElem_cons_succ, List.getElem_cons_zero, Act.put, List.setIfInBounds_toArray, List.set_cons_zero, List.set_cons_succ]
      refine wpAnyH_ready (rs := [8]) (by kernel_rfl) (by simp) ?_
      refine AllReadyH.cons rfl (fun K hK => ?_) ?_
      · obtain ⟨z0, z1, z2, z3, z4⟩ := Box.cells BZ5.out
        have zf0 := Box.free (i := 0) BZ5.out; have zf1 := Box.free (i := 1) BZ5.out; have zf2 := Box.free (i := 2) BZ5.out; have zf3 := Box.free (i := 3) BZ5.out; have zf4 := Box.free (i := 4) BZ5.out
        have HF := Lib.hid (fun v0 v1 v2 v3 v4 => OptRet.set (HB0.out.trans (HB5.out.mono (by omega))) (w2 := W0) (by omega) ywf hrep HW.out.size v0 v1 v2 v3 v4)
        unfold V.agg at HF
        go_simp
        refine hK.out _ _ ?_ (fun hHeld => ?_)
        · exact TCB.out _ ((heap_set5 _ _ _ _ _ _ _ _ (by omega)).trans (HB5.out.block w.heap.size BV.out.lt)) ((heap_set5 _ _ _ _ _ _ _ _ (by omega)).trans (HB5.out.block sb hsbq))
        clear hK K
        try simp only [List.getElem_toArray, List.getElem_cons_succ, List.getElem_cons_zero, Act.put, List.setIfInBounds_toArray, List.set_cons_zero, List.set_cons_succ]
        refine wpAnyH_take (i := 9) (v := ?_) rfl (by kernel_rfl) (by kernel_rfl) (by kernel_rfl) (fun _ _ _ h => h) (Or.inl ⟨by rfl, ?_⟩) hHeld ?_
        rotate_left
        · (intro w hSw; (try dsimp only at hSw); (try simp only [List.getElem_toArray, List.getElem_cons_succ, List.getElem_cons_zero]); go_simp <;> with_reducible rfl)
        try simp only [List.getElem_toArray, List.getElem_cons_succ, List.getElem_cons_zero, Act.put, List.setIfInBounds_toArray, List.set_cons_zero, List.set_cons_succ]
        refine wpAnyH_done (by kernel_rfl) ?_ _
        go_wp2_with fail
        exact bodyPost_ret (v := .tuple #[.agg #[.int .i64 y.k, .int .i64 y.n, .int .i64 y.e, .string y.s, .slice oa5 y.kids.length oc5], .bool true]) (by simp [results, Tryd.results37, go_sem, z0, z1, z2, z3, z4]) rfl (HF.out _ _ _ _ _)
      exact AllReadyH.nil
    exact AllReadyH.nil
end Go.Proofs.YtaphlemmlmdkiaaDoor
