/- The program's Uses: the function value that walk calls, the sort and the compaction by their contracts. -/
import Derived.Test.YtllngpnhhpnjoaaUseB
import Derived.Test.YtllngpnhhpnjoaaShelfU
import Derived.Sort.OwnSortedInts
import Derived.Lib.OwnBridge
import Derived.Deep.RegionWith
import Derived.BigGuard
namespace Go.Proofs.Ytllngpnhhpnjoaa
set_option linter.unusedVariables false
set_option maxRecDepth 100000
open Go.RowKit
theorem icap_round {c B : Nat} {o o' v2 : Value} {W1 wr W w2 : World} {T : TypeId} {l : List Int} (ht : Touch (own2 c o) (own2 c o') W1 wr) (hW : Below wr.heap.size wr W) (hg : W.grownBy w2 o'.ownBlock) (hf : FreshOr W o' v2)
    (hr : IRow w2 B v2 l) (hc : w2.heap[c]? = some (.cells #[o'] T (0, 0))) (hno : o'.ownBlock ≠ some c) (hcw : c < wr.heap.size) :
    (w2.setCell ⟨c, 0, none⟩ v2).heap[c]? = some (.cells #[v2] T (0, 0)) ∧ IRow (w2.setCell ⟨c, 0, none⟩ v2) B v2 l ∧ v2.ownBlock ≠ some c ∧ Touch (own2 c o) (own2 c v2) W1 (w2.setCell ⟨c, 0, none⟩ v2) := by
  have hn2 : v2.ownBlock ≠ some c := by
    rcases hf with e | e
    · rw [e]; exact hno
    · rw [e]; intro h; simp only [Option.some.injEq] at h; have := hW.size; omega
  refine ⟨?_, hr.keep (fun x hx => heap_setCell_other _ _ _ _ (fun e => hn2 (by rw [hx]; exact congrArg some e))), hn2, ht.trans (touch_app hW hg hf v2)⟩
  rw [heap_setCell_same w2 c 0 #[o'] T v2 hc]; rfl
structure UOf (B c : Nat) (l : List Int) (o : Value) (w : World) : Prop where
  b1 : B ≤ c
  h1 : w.heap[c]? = some (.cells #[o] 26 (0, 0))
  hr : IRow w B o l
  no : o.ownBlock ≠ some c
def UInv (B c : Nat) (L : List V) (A : Nat → Prop) (w : World) : Prop := ∃ o, UOf B c (useL L) o w ∧ A = own2 c o
theorem UOf.lt {B c : Nat} {l : List Int} {o : Value} {w : World} (h : UOf B c l o w) : ∀ x, own2 c o x → B ≤ x ∧ x < w.heap.size := by
  rintro x (rfl | hx)
  · exact ⟨h.b1, lt_of_heap h.h1⟩
  · exact h.hr.lt x hx
theorem UOf.stay {B c : Nat} {l : List Int} {o : Value} {w w' : World} (h : UOf B c l o w) (hb : Below w.heap.size w w') : UOf B c l o w' :=
  { h with
    h1 := (hb.block c (lt_of_heap h.h1)).trans h.h1
    hr := h.hr.stay2 hb }
theorem useL_snoc (L : List V) (u : V) : useL (L ++ [u]) = if isU u then useL L ++ [uN u] else useL L := by
  rw [useL_append]
  unfold useL
  by_cases h : isU u = true
  · rw [if_pos h, List.filter_cons_of_pos h]; rfl
  · rw [if_neg h, List.filter_cons_of_neg h]; simp
theorem useL_length (L : List V) : (useL L).length ≤ wtL L := by
  unfold useL
  rw [List.length_map]
  refine Nat.le_trans (List.length_filter_le _ _) ?_
  induction L with
  | nil => simp
  | cons u us ih => simp only [List.length_cons, wtL]; omega
set_option maxHeartbeats 4000000 in
theorem Uses1_any (w0 : World) (B c : Nat) (u : V) (sl : Value) (L : List V) (A : Nat → Prop) (w : World) (hu : u.wf) (hs : RepS w0 sl u.kids) (hw : Below w0.heap.size w0 w) (hB0 : w0.heap.size ≤ B) (hi : UInv B c L A w) (hf : Few (L ++ [u])) :
    Calls Try.prog 17 #[u.agg sl, .pointer (some ⟨c, 0, none⟩)] w (Yields (UInv B c) A w (L ++ [u])) := by
  obtain ⟨o, hk, rfl⟩ := hi
  have hlen : (useL L).length ≤ 4194304 := by have h1 := useL_length L; have h2 := hf.of_append; unfold Few at h2; omega
  have HY := Lib.hid (show ¬ isU u = true → ∀ w', Below w.heap.size w w' → Yields (UInv B c) (own2 c o) w (L ++ [u]) (.returned (.tuple #[])) w' from fun h w' hb => by
    refine ⟨rfl, own2 c o, ⟨o, ?_, rfl⟩, Touch.of_below hb⟩
    rw [useL_snoc, if_neg h]
    exact hk.stay hb)
  have HZ := Lib.hid (show isU u = true → ∀ v2 w', w'.heap[c]? = some (.cells #[v2] 26 (0, 0)) ∧ IRow w' B v2 (useL L ++ [uN u]) ∧ v2.ownBlock ≠ some c ∧ Touch (own2 c o) (own2 c v2) w w' → Yields (UInv B c) (own2 c o) w (L ++ [u]) (.returned (.tuple #[])) w' from fun h v2 w' ⟨h1, h2, h3, h4⟩ => by
    refine ⟨rfl, own2 c v2, ⟨v2, ⟨hk.b1, h1, ?_, h3⟩, rfl⟩, h4⟩
    rw [useL_snoc, if_pos h]; exact h2)
  have HCO := Lib.hid hk.h1; have HNO := Lib.hid hk.no; have HR := Lib.hid hk.hr
  have hcs := lt_of_heap hk.h1
  have hcB := hk.b1
  obtain ⟨a, b, off, cap, rfl, ha, hc, hm, sls, hel⟩ := hs.opened
  have HA := Lib.hid ha; have HE := Lib.hid hel; have HW := Lib.hid hw
  have HIU := Lib.hid (isU_eq u)
  have HUN := Lib.hid (show uN u = (u.kids.headD V0).n from rfl)
  clear hk ha hel hc hm hu hw hf hs
  unfold V.agg
  generalize useL L = l at *
  generalize hiu0 : isU u = iu at *
  clear hiu0
  generalize uN u = un at *
  generalize u.k = k at *
  generalize u.n = n at *
  generalize u.e = e at *
  generalize u.s = s at *
  generalize u.kids = ts at *
  by_cases huu : k = 9 ∧ n = 6 ∧ ts.length = 1 ∧ (ts.headD V0).k = 3
  · have hiu : iu = true := by rw [HIU.out]; simp only [Bool.and_eq_true, decide_eq_true_eq]; exact ⟨⟨⟨huu.1, huu.2.1⟩, huu.2.2.1⟩, huu.2.2.2⟩
    have HZ2 := Lib.hid (HZ.out hiu)
    obtain ⟨h9, h6, h1, h3⟩ := huu
    have t1 : (k == 9) = true := by simpa using h9
    have t2 : (n == 6) = true := by simpa using h6
    have t3 : ((ts.length : Int) == 1) = true := by simp; omega
    have hlt0 : 0 < ts.length := by omega
    have hne : ts ≠ [] := by intro e; rw [e] at hlt0; simp at hlt0
    have hhd : ts.headD V0 = ts[0] := by cases ts with
      | nil => simp at hlt0
      | cons x xs => rfl
    rw [hhd] at h3 HUN
    obtain ⟨haeq, hbw⟩ := HA.out hne
    have hcc := (HE.out 0 hlt0).1.keep (HW.out.block b hbw)
    have t4 : (ts[0].k == 3) = true := by simpa using h3
    obtain ⟨c0, c1, -, -, -⟩ := hcc
    rw [Nat.zero_mul, Nat.add_zero] at c0 c1
    have hbw' : b < w.heap.size := Nat.lt_of_lt_of_le hbw HW.out.size
    have hbn1 : b ≠ w.heap.size := by omega
    have hbn2 : b ≠ w.heap.size + 1 := by omega
    have hbc : b ≠ c := by omega
    have hcn1 : c ≠ w.heap.size := by omega
    have hcn2 : c ≠ w.heap.size + 1 := by omega
    have hl0 : (0 : Int) < (ts.length : Int) := by omega
    rw [← HUN.out] at c1
    generalize ts[0].k = k0 at *
    clear hiu h9 h6 h1 h3 HIU hhd HUN hne HY HZ HE HA
    subst haeq
    have d1 : w.cell? ⟨c, 0, none⟩ = some o := cell_of_one HCO.out
    have hcf : w.frozen? ⟨c, 0, none⟩ = false := free_of_one HCO.out
    go_enter Try.func17, Try.ntmps17
    go_wp2_with fail
    go_region_law (refine step_ints rfl _ _ _ rfl B o l rfl (HR.out.stay2 ((by (repeat' (first | with_reducible exact Below.refl _ _ | with_reducible refine below_alloc ?_ _ ?_ | with_reducible refine Below.setCell ?_ ?_ _ | with_reducible refine Below.drew ?_ | with_reducible refine below_drewN ?_ _ | with_reducible refine below_step ?_ (by assumption) ?_ | with_reducible refine below_mark ?_ (by assumption) ?_)); all_goals (first | omega | (simp; done) | (simp; omega))))) _ rfl [un] (src_int_at (by first | exact heap_alloc_here _ (by simp) | exact heap_alloc_here _ rfl)) (by simp; omega) (by have := (HR.out).1; first | omega | (simp; omega)) ?_; intro v2 w2 hrow2 hg2 hfr2; obtain ⟨sa2, sn2, sc2, rfl⟩ := hrow2.slice3; have hcr2 : w2.heap[c]? = some (.cells #[o] 26 (0, 0)) := (hg2.block c (by simp; omega) (fun e => HNO.out e.symm)).trans (((show Below w.heap.size w _ from (by (repeat' (first | with_reducible exact Below.refl _ _ | with_reducible refine below_alloc ?_ _ ?_ | with_reducible refine Below.setCell ?_ ?_ _ | with_reducible refine Below.drew ?_ | with_reducible refine below_drewN ?_ _ | with_reducible refine below_step ?_ (by assumption) ?_ | with_reducible refine below_mark ?_ (by assumption) ?_)); all_goals (first | omega | (simp; done) | (simp; omega)))).block c hcs).trans HCO.out); have hcc2 : w2.cell? ⟨c, 0, none⟩ = some o := cell_of_one hcr2; have hcf2 : w2.frozen? ⟨c, 0, none⟩ = false := free_of_one hcr2; have HQ := Lib.hid (icap_round (Touch.refl (own2 c o) w) ((by (repeat' (first | with_reducible exact Below.refl _ _ | with_reducible refine below_alloc ?_ _ ?_ | with_reducible refine Below.setCell ?_ ?_ _ | with_reducible refine Below.drew ?_ | with_reducible refine below_drewN ?_ _ | with_reducible refine below_step ?_ (by assumption) ?_ | with_reducible refine below_mark ?_ (by assumption) ?_)); all_goals (first | omega | (simp; done) | (simp; omega)))) hg2 hfr2 hrow2 hcr2 HNO.out hcs); clear hrow2 hg2 hfr2 hcr2)
    all_goals go_wp2_with fail
    all_goals go_end0
    all_goals exact HZ2.out _ _ HQ.out
  · have hiu : iu = false := by rw [HIU.out]; cases hh : (decide (k = 9) && decide (n = 6) && decide (ts.length = 1) && decide ((ts.headD V0).k = 3)) with
      | false => rfl
      | true => simp only [Bool.and_eq_true, decide_eq_true_eq] at hh; exact absurd ⟨hh.1.1.1, hh.1.1.2, hh.1.2, hh.2⟩ huu
    have HY2 := Lib.hid (HY.out (by rw [hiu]; simp))
    have hhd : ∀ h : 0 < ts.length, ts.headD V0 = ts[0] := by cases ts with
      | nil => intro h; simp at h
      | cons x xs => intro h; rfl
    have key : ((k == 9) = false) ∨ ((k == 9) = true ∧ (n == 6) = false) ∨ ((k == 9) = true ∧ (n == 6) = true ∧ ((ts.length : Int) == 1) = false) ∨ ((k == 9) = true ∧ (n == 6) = true ∧ ((ts.length : Int) == 1) = true ∧ ∃ h : 0 < ts.length, (ts[0].k == 3) = false) := by
      by_cases h9 : k = 9
      · by_cases h6 : n = 6
        · by_cases h1 : ts.length = 1
          · refine .inr (.inr (.inr ⟨by simpa using h9, by simpa using h6, by simp; omega, by omega, ?_⟩))
            have h0 : 0 < ts.length := by omega
            have : ¬ ts[0].k = 3 := fun e => huu ⟨h9, h6, h1, by rw [hhd h0]; exact e⟩
            simpa using this
          · exact .inr (.inr (.inl ⟨by simpa using h9, by simpa using h6, by simp; omega⟩))
        · exact .inr (.inl ⟨by simpa using h9, by simpa using h6⟩)
      · exact .inl (by simpa using h9)
    clear hiu HIU HUN hhd huu HY HZ HCO HR HNO
    rcases key with t1 | ⟨t1, t2⟩ | ⟨t1, t2, t3⟩ | ⟨t1, t2, t3, hlt0, t4⟩
    case inr.inr.inr =>
      have hne : ts ≠ [] := by intro e; rw [e] at hlt0; simp at hlt0
      obtain ⟨haeq, hbw⟩ := HA.out hne
      have hcc := (HE.out 0 hlt0).1.keep (HW.out.block b hbw)
      obtain ⟨c0, -, -, -, -⟩ := hcc
      rw [Nat.zero_mul, Nat.add_zero] at c0
      have hbw' : b < w.heap.size := Nat.lt_of_lt_of_le hbw HW.out.size
      have hbn1 : b ≠ w.heap.size := by omega
      have hl0 : (0 : Int) < (ts.length : Int) := by omega
      generalize ts[0].k = k0 at *
      subst haeq
      clear hne
      go_enter Try.func17, Try.ntmps17
      go_wp2_with fail
      go_end0
      exact HY2.out _ (by (repeat' (first | with_reducible exact Below.refl _ _ | with_reducible refine below_alloc ?_ _ ?_ | with_reducible refine Below.setCell ?_ ?_ _ | with_reducible refine Below.drew ?_ | with_reducible refine below_drewN ?_ _ | with_reducible refine below_step ?_ (by assumption) ?_ | with_reducible refine below_mark ?_ (by assumption) ?_)); all_goals (first | omega | (simp; done) | (simp; omega)))
    all_goals
      go_enter Try.func17, Try.ntmps17
      go_wp2_with fail
      go_end0
      exact HY2.out _ (by (repeat' (first | with_reducible exact Below.refl _ _ | with_reducible refine below_alloc ?_ _ ?_ | with_reducible refine Below.setCell ?_ ?_ _ | with_reducible refine Below.drew ?_ | with_reducible refine below_drewN ?_ _ | with_reducible refine below_step ?_ (by assumption) ?_ | with_reducible refine below_mark ?_ (by assumption) ?_)); all_goals (first | omega | (simp; done) | (simp; omega)))
theorem enters_Uses1 : ∀ (args : Array Value) (w : World), (callFunc 17 args).run Try.prog w = .ok (.enter 17 args) w := by
  intro args w
  have h1 : (Try.f17.name == "runtime.NumGoroutine") = false := by kernel_rfl
  have h2 : Try.f17.body.isNone = false := by kernel_rfl
  have h1' : ¬ Try.f17.name = "runtime.NumGoroutine" := by simpa using h1
  have h2' : ¬ Try.f17.body = none := by intro e; rw [e] at h2; cases h2
  simp [callFunc, Try.func17, go_sem, h1', h2']
open Go.Sort in
theorem sorted_row {w w3 : World} {base g cap n : Nat} {os : Array Obj} {l : List Int} (h : IRow w base (.slice (some ⟨g, 0, none⟩) l.length cap) l) (hw3 : w3 = grow (putRow (Value.int .i64) (Sort.ahead w n) g 0 (l.mergeSort fun x y => decide (x ≤ y)).toArray) os) :
    IRow w3 base (.slice (some ⟨g, 0, none⟩) (l.mergeSort fun x y => decide (x ≤ y)).length cap) (l.mergeSort fun x y => decide (x ≤ y)) ∧ w.grownBy w3 (some g) ∧ Holds (Value.int .i64) w3 g 0 (l.mergeSort fun x y => decide (x ≤ y)).toArray := by
  subst hw3
  rcases h.2 with ⟨h0, _⟩ | ⟨g', cap', cur, hv, hbase, hb, h1, h2, h3, h4⟩
  · cases h0
  cases hv
  have hl := List.length_mergeSort (le := fun x y => decide (x ≤ y)) l
  have hr := ownsRow_sortedI (n := n) (os := os) (ss := l) (ts := l.mergeSort fun x y => decide (x ≤ y)) hl hbase hb h1 h2 h3
  refine ⟨?_, grownBy_sortedI _, ?_⟩
  · unfold IRow; rw [hl]; exact hr
  · refine holds_of_blockI (heap_sortedI _ hb) ?_
    exact take_putCellsI cur _ (by omega)
open Go.Sort in
theorem compact_row {w w4 : World} {base g cap q : Nat} {l : List Int} (h : IRow w base (.slice (some ⟨g, 0, none⟩) l.length cap) l) (hw4 : w4 = putRow (Value.int .i64) (Sort.ahead w q) g 0 (Lib.compact l ++ List.replicate (l.length - (Lib.compact l).length) 0).toArray) :
    IRow w4 base (.slice (some ⟨g, 0, none⟩) (Lib.compact l).length cap) (Lib.compact l) := by
  subst hw4
  have hle := Lib.compact_length_le l
  have hc := Lib.ownsRow_putRow (q := q) (k := (Lib.compact l).length) (ys := Lib.compact l ++ List.replicate (l.length - (Lib.compact l).length) 0) h (by simp; omega) hle
  rw [List.take_left] at hc
  exact hc
theorem sortU_nil : sortU [] = [] := by
  have := mem_sortU []
  exact List.eq_nil_iff_forall_not_mem.2 (fun x hx => by have := (this x).1 hx; cases this)
theorem sortU_length (l : List Int) : (sortU l).length ≤ l.length := by
  have h1 := Lib.compact_length_le (l.mergeSort fun x y => decide (x ≤ y))
  rw [List.length_mergeSort] at h1
  exact h1
open Go.Sort in
set_option maxHeartbeats 1000000 in
theorem Uses_impl (w0 : World) (v : Value) (t : V) (h : Rep w0 v t) (hsz : t.sz ≤ 1048576) (w : World) (hw : Below w0.heap.size w0 w) :
    Calls Try.prog 7 #[v] w (IntsRet w (sortU (useL t.pre))) := by
  obtain ⟨sl, rfl, hwf, hr⟩ := h.keep hw
  clear hw h
  have hwk := fun (c : Nat) (L : List V) (A : Nat → Prop) (W : World) (hi : UInv w.heap.size c L A W) (hW : Below w.heap.size w W) (hf : Few (L ++ t.pre)) =>
    walk_any w 17 (.pointer (some ⟨c, 0, none⟩)) (UInv w.heap.size c) enters_Uses1
      (fun L A _ _ ⟨o, h1, h2⟩ hb => ⟨o, h1.stay hb, h2⟩)
      (fun L A _ ⟨o, h1, h2⟩ x hx => by subst h2; exact h1.lt x hx)
      (fun u sl L A W hu hs hi hw hf => Uses1_any w w.heap.size c u sl L A W hu hs hw (Nat.le_refl _) hi hf) sl t.kids hr t rfl hwf L A W hi hW hf
  have HW := Lib.hid hwk; clear hwk
  have HF := Lib.hid (few_pre hsz)
  have hlen : (useL t.pre).length ≤ 4194304 := by have h1 := useL_length t.pre; have h2 := few_pre hsz; unfold Few at h2; rw [List.nil_append] at h2; omega
  obtain ⟨sa, sc, rfl⟩ := hr.slice
  clear hr hwf hsz
  unfold V.agg at HW ⊢
  generalize t.k = vk at *
  generalize t.n = vn at *
  generalize t.e = ve at *
  generalize t.s = vs at *
  generalize t.kids.length = len at *
  have HK := Lib.hid (show UOf w.heap.size (w.heap.size + 1 + 1) [] (.slice (some ⟨w.heap.size + 1, 0, none⟩) 0 0) (((w.alloc (.cells #[.int .i64 vk, .int .i64 vn, .int .i64 ve, .string vs, .slice sa len sc] 30)).alloc (.cells #[] 3)).alloc (.cells #[.slice (some ⟨w.heap.size + 1, 0, none⟩) 0 0] 26)) by
    refine ⟨by omega, ?_, ?_, by simp [Value.ownBlock]⟩
    · exact heap_alloc_here _ (by simp)
    · have := IRow.made0 (w := w.alloc (.cells #[.int .i64 vk, .int .i64 vn, .int .i64 ve, .string vs, .slice sa len sc] 30)) (base := w.heap.size) (by simp)
      rw [show (w.alloc (.cells #[.int .i64 vk, .int .i64 vn, .int .i64 ve, .string vs, .slice sa len sc] 30)).heap.size = w.heap.size + 1 by simp] at this
      exact this.keep (fun x hx => heap_alloc_old _ _ (by simp [Value.ownBlock] at hx; simp; omega)))
  go_enter Try.func7, Try.ntmps7
  go_wp2_with fail
  refine (HW.out (w.heap.size + 1 + 1) [] _ _ ⟨_, HK.out, rfl⟩ (by (repeat' (first | with_reducible exact Below.refl _ _ | with_reducible refine below_alloc ?_ _ ?_ | with_reducible refine Below.setCell ?_ ?_ _ | with_reducible refine Below.drew ?_ | with_reducible refine below_drewN ?_ _ | with_reducible refine below_step ?_ (by assumption) ?_ | with_reducible refine below_mark ?_ (by assumption) ?_)); all_goals (first | omega | (simp; done) | (simp; omega))) HF.out).mono ?_
  rintro e1 w1 ⟨rfl, A1, ⟨o, hk1, rfl⟩, ht⟩
  rw [List.nil_append] at hk1
  generalize useL t.pre = l at *
  have HT := Lib.hid (ht.below (B := w.heap.size) (fun x hx => (HK.out.lt x hx).1) (by simp; omega))
  have HB1 := Lib.hid (show Below w.heap.size w w1 from Below.trans ((by (repeat' (first | with_reducible exact Below.refl _ _ | with_reducible refine below_alloc ?_ _ ?_ | with_reducible refine Below.setCell ?_ ?_ _ | with_reducible refine Below.drew ?_ | with_reducible refine below_drewN ?_ _ | with_reducible refine below_step ?_ (by assumption) ?_ | with_reducible refine below_mark ?_ (by assumption) ?_)); all_goals (first | omega | (simp; done) | (simp; omega)))) HT.out)
  have d1 := cell_of_one hk1.h1
  have HK1 := Lib.hid hk1
  have hcl := lt_of_heap hk1.h1
  have hno := hk1.no
  obtain ⟨oa, ocap, rfl⟩ := hk1.hr.slice
  clear hk1 ht HW HF HK
  rcases Nat.eq_zero_or_pos l.length with h0 | hpos
  · obtain rfl := List.eq_nil_of_length_eq_zero h0
    have SN := Lib.hid (fun (W : World) => Any.slices_Sort_int_none Try.laysSort oa ocap W)
    have CN := Lib.hid (fun (W : World) => Any.slices_Compact_int_empty Try.laysCompact oa ocap W)
    rw [sortU_nil]
    clear hlen h0
    go_wp2_with fail
    refine (SN.out _).mono ?_
    rintro e2 w2 ⟨rfl, rfl⟩
    go_wp2_with fail
    refine (CN.out _).mono ?_
    rintro e2 w2' ⟨rfl, rfl⟩
    go_wp2_with fail
    go_ret
    exact ⟨_, rfl, by rw [sortU_nil]; exact HK1.out.hr, HB1.out⟩
  · obtain ⟨g, gcap, hv, hbg, hgl, hnc, hcm, -, hH⟩ := Lib.holds_of_ownsRow (enc := Value.int .i64) (zs := l) HK1.out.hr (by intro e; injection e with _ e2 _; omega)
    simp only [Value.slice.injEq] at hv
    obtain ⟨rfl, -, rfl⟩ := hv
    have ST := Lib.hid (Any.slices_Sort_int Try.laysSort g 0 ocap l w1 hH hgl (by omega))
    clear hH
    have hgc : g ≠ w.heap.size + 1 + 1 := fun e => hno (by rw [← e]; rfl)
    go_wp2_with fail
    refine ST.out.mono ?_
    rintro e2 w2 ⟨rfl, nn, os, hw2⟩
    obtain ⟨hr2, hg2, hh2⟩ := sorted_row HK1.out.hr hw2
    clear hw2
    have HR2 := Lib.hid hr2; have HG2 := Lib.hid hg2
    have hms : (l.mergeSort fun x y => decide (x ≤ y)).length = l.length := List.length_mergeSort l
    have CP := Lib.hid (Any.slices_Compact_int Try.laysCompact g 0 ocap (l.mergeSort fun x y => decide (x ≤ y)) w2 hh2 (by omega) (by omega))
    clear hr2 hg2 hh2
    rw [hms] at CP
    have d2 : w2.cell? ⟨w.heap.size + 1 + 1, 0, none⟩ = some (.slice (some ⟨g, 0, none⟩) l.length ocap) := cell_of_one ((HG2.out.block (w.heap.size + 1 + 1) hcl (fun e => hgc (by simpa using e.symm))).trans HK1.out.h1)
    have HSU := Lib.hid (show sortU l = Lib.compact (l.mergeSort fun x y => decide (x ≤ y)) from rfl)
    rw [← hms] at CP
    have CP2 := Lib.hid CP.out
    clear CP
    have hz2 := HG2.out.size
    clear d1
    go_wp2_with fail
    rw [hms] at CP2
    refine CP2.out.mono ?_
    rintro e3 w3 ⟨rfl, q, hw3⟩
    have hB3 := Lib.hid (show Below w.heap.size w w3 from by rw [hw3]; exact Lib.below_putRow (HB1.out.grown HG2.out HB1.out.size (fun k hk => by have hk2 : some g = some k := hk; simp only [Option.some.injEq] at hk2; omega)) hbg)
    have HR3 := Lib.hid (compact_row (q := q) (w4 := w3) HR2.out (by first | exact hw3 | (rw [hms]; exact hw3) | (rw [← hms] at hw3; exact hw3)))
    clear hw3
    go_wp2_with fail
    go_ret
    exact ⟨_, rfl, by rw [HSU.out]; exact HR3.out, hB3.out⟩
end Go.Proofs.Ytllngpnhhpnjoaa
