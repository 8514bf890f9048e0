/- Texts and bytes among values: impl.isText, spec.l10Text, spec.l10At, spec.l10Texts. -/
import Derived.Test.YtmjnghlmmaalhaaPRow
import Derived.Test.YtmjnghlmmaalhaaWalk
import Derived.Test.YtmjnghlmmaalhaaLawAid
import Derived.WalkSpells
import Derived.Lib.Hide
import Derived.Deep.RegionHeld3
import Derived.OwnWalk
import Derived.Deep.QuietTactic
import Derived.BigQuiet
namespace Go.Proofs.Ytmjnghlmmaalhaa
set_option linter.unusedVariables false
set_option maxRecDepth 100000
open Go.RowKit
theorem Box.over2 {w w' : World} {B b : Nat} {k n e : Int} {s : ByteArray} {sl : Value} {T : TypeId} (h : Box w b k n e s sl T) (hb : Below B w w') (hB : b < B) : Box w' b k n e s sl T := (hb.block b hB).trans h
/-- the place of the first that is so, -1 where none is -/
def idxI {α : Type} (p : α → Bool) : Nat → List α → Int
  | _, [] => -1
  | i, x :: l => if p x then (i : Int) else idxI p (i + 1) l
theorem idxI_found {α : Type} (p : α → Bool) : ∀ (l : List α) (i k : Nat) (hk : k < l.length), (∀ j, (hj : j < k) → p l[j] = false) → p l[k] = true → idxI p i l = ((i + k : Nat) : Int)
  | [], _, _, hk, _, _ => by simp at hk
  | x :: l, i, 0, _, _, e => by simp at e; simp [idxI, e]
  | x :: l, i, k + 1, hk, h, e => by
    have h0 : p x = false := h 0 (by omega)
    rw [idxI, if_neg (by simp [h0]), idxI_found p l (i + 1) k (by simpa using hk) (fun j hj => h (j + 1) (by omega)) (by simpa using e)]
    congr 1; omega
theorem idxI_none {α : Type} (p : α → Bool) : ∀ (l : List α) (i : Nat), (∀ x ∈ l, p x = false) → idxI p i l = -1
  | [], _, _ => rfl
  | x :: l, i, h => by rw [idxI, if_neg (by simp [h x (List.mem_cons_self ..)]), idxI_none p l (i + 1) (fun y hy => h y (List.mem_cons_of_mem _ hy))]
theorem idxI_nonneg {α : Type} (p : α → Bool) : ∀ (l : List α) (i : Nat), 0 ≤ idxI p i l ↔ l.any p = true
  | [], i => by simp [idxI]
  | x :: l, i => by
    rw [idxI, List.any_cons]
    cases h : p x
    · simp [idxI_nonneg p l (i + 1)]
    · simp
theorem idxI_lo {α : Type} (p : α → Bool) : ∀ (l : List α) (i : Nat), -1 ≤ idxI p i l
  | [], i => by simp [idxI]
  | x :: l, i => by rw [idxI]; split; omega; exact idxI_lo p l (i + 1)
theorem idxI_lt {α : Type} (p : α → Bool) : ∀ (l : List α) (i : Nat), idxI p i l < (i + l.length : Nat) ∨ (l = [] ∧ idxI p i l = -1)
  | [], i => by simp [idxI]
  | x :: l, i => by
    left
    rw [idxI]
    split
    · simp; omega
    · rcases idxI_lt p l (i + 1) with h | ⟨h, e⟩
      · simp only [List.length_cons]; omega
      · rw [e]; simp; omega
def isTx (t : V) : Bool := decide (t.k = 5 ∨ t.k = 6)
def sameTx (k : Int) (s : ByteArray) (u : V) : Bool := decide (u.k = k ∧ u.s = s)
def atV (R : List V) (k : Int) (s : ByteArray) : Int := idxI (sameTx k s) 0 R
def txts (t : V) : List V := t.pre.filter isTx
def txtss (ts : List V) : List V := (pres ts).filter isTx
theorem txts_eq (t : V) : txts t = (if isTx t then [t] else []) ++ txtss t.kids := by
  unfold txts txtss; rw [V.pre_eq, List.filter_cons]; split <;> simp
theorem txtss_take (ts : List V) (k : Nat) (h : k < ts.length) : txtss (ts.take (k + 1)) = txtss (ts.take k) ++ txts ts[k] := by
  unfold txtss txts; rw [pres_take ts k h, List.filter_append]
mutual
theorem pre_length : ∀ t : V, t.pre.length ≤ 1 + t.sz
  | .mk k n e s ks => by have := pres_length ks; simp only [V.pre, V.sz, List.length_cons]; omega
theorem pres_length : ∀ ts : List V, (pres ts).length ≤ szs ts
  | [] => by simp [pres]
  | t :: ts => by have h1 := pre_length t; have h2 := pres_length ts; simp only [pres, List.length_append, szs]; omega
 end
theorem txts_length (t : V) : (txts t).length ≤ 1 + t.sz := Nat.le_trans (List.length_filter_le _ _) (pre_length t)
theorem txtss_length (ts : List V) : (txtss ts).length ≤ szs ts := Nat.le_trans (List.length_filter_le _ _) (pres_length ts)
theorem szs_take_le' (ts : List V) (k : Nat) : szs (ts.take k) ≤ szs ts := by have := szs_append (ts.take k) (ts.drop k); rw [List.take_append_drop] at this; omega
set_option maxHeartbeats 400000 in
theorem isText_any (k n e : Int) (s : ByteArray) (sl : Value) (w : World) : Calls Try.prog 28 #[.agg #[.int .i64 k, .int .i64 n, .int .i64 e, .string s, sl]] w
    fun x w' => x = .returned (.bool (decide (k = 5 ∨ k = 6))) ∧ Below w.heap.size w w' := by
  by_cases h5 : k = 5
  · have H := Lib.hid (show decide (k = 5 ∨ k = 6) = true by simp [h5])
    have t1 : (k == 5) = true := by simpa using h5
    rw [H.out]
    clear h5 H
    go_enter Try.func28, Try.ntmps28
    go_wp2_with fail
    go_ret
    exact ⟨rfl, (by (repeat' (first | with_reducible exact Below.refl _ _ | with_reducible refine below_alloc ?_ _ ?_ | with_reducible refine Below.setCell ?_ ?_ _ | with_reducible refine Below.drew ?_ | with_reducible refine below_drewN ?_ _ | with_reducible refine below_step ?_ (by assumption) ?_ | with_reducible refine below_mark ?_ (by assumption) ?_)); all_goals (first | omega | (simp; done) | (simp; omega)))⟩
  · have t1 : (k == 5) = false := by simpa using h5
    by_cases h6 : k = 6
    · have H := Lib.hid (show decide (k = 5 ∨ k = 6) = true by simp [h6])
      have t2 : (k == 6) = true := by simpa using h6
      rw [H.out]
      clear h5 h6 H
      go_enter Try.func28, Try.ntmps28
      go_wp2_with fail
      go_ret
      exact ⟨rfl, (by (repeat' (first | with_reducible exact Below.refl _ _ | with_reducible refine below_alloc ?_ _ ?_ | with_reducible refine Below.setCell ?_ ?_ _ | with_reducible refine Below.drew ?_ | with_reducible refine below_drewN ?_ _ | with_reducible refine below_step ?_ (by assumption) ?_ | with_reducible refine below_mark ?_ (by assumption) ?_)); all_goals (first | omega | (simp; done) | (simp; omega)))⟩
    · have H := Lib.hid (show decide (k = 5 ∨ k = 6) = false by simp [h5, h6])
      have t2 : (k == 6) = false := by simpa using h6
      rw [H.out]
      clear h5 h6 H
      go_enter Try.func28, Try.ntmps28
      go_wp2_with fail
      go_ret
      exact ⟨rfl, (by (repeat' (first | with_reducible exact Below.refl _ _ | with_reducible refine below_alloc ?_ _ ?_ | with_reducible refine Below.setCell ?_ ?_ _ | with_reducible refine Below.drew ?_ | with_reducible refine below_drewN ?_ _ | with_reducible refine below_step ?_ (by assumption) ?_ | with_reducible refine below_mark ?_ (by assumption) ?_)); all_goals (first | omega | (simp; done) | (simp; omega)))⟩
set_option maxHeartbeats 400000 in
theorem l10Text_any (k n e : Int) (s : ByteArray) (sl : Value) (w : World) : Calls Try.prog 40 #[.agg #[.int .i64 k, .int .i64 n, .int .i64 e, .string s, sl]] w
    fun x w' => x = .returned (.bool (decide (k = 5 ∨ k = 6))) ∧ Below w.heap.size w w' := by
  by_cases h5 : k = 5
  · have H := Lib.hid (show decide (k = 5 ∨ k = 6) = true by simp [h5])
    have t1 : (k == 5) = true := by simpa using h5
    rw [H.out]
    clear h5 H
    go_enter Try.func40, Try.ntmps40
    go_wp2_with fail
    go_ret
    exact ⟨rfl, (by (repeat' (first | with_reducible exact Below.refl _ _ | with_reducible refine below_alloc ?_ _ ?_ | with_reducible refine Below.setCell ?_ ?_ _ | with_reducible refine Below.drew ?_ | with_reducible refine below_drewN ?_ _ | with_reducible refine below_step ?_ (by assumption) ?_ | with_reducible refine below_mark ?_ (by assumption) ?_)); all_goals (first | omega | (simp; done) | (simp; omega)))⟩
  · have t1 : (k == 5) = false := by simpa using h5
    by_cases h6 : k = 6
    · have H := Lib.hid (show decide (k = 5 ∨ k = 6) = true by simp [h6])
      have t2 : (k == 6) = true := by simpa using h6
      rw [H.out]
      clear h5 h6 H
      go_enter Try.func40, Try.ntmps40
      go_wp2_with fail
      go_ret
      exact ⟨rfl, (by (repeat' (first | with_reducible exact Below.refl _ _ | with_reducible refine below_alloc ?_ _ ?_ | with_reducible refine Below.setCell ?_ ?_ _ | with_reducible refine Below.drew ?_ | with_reducible refine below_drewN ?_ _ | with_reducible refine below_step ?_ (by assumption) ?_ | with_reducible refine below_mark ?_ (by assumption) ?_)); all_goals (first | omega | (simp; done) | (simp; omega)))⟩
    · have H := Lib.hid (show decide (k = 5 ∨ k = 6) = false by simp [h5, h6])
      have t2 : (k == 6) = false := by simpa using h6
      rw [H.out]
      clear h5 h6 H
      go_enter Try.func40, Try.ntmps40
      go_wp2_with fail
      go_ret
      exact ⟨rfl, (by (repeat' (first | with_reducible exact Below.refl _ _ | with_reducible refine below_alloc ?_ _ ?_ | with_reducible refine Below.setCell ?_ ?_ _ | with_reducible refine Below.drew ?_ | with_reducible refine below_drewN ?_ _ | with_reducible refine below_step ?_ (by assumption) ?_ | with_reducible refine below_mark ?_ (by assumption) ?_)); all_goals (first | omega | (simp; done) | (simp; omega)))⟩
theorem RepS.opened' {w : World} {v : Value} {ts : List V} (h : RepS w v ts) : ∃ a b off cap, v = .slice a ts.length cap ∧ (ts ≠ [] → a = some ⟨b, off, none⟩ ∧ b < w.heap.size) ∧ ts.length ≤ cap ∧ cap ≤ 9223372036854775807 ∧
    ∃ sls : Nat → Value, ∀ i (h : i < ts.length), Cells5 w b (off + i * 5) ts[i] (sls i) ∧ ts[i].wf ∧ RepS w (sls i) ts[i].kids := by
  cases h with
  | mk a b off cap ts0 sls ha hc hm hbb cells wfs kids => exact ⟨a, b, off, cap, rfl, fun hne => ⟨ha hne, hbb hne⟩, hc, hm, sls, fun i hi => ⟨cells i hi, wfs i hi, kids i hi⟩⟩
theorem RepS.take {w : World} {a : Option Addr} {n cap : Nat} {ts : List V} (h : RepS w (.slice a n cap) ts) (i : Nat) (hi : i ≤ ts.length) : RepS w (.slice a i cap) (ts.take i) := by
  obtain ⟨a', b, off, cap', hv, ha, hc, hm, sls, hel⟩ := h.opened'
  simp only [Value.slice.injEq] at hv
  obtain ⟨rfl, rfl, rfl⟩ := hv
  have hl : (ts.take i).length = i := by rw [List.length_take]; omega
  have := RepS.mk (w := w) a b off cap (ts.take i) sls (fun hne => (ha (fun e => hne (by rw [e]; simp))).1) (by rw [hl]; omega) hm (fun hne => (ha (fun e => hne (by rw [e]; simp))).2)
    (fun j hj => by rw [hl] at hj; rw [List.getElem_take]; exact (hel j (by omega)).1) (fun j hj => by rw [hl] at hj; rw [List.getElem_take]; exact (hel j (by omega)).2.1) (fun j hj => by rw [hl] at hj; rw [List.getElem_take]; exact (hel j (by omega)).2.2)
  rw [hl] at this
  exact this
set_option maxHeartbeats 400000 in
theorem l10At_any (w0 : World) (v : Value) (R : List V) (h : RepS w0 v R) (w : World) (hw : Below w0.heap.size w0 w) (k n e : Int) (s : ByteArray) (sl : Value) :
    Calls Try.prog 24 #[v, .agg #[.int .i64 k, .int .i64 n, .int .i64 e, .string s, sl]] w fun x w' => x = .returned (.int .i64 (atV R k s)) ∧ Below w.heap.size w w' := by
  obtain ⟨a, b, off, cap, rfl, ha, hc, hm, sls, hel⟩ := h.opened'
  have HA := Lib.hid ha; have HE := Lib.hid hel
  have hlen : R.length ≤ 9223372036854775807 := by omega
  clear ha hel hc hm
  go_enter Try.func24, Try.ntmps24
  go_wp2_with fail
  go_loopw [5] (fun i wr => ∃ j : Nat, j ≤ R.length ∧ i = .int .i64 j ∧ Hid (∀ q, (hq : q < j) → (hl : q < R.length) → sameTx k s R[q] = false) ∧ Below (w.heap.size + 1) (w.alloc (.cells #[.int .i64 k, .int .i64 n, .int .i64 e, .string s, sl] 29)) wr) (fun i _ => R.length - (intOf i).toNat)
  case atStart => exact ⟨0, by omega, rfl, Lib.hid (by omega), Below.refl _ _⟩
  case round =>
    obtain ⟨j, hj, rfl, HN, hbl⟩ := hrel
    have hc0 : wr.cell? ⟨w.heap.size, 0, none⟩ = some (.int .i64 k) := by rw [hbl.cell (p := ⟨w.heap.size, 0, none⟩) (by show w.heap.size < w.heap.size + 1; omega)]; simp
    have hc3 : wr.cell? ⟨w.heap.size, 3, none⟩ = some (.string s) := by rw [hbl.cell (p := ⟨w.heap.size, 3, none⟩) (by show w.heap.size < w.heap.size + 1; omega)]; simp
    by_cases hlt : j < R.length
    · have hne : R ≠ [] := by intro e; rw [e] at hlt; simp at hlt
      obtain ⟨rfl, hbw⟩ := HA.out hne
      have hkeep : wr.heap[b]? = w0.heap[b]? := by
        rw [hbl.block b (by have := hw.size; omega), heap_alloc_old _ _ (by have := hw.size; omega)]; exact hw.block b hbw
      obtain ⟨c0, c1, c2, c3, c4⟩ := (HE.out j hlt).1.keep hkeep
      clear hkeep c1 c2 c4
      by_cases hs : sameTx k s R[j] = true
      · have HR := Lib.hid (show atV R k s = j by rw [atV, idxI_found _ R 0 j hlt (fun q hq => HN.out q hq (by omega)) hs, Nat.zero_add])
        have hh : R[j].k = k ∧ R[j].s = s := of_decide_eq_true hs
        have t1 : (R[j].k == k) = true := by simpa using hh.1
        have t2 := ba_yes hh.2
        clear hs hh HN
        generalize R[j].k = xk at *
        generalize R[j].s = xs at *
        go_wp2_with fail
        go_quiet (fail)
        all_goals go_wp2_with fail
        all_goals go_ret
        all_goals exact ⟨by rw [HR.out]; rfl, Below.trans ((Below.refl _ _).alloc (Nat.le_refl _) _) ((below_step hbl ((by (repeat' (first | with_reducible exact Below.refl _ _ | with_reducible refine below_alloc ?_ _ ?_ | with_reducible refine Below.setCell ?_ ?_ _ | with_reducible refine Below.drew ?_ | with_reducible refine below_drewN ?_ _ | with_reducible refine below_step ?_ (by assumption) ?_ | with_reducible refine below_mark ?_ (by assumption) ?_)); all_goals (first | omega | (simp; done) | (simp; omega)))) (by simp)).mono (by omega))⟩
      · have hs' : sameTx k s R[j] = false := by simpa using hs
        have HN2 := Lib.hid (show ∀ q, (hq : q < j + 1) → (hl : q < R.length) → sameTx k s R[q] = false from fun q hq hl => by
          by_cases hqj : q < j
          · exact HN.out q hqj hl
          · have : q = j := by omega
            subst this; exact hs')
        have hh : ¬ (R[j].k = k ∧ R[j].s = s) := of_decide_eq_false hs'
        clear hs hs' HN
        generalize R[j].k = xk at *
        generalize R[j].s = xs at *
        by_cases hk : xk = k
        · have t1 : (xk == k) = true := by simpa using hk
          have t2 := ba_no (fun e => hh ⟨hk, e⟩)
          clear hh hk
          go_wp2_with fail
          go_quiet (fail)
          all_goals go_wp2_with fail
          all_goals go_roundw
          case rel => exact ⟨j + 1, by omega, by go_num, HN2, below_step hbl ((by (repeat' (first | with_reducible exact Below.refl _ _ | with_reducible refine below_alloc ?_ _ ?_ | with_reducible refine Below.setCell ?_ ?_ _ | with_reducible refine Below.drew ?_ | with_reducible refine below_drewN ?_ _ | with_reducible refine below_step ?_ (by assumption) ?_ | with_reducible refine below_mark ?_ (by assumption) ?_)); all_goals (first | omega | (simp; done) | (simp; omega)))) (by simp)⟩
          case measure => simp [intOf]; omega
        · have t1 : (xk == k) = false := by simpa using hk
          clear hh hk
          go_wp2_with fail
          go_quiet (fail)
          all_goals go_wp2_with fail
          all_goals go_roundw
          case rel => exact ⟨j + 1, by omega, by go_num, HN2, below_step hbl ((by (repeat' (first | with_reducible exact Below.refl _ _ | with_reducible refine below_alloc ?_ _ ?_ | with_reducible refine Below.setCell ?_ ?_ _ | with_reducible refine Below.drew ?_ | with_reducible refine below_drewN ?_ _ | with_reducible refine below_step ?_ (by assumption) ?_ | with_reducible refine below_mark ?_ (by assumption) ?_)); all_goals (first | omega | (simp; done) | (simp; omega)))) (by simp)⟩
          case measure => simp [intOf]; omega
    · have HR := Lib.hid (show atV R k s = -1 from idxI_none _ R 0 (fun x hx => by obtain ⟨i, hi, e⟩ := List.getElem_of_mem hx; rw [← e]; exact HN.out i (by omega) hi))
      go_wp2_with fail
      go_ret
      exact ⟨by rw [HR.out]; rfl, Below.trans ((Below.refl _ _).alloc (Nat.le_refl _) _) (hbl.mono (by omega))⟩
def TextsRet (w0 w : World) (L : List V) (e : Ending) (w' : World) : Prop := ∃ v G, e = .returned v ∧ PRow w' w.heap.size G v L ∧ (∀ x, G x → x < w0.heap.size) ∧ Below w.heap.size w w'
theorem PRow.src {w : World} {base : Nat} {G : Nat → Prop} {v : Value} {ts : List V} (h : PRow w base G v ts) : ∃ sms, VSrc w G v ts sms := by
  obtain ⟨sls, h⟩ := h
  refine ⟨sls, ⟨?_, h.len, h.wfs, h.kids⟩⟩
  have h1 : ∀ u ∈ flat ts sls, u.oneCell' = true := flat_one ts sls (fun s hs => by
    obtain ⟨i, hi, rfl⟩ := List.getElem_of_mem hs
    obtain ⟨a, cap, e⟩ := (h.kids i (by rw [← h.len]; exact hi)).slice
    rw [List.getD_eq_getElem?_getD, List.getElem?_eq_getElem hi] at e
    exact ⟨a, _, cap, e⟩)
  rcases h.row.2 with ⟨rfl, hn⟩ | ⟨g, cap, cur, rfl, hbg, hg, hnc, hcm, hcs, htake⟩
  · obtain rfl : ts = [] := List.eq_nil_of_length_eq_zero hn
    exact Src.ofNil w Try.underlying27 0
  · exact Src.ofSlice w Try.underlying27 _ _ _ _ (by rw [flat_length _ _ h.len]) (h.row.cells rfl) h1
theorem PRow.weak {w : World} {base : Nat} {G G' : Nat → Prop} {v : Value} {ts : List V} (h : PRow w base G v ts) (hG : ∀ x, G x → G' x) (ho : ∀ g, v.ownBlock = some g → ¬ G' g) (hb : ∀ x, G' x → x < w.heap.size) : PRow w base G' v ts := by
  obtain ⟨sls, h⟩ := h
  exact ⟨sls, ⟨h.row, h.len, h.wfs, fun i hi => (h.kids i hi).mono (fun x hx _ => hG x hx), ho, hb⟩⟩
set_option maxHeartbeats 1000000 in
theorem l10Texts_any (w0 : World) (v : Value) (ts : List V) (h : RepS w0 v ts) : szs ts ≤ 1048576 → ∀ (u : V), u.kids = ts → u.wf → ∀ (w : World), Below w0.heap.size w0 w →
    Calls Try.prog 23 #[u.agg v] w (TextsRet w0 w (txts u)) := by
  induction h with
  | mk a b off cap ts sls ha hc hm hbb cells wfs kids ih =>
  intro hsz u huk uwf w hw
  have hrep := RepS.mk a b off cap ts sls ha hc hm hbb cells wfs kids
  have HREP := Lib.hid (show RepF w0 (fun x => x < w0.heap.size) (.slice a ts.length cap) u.kids by rw [huk]; exact hrep.toF)
  have HP := Lib.hid (show txts u = (if isTx u then [u] else []) ++ txtss ts by rw [txts_eq, huk])
  have UWF := Lib.hid uwf
  have IH := Lib.hid ih; have CC := Lib.hid cells; have WF := Lib.hid wfs; have HA := Lib.hid ha; have KK := Lib.hid kids
  have hlen : ts.length ≤ 1048576 := Nat.le_trans (szs_length ts) hsz
  have HSZ := Lib.hid hsz
  clear ih cells wfs kids ha hc hm hsz hrep uwf
  have HT := Lib.hid (fun (W : World) (hW : Below w.heap.size w W) => vsrc_one (w := W) (F := fun x => x < w0.heap.size) (t := u) (sl := .slice a ts.length cap) UWF.out (HREP.out.stay ((hw.trans (hW.mono hw.size)))))
  clear huk
  have hP : ∃ L0, txts u = L0 ++ txtss ts ∧ ((u.k = 5 ∨ u.k = 6) → L0 = [u]) ∧ (¬ (u.k = 5 ∨ u.k = 6) → L0 = []) := ⟨_, HP.out, fun h => by unfold isTx; rw [if_pos (decide_eq_true h)], fun h => by unfold isTx; rw [if_neg (by simpa using h)]⟩
  obtain ⟨L0, hL, hL1, hL2⟩ := hP
  have HL1 := Lib.hid hL1; have HL2 := Lib.hid hL2
  rw [hL]
  clear HP hL hL1 hL2
  have HRB := Lib.hid (show ∀ (T : List V) (W : World) (e : Ending), (∃ v G, e = .returned v ∧ PRow W (w.heap.size + 1) G v T ∧ (∀ x, G x → x < w0.heap.size) ∧ Below w.heap.size w W) → TextsRet w0 w T e W from fun T W e ⟨v, G, h1, ⟨sls, h2⟩, h3, h4⟩ =>
    ⟨v, G, h1, ⟨sls, { h2 with row := ⟨h2.row.1, h2.row.2.imp id (fun ⟨g, c, cur, q1, q2, q3⟩ => ⟨g, c, cur, q1, by omega, q3⟩)⟩ }⟩, h3, h4⟩)
  unfold V.agg
  by_cases htx : u.k = 5 ∨ u.k = 6
  case' pos =>
    have hdec : decide (u.k = 5 ∨ u.k = 6) = true := decide_eq_true htx
    have HL := Lib.hid (HL1.out htx)
    have T1 := Lib.hid (fun (W : World) => l10Text_any u.k u.n u.e u.s (.slice a ts.length cap) W)
    rw [hdec] at T1
    clear hdec htx
    generalize u.k = vk at *
    generalize u.n = vn at *
    generalize u.e = ve at *
    generalize u.s = vs at *
    have B0 := Lib.hid (Box.new w vk vn ve vs (.slice a ts.length cap) 29)
    have R0 := Lib.hid (PRow.made0 (w := w.alloc (.cells #[.int .i64 vk, .int .i64 vn, .int .i64 ve, .string vs, .slice a ts.length cap] 29)) (base := w.heap.size + 1) (by simp))
    rw [show (w.alloc (.cells #[.int .i64 vk, .int .i64 vn, .int .i64 ve, .string vs, .slice a ts.length cap] 29)).heap.size = w.heap.size + 1 by simp] at R0
    go_enter Try.func23, Try.ntmps23
    go_wp2_with fail
    refine (T1.out _).mono ?_
    rintro e1 w1 ⟨rfl, hb1⟩
    have hz1 := hb1.size
    simp at hz1
    have B1 := Lib.hid ((B0.out.alloc _).stay hb1)
    obtain ⟨p0, p1, p2, p3, p4⟩ := B1.out.cells
    have hw1 : Below w.heap.size w w1 := (by (repeat' (first | with_reducible exact Below.refl _ _ | with_reducible refine below_alloc ?_ _ ?_ | with_reducible refine Below.setCell ?_ ?_ _ | with_reducible refine Below.drew ?_ | with_reducible refine below_drewN ?_ _ | with_reducible refine below_step ?_ (by assumption) ?_ | with_reducible refine below_mark ?_ (by assumption) ?_)); all_goals (first | omega | (simp; done) | (simp; omega)))
    have S1 := Lib.hid (HT.out w1 hw1)
    have R1 := Lib.hid ((R0.out.stay hb1).stay ((Below.refl _ _).alloc (Nat.le_refl _) (.cells #[.int .i64 vk, .int .i64 vn, .int .i64 ve, .string vs, .slice a ts.length cap] 29)))
    have hws := hw.size
    go_wp2_with (at_builtin; go_loud (refine app_vals rfl _ _ rfl (w.heap.size + 1) _ _ _ _ _ _ rfl R1.out _ rfl S1.out (fun x hx => ⟨by have hx' : x < w0.heap.size := hx; simp; omega, fun e => by have hx' : x < w0.heap.size := hx; have h2 := (R1.out.lt x e).1; omega⟩) (by simp) (by simp; omega) ?_); intro o0 W2 hrow2 hg2 hfr2; have hb2 : Below (w.heap.size + 1) w1 W2 := ((Below.refl _ _).alloc (by omega) _).grown hg2 (by simp; omega) (fun k' hk' => (R1.out.lt k' hk').1))
    have B2 := Lib.hid (B1.out.over2 hb2 (by omega))
    have HR2 := Lib.hid (show ∃ G, PRow W2 (w.heap.size + 1) G o0 L0 ∧ ∀ x, G x → x < w0.heap.size from ⟨fun x => False ∨ x < w0.heap.size, by rw [HL.out]; exact hrow2, fun x hx => Or.elim hx False.elim id⟩)
    have HB2 := Lib.hid (hw1.trans (hb2.mono (by omega)))
    have hz2 : w.heap.size + 1 ≤ W2.heap.size := by have := hb2.size; omega
    clear hrow2 hg2 hfr2 hb2 hw1 p0 p1 p2 p3 p4 hb1 hz1 S1 R1 B1 hws
  case' neg =>
    have hdec : decide (u.k = 5 ∨ u.k = 6) = false := decide_eq_false htx
    have HL := Lib.hid (HL2.out htx)
    have T1 := Lib.hid (fun (W : World) => l10Text_any u.k u.n u.e u.s (.slice a ts.length cap) W)
    rw [hdec] at T1
    clear hdec htx
    generalize u.k = vk at *
    generalize u.n = vn at *
    generalize u.e = ve at *
    generalize u.s = vs at *
    have B0 := Lib.hid (Box.new w vk vn ve vs (.slice a ts.length cap) 29)
    have R0 := Lib.hid (PRow.made0 (w := w.alloc (.cells #[.int .i64 vk, .int .i64 vn, .int .i64 ve, .string vs, .slice a ts.length cap] 29)) (base := w.heap.size + 1) (by simp))
    rw [show (w.alloc (.cells #[.int .i64 vk, .int .i64 vn, .int .i64 ve, .string vs, .slice a ts.length cap] 29)).heap.size = w.heap.size + 1 by simp] at R0
    go_enter Try.func23, Try.ntmps23
    go_wp2_with fail
    refine (T1.out _).mono ?_
    rintro e1 W2 ⟨rfl, hb1⟩
    have hz2 : w.heap.size + 1 ≤ W2.heap.size := by have := hb1.size; simp at this; omega
    have B2 := Lib.hid ((B0.out.alloc _).stay hb1)
    have HB2 := Lib.hid (show Below w.heap.size w W2 by exact (by (repeat' (first | with_reducible exact Below.refl _ _ | with_reducible refine below_alloc ?_ _ ?_ | with_reducible refine Below.setCell ?_ ?_ _ | with_reducible refine Below.drew ?_ | with_reducible refine below_drewN ?_ _ | with_reducible refine below_step ?_ (by assumption) ?_ | with_reducible refine below_mark ?_ (by assumption) ?_)); all_goals (first | omega | (simp; done) | (simp; omega))))
    have HR2 := Lib.hid (show ∃ G, PRow W2 (w.heap.size + 1) G (.slice (some ⟨w.heap.size + 1, 0, none⟩) 0 0) L0 ∧ ∀ x, G x → x < w0.heap.size from ⟨fun _ => False, by rw [HL.out]; exact (R0.out.stay hb1), fun x hx => False.elim hx⟩)
    clear hb1
  all_goals go_wp2_with fail
  all_goals go_loopw [3, 4] (fun o i wr => ∃ k : Nat, k ≤ ts.length ∧ i = .int .i64 k ∧ (∃ G, PRow wr (w.heap.size + 1) G o (L0 ++ txtss (ts.take k)) ∧ ∀ x, G x → x < w0.heap.size) ∧ Below (w.heap.size + 1) W2 wr) (fun _ i _ => ts.length - (intOf i).toNat)
  all_goals first
    | exact ⟨0, by omega, rfl, by simpa [txtss, pres] using HR2.out, Below.refl _ _⟩
    | skip
  all_goals
    obtain ⟨k, hk, rfl, hrow, hbl⟩ := hrel
    have hzr := hbl.size
    have Br := Lib.hid (B2.out.over2 hbl (by omega))
    obtain ⟨p0, p1, p2, p3, p4⟩ := Br.out.cells
    have HROW := Lib.hid hrow; clear hrow
    by_cases hlt : k < ts.length
  all_goals first
    | have hlt' : k < ts.length := hlt
      have hne : ts ≠ [] := by intro e; rw [e] at hlt; simp at hlt
      obtain rfl := HA.out hne
      have hbw := hbb hne
      have hwr : Below w0.heap.size w0 wr := hw.trans ((HB2.out.mono hw.size).trans (hbl.mono (by have := hw.size; omega)))
      obtain ⟨c0, c1, c2, c3, c4⟩ := (CC.out k hlt).keep (hwr.block b hbw)
      have HWR := Lib.hid hwr; clear hwr
      have hzk : szs ts[k].kids ≤ 1048576 := by have h1 := szs_mem (List.getElem_mem hlt); have h2 := V.sz_eq ts[k]; have := HSZ.out; omega
      have V1 := Lib.hid (fun w'' (hh : Below wr.heap.size wr w'') => IH.out k hlt hzk ts[k] rfl (WF.out k hlt) w'' (below_step HWR.out hh (by have := HWR.out.size; omega)))
      have HX := Lib.hid (txtss_take ts k hlt)
      have HL3 := Lib.hid (show (L0 ++ txtss (ts.take k)).length ≤ 1048578 by
        have h1 := txtss_length (ts.take k); have h2 := szs_take_le' ts k; have := HSZ.out; rw [List.length_append, HL.out]; simp; omega)
      have HL4 := Lib.hid (show (txts ts[k]).length ≤ 1048577 by have h1 := txts_length ts[k]; have h2 := szs_mem (List.getElem_mem hlt); have := HSZ.out; omega)
      obtain ⟨G, hrow, hG⟩ := HROW.out
      obtain ⟨ao, no, co, rfl⟩ := hrow.slice3
      have HRW := Lib.hid hrow; have HG := Lib.hid hG
      obtain ⟨ak, kcap, hks⟩ := (KK.out k hlt).slice
      rw [hks] at c4 V1
      unfold V.agg at V1
      clear hrow hG hks hzk
      generalize ts[k].k = xk at *
      generalize ts[k].n = xn at *
      generalize ts[k].e = xe at *
      generalize ts[k].s = xs at *
      have hws := hw.size
      go_wp2_with fail
      refine (V1.out _ (by (repeat' (first | with_reducible exact Below.refl _ _ | with_reducible refine below_alloc ?_ _ ?_ | with_reducible refine Below.setCell ?_ ?_ _ | with_reducible refine Below.drew ?_ | with_reducible refine below_drewN ?_ _ | with_reducible refine below_step ?_ (by assumption) ?_ | with_reducible refine below_mark ?_ (by assumption) ?_)); all_goals (first | omega | (simp; done) | (simp; omega)))).mono ?_
      rintro e3 w3 ⟨v3, G3, rfl, hr3, hG3, hb3⟩
      have hbs3 := hb3.size
      obtain ⟨sms3, hs3⟩ := hr3.src
      obtain ⟨a3, n3, c3', rfl⟩ := hr3.slice3
      have S3 := Lib.hid hs3
      have HG3 := Lib.hid hG3
      have R3 := Lib.hid (HRW.out.stay hb3)
      have LT := Lib.hid HRW.out.lt
      clear hs3 hr3 hG3
      go_wp2_with (at_builtin; refine app_vals rfl _ _ rfl (w.heap.size + 1) _ _ _ _ _ _ rfl R3.out _ rfl S3.out (fun x hx => ⟨by have := HG3.out x hx; omega, fun e => by have h1 := HG3.out x hx; have h2 := (LT.out x e).1; omega⟩) (by have := HL3.out; have := HL4.out; omega) (by omega) ?_; intro o4 w4 hrow4 hg4 hfr4; have hb4 : Below (w.heap.size + 1) w3 w4 := (Below.refl _ _).grown hg4 (by omega) (fun k' hk' => (LT.out k' hk').1); have R4 := Lib.hid hrow4; clear hrow4)
      go_roundw
      case rel => exact ⟨k + 1, by omega, by go_num, ⟨_, by rw [HX.out, ← List.append_assoc]; exact R4.out, fun x hx => Or.elim hx (HG.out x) (HG3.out x)⟩, hbl.trans ((hb3.mono (by omega)).trans hb4)⟩
      case measure => simp [intOf]; omega
    | have HE := Lib.hid (show ts.take k = ts from List.take_of_length_le (by omega))
      go_wp2_with fail
      go_ret
      refine HRB.out _ _ _ ?_
      obtain ⟨G, hrow, hG⟩ := HROW.out
      rw [HE.out] at hrow
      exact ⟨_, G, rfl, hrow, hG, HB2.out.trans (hbl.mono (by omega))⟩
end Go.Proofs.Ytmjnghlmmaalhaa
