/- Texts and bytes among values: impl.isText, spec.l10Text, spec.l10At, spec.l10Texts. -/
import Derived.Test.YtiemlefmhleaeaaDoorPRow
import Derived.Test.YtiemlefmhleaeaaDoorWalk
import Derived.Test.YtiemlefmhleaeaaDoorLawAid
import Derived.WalkSpells
import Derived.Lib.Hide
import Derived.Deep.RegionHeld3
import Derived.OwnWalk
import Derived.Deep.QuietTactic
import Derived.BigQuiet
namespace Go.Proofs.YtiemlefmhleaeaaDoor
set_option linter.unusedVariables false
set_option maxRecDepth 100000
open Go.RowKit
theorem Box.over2 {w w' : World} {B b : Nat} {k n e : Int} {s : ByteArray} {sl : Value} {T : TypeId} (h : Box w b k n e s sl T) (hb : Below B w w') (hB : b < B) : Box w' b k n e s sl T := (hb.block b hB).trans h
/-- the place of the first that is so, -1 where none is -/
def idxI {α : Type} (p : α → Bool) : Nat → List α → Int
  | _, [] => -1
  | i, x :: l => if p x then (i : Int) else idxI p (i + 1) l
theorem idxI_found {α : Type} (p : α → Bool) : ∀ (l : List α) (i k : Nat) (hk : k < l.length), (∀ j, (hj : j < k) → p l[j] = false) → p l[k] = true → idxI p i l = ((i + k : Nat) : Int)
  | [], _, _, hk, _, _ => by simp at hk
  | x :: l, i, 0, _, _, e => by simp at e; simp [idxI, e]
  | x :: l, i, k + 1, hk, h, e => by
    have h0 : p x = false := h 0 (by omega)
    rw [idxI, if_neg (by simp [h0]), idxI_found p l (i + 1) k (by simpa using hk) (fun j hj => h (j + 1) (by omega)) (by simpa using e)]
    congr 1; omega
theorem idxI_none {α : Type} (p : α → Bool) : ∀ (l : List α) (i : Nat), (∀ x ∈ l, p x = false) → idxI p i l = -1
  | [], _, _ => rfl
  | x :: l, i, h => by rw [idxI, if_neg (by simp [h x (List.mem_cons_self ..)]), idxI_none p l (i + 1) (fun y hy => h y (List.mem_cons_of_mem _ hy))]
theorem idxI_nonneg {α : Type} (p : α → Bool) : ∀ (l : List α) (i : Nat), 0 ≤ idxI p i l ↔ l.any p = true
  | [], i => by simp [idxI]
  | x :: l, i => by
    rw [idxI, List.any_cons]
    cases h : p x
    · simp [idxI_nonneg p l (i + 1)]
    · simp
theorem idxI_lo {α : Type} (p : α → Bool) : ∀ (l : List α) (i : Nat), -1 ≤ idxI p i l
  | [], i => by simp [idxI]
  | x :: l, i => by rw [idxI]; split; omega; exact idxI_lo p l (i + 1)
theorem idxI_lt {α : Type} (p : α → Bool) : ∀ (l : List α) (i : Nat), idxI p i l < (i + l.length : Nat) ∨ (l = [] ∧ idxI p i l = -1)
  | [], i => by simp [idxI]
  | x :: l, i => by
    left
    rw [idxI]
    split
    · simp; omega
    · rcases idxI_lt p l (i + 1) with h | ⟨h, e⟩
      · simp only [List.length_cons]; omega
      · rw [e]; simp; omega
def isTx (t : V) : Bool := decide (t.k = 5 ∨ t.k = 6)
def sameTx (k : Int) (s : ByteArray) (u : V) : Bool := decide (u.k = k ∧ u.s = s)
def atV (R : List V) (k : Int) (s : ByteArray) : Int := idxI (sameTx k s) 0 R
def txts (t : V) : List V := t.pre.filter isTx
def txtss (ts : List V) : List V := (pres ts).filter isTx
theorem txts_eq (t : V) : txts t = (if isTx t then [t] else []) ++ txtss t.kids := by
  unfold txts txtss; rw [V.pre_eq, List.filter_cons]; split <;> simp
theorem txtss_take (ts : List V) (k : Nat) (h : k < ts.length) : txtss (ts.take (k + 1)) = txtss (ts.take k) ++ txts ts[k] := by
  unfold txtss txts; rw [pres_take ts k h, List.filter_append]
mutual
theorem pre_length : ∀ t : V, t.pre.length ≤ 1 + t.sz
  | .mk k n e s ks => by have := pres_length ks; simp only [V.pre, V.sz, List.length_cons]; omega
theorem pres_length : ∀ ts : List V, (pres ts).length ≤ szs ts
  | [] => by simp [pres]
  | t :: ts => by have h1 := pre_length t; have h2 := pres_length ts; simp only [pres, List.length_append, szs]; omega
 end
theorem txts_length (t : V) : (txts t).length ≤ 1 + t.sz := Nat.le_trans (List.length_filter_le _ _) (pre_length t)
theorem txtss_length (ts : List V) : (txtss ts).length ≤ szs ts := Nat.le_trans (List.length_filter_le _ _) (pres_length ts)
theorem szs_take_le' (ts : List V) (k : Nat) : szs (ts.take k) ≤ szs ts := by have := szs_append (ts.take k) (ts.drop k); rw [List.take_append_drop] at this; omega
set_option maxHeartbeats 400000 in
theorem isText_any (k n e : Int) (s : ByteArray) (sl : Value) (w : World) : Calls Tryd.prog 128 #[.agg #[.int .i64 k, .int .i64 n, .int .i64 e, .string s, sl]] w
    fun x w' => x = .returned (.bool (decide (k = 5 ∨ k = 6))) ∧ Below w.heap.size w w' := by
  by_cases h5 : k = 5
  · have H := Lib.hid (show decide (k = 5 ∨ k = 6) = true by simp [h5])
    have t1 : (k == 5) = true := by simpa using h5
    rw [H.out]
    clear h5 H
    go_enter Tryd.func128, Tryd.ntmps128
    go_wp2_with fail
    go_ret
    exact ⟨rfl, (by (repeat' (first | with_reducible exact Below.refl _ _ | with_reducible refine below_alloc ?_ _ ?_ | with_reducible refine Below.setCell ?_ ?_ _ | with_reducible refine Below.drew ?_ | with_reducible refine below_drewN ?_ _ | with_reducible refine below_step ?_ (by assumption) ?_ | with_reducible refine below_mark ?_ (by assumption) ?_)); all_goals (first | omega | (simp; done) | (simp; omega)))⟩
  · have t1 : (k == 5) = false := by simpa using h5
    by_cases h6 : k = 6
    · have H := Lib.hid (show decide (k = 5 ∨ k = 6) = true by simp [h6])
      have t2 : (k == 6) = true := by simpa using h6
      rw [H.out]
      clear h5 h6 H
      go_enter Tryd.func128, Tryd.ntmps128
      go_wp2_with fail
      go_ret
      exact ⟨rfl, (by (repeat' (first | with_reducible exact Below.refl _ _ | with_reducible refine below_alloc ?_ _ ?_ | with_reducible refine Below.setCell ?_ ?_ _ | with_reducible refine Below.drew ?_ | with_reducible refine below_drewN ?_ _ | with_reducible refine below_step ?_ (by assumption) ?_ | with_reducible refine below_mark ?_ (by assumption) ?_)); all_goals (first | omega | (simp; done) | (simp; omega)))⟩
    · have H := Lib.hid (show decide (k = 5 ∨ k = 6) = false by simp [h5, h6])
      have t2 : (k == 6) = false := by simpa using h6
      rw [H.out]
      clear h5 h6 H
      go_enter Tryd.func128, Tryd.ntmps128
      go_wp2_with fail
      go_ret
      exact ⟨rfl, (by (repeat' (first | with_reducible exact Below.refl _ _ | with_reducible refine below_alloc ?_ _ ?_ | with_reducible refine Below.setCell ?_ ?_ _ | with_reducible refine Below.drew ?_ | with_reducible refine below_drewN ?_ _ | with_reducible refine below_step ?_ (by assumption) ?_ | with_reducible refine below_mark ?_ (by assumption) ?_)); all_goals (first | omega | (simp; done) | (simp; omega)))⟩
set_option maxHeartbeats 400000 in
theorem l10Text_any (k n e : Int) (s : ByteArray) (sl : Value) (w : World) : Calls Tryd.prog 125 #[.agg #[.int .i64 k, .int .i64 n, .int .i64 e, .string s, sl]] w
    fun x w' => x = .returned (.bool (decide (k = 5 ∨ k = 6))) ∧ Below w.heap.size w w' := by
  by_cases h5 : k = 5
  · have H := Lib.hid (show decide (k = 5 ∨ k = 6) = true by simp [h5])
    have t1 : (k == 5) = true := by simpa using h5
    rw [H.out]
    clear h5 H
    go_enter Tryd.func125, Tryd.ntmps125
    go_wp2_with fail
    go_ret
    exact ⟨rfl, (by (repeat' (first | with_reducible exact Below.refl _ _ | with_reducible refine below_alloc ?_ _ ?_ | with_reducible refine Below.setCell ?_ ?_ _ | with_reducible refine Below.drew ?_ | with_reducible refine below_drewN ?_ _ | with_reducible refine below_step ?_ (by assumption) ?_ | with_reducible refine below_mark ?_ (by assumption) ?_)); all_goals (first | omega | (simp; done) | (simp; omega)))⟩
  · have t1 : (k == 5) = false := by simpa using h5
    by_cases h6 : k = 6
    · have H := Lib.hid (show decide (k = 5 ∨ k = 6) = true by simp [h6])
      have t2 : (k == 6) = true := by simpa using h6
      rw [H.out]
      clear h5 h6 H
      go_enter Tryd.func125, Tryd.ntmps125
      go_wp2_with fail
      go_ret
      exact ⟨rfl, (by (repeat' (first | with_reducible exact Below.refl _ _ | with_reducible refine below_alloc ?_ _ ?_ | with_reducible refine Below.setCell ?_ ?_ _ | with_reducible refine Below.drew ?_ | with_reducible refine below_drewN ?_ _ | with_reducible refine below_step ?_ (by assumption) ?_ | with_reducible refine below_mark ?_ (by assumption) ?_)); all_goals (first | omega | (simp; done) | (simp; omega)))⟩
    · have H := Lib.hid (show decide (k = 5 ∨ k = 6) = false by simp [h5, h6])
      have t2 : (k == 6) = false := by simpa using h6
      rw [H.out]
      clear h5 h6 H
      go_enter Tryd.func125, Tryd.ntmps125
      go_wp2_with fail
      go_ret
      exact ⟨rfl, (by (repeat' (first | with_reducible exact Below.refl _ _ | with_reducible refine below_alloc ?_ _ ?_ | with_reducible refine Below.setCell ?_ ?_ _ | with_reducible refine Below.drew ?_ | with_reducible refine below_drewN ?_ _ | with_reducible refine below_step ?_ (by assumption) ?_ | with_reducible refine below_mark ?_ (by assumption) ?_)); all_goals (first | omega | (simp; done) | (simp; omega)))⟩
theorem RepS.opened' {w : World} {v : Value} {ts : List V} (h : RepS w v ts) : ∃ a b off cap, v = .slice a ts.length cap ∧ (ts ≠ [] → a = some ⟨b, off, none⟩ ∧ b < w.heap.size) ∧ ts.length ≤ cap ∧ cap ≤ 9223372036854775807 ∧
    ∃ sls : Nat → Value, ∀ i (h : i < ts.length), Cells5 w b (off + i * 5) ts[i] (sls i) ∧ ts[i].wf ∧ RepS w (sls i) ts[i].kids := by
  cases h with
  | mk a b off cap ts0 sls ha hc hm hbb cells wfs kids => exact ⟨a, b, off, cap, rfl, fun hne => ⟨ha hne, hbb hne⟩, hc, hm, sls, fun i hi => ⟨cells i hi, wfs i hi, kids i hi⟩⟩
theorem RepS.take {w : World} {a : Option Addr} {n cap : Nat} {ts : List V} (h : RepS w (.slice a n cap) ts) (i : Nat) (hi : i ≤ ts.length) : RepS w (.slice a i cap) (ts.take i) := by
  obtain ⟨a', b, off, cap', hv, ha, hc, hm, sls, hel⟩ := h.opened'
  simp only [Value.slice.injEq] at hv
  obtain ⟨rfl, rfl, rfl⟩ := hv
  have hl : (ts.take i).length = i := by rw [List.length_take]; omega
  have := RepS.mk (w := w) a b off cap (ts.take i) sls (fun hne => (ha (fun e => hne (by rw [e]; simp))).1) (by rw [hl]; omega) hm (fun hne => (ha (fun e => hne (by rw [e]; simp))).2)
    (fun j hj => by rw [hl] at hj; rw [List.getElem_take]; exact (hel j (by omega)).1) (fun j hj => by rw [hl] at hj; rw [List.getElem_take]; exact (hel j (by omega)).2.1) (fun j hj => by rw [hl] at hj; rw [List.getElem_take]; exact (hel j (by omega)).2.2)
  rw [hl] at this
  exact this
set_option maxHeartbeats 400000 in
theorem l10At_any (w0 : World) (v : Value) (R : List V) (h : RepS w0 v R) (w : World) (hw : Below w0.heap.size w0 w) (k n e : Int) (s : ByteArray) (sl : Value) :
    Calls Tryd.prog 195 #[v, .agg #[.int .i64 k, .int .i64 n, .int .i64 e, .string s, sl]] w fun x w' => x = .returned (.int .i64 (atV R k s)) ∧ Below w.heap.size w w' := by
  obtain ⟨a, b, off, cap, rfl, ha, hc, hm, sls, hel⟩ := h.opened'
  have HA := Lib.hid ha; have HE := Lib.hid hel
  have hlen : R.length ≤ 9223372036854775807 := by omega
  clear ha hel hc hm
  go_enter Tryd.func195, Tryd.ntmps195
  go_wp2_with fail
  go_loopw [5] (fun i wr => ∃ j : Nat, j ≤ R.length ∧ i = .int .i64 j ∧ Hid (∀ q, (hq : q < j) → (hl : q < R.length) → sameTx k s R[q] = false) ∧ Below (w.heap.size + 1) (w.alloc (.cells #[.int .i64 k, .int .i64 n, .int .i64 e, .string s, sl] 28)) wr) (fun i _ => R.length - (intOf i).toNat)
  case atStart => exact ⟨0, by omega, rfl, Lib.hid (by omega), Below.refl _ _⟩
  case round =>
    obtain ⟨j, hj, rfl, HN, hbl⟩ := hrel
    have hc0 : wr.cell? ⟨w.heap.size, 0, none⟩ = some (.int .i64 k) := by rw [hbl.cell (p := ⟨w.heap.size, 0, none⟩) (by show w.heap.size < w.heap.size + 1; omega)]; simp
    have hc3 : wr.cell? ⟨w.heap.size, 3, none⟩ = some (.string s) := by rw [hbl.cell (p := ⟨w.heap.size, 3, none⟩) (by show w.heap.size < w.heap.size + 1; omega)]; simp
    by_cases hlt : j < R.length
    · have hne : R ≠ [] := by intro e; rw [e] at hlt; simp at hlt
      obtain ⟨rfl, hbw⟩ := HA.out hne
      have hkeep : wr.heap[b]? = w0.heap[b]? := by
        rw [hbl.block b (by have := hw.size; omega), heap_alloc_old _ _ (by have := hw.size; omega)]; exact hw.block b hbw
      obtain ⟨c0, c1, c2, c3, c4⟩ := (HE.out j hlt).1.keep hkeep
      clear hkeep c1 c2 c4
      by_cases hs : sameTx k s R[j] = true
      · have HR := Lib.hid (show atV R k s = j by rw [atV, idxI_found _ R 0 j hlt (fun q hq => HN.out q hq (by omega)) hs, Nat.zero_add])
        have hh : R[j].k = k ∧ R[j].s = s := of_decide_eq_true hs
        have t1 : (R[j].k == k) = true := by simpa using hh.1
        have t2 := ba_yes hh.2
        clear hs hh HN
        generalize R[j].k = xk at *
        generalize R[j].s = xs at *
        go_wp2_with fail
        go_quiet (fail)
        all_goals go_wp2_with fail
        all_goals go_ret
        all_goals exact ⟨by rw [HR.out]; rfl, Below.trans ((Below.refl _ _).alloc (Nat.le_refl _) _) ((below_step hbl ((by (repeat' (first | with_reducible exact Below.refl _ _ | with_reducible refine below_alloc ?_ _ ?_ | with_reducible refine Below.setCell ?_ ?_ _ | with_reducible refine Below.drew ?_ | with_reducible refine below_drewN ?_ _ | with_reducible refine below_step ?_ (by assumption) ?_ | with_reducible refine below_mark ?_ (by assumption) ?_)); all_goals (first | omega | (simp; done) | (simp; omega)))) (by simp)).mono (by omega))⟩
      · have hs' : sameTx k s R[j] = false := by simpa using hs
        have HN2 := Lib.hid (show ∀ q, (hq : q < j + 1) → (hl : q < R.length) → sameTx k s R[q] = false from fun q hq hl => by
          by_cases hqj : q < j
          · exact HN.out q hqj hl
          · have : q = j := by omega
            subst this; exact hs')
        have hh : ¬ (R[j].k = k ∧ R[j].s = s) := of_decide_eq_false hs'
        clear hs hs' HN
        generalize R[j].k = xk at *
        generalize R[j].s = xs at *
        by_cases hk : xk = k
        · have t1 : (xk == k) = true := by simpa using hk
          have t2 := ba_no (fun e => hh ⟨hk, e⟩)
          clear hh hk
          go_wp2_with fail
          go_quiet (fail)
          all_goals go_wp2_with fail
          all_goals go_roundw
          case rel => exact ⟨j + 1, by omega, by go_num, HN2, below_step hbl ((by (repeat' (first | with_reducible exact Below.refl _ _ | with_reducible refine below_alloc ?_ _ ?_ | with_reducible refine Below.setCell ?_ ?_ _ | with_reducible refine Below.drew ?_ | with_reducible refine below_drewN ?_ _ | with_reducible refine below_step ?_ (by assumption) ?_ | with_reducible refine below_mark ?_ (by assumption) ?_)); all_goals (first | omega | (simp; done) | (simp; omega)))) (by simp)⟩
          case measure => simp [intOf]; omega
        · have t1 : (xk == k) = false := by simpa using hk
          clear hh hk
          go_wp2_with fail
          go_quiet (fail)
          all_goals go_wp2_with fail
          all_goals go_roundw
          case rel => exact ⟨j + 1, by omega, by go_num, HN2, below_step hbl ((by (repeat' (first | with_reducible exact Below.refl _ _ | with_reducible refine below_alloc ?_ _ ?_ | with_reducible refine Below.setCell ?_ ?_ _ | with_reducible refine Below.drew ?_ | with_reducible refine below_drewN ?_ _ | with_reducible refine below_step ?_ (by assumption) ?_ | with_reducible refine below_mark ?_ (by assumption) ?_)); all_goals (first | omega | (simp; done) | (simp; omega)))) (by simp)⟩
          case measure => simp [intOf]; omega
    · have HR := Lib.hid (show atV R k s = -1 from idxI_none _ R 0 (fun x hx => by obtain ⟨i, hi, e⟩ := List.getElem_of_mem hx; rw [← e]; exact HN.out i (by omega) hi))
      go_wp2_with fail
      go_ret
      exact ⟨by rw [HR.out]; rfl, Below.trans ((Below.refl _ _).alloc (Nat.le_refl _) _) (hbl.mono (by omega))⟩
end Go.Proofs.YtiemlefmhleaeaaDoor
