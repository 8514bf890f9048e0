/- References to what is remembered: the reference's way and the program's, plainly. No program in sight. -/
import Derived.Test.YtiemlefmhleaeaaDoorMapM
import Derived.Test.YtiemlefmhleaeaaDoorRemM
namespace Go.Proofs.YtiemlefmhleaeaaDoor
set_option linter.unusedVariables false
set_option maxRecDepth 100000
open Go.RowKit
def tagV (n : Int) (k : V) : V := .mk 9 n 0 ⟨#[]⟩ [k]
mutual
def putT : V → Bool → List V → V × List V
  | .mk k n e s ks, key, R =>
    if isTx (.mk k n e s ks) then (if 0 ≤ atV R k s ∧ key = false then (tagV 25 (intV (atV R k s)), R) else (.mk k n e s ks, keepR R (.mk k n e s ks)))
    else (.mk k n e s (putTs (decide (k = 8)) 0 ks R).1, (putTs (decide (k = 8)) 0 ks R).2)
def putTs (m : Bool) : Nat → List V → List V → List V × List V
  | _, [], R => ([], R)
  | i, t :: ts, R => ((putT t (m && decide (i % 2 = 0)) R).1 :: (putTs m (i + 1) ts (putT t (m && decide (i % 2 = 0)) R).2).1, (putTs m (i + 1) ts (putT t (m && decide (i % 2 = 0)) R).2).2)
 end
/-- where a value stands among some, all of it -/
def atW (R : List V) (t : V) : Int := idxI (fun x => decide (x = t)) 0 R
def keyR (R : List V) (t : V) : List V := if isTx t then keepR R t else R
mutual
def putI : V → List V → V × List V
  | .mk k n e s ks, R =>
    if isTx (.mk k n e s ks) then (if 0 ≤ atW R (.mk k n e s ks) then (tagV 25 (intV (atW R (.mk k n e s ks))), R) else (.mk k n e s ks, keepR R (.mk k n e s ks)))
    else (.mk k n e s (putIs (decide (k = 8)) 0 ks R).1, (putIs (decide (k = 8)) 0 ks R).2)
def putIs (m : Bool) : Nat → List V → List V → List V × List V
  | _, [], R => ([], R)
  | i, t :: ts, R =>
    if m && decide (i % 2 = 0) then (t :: (putIs m (i + 1) ts (keyR R t)).1, (putIs m (i + 1) ts (keyR R t)).2)
    else ((putI t R).1 :: (putIs m (i + 1) ts (putI t R).2).1, (putIs m (i + 1) ts (putI t R).2).2)
 end
/-- the step of each way at a kid -/
def stS (b : Bool) (t : V) (R : List V) : V × List V := putT t b R
def stI (b : Bool) (t : V) (R : List V) : V × List V := if b then (t, keyR R t) else putI t R
theorem putS_eq (t : V) (key : Bool) (R : List V) : putT t key R = if isTx t then (if 0 ≤ atV R t.k t.s ∧ key = false then (tagV 25 (intV (atV R t.k t.s)), R) else (t, keepR R t))
    else (.mk t.k t.n t.e t.s (putTs (decide (t.k = 8)) 0 t.kids R).1, (putTs (decide (t.k = 8)) 0 t.kids R).2) := by cases t; rw [putT]; rfl
theorem putI_eq (t : V) (R : List V) : putI t R = if isTx t then (if 0 ≤ atW R t then (tagV 25 (intV (atW R t)), R) else (t, keepR R t))
    else (.mk t.k t.n t.e t.s (putIs (decide (t.k = 8)) 0 t.kids R).1, (putIs (decide (t.k = 8)) 0 t.kids R).2) := by cases t; rw [putI]; rfl
theorem putSs_cons (m : Bool) (i : Nat) (t : V) (ts R : List V) : putTs m i (t :: ts) R = ((stS (m && decide (i % 2 = 0)) t R).1 :: (putTs m (i + 1) ts (stS (m && decide (i % 2 = 0)) t R).2).1, (putTs m (i + 1) ts (stS (m && decide (i % 2 = 0)) t R).2).2) := by rw [putTs]; rfl
theorem putIs_cons (m : Bool) (i : Nat) (t : V) (ts R : List V) : putIs m i (t :: ts) R = ((stI (m && decide (i % 2 = 0)) t R).1 :: (putIs m (i + 1) ts (stI (m && decide (i % 2 = 0)) t R).2).1, (putIs m (i + 1) ts (stI (m && decide (i % 2 = 0)) t R).2).2) := by
  rw [putIs]; unfold stI; split <;> rfl
theorem putSs_snoc (m : Bool) : ∀ (ts : List V) (i : Nat) (t : V) (R : List V), putTs m i (ts ++ [t]) R =
    ((putTs m i ts R).1 ++ [(stS (m && decide ((i + ts.length) % 2 = 0)) t (putTs m i ts R).2).1], (stS (m && decide ((i + ts.length) % 2 = 0)) t (putTs m i ts R).2).2)
  | [], i, t, R => by rw [List.nil_append, putSs_cons]; simp [putTs]
  | u :: ts, i, t, R => by
    rw [List.cons_append, putSs_cons, putSs_cons, putSs_snoc m ts (i + 1) t, List.length_cons, show i + 1 + ts.length = i + (ts.length + 1) by omega]; rfl
theorem putIs_snoc (m : Bool) : ∀ (ts : List V) (i : Nat) (t : V) (R : List V), putIs m i (ts ++ [t]) R =
    ((putIs m i ts R).1 ++ [(stI (m && decide ((i + ts.length) % 2 = 0)) t (putIs m i ts R).2).1], (stI (m && decide ((i + ts.length) % 2 = 0)) t (putIs m i ts R).2).2)
  | [], i, t, R => by rw [List.nil_append, putIs_cons]; simp [putIs]
  | u :: ts, i, t, R => by
    rw [List.cons_append, putIs_cons, putIs_cons, putIs_snoc m ts (i + 1) t, List.length_cons, show i + 1 + ts.length = i + (ts.length + 1) by omega]; rfl
theorem putSs_take (m : Bool) (ts R : List V) (j : Nat) (hj : j < ts.length) : putTs m 0 (ts.take (j + 1)) R =
    ((putTs m 0 (ts.take j) R).1 ++ [(stS (m && decide (j % 2 = 0)) ts[j] (putTs m 0 (ts.take j) R).2).1], (stS (m && decide (j % 2 = 0)) ts[j] (putTs m 0 (ts.take j) R).2).2) := by
  rw [List.take_succ_eq_append_getElem hj, putSs_snoc, List.length_take, Nat.min_eq_left (by omega), Nat.zero_add]
theorem putIs_take (m : Bool) (ts R : List V) (j : Nat) (hj : j < ts.length) : putIs m 0 (ts.take (j + 1)) R =
    ((putIs m 0 (ts.take j) R).1 ++ [(stI (m && decide (j % 2 = 0)) ts[j] (putIs m 0 (ts.take j) R).2).1], (stI (m && decide (j % 2 = 0)) ts[j] (putIs m 0 (ts.take j) R).2).2) := by
  rw [List.take_succ_eq_append_getElem hj, putIs_snoc, List.length_take, Nat.min_eq_left (by omega), Nat.zero_add]
/-- what is remembered: leaves alone -/
def leaves (R : List V) : Prop := ∀ x ∈ R, x = leafV x ∧ x.s.size ≤ 2000
theorem leaves_keep {R : List V} {t : V} (h : leaves R) (ht : t.s.size ≤ 2000) : leaves (keepR R t) := by
  unfold keepR
  split
  · intro x hx
    rcases List.mem_append.1 hx with hx | hx
    · exact h x hx
    · obtain rfl := List.mem_singleton.1 hx
      exact ⟨rfl, ht⟩
  · exact h
theorem right_text {t : V} {d : Int} (h : rightB t d = true) (hx : isTx t = true) : t = leafV t ∧ t.s.size ≤ 2000 := by
  have h1 := rightB_text h hx
  have h2 := (rightB_leaf h).1
  simp only [isTx, decide_eq_true_eq] at hx
  unfold nodeB at h2
  rw [if_neg (by omega), if_neg (by omega), if_neg (by omega)] at h2
  have he := V.eta t
  rcases hx with h5 | h6
  · rw [if_pos h5] at h2
    simp only [Bool.and_eq_true, decide_eq_true_eq] at h2
    refine ⟨?_, h2.1.2.2⟩
    unfold leafV
    rw [h2.1.1, h2.1.2.1, h1] at he
    exact he.symm
  · rw [if_neg (by omega), if_pos h6] at h2
    simp only [decide_eq_true_eq] at h2
    refine ⟨?_, h2.2.2⟩
    unfold leafV
    rw [h2.1, h2.2.1, h1] at he
    exact he.symm
theorem idxI_congr {α : Type} (p q : α → Bool) : ∀ (l : List α) (i : Nat), (∀ x ∈ l, p x = q x) → idxI p i l = idxI q i l
  | [], _, _ => rfl
  | x :: l, i, h => by
    rw [idxI, idxI, h x (List.mem_cons_self ..), idxI_congr p q l (i + 1) (fun y hy => h y (List.mem_cons_of_mem _ hy))]
theorem at_same {R : List V} {t : V} {d : Int} (hR : leaves R) (h : rightB t d = true) (hx : isTx t = true) : atW R t = atV R t.k t.s := by
  refine idxI_congr _ _ _ _ (fun x hxR => ?_)
  have h1 := (hR x hxR).1
  have h2 := (right_text h hx).1
  simp only [sameTx, decide_eq_decide]
  constructor
  · rintro rfl; exact ⟨rfl, rfl⟩
  · rintro ⟨e1, e2⟩
    rw [h1, h2]; unfold leafV; rw [e1, e2]
theorem leaves_key {R : List V} {t : V} {d : Int} (hR : leaves R) (h : rightB t d = true) : leaves (keyR R t) := by
  unfold keyR
  split
  · exact leaves_keep hR (right_text h (by assumption)).2
  · exact hR
mutual
theorem put_same : ∀ (t : V) (d : Int) (R : List V), rightB t d = true → leaves R → putI t R = putT t false R ∧ leaves (putI t R).2
  | .mk k n e s ks, d, R, h, hR => by
    rw [putI_eq, putS_eq]
    by_cases hx : isTx (.mk k n e s ks) = true
    · rw [if_pos hx, if_pos hx, at_same hR h hx]
      refine ⟨?_, ?_⟩
      · by_cases h0 : 0 ≤ atV R (V.mk k n e s ks).k (V.mk k n e s ks).s
        · rw [if_pos h0, if_pos ⟨h0, rfl⟩]
        · rw [if_neg h0, if_neg (fun e => h0 e.1)]
      · split
        · exact hR
        · exact leaves_keep hR (right_text h hx).2
    · rw [if_neg hx, if_neg hx]
      have := puts_same ks (d - 1) R (decide (k = 8)) 0 (right_kids h) (fun j hj hm he => key_at h (of_decide_eq_true hm) j hj (by simpa using he)) hR
      refine ⟨?_, this.2⟩
      show ((V.mk k n e s (putIs (decide (k = 8)) 0 ks R).1, (putIs (decide (k = 8)) 0 ks R).2) : V × List V) = (V.mk k n e s (putTs (decide (k = 8)) 0 ks R).1, (putTs (decide (k = 8)) 0 ks R).2)
      rw [this.1]
theorem puts_same : ∀ (ts : List V) (d : Int) (R : List V) (m : Bool) (i : Nat), rightsB ts d = true → (∀ j (h : j < ts.length), m = true → (i + j) % 2 = 0 → isKeyB ts[j] = true) → leaves R →
    putIs m i ts R = putTs m i ts R ∧ leaves (putIs m i ts R).2
  | [], d, R, m, i, _, _, hR => by rw [putIs, putTs]; exact ⟨rfl, hR⟩
  | t :: ts, d, R, m, i, h, hk, hR => by
    rw [rightsB, Bool.and_eq_true] at h
    have hst : stI (m && decide (i % 2 = 0)) t R = stS (m && decide (i % 2 = 0)) t R ∧ leaves (stI (m && decide (i % 2 = 0)) t R).2 := by
      by_cases hb : (m && decide (i % 2 = 0)) = true
      · have hb' := hb
        simp only [Bool.and_eq_true, decide_eq_true_eq] at hb'
        have hkey : isKeyB t = true := hk 0 (by simp) hb'.1 (by simpa using hb'.2)
        unfold stI stS
        rw [hb, if_pos rfl, putS_eq]
        refine ⟨?_, leaves_key hR h.1⟩
        unfold keyR
        by_cases hx : isTx t = true
        · rw [if_pos hx, if_pos hx, if_neg (by simp)]
        · rw [if_neg hx, if_neg hx, key_leaf h.1 hkey, putTs]
          simp only
          rw [← key_leaf h.1 hkey, V.eta]
      · rw [Bool.not_eq_true] at hb
        unfold stI stS
        rw [hb, if_neg (by simp)]
        exact put_same t d R h.1 hR
    rw [putIs_cons, putSs_cons]
    have := puts_same ts d (stI (m && decide (i % 2 = 0)) t R).2 m (i + 1) h.2 (fun j hj hm he => by have := hk (j + 1) (by simpa using hj) hm (by rw [← he]; congr 1; omega); simpa using this) hst.2
    exact ⟨by rw [← hst.1, this.1], this.2⟩
 end
theorem keyR_length (R : List V) (t : V) : (keyR R t).length ≤ R.length + 1 := by
  unfold keyR; split
  · exact keepR_length R t
  · omega
mutual
theorem putI_bound : ∀ (t : V) (R : List V), (putI t R).1.sz ≤ t.sz + t.nodes ∧ (putI t R).2.length ≤ R.length + t.nodes
  | .mk k n e s ks, R => by
    rw [putI_eq, V.nodes_eq]
    split
    · split
      · refine ⟨?_, Nat.le_add_right _ _⟩
        show (tagV 25 (intV (atW R (.mk k n e s ks)))).sz ≤ _
        have e1 : (tagV 25 (intV (atW R (.mk k n e s ks)))).sz = 1 := by rw [tagV, V.sz, szs, szs, intV, V.sz, szs]; rfl
        rw [e1]; omega
      · exact ⟨Nat.le_add_right _ _, by have := keepR_length R (.mk k n e s ks); show (keepR R (.mk k n e s ks)).length ≤ _; omega⟩
    · have := putIs_bound ks R (decide (k = 8)) 0
      refine ⟨?_, ?_⟩
      · show (V.mk k n e s (putIs (decide (k = 8)) 0 ks R).1).sz ≤ (V.mk k n e s ks).sz + (1 + nodess ks)
        rw [V.sz, V.sz]; omega
      · show (putIs (decide (k = 8)) 0 ks R).2.length ≤ R.length + (1 + nodess ks)
        omega
theorem putIs_bound : ∀ (ts : List V) (R : List V) (m : Bool) (i : Nat), szs (putIs m i ts R).1 ≤ szs ts + nodess ts ∧ (putIs m i ts R).2.length ≤ R.length + nodess ts
  | [], R, m, i => by simp [putIs, szs, nodess]
  | t :: ts, R, m, i => by
    rw [putIs_cons, szs, szs, nodess]
    have h1 : (stI (m && decide (i % 2 = 0)) t R).1.sz ≤ t.sz + t.nodes ∧ (stI (m && decide (i % 2 = 0)) t R).2.length ≤ R.length + t.nodes := by
      unfold stI
      split
      · have := keyR_length R t
        rw [V.nodes_eq]
        exact ⟨by simp only; omega, by simp only; omega⟩
      · exact putI_bound t R
    have h2 := putIs_bound ts (stI (m && decide (i % 2 = 0)) t R).2 m (i + 1)
    simp only
    omega
 end
/-- a right value is small -/
theorem node_small {t : V} (h : nodeB t = true) : t.s.size ≤ 2000 := by
  unfold nodeB at h
  split at h
  · have := of_decide_eq_true h; omega
  · split at h
    · have := of_decide_eq_true h; omega
    · split at h
      · simp only [Bool.and_eq_true, decide_eq_true_eq] at h; omega
      · split at h
        · simp only [Bool.and_eq_true, decide_eq_true_eq] at h; omega
        · split at h
          · have := of_decide_eq_true h; omega
          · split at h
            · have := of_decide_eq_true h; omega
            · cases h
mutual
theorem right_small : ∀ (t : V) (d : Int), rightB t d = true → t.sz + 1 ≤ 2001 * t.nodes
  | .mk k n e s ks, d, h => by
    have h1 := node_small (rightB_leaf h).1
    have h2 := rights_small ks (d - 1) (right_kids h)
    rw [V.nodes_eq, V.sz]
    simp only [V.s, V.kids] at h1 ⊢
    omega
theorem rights_small : ∀ (ts : List V) (d : Int), rightsB ts d = true → szs ts ≤ 2001 * nodess ts
  | [], _, _ => by simp [szs]
  | t :: ts, d, h => by
    rw [rightsB, Bool.and_eq_true] at h
    have h1 := right_small t d h.1
    have h2 := rights_small ts d h.2
    rw [szs, nodess]; omega
 end
theorem ok_small {t : V} (h : okT t = true) : t.sz ≤ 600300 ∧ t.nodes ≤ 300 := by
  simp only [okT, Bool.and_eq_true, decide_eq_true_eq] at h
  have := right_small t 12 h.1
  omega
mutual
def hasT (a b : Int) : V → Bool
  | .mk k n _ _ ks => (decide (k = 9) && (decide (n = a) || decide (n = b))) || hasTs a b ks
def hasTs (a b : Int) : List V → Bool
  | [] => false
  | t :: ts => hasT a b t || hasTs a b ts
 end
theorem hasT_eq (a b : Int) (t : V) : hasT a b t = ((decide (t.k = 9) && (decide (t.n = a) || decide (t.n = b))) || hasTs a b t.kids) := by cases t; rw [hasT]; rfl
theorem hasTs_append (a b : Int) : ∀ (ts us : List V), hasTs a b (ts ++ us) = (hasTs a b ts || hasTs a b us)
  | [], us => by simp [hasTs]
  | t :: ts, us => by rw [List.cons_append, hasTs, hasTs, hasTs_append a b ts us, Bool.or_assoc]
theorem hasTs_take (a b : Int) (ts : List V) (j : Nat) (hj : j < ts.length) : hasTs a b (ts.take (j + 1)) = (hasTs a b (ts.take j) || hasT a b ts[j]) := by
  rw [List.take_succ_eq_append_getElem hj, hasTs_append, hasTs, hasTs, Bool.or_false]
theorem hasTs_stuck (a b : Int) (ts : List V) (j : Nat) (hj : j < ts.length) (h : hasT a b ts[j] = true) : hasTs a b ts = true := by
  rw [← List.take_append_drop j ts, hasTs_append, List.drop_eq_getElem_cons hj, hasTs, h]; simp
mutual
/-- a tag of one number stands in a value: some node is it -/
theorem hasT_pre (a b : Int) : ∀ t : V, hasT a b t = t.pre.any fun x => decide (x.k = 9) && (decide (x.n = a) || decide (x.n = b))
  | .mk k n e s ks => by rw [hasT_eq, V.pre_eq, List.any_cons, hasTs_pre a b]
theorem hasTs_pre (a b : Int) : ∀ ts : List V, hasTs a b ts = (pres ts).any fun x => decide (x.k = 9) && (decide (x.n = a) || decide (x.n = b))
  | [] => rfl
  | t :: ts => by rw [hasTs, pres, List.any_append, hasT_pre a b t, hasTs_pre a b ts]
 end
/-- the entry that a reference names -/
def refB (t : V) (R : List V) : Bool := match t.kids with
  | x :: _ => decide (x.k = 3 ∧ 0 ≤ x.n ∧ x.n ≤ (R.length : Int) - 1)
  | [] => false
def refAt (t : V) (R : List V) : V := match t.kids with
  | x :: _ => R.getD x.n.toNat t
  | [] => t
def isRf (t : V) : Bool := decide (t.k = 9) && decide (t.n = 25)
mutual
def getS : V → List V → Option (V × List V)
  | .mk k n e s ks, R =>
    if isTx (.mk k n e s ks) then some (.mk k n e s ks, keepR R (.mk k n e s ks))
    else if isRf (.mk k n e s ks) then (if refB (.mk k n e s ks) R then some (refAt (.mk k n e s ks) R, R) else none)
    else (getSs ks R).map fun p => (.mk k n e s p.1, p.2)
def getSs : List V → List V → Option (List V × List V)
  | [], R => some ([], R)
  | t :: ts, R => (getS t R).bind fun p => (getSs ts p.2).map fun q => (p.1 :: q.1, q.2)
 end
theorem getS_eq (t : V) (R : List V) : getS t R = if isTx t then some (t, keepR R t) else if isRf t then (if refB t R then some (refAt t R, R) else none) else (getSs t.kids R).map fun p => (.mk t.k t.n t.e t.s p.1, p.2) := by cases t; rw [getS]; rfl
theorem getSs_snoc : ∀ (ts : List V) (t : V) (R : List V), getSs (ts ++ [t]) R = (getSs ts R).bind fun q => (getS t q.2).map fun p => (q.1 ++ [p.1], p.2)
  | [], t, R => by
    simp only [List.nil_append, getSs, Option.bind_some, List.nil_append]
    cases getS t R <;> rfl
  | u :: ts, t, R => by
    simp only [List.cons_append, getSs]
    cases getS u R with
    | none => rfl
    | some p =>
      simp only [Option.bind_some]
      rw [getSs_snoc ts t]
      cases getSs ts p.2 with
      | none => rfl
      | some q =>
        simp only [Option.bind_some, Option.map_some]
        cases getS t q.2 <;> rfl
theorem getSs_take (ts R : List V) (j : Nat) (hj : j < ts.length) : getSs (ts.take (j + 1)) R = (getSs (ts.take j) R).bind fun q => (getS ts[j] q.2).map fun p => (q.1 ++ [p.1], p.2) := by
  rw [List.take_succ_eq_append_getElem hj, getSs_snoc]
theorem getSs_none : ∀ (a b R : List V), getSs a R = none → getSs (a ++ b) R = none
  | [], b, R, h => by simp [getSs] at h
  | t :: a, b, R, h => by
    simp only [List.cons_append, getSs] at h ⊢
    cases hf : getS t R with
    | none => rfl
    | some p =>
      rw [hf] at h
      simp only [Option.bind_some] at h ⊢
      cases hr : getSs a p.2 with
      | none => rw [getSs_none a b p.2 hr]; rfl
      | some q => rw [hr] at h; simp at h
theorem getSs_stuck (ts R : List V) (j : Nat) (h : getSs (ts.take j) R = none) : getSs ts R = none := by
  have := getSs_none (ts.take j) (ts.drop j) R h
  rwa [List.take_append_drop] at this
def keyG (S : List V × Bool) (t : V) : List V × Bool := (keyR S.1 t, S.2)
mutual
def getI : V → List V × Bool → V × (List V × Bool)
  | .mk k n e s ks, S =>
    if isTx (.mk k n e s ks) then (.mk k n e s ks, (keepR S.1 (.mk k n e s ks), S.2))
    else if isRf (.mk k n e s ks) then (if refB (.mk k n e s ks) S.1 then (refAt (.mk k n e s ks) S.1, S) else (.mk k n e s ks, (S.1, true)))
    else (.mk k n e s (getIs (decide (k = 8)) 0 ks (S.1, S.2 || (decide (k = 9) && decide (n = 256)))).1, (getIs (decide (k = 8)) 0 ks (S.1, S.2 || (decide (k = 9) && decide (n = 256)))).2)
def getIs (m : Bool) : Nat → List V → List V × Bool → List V × (List V × Bool)
  | _, [], S => ([], S)
  | i, t :: ts, S =>
    if m && decide (i % 2 = 0) then (t :: (getIs m (i + 1) ts (keyG S t)).1, (getIs m (i + 1) ts (keyG S t)).2)
    else ((getI t S).1 :: (getIs m (i + 1) ts (getI t S).2).1, (getIs m (i + 1) ts (getI t S).2).2)
 end
def stG (b : Bool) (t : V) (S : List V × Bool) : V × (List V × Bool) := if b then (t, keyG S t) else getI t S
theorem getI_eq (t : V) (S : List V × Bool) : getI t S = if isTx t then (t, (keepR S.1 t, S.2)) else if isRf t then (if refB t S.1 then (refAt t S.1, S) else (t, (S.1, true)))
    else (.mk t.k t.n t.e t.s (getIs (decide (t.k = 8)) 0 t.kids (S.1, S.2 || (decide (t.k = 9) && decide (t.n = 256)))).1, (getIs (decide (t.k = 8)) 0 t.kids (S.1, S.2 || (decide (t.k = 9) && decide (t.n = 256)))).2) := by cases t; rw [getI]; rfl
theorem getIs_cons (m : Bool) (i : Nat) (t : V) (ts : List V) (S : List V × Bool) : getIs m i (t :: ts) S = ((stG (m && decide (i % 2 = 0)) t S).1 :: (getIs m (i + 1) ts (stG (m && decide (i % 2 = 0)) t S).2).1, (getIs m (i + 1) ts (stG (m && decide (i % 2 = 0)) t S).2).2) := by
  rw [getIs]; unfold stG; split <;> rfl
theorem getIs_snoc (m : Bool) : ∀ (ts : List V) (i : Nat) (t : V) (S : List V × Bool), getIs m i (ts ++ [t]) S =
    ((getIs m i ts S).1 ++ [(stG (m && decide ((i + ts.length) % 2 = 0)) t (getIs m i ts S).2).1], (stG (m && decide ((i + ts.length) % 2 = 0)) t (getIs m i ts S).2).2)
  | [], i, t, S => by rw [List.nil_append, getIs_cons]; simp [getIs]
  | u :: ts, i, t, S => by
    rw [List.cons_append, getIs_cons, getIs_cons, getIs_snoc m ts (i + 1) t, List.length_cons, show i + 1 + ts.length = i + (ts.length + 1) by omega]; rfl
theorem getIs_take (m : Bool) (ts : List V) (S : List V × Bool) (j : Nat) (hj : j < ts.length) : getIs m 0 (ts.take (j + 1)) S =
    ((getIs m 0 (ts.take j) S).1 ++ [(stG (m && decide (j % 2 = 0)) ts[j] (getIs m 0 (ts.take j) S).2).1], (stG (m && decide (j % 2 = 0)) ts[j] (getIs m 0 (ts.take j) S).2).2) := by
  rw [List.take_succ_eq_append_getElem hj, getIs_snoc, List.length_take, Nat.min_eq_left (by omega), Nat.zero_add]
mutual
theorem get_bad : ∀ (t : V) (R : List V), (getI t (R, true)).2.2 = true
  | .mk k n e s ks, R => by
    rw [getI_eq]
    split
    · rfl
    · split
      · split <;> rfl
      · rw [Bool.true_or]; exact gets_bad ks R _ 0
theorem gets_bad : ∀ (ts : List V) (R : List V) (m : Bool) (i : Nat), (getIs m i ts (R, true)).2.2 = true
  | [], R, m, i => by rw [getIs]
  | t :: ts, R, m, i => by
    rw [getIs_cons]
    have h : (stG (m && decide (i % 2 = 0)) t (R, true)).2.2 = true := by
      unfold stG; split
      · rfl
      · exact get_bad t R
    generalize (stG (m && decide (i % 2 = 0)) t (R, true)).2 = S at *
    obtain ⟨R', b'⟩ := S
    have h' : b' = true := h
    subst h'
    exact gets_bad ts R' m (i + 1)
 end
theorem gets_bad' (ts : List V) (S : List V × Bool) (h : S.2 = true) (m : Bool) (i : Nat) : (getIs m i ts S).2.2 = true := by
  obtain ⟨R', b'⟩ := S
  have h' : b' = true := h
  subst h'
  exact gets_bad ts R' m i
theorem refAt_leaf {t : V} {R : List V} (hR : leaves R) (h : refB t R = true) : refAt t R ∈ R := by
  unfold refB at h; unfold refAt
  cases hk : t.kids with
  | nil => rw [hk] at h; simp at h
  | cons x xs =>
    rw [hk] at h
    simp only [decide_eq_true_eq] at h ⊢
    have : x.n.toNat < R.length := by omega
    rw [List.getD_eq_getElem?_getD, List.getElem?_eq_getElem this]
    exact List.getElem_mem this
theorem rf_tags {t : V} {d : Int} (h : rightB t d = true) (hr : isRf t = true) {R : List V} (hb : refB t R = true) : hasT 256 256 t = false := by
  have h9 : t.k = 9 ∧ t.n = 25 := by simpa [isRf] using hr
  unfold refB at hb
  cases hk : t.kids with
  | nil => rw [hk] at hb; simp at hb
  | cons x xs =>
    rw [hk] at hb
    simp only [decide_eq_true_eq] at hb
    have hlen : t.kids.length = 1 := by
      have h2 := h
      rw [rightB_eq] at h2
      simp only [Bool.and_eq_true, ownB] at h2
      have h3 := h2.1.2.2
      rw [if_neg (by omega), if_pos h9.1] at h3
      simpa using h3
    rw [hk] at hlen
    obtain rfl : xs = [] := by simpa using hlen
    have hx := right_kids h
    rw [hk, rightsB, Bool.and_eq_true] at hx
    have hxl := key_leaf hx.1 (by simp [isKeyB, hb.1])
    rw [hasT_eq, hk, hasTs, hasTs, hasT_eq, hxl, hasTs, h9.2]
    simp [hb.1]
mutual
/-- the program's way against the reference's, at a right value -/
theorem get_same : ∀ (t : V) (d : Int) (R : List V), rightB t d = true → leaves R →
    (hasT 256 256 t = true → (getI t (R, false)).2.2 = true) ∧
    (hasT 256 256 t = false → (getS t R = none → (getI t (R, false)).2.2 = true) ∧ ∀ p, getS t R = some p → getI t (R, false) = (p.1, (p.2, false)) ∧ leaves p.2 ∧ p.1.nodes ≤ t.nodes ∧ p.1.sz + 1 ≤ 2001 * p.1.nodes ∧ p.2.length ≤ R.length + t.nodes)
  | .mk k n e s ks, d, R, h, hR => by
    by_cases hx : isTx (.mk k n e s ks) = true
    · rw [getI_eq, getS_eq, if_pos hx, if_pos hx]
      have hl := (right_text h hx).2
      have hks := rightB_text h hx
      refine ⟨fun hh => ?_, fun _ => ⟨fun hh => by simp at hh, fun p hp => ?_⟩⟩
      · rw [hasT_eq, hks] at hh
        simp only [isTx, decide_eq_true_eq] at hx
        simp [hasTs] at hh
        omega
      · obtain rfl := Option.some.inj hp
        refine ⟨rfl, leaves_keep hR hl, Nat.le_refl _, right_small _ d h, ?_⟩
        have := keepR_length R (.mk k n e s ks); rw [V.nodes_eq]; simp only; omega
    · by_cases hf : isRf (.mk k n e s ks) = true
      · rw [getI_eq, getS_eq, if_neg hx, if_neg hx, if_pos hf, if_pos hf]
        by_cases hb : refB (.mk k n e s ks) R = true
        · have hno := rf_tags h hf hb
          rw [if_pos hb, if_pos hb]
          refine ⟨fun hh => absurd (hno.symm.trans hh) (by simp), fun _ => ⟨fun hh => by simp at hh, fun p hp => ?_⟩⟩
          obtain rfl := Option.some.inj hp
          have hm := hR _ (refAt_leaf hR hb)
          refine ⟨rfl, hR, ?_, ?_, by simp⟩
          · rw [hm.1, V.nodes_eq, V.nodes_eq]; simp [leafV, nodess, V.kids]
          · have h2 := hm.2
            have e1 : (refAt (.mk k n e s ks) R).sz = (refAt (.mk k n e s ks) R).s.size := by
              rw [hm.1, V.sz_eq]; simp [leafV, szs, V.kids]
            rw [e1, V.nodes_eq]; omega
        · rw [if_neg hb, if_neg hb]
          exact ⟨fun _ => rfl, fun _ => ⟨fun _ => rfl, fun p hp => by simp at hp⟩⟩
      · have eI : getI (.mk k n e s ks) (R, false) = (.mk k n e s (getIs (decide (k = 8)) 0 ks (R, false || (decide (k = 9) && decide (n = 256)))).1, (getIs (decide (k = 8)) 0 ks (R, false || (decide (k = 9) && decide (n = 256)))).2) := by
          rw [getI_eq, if_neg hx, if_neg hf]; rfl
        have eS : getS (.mk k n e s ks) R = (getSs ks R).map fun p => (.mk k n e s p.1, p.2) := by
          rw [getS_eq, if_neg hx, if_neg hf]; rfl
        rw [eI, eS]
        have hk := right_kids h
        have hkey : ∀ j (hj : j < ks.length), decide (k = 8) = true → (0 + j) % 2 = 0 → isKeyB ks[j] = true := fun j hj hm he => key_at h (of_decide_eq_true hm) j hj (by simpa using he)
        by_cases h256 : (decide (k = 9) && decide (n = 256)) = true
        · rw [h256, Bool.or_true]
          refine ⟨fun _ => gets_bad ks R _ 0, fun hh => ?_⟩
          rw [hasT_eq] at hh
          simp only [V.k, V.n] at hh
          simp only [Bool.and_eq_true, decide_eq_true_eq] at h256
          simp [h256.1, h256.2] at hh
        · rw [Bool.not_eq_true] at h256
          rw [h256, Bool.or_false]
          have IH := gets_same ks (d - 1) R (decide (k = 8)) 0 hk hkey hR
          have ht : hasT 256 256 (.mk k n e s ks) = hasTs 256 256 ks := by
            rw [hasT_eq]; simp only [V.k, V.n, V.kids, Bool.or_self]
            show (decide (k = 9) && decide (n = 256) || hasTs 256 256 ks) = hasTs 256 256 ks
            have h2 : (decide (k = 9) && decide (n = 256)) = false := h256
            exact (congrArg (· || hasTs 256 256 ks) h2).trans (Bool.false_or _)
          rw [ht]
          refine ⟨IH.1, fun hh => ⟨fun hn => (IH.2 hh).1 (by cases hg : getSs ks R with | none => rfl | some q => rw [hg] at hn; simp at hn), fun p hp => ?_⟩⟩
          cases hg : getSs ks R with
          | none => rw [hg] at hp; simp at hp
          | some q =>
            rw [hg] at hp
            simp only [Option.map_some, Option.some.injEq] at hp
            subst hp
            obtain ⟨e1, e2, e3, e4, e5⟩ := (IH.2 hh).2 q hg
            rw [e1]
            have hs := node_small (rightB_leaf h).1
            refine ⟨rfl, e2, ?_, ?_, ?_⟩
            · rw [V.nodes_eq, V.nodes_eq]; simp only [V.kids]; omega
            · rw [V.nodes_eq, V.sz_eq]; simp only [V.kids, V.s] at hs ⊢; omega
            · rw [V.nodes_eq]; simp only [V.kids]; omega
theorem gets_same : ∀ (ts : List V) (d : Int) (R : List V) (m : Bool) (i : Nat), rightsB ts d = true → (∀ j (h : j < ts.length), m = true → (i + j) % 2 = 0 → isKeyB ts[j] = true) → leaves R →
    (hasTs 256 256 ts = true → (getIs m i ts (R, false)).2.2 = true) ∧
    (hasTs 256 256 ts = false → (getSs ts R = none → (getIs m i ts (R, false)).2.2 = true) ∧ ∀ p, getSs ts R = some p → getIs m i ts (R, false) = (p.1, (p.2, false)) ∧ leaves p.2 ∧ nodess p.1 ≤ nodess ts ∧ szs p.1 ≤ 2001 * nodess p.1 ∧ p.2.length ≤ R.length + nodess ts)
  | [], d, R, m, i, _, _, hR => by
    refine ⟨fun h => by simp [hasTs] at h, fun _ => ⟨fun h => by simp [getSs] at h, fun p hp => ?_⟩⟩
    simp only [getSs, Option.some.injEq] at hp
    subst hp
    exact ⟨by rw [getIs], hR, by simp [nodess], by simp [szs], by simp⟩
  | t :: ts, d, R, m, i, h, hk, hR => by
    rw [rightsB, Bool.and_eq_true] at h
    have hst : (hasT 256 256 t = true → (stG (m && decide (i % 2 = 0)) t (R, false)).2.2 = true) ∧
        (hasT 256 256 t = false → (getS t R = none → (stG (m && decide (i % 2 = 0)) t (R, false)).2.2 = true) ∧ ∀ p, getS t R = some p → stG (m && decide (i % 2 = 0)) t (R, false) = (p.1, (p.2, false)) ∧ leaves p.2 ∧ p.1.nodes ≤ t.nodes ∧ p.1.sz + 1 ≤ 2001 * p.1.nodes ∧ p.2.length ≤ R.length + t.nodes) := by
      by_cases hb : (m && decide (i % 2 = 0)) = true
      · have hb' := hb
        simp only [Bool.and_eq_true, decide_eq_true_eq] at hb'
        have hkey : isKeyB t = true := hk 0 (by simp) hb'.1 (by simpa using hb'.2)
        have hlf := key_leaf h.1 hkey
        have hk2 := hkey
        simp only [isKeyB, decide_eq_true_eq] at hk2
        have hnt : hasT 256 256 t = false := by rw [hasT_eq, hlf, hasTs]; simp; omega
        have hnr : isRf t = false := by simp [isRf]; omega
        have hst : stG (m && decide (i % 2 = 0)) t (R, false) = (t, (keyR R t, false)) := by unfold stG; rw [hb, if_pos rfl]; rfl
        have hgs : getS t R = some (t, keyR R t) := by
          rw [getS_eq]; unfold keyR
          by_cases hx : isTx t = true
          · rw [if_pos hx, if_pos hx]
          · rw [if_neg hx, if_neg hx, if_neg (by rw [hnr]; simp), hlf, getSs, Option.map_some, ← hlf, V.eta]
        refine ⟨fun hh => absurd (hnt.symm.trans hh) (by simp), fun _ => ⟨fun hn => by rw [hgs] at hn; simp at hn, fun p hp => ?_⟩⟩
        rw [hgs] at hp
        obtain rfl := Option.some.inj hp
        refine ⟨hst, leaves_key hR h.1, Nat.le_refl _, right_small t d h.1, ?_⟩
        have := keyR_length R t; rw [V.nodes_eq]; simp only; omega
      · have : stG (m && decide (i % 2 = 0)) t (R, false) = getI t (R, false) := by unfold stG; rw [if_neg hb]
        rw [this]
        exact get_same t d R h.1 hR
    rw [getIs_cons, hasTs, getSs, nodess]
    generalize stG (m && decide (i % 2 = 0)) t (R, false) = st at *
    have tail := fun (R' : List V) (hR' : leaves R') => gets_same ts d R' m (i + 1) h.2 (fun j hj hm he => by have := hk (j + 1) (by simpa using hj) hm (by rw [← he]; congr 1; omega); simpa using this) hR'
    by_cases hb : st.2.2 = true
    · have hbad := gets_bad' ts st.2 hb m (i + 1)
      refine ⟨fun _ => hbad, fun hh => ⟨fun _ => hbad, fun p hp => ?_⟩⟩
      rw [Bool.or_eq_false_iff] at hh
      cases hg : getS t R with
      | none => rw [hg] at hp; simp at hp
      | some q =>
        have := ((hst.2 hh.1).2 q hg).1
        rw [this] at hb; simp at hb
    · rw [Bool.not_eq_true] at hb
      have hnt : hasT 256 256 t = false := by
        cases hq : hasT 256 256 t with
        | false => rfl
        | true => have := hst.1 hq; rw [hb] at this; cases this
      rw [hnt, Bool.false_or]
      cases hg : getS t R with
      | none => have := (hst.2 hnt).1 hg; rw [hb] at this; cases this
      | some q =>
        obtain ⟨e1, e2, e3, e4, e5⟩ := (hst.2 hnt).2 q hg
        subst e1
        have T := tail q.2 e2
        simp only [Option.bind_some]
        refine ⟨T.1, fun hh => ⟨fun hn => (T.2 hh).1 (by cases hq : getSs ts q.2 with | none => rfl | some r => rw [hq] at hn; simp at hn), fun p hp => ?_⟩⟩
        cases hq : getSs ts q.2 with
        | none => rw [hq] at hp; simp at hp
        | some r =>
          rw [hq] at hp
          simp only [Option.map_some, Option.some.injEq] at hp
          subst hp
          obtain ⟨f1, f2, f3, f4, f5⟩ := (T.2 hh).2 r hq
          rw [f1]
          refine ⟨rfl, f2, ?_, ?_, ?_⟩
          · simp only [nodess]; omega
          · simp only [nodess, szs]; omega
          · simp only; omega
 end
end Go.Proofs.YtiemlefmhleaeaaDoor
