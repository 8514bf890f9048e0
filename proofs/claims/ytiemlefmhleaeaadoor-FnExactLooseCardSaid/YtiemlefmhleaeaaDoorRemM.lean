/- What is remembered in a value: the reference's way, spec.l10All, Remembered. -/
import Derived.Test.YtiemlefmhleaeaaDoorLeast0
import Derived.Test.YtiemlefmhleaeaaDoorRight
import Derived.OwnWalk
namespace Go.Proofs.YtiemlefmhleaeaaDoor
set_option linter.unusedVariables false
set_option maxRecDepth 100000
open Go.RowKit
def foldK (R L : List V) : List V := L.foldl keepR R
mutual
def allS : V → List V → List V
  | .mk k n e s ks, R => if isTx (.mk k n e s ks) then keepR R (.mk k n e s ks) else allSs ks R
def allSs : List V → List V → List V
  | [], R => R
  | t :: ts, R => allSs ts (allS t R)
 end
theorem allS_eq (t : V) (R : List V) : allS t R = if isTx t then keepR R t else allSs t.kids R := by cases t; rw [allS]; rfl
theorem allSs_snoc : ∀ (ts : List V) (t : V) (R : List V), allSs (ts ++ [t]) R = allS t (allSs ts R)
  | [], t, R => by simp [allSs]
  | u :: ts, t, R => by simp only [List.cons_append, allSs]; exact allSs_snoc ts t _
theorem allSs_take (ts : List V) (R : List V) (j : Nat) (hj : j < ts.length) : allSs (ts.take (j + 1)) R = allS ts[j] (allSs (ts.take j) R) := by
  rw [List.take_succ_eq_append_getElem hj, allSs_snoc]
mutual
theorem allS_length : ∀ (t : V) (R : List V), (allS t R).length ≤ R.length + (1 + t.sz)
  | .mk k n e s ks, R => by
    rw [allS]
    split
    · have := keepR_length R (.mk k n e s ks); omega
    · have := allSs_length ks R; simp only [V.sz]; omega
theorem allSs_length : ∀ (ts : List V) (R : List V), (allSs ts R).length ≤ R.length + szs ts
  | [], R => by simp [allSs]
  | t :: ts, R => by have h1 := allS_length t R; have h2 := allSs_length ts (allS t R); simp only [allSs, szs]; omega
 end
theorem rightB_text {t : V} {d : Int} (h : rightB t d = true) (hk : isTx t = true) : t.kids = [] := by
  rw [rightB_eq] at h
  simp only [Bool.and_eq_true, ownB] at h
  have h2 := h.1.2.2
  simp only [isTx, decide_eq_true_eq] at hk
  rw [if_neg (by omega), if_neg (by omega), if_neg (by omega)] at h2
  exact List.eq_nil_of_length_eq_zero (by simpa using h2)
mutual
theorem allS_fold : ∀ (t : V) (d : Int) (R : List V), rightB t d = true → allS t R = foldK R (txts t)
  | .mk k n e s ks, d, R, h => by
    rw [allS_eq, txts_eq]
    by_cases hx : isTx (.mk k n e s ks) = true
    · rw [if_pos hx, if_pos hx, rightB_text h hx]; rfl
    · rw [if_neg hx, if_neg hx, List.nil_append]
      rw [rightB_eq] at h
      simp only [Bool.and_eq_true] at h
      exact allSs_fold ks (d - 1) R h.2
theorem allSs_fold : ∀ (ts : List V) (d : Int) (R : List V), rightsB ts d = true → allSs ts R = foldK R (txtss ts)
  | [], d, R, h => rfl
  | t :: ts, d, R, h => by
    rw [rightsB, Bool.and_eq_true] at h
    have e : txtss (t :: ts) = txts t ++ txtss ts := by unfold txtss txts; rw [pres, List.filter_append]
    rw [allSs, allS_fold t d R h.1, allSs_fold ts d _ h.2, e]
    unfold foldK; rw [List.foldl_append]
 end
def remB (t : V) : List ByteArray := if okT t then (foldK [] (txts t)).map V.s else []
end Go.Proofs.YtiemlefmhleaeaaDoor
