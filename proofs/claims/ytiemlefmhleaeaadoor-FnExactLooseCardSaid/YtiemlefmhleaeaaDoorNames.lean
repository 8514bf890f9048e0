/- Lists of names: laws.szNames, toNames, eqNames; where a name stands: spec.l11At, slices.Index, slices.Contains. -/
import Derived.Test.YtiemlefmhleaeaaDoorStrs
import Derived.Test.YtiemlefmhleaeaaDoorSzVal
import Derived.Test.YtiemlefmhleaeaaDoorLawAid
import Derived.Deep.RegionWith
import Derived.Deep.QuietTactic
import Derived.BigQuiet
import Derived.WalkSpells
import Derived.Lib.Hide
namespace Go.Proofs.YtiemlefmhleaeaaDoor
set_option linter.unusedVariables false
set_option maxRecDepth 100000
open Go.RowKit
/-- how many names and letters -/
def szl : List ByteArray → Nat
  | [] => 0
  | s :: l => 1 + s.size + szl l
theorem szl_append (a b : List ByteArray) : szl (a ++ b) = szl a + szl b := by
  induction a with
  | nil => simp [szl]
  | cons s a ih => simp only [List.cons_append, szl, ih]; omega
theorem szl_length (l : List ByteArray) : l.length ≤ szl l := by
  induction l with
  | nil => simp
  | cons s a ih => simp only [List.length_cons, szl]; omega
theorem szl_take (l : List ByteArray) (k : Nat) (h : k < l.length) : szl (l.take (k + 1)) = szl (l.take k) + 1 + (l[k]).size := by
  rw [List.take_succ_eq_append_getElem h, szl_append, szl, szl]; omega
theorem szl_split (l : List ByteArray) (k : Nat) : szl (l.take k) + szl (l.drop k) = szl l := by
  rw [← szl_append, List.take_append_drop]
/-- the place of a name in a list, -1 where it is not there -/
def atFrom (s : ByteArray) : Nat → List ByteArray → Int
  | _, [] => -1
  | i, x :: l => if x = s then i else atFrom s (i + 1) l
def atS (l : List ByteArray) (s : ByteArray) : Int := atFrom s 0 l
theorem atFrom_found (s : ByteArray) : ∀ (l : List ByteArray) (i k : Nat) (hk : k < l.length), (∀ j, (hj : j < k) → l[j] ≠ s) → l[k] = s → atFrom s i l = ((i + k : Nat) : Int)
  | [], _, _, hk, _, _ => by simp at hk
  | x :: l, i, 0, _, _, e => by simp at e; simp [atFrom, e]
  | x :: l, i, k + 1, hk, h, e => by
    have h0 : ¬ x = s := h 0 (by omega)
    rw [atFrom, if_neg h0, atFrom_found s l (i + 1) k (by simpa using hk) (fun j hj => h (j + 1) (by omega)) (by simpa using e)]
    congr 1; omega
theorem atFrom_none (s : ByteArray) : ∀ (l : List ByteArray) (i : Nat), (∀ x ∈ l, x ≠ s) → atFrom s i l = -1
  | [], _, _ => rfl
  | x :: l, i, h => by rw [atFrom, if_neg (h x (List.mem_cons_self ..)), atFrom_none s l (i + 1) (fun y hy => h y (List.mem_cons_of_mem _ hy))]
theorem atS_found {l : List ByteArray} {s : ByteArray} {k : Nat} (hk : k < l.length) (h : ∀ j, (hj : j < k) → l[j] ≠ s) (e : l[k] = s) : atS l s = k := by
  rw [atS, atFrom_found s l 0 k hk h e, Nat.zero_add]
theorem atS_none {l : List ByteArray} {s : ByteArray} (h : ∀ j, (hj : j < l.length) → l[j] ≠ s) : atS l s = -1 :=
  atFrom_none s l 0 (fun x hx => by obtain ⟨i, hi, e⟩ := List.getElem_of_mem hx; rw [← e]; exact h i hi)
theorem atFrom_mem (s : ByteArray) : ∀ (l : List ByteArray) (i : Nat), 0 ≤ atFrom s i l ↔ s ∈ l
  | [], _ => by simp [atFrom]
  | x :: l, i => by
    rw [atFrom]
    split
    · rename_i h; subst h; simp
    · rename_i h; rw [atFrom_mem s l (i + 1)]; simp [show ¬ s = x from fun e => h e.symm]
theorem atS_nonneg {l : List ByteArray} {s : ByteArray} : 0 ≤ atS l s ↔ s ∈ l := atFrom_mem s l 0
end Go.Proofs.YtiemlefmhleaeaaDoor
