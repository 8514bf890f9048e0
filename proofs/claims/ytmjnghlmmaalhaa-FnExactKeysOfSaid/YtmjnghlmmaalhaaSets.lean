/- A set of strings that a call keeps in a map[string]bool of its own. -/
import Derived.Test.YtmjnghlmmaalhaaStrs
import Derived.Maps.OwnSet
import Derived.WalkKit
import Derived.ProofKit
namespace Go.Proofs.Ytmjnghlmmaalhaa
set_option linter.unusedVariables false
open Go.RowKit Go.Maps Go.WideMaps
instance memBa (s : ByteArray) (l : List ByteArray) : Decidable (s ∈ l) := @List.instDecidableMemOfLawfulBEq _ instBEqOfDecidableEq inferInstance s l
theorem strKey : Keyed Try.prog 9 := string_keyed Try.underlying9
theorem zeroBool (w : World) : (zeroValue 4).run Try.prog w = .ok (.bool false) w := by kernel_rfl
/-- block b is a map of at most n entries whose keys with 'true' are the strings of l -/
def BSet (w : World) (b n : Nat) (l : List ByteArray) : Prop :=
  ∃ D : DataW Unit, w.ownsMap Try.prog 9 (plainElem Try.prog 4) b n D ∧ ∀ s : ByteArray, D.atKey (.string s.data.toList) (.lit (.bool false)) = .lit (.bool (decide (s ∈ l)))
theorem BSet.made (w : World) : BSet (w.alloc (.map #[] 0)) w.heap.size 0 [] := ⟨_, World.ownsMap_made w _ _ _, fun s => by simp; rfl⟩
theorem BSet.lt {w : World} {b n : Nat} {l : List ByteArray} (h : BSet w b n l) : b < w.heap.size := by obtain ⟨D, h, _⟩ := h; exact h.lt
theorem BSet.keep {w w' : World} {b n : Nat} {l : List ByteArray} (h : BSet w b n l) (hb : w'.heap[b]? = w.heap[b]?) : BSet w' b n l := by
  obtain ⟨D, ⟨es, clock, h1, r⟩, h2⟩ := h
  exact ⟨D, ⟨es, clock, by rw [hb]; exact h1, r⟩, h2⟩
theorem BSet.look {w : World} {b n : Nat} {l : List ByteArray} (h : BSet w b n l) (s : ByteArray) (hs : s.size ≤ 9223372036854775807) :
    (Instr.lookup 54 (.map (some b)) (.string s) false).run Try.prog w = .ok (.bool (decide (s ∈ l))) w := by
  obtain ⟨D, h1, h2⟩ := h
  obtain ⟨v, ps, hrun, hv⟩ := h1.lookup strKey Try.underlying54 (zeroBool w) (plainElem_bool Try.underlying4 false) (keyOf_string_mk Try.underlying9 (by simpa [maxLen] using hs))
  rw [h2] at hv
  unfold plainElem at hv
  rw [Try.underlying4] at hv
  cases v <;> simp at hv
  obtain ⟨rfl, _⟩ := hv
  exact hrun
theorem BSet.put {w : World} {b n : Nat} {l : List ByteArray} {D : DataW Unit} (h1 : w.ownsMap Try.prog 9 (plainElem Try.prog 4) b n D) (h2 : ∀ s : ByteArray, D.atKey (.string s.data.toList) (.lit (.bool false)) = .lit (.bool (decide (s ∈ l)))) (s : ByteArray) :
    ∀ q : ByteArray, (D.put (.string s.data.toList) (.lit (.bool true))).atKey (.string q.data.toList) (.lit (.bool false)) = .lit (.bool (decide (q ∈ l ++ [s]))) := by
  intro q
  by_cases hq : q = s
  · subst hq
    rw [atKey_put_same h1.isMap (by trivial)]
    simp
  · rw [atKey_put_other (by intro e; exact hq (ba_ext (by injection e))), h2]
    simp [hq]
section
variable {w : World} {ops : Array Oper} {rest : List Oper} {o : Oper} {a : Act} {Q : Exit → Act → World → Prop}
theorem wp_setAdd (hg : o.guard = none) (m x v : Operand) (hop : o.op = Op.mapUpdate 54 m x v) (b n : Nat) (l : List ByteArray) (hm : a.eval m = .map (some b)) (h : BSet w b n l) (hn : n < 9223372036854775807) (s : ByteArray) (hs : s.size ≤ 9223372036854775807)
    (hx : a.eval x = .string s) (hv : a.eval v = .bool true) (hK : ∀ w', BSet w' b (n + 1) (l ++ [s]) → w.grownBy w' (some b) → wpList Try.prog ops Q rest (a.put o.dst undef) w') : wpList Try.prog ops Q (o :: rest) a w := by
  obtain ⟨D, h1, h2⟩ := h
  exact wpList_mapUpdate_own w hg m x v 54 hop 9 4 strKey Try.underlying54 _ b n D hm h1 (by simpa [maxLen] using hn) _ _ _ hx hv (keyOf_string_mk Try.underlying9 (by simpa [maxLen] using hs)) _ [] (plainElem_bool Try.underlying4 true)
    (fun w' h3 h4 => hK w' ⟨_, h3, BSet.put h1 h2 s⟩ h4)
end
/-- the strings of a list, each once, in the order in which they first come -/
def ddStep (o : List ByteArray) (s : ByteArray) : List ByteArray := if s ∈ o then o else o ++ [s]
def dd (L : List ByteArray) : List ByteArray := L.foldl ddStep []
theorem dd_snoc (L : List ByteArray) (s : ByteArray) : dd (L ++ [s]) = ddStep (dd L) s := by simp [dd]
theorem dd_length (L : List ByteArray) : (dd L).length ≤ L.length := by
  have : ∀ (L o : List ByteArray), (L.foldl ddStep o).length ≤ o.length + L.length := by
    intro L
    induction L with
    | nil => simp
    | cons s L ih => intro o; have := ih (ddStep o s); simp only [List.foldl_cons, List.length_cons]; have h2 : (ddStep o s).length ≤ o.length + 1 := by unfold ddStep; split <;> simp
                     omega
  simpa [dd] using this L []
end Go.Proofs.Ytmjnghlmmaalhaa
