/- A set of texts of two kinds (a struct of a number and a string) that a call keeps in a map of its own. -/
import Derived.Test.YtmjnghlmmaalhaaStrs
import Derived.Maps.OwnSet
import Derived.DeepKeys5
import Derived.WalkKit
import Derived.ProofKit
namespace Go.Proofs.Ytmjnghlmmaalhaa
set_option linter.unusedVariables false
set_option maxRecDepth 100000
open Go.RowKit Go.Maps Go.WideMaps
theorem laidOutK : laidOutB Try.prog = true := by kernel_rfl
abbrev KS := Int × ByteArray
instance memKs (s : KS) (l : List KS) : Decidable (s ∈ l) := @List.instDecidableMemOfLawfulBEq _ instBEqOfDecidableEq inferInstance s l
def keyV (a : KS) : Value := .agg #[.int .i64 a.1, .string a.2]
def okK (a : KS) : Prop := In64 a.1 ∧ a.2.size ≤ 9223372036854775807
theorem pairRow : 50 < Try.prog.types.size := of_decide_eq_true (by kernel_rfl)
theorem pairLaw : KeyLaw Try.prog 50 := deep_law_laid laidOutK (m := 3) (by omega) pairRow (by kernel_rfl) (by kernel_rfl)
theorem pairKey : Keyed Try.prog 50 := Keyed.of_law pairLaw
theorem lits_int {d : Nat} {n : Int} (h : In64 n) : Try.prog.keyLits (d + 1) 3 [.int .i64 n] = some [.int .i64 n] := by
  unfold Program.keyLits
  rw [Try.underlying3]
  simp only
  rw [if_pos ⟨by first | rfl | trivial, by simpa [Lit.wf, IntKind.min, IntKind.max, IntKind.signed, IntKind.bits, In64] using h⟩]
theorem lits_str {d : Nat} {s : ByteArray} (h : s.size ≤ 9223372036854775807) : Try.prog.keyLits (d + 1) 9 [.string s] = some [.string s.data.toList] := by
  unfold Program.keyLits
  rw [Try.underlying9]
  simp only
  rw [if_pos (by simpa [maxLen] using h)]
theorem pairCells : Try.prog.cellsOf 50 = 2 ∧ Try.prog.cellsOf 3 = 1 ∧ Try.prog.cellsOf 9 = 1 ∧ Try.prog.keyType 50 = true := ⟨by kernel_rfl, by kernel_rfl, by kernel_rfl, by kernel_rfl⟩
theorem keyV_read (a : KS) (h : okK a) : ∃ l, keyOf Try.prog 50 (keyV a) = some l := by
  obtain ⟨d, hd⟩ : ∃ d, Try.prog.types.size + 1 = d + 1 + 1 := ⟨Try.prog.types.size - 1, by have := pairRow; omega⟩
  have hl : Try.prog.keyLits (d + 1 + 1) 50 [.int .i64 a.1, .string a.2] = some [.int .i64 a.1, .string a.2.data.toList] := by
    unfold Program.keyLits
    rw [Try.underlying50]
    simp [pairCells.1, pairCells.2.1, pairCells.2.2.1, lits_int h.1, lits_str h.2]
  unfold keyOf keyV
  rw [Try.underlying50, hd]
  simp only [Value.formed, Try.underlying50, pairCells.1, pairCells.2.2.2, Value.cells, hl]
  exact ⟨_, rfl⟩
noncomputable def klK (a : KS) : Lit := (keyOf Try.prog 50 (keyV a)).getD (.bool false)
theorem klK_of {a : KS} (h : okK a) : keyOf Try.prog 50 (keyV a) = some (klK a) := by obtain ⟨l, hl⟩ := keyV_read a h; rw [klK, hl]; rfl
theorem klK_inj {a b : KS} (ha : okK a) (hb : okK b) (e : klK a = klK b) : a = b := by
  have h := pairLaw.inj (klK_of ha) (by rw [e]; exact klK_of hb)
  unfold keyV at h
  simp at h
  exact Prod.ext h.1 h.2
theorem zeroBoolK (w : World) : (zeroValue 4).run Try.prog w = .ok (.bool false) w := by kernel_rfl
/-- block b is a map of at most n entries whose keys with 'true' are those of l -/
def KSet (w : World) (b n : Nat) (l : List KS) : Prop :=
  ∃ D : DataW Unit, w.ownsMap Try.prog 50 (plainElem Try.prog 4) b n D ∧ ∀ a : KS, okK a → D.atKey (klK a) (.lit (.bool false)) = .lit (.bool (decide (a ∈ l)))
theorem KSet.made (w : World) : KSet (w.alloc (.map #[] 0)) w.heap.size 0 [] := ⟨_, World.ownsMap_made w _ _ _, fun s _ => by simp; rfl⟩
theorem KSet.lt {w : World} {b n : Nat} {l : List KS} (h : KSet w b n l) : b < w.heap.size := by obtain ⟨D, h, _⟩ := h; exact h.lt
theorem KSet.keep {w w' : World} {b n : Nat} {l : List KS} (h : KSet w b n l) (hb : w'.heap[b]? = w.heap[b]?) : KSet w' b n l := by
  obtain ⟨D, ⟨es, clock, h1, r⟩, h2⟩ := h
  exact ⟨D, ⟨es, clock, by rw [hb]; exact h1, r⟩, h2⟩
theorem KSet.look {w : World} {b n : Nat} {l : List KS} (h : KSet w b n l) (s : KS) (hs : okK s) :
    (Instr.lookup 46 (.map (some b)) (keyV s) false).run Try.prog w = .ok (.bool (decide (s ∈ l))) w := by
  obtain ⟨D, h1, h2⟩ := h
  obtain ⟨v, ps, hrun, hv⟩ := h1.lookup pairKey Try.underlying46 (zeroBoolK w) (plainElem_bool Try.underlying4 false) (klK_of hs)
  rw [h2 s hs] at hv
  unfold plainElem at hv
  rw [Try.underlying4] at hv
  cases v <;> simp at hv
  obtain ⟨rfl, _⟩ := hv
  exact hrun
section
variable {w : World} {ops : Array Oper} {rest : List Oper} {o : Oper} {a : Act} {Q : Exit → Act → World → Prop}
theorem wp_ksetAdd (hg : o.guard = none) (m x v : Operand) (hop : o.op = Op.mapUpdate 46 m x v) (b n : Nat) (l : List KS) (hm : a.eval m = .map (some b)) (h : KSet w b n l) (hn : n < 9223372036854775807) (s : KS) (hs : okK s)
    (hx : a.eval x = keyV s) (hv : a.eval v = .bool true) (hK : ∀ w', KSet w' b (n + 1) (l ++ [s]) → w.grownBy w' (some b) → wpList Try.prog ops Q rest (a.put o.dst undef) w') : wpList Try.prog ops Q (o :: rest) a w := by
  obtain ⟨D, h1, h2⟩ := h
  refine wpList_mapUpdate_own w hg m x v 46 hop 50 4 pairKey Try.underlying46 _ b n D hm h1 (by simpa [maxLen] using hn) _ _ _ hx hv (klK_of hs) _ [] (plainElem_bool Try.underlying4 true)
    (fun w' h3 h4 => hK w' ⟨_, h3, fun q hq => ?_⟩ h4)
  by_cases e : q = s
  · subst e
    rw [atKey_put_same h1.isMap (by obtain ⟨x, hx⟩ := pairLaw.str (klK_of hs); rw [hx]; trivial)]
    simp
  · rw [atKey_put_other (fun x => e (klK_inj hq hs x)), h2 q hq]
    simp [e]
end
end Go.Proofs.Ytmjnghlmmaalhaa
