/- Whether a table of names is right: spec.NamesOk and impl.NamesOk. -/
import Derived.Test.YtiemlefmhleaeaaDoorSign
import Derived.Test.YtiemlefmhleaeaaDoorNames
import Derived.Test.YtiemlefmhleaeaaDoorEnv
namespace Go.Proofs.YtiemlefmhleaeaaDoor
set_option linter.unusedVariables false
set_option maxRecDepth 100000
open Go.RowKit
instance memBa2 (s : ByteArray) (l : List ByteArray) : Decidable (s ∈ l) := @List.instDecidableMemOfLawfulBEq _ instBEqOfDecidableEq inferInstance s l
def namesGo : List ByteArray → List ByteArray → Bool
  | _, [] => true
  | seen, s :: l => decide (s.size ≤ 100) && txt s && !(decide (s ∈ seen)) && namesGo (seen ++ [s]) l
def namesB (l : List ByteArray) : Bool := decide (l.length ≤ 100) && namesGo [] l
theorem namesGo_step (l : List ByteArray) (k : Nat) (h : k < l.length) : namesGo (l.take k) (l.drop k) = (decide (l[k].size ≤ 100) && txt l[k] && !(decide (l[k] ∈ l.take k)) && namesGo (l.take (k + 1)) (l.drop (k + 1))) := by
  rw [List.drop_eq_getElem_cons h, namesGo, List.take_succ_eq_append_getElem h]
theorem atS_first (l : List ByteArray) (k : Nat) (h : k < l.length) : (atS l l[k] = k) ↔ ¬ l[k] ∈ l.take k := by
  constructor
  · intro e hm
    obtain ⟨j, hj, ej⟩ := List.getElem_of_mem hm
    rw [List.length_take] at hj
    rw [List.getElem_take] at ej
    have hf : ∃ j, j < l.length ∧ l[j]? = some l[k] ∧ ∀ q, q < j → l[q]? ≠ some l[k] := by
      have : ∀ n, n < l.length → l[n]? = some l[k] → ∃ j, j ≤ n ∧ l[j]? = some l[k] ∧ ∀ q, q < j → l[q]? ≠ some l[k] := by
        intro n
        induction n using Nat.strongRecOn with
        | ind n ih =>
          intro hn he
          by_cases hx : ∃ q, q < n ∧ l[q]? = some l[k]
          · obtain ⟨q, hq, hqe⟩ := hx
            obtain ⟨j, hj1, hj2, hj3⟩ := ih q hq (by omega) hqe
            exact ⟨j, by omega, hj2, hj3⟩
          · exact ⟨n, Nat.le_refl _, he, fun q hq hqe => hx ⟨q, hq, hqe⟩⟩
      obtain ⟨j', h1, h2, h3⟩ := this j (by omega) (by rw [List.getElem?_eq_getElem (by omega), ej])
      exact ⟨j', by omega, h2, h3⟩
    obtain ⟨j', h1, h2, h3⟩ := hf
    have hle : j' ≤ j := by
      rcases Nat.lt_or_ge j j' with h | h
      · exact absurd (by rw [List.getElem?_eq_getElem (by omega), ej]) (h3 j h)
      · exact h
    have := atS_found (l := l) (s := l[k]) h1 (fun q hq hqe => h3 q hq (by rw [List.getElem?_eq_getElem (by omega), hqe])) (by rw [List.getElem?_eq_getElem h1] at h2; exact Option.some.inj h2)
    rw [this] at e
    omega
  · intro hm
    exact atS_found h (fun j hj e => hm (by rw [← e]; exact List.mem_take_iff_getElem.2 ⟨j, by omega, rfl⟩)) rfl
theorem RepSs.take {w : World} {a : Option Addr} {n cap : Nat} {l : List ByteArray} (h : RepSs w (.slice a n cap) l) (i : Nat) (hi : i ≤ l.length) : RepSs w (.slice a i cap) (l.take i) := by
  obtain ⟨a', b, off, cap', hv, ha, hc, hm, hcell⟩ := h
  simp only [Value.slice.injEq] at hv
  obtain ⟨rfl, rfl, rfl⟩ := hv
  have hl : (l.take i).length = i := by rw [List.length_take]; omega
  refine ⟨a, b, off, cap, by rw [hl], fun hne => ha (fun e => hne (by rw [e]; simp)), by rw [hl]; omega, hm, fun j hj => ?_⟩
  rw [hl] at hj
  rw [List.getElem_take]
  exact hcell j (by omega)
end Go.Proofs.YtiemlefmhleaeaaDoor
