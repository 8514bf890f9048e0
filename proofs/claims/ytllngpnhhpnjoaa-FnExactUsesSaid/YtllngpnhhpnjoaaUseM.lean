/- Numbers in ascending order, each once: plainly, and slices of ints as they are read. -/
import Derived.Test.YtllngpnhhpnjoaaIntsP
import Derived.Test.YtllngpnhhpnjoaaWalk
import Derived.Lib.SlicesCompact
namespace Go.Proofs.Ytllngpnhhpnjoaa
set_option linter.unusedVariables false
set_option maxRecDepth 100000
open Go.RowKit
def insU : List Int → Int → List Int
  | [], n => [n]
  | x :: l, n => if x < n then x :: insU l n else if x = n then x :: l else n :: x :: l
def SS (l : List Int) : Prop := l.Pairwise (· < ·)
theorem mem_insU {x : Int} : ∀ (l : List Int) (n : Int), x ∈ insU l n ↔ x ∈ l ∨ x = n
  | [], n => by simp [insU]
  | y :: l, n => by
    rw [insU]
    split
    · rw [List.mem_cons, mem_insU l n, List.mem_cons, or_assoc]
    · split
      · rename_i h; subst h
        constructor
        · exact .inl
        · rintro (h | rfl)
          · exact h
          · exact List.mem_cons_self ..
      · rw [List.mem_cons]
        constructor
        · rintro (h | h); exact .inr h; exact .inl h
        · rintro (h | h); exact .inr h; exact .inl h
theorem ss_insU : ∀ (l : List Int) (n : Int), SS l → SS (insU l n)
  | [], n, _ => by simp [insU, SS]
  | y :: l, n, h => by
    unfold SS at *
    rw [List.pairwise_cons] at h
    rw [insU]
    split
    · rename_i hy
      rw [List.pairwise_cons]
      refine ⟨fun a ha => ?_, ss_insU l n h.2⟩
      rcases (mem_insU l n).1 ha with ha | ha
      · exact h.1 a ha
      · omega
    · split
      · exact List.pairwise_cons.2 h
      · rename_i h1 h2
        rw [List.pairwise_cons]
        refine ⟨fun a ha => ?_, List.pairwise_cons.2 h⟩
        rcases List.mem_cons.1 ha with rfl | ha
        · omega
        · have := h.1 a ha; omega
theorem ss_ext : ∀ (l m : List Int), SS l → SS m → (∀ x, x ∈ l ↔ x ∈ m) → l = m
  | [], [], _, _, _ => rfl
  | [], y :: m, _, _, h => by have := (h y).2 (List.mem_cons_self ..); cases this
  | x :: l, [], _, _, h => by have := (h x).1 (List.mem_cons_self ..); cases this
  | x :: l, y :: m, hl, hm, h => by
    unfold SS at hl hm
    rw [List.pairwise_cons] at hl hm
    have hx := (h x).1 (List.mem_cons_self ..)
    have hy := (h y).2 (List.mem_cons_self ..)
    have hxy : x = y := by
      rcases List.mem_cons.1 hx with e | e
      · exact e
      · rcases List.mem_cons.1 hy with e2 | e2
        · exact e2.symm
        · have h1 := hm.1 x e; have h2 := hl.1 y e2; omega
    subst hxy
    rw [ss_ext l m hl.2 hm.2 (fun z => ?_)]
    constructor
    · intro hz
      have h1 := hl.1 z hz
      rcases List.mem_cons.1 ((h z).1 (List.mem_cons_of_mem _ hz)) with e | e
      · omega
      · exact e
    · intro hz
      have h1 := hm.1 z hz
      rcases List.mem_cons.1 ((h z).2 (List.mem_cons_of_mem _ hz)) with e | e
      · omega
      · exact e
theorem compact_upto (d : Array Int) (hs : d.toList.Pairwise (· ≤ ·)) : ∀ m, m ≤ d.size → SS (Lib.compactUpTo d m) ∧ ∀ x, x ∈ Lib.compactUpTo d m ↔ ∃ j, ∃ h : j < d.size, j < m ∧ d[j] = x := by
  have hle : ∀ i j (hi : i < d.size) (hj : j < d.size), i ≤ j → d[i] ≤ d[j] := by
    intro i j hi hj hij
    rcases Nat.lt_or_ge i j with h | h
    · have := List.pairwise_iff_getElem.1 hs i j (by simpa using hi) (by simpa using hj) h
      simpa using this
    · have : i = j := by omega
      subst this; exact Int.le_refl _
  intro m
  induction m with
  | zero => intro _; exact ⟨by simp [Lib.compactUpTo, SS], fun x => by simp [Lib.compactUpTo]⟩
  | succ m ih =>
    intro hm
    obtain ⟨h1, h2⟩ := ih (by omega)
    have hmd : d[m]! = d[m]'(by omega) := getElem!_pos d m (by omega)
    rw [Lib.compactUpTo_succ]
    by_cases hk : Lib.keeps d m = true
    · rw [if_pos hk, hmd]
      refine ⟨?_, fun x => ?_⟩
      · unfold SS at *
        rw [List.pairwise_append]
        refine ⟨h1, by simp, fun a ha b hb => ?_⟩
        obtain rfl := List.mem_singleton.1 hb
        obtain ⟨j, hj, hjm, rfl⟩ := (h2 a).1 ha
        have hm0 : m ≠ 0 := by omega
        have hne : d[m]! ≠ d[m - 1]! := by
          have := of_decide_eq_true hk
          rcases this with h | h
          · exact absurd h hm0
          · exact h
        rw [hmd, getElem!_pos d (m - 1) (by omega)] at hne
        have e1 := hle j (m - 1) hj (by omega) (by omega)
        have e2 := hle (m - 1) m (by omega) (by omega) (by omega)
        omega
      · rw [List.mem_append, h2, List.mem_singleton]
        constructor
        · rintro (⟨j, hj, hjm, e⟩ | e)
          · exact ⟨j, hj, by omega, e⟩
          · exact ⟨m, by omega, by omega, e.symm⟩
        · rintro ⟨j, hj, hjm, e⟩
          by_cases hjm2 : j = m
          · subst hjm2; exact .inr e.symm
          · exact .inl ⟨j, hj, by omega, e⟩
    · rw [if_neg hk, List.append_nil]
      refine ⟨h1, fun x => ?_⟩
      rw [h2]
      constructor
      · rintro ⟨j, hj, hjm, e⟩; exact ⟨j, hj, by omega, e⟩
      · rintro ⟨j, hj, hjm, e⟩
        by_cases hjm2 : j = m
        · subst hjm2
          have hno : ¬ (j = 0 ∨ d[j]! ≠ d[j - 1]!) := by simpa [Lib.keeps] using hk
          have h0 : j ≠ 0 := fun e => hno (.inl e)
          have he : d[j]! = d[j - 1]! := by
            rcases Int.decEq (d[j]!) (d[j - 1]!) with h | h
            · exact absurd (.inr h) hno
            · exact h
          rw [hmd, getElem!_pos d (j - 1) (by omega)] at he
          exact ⟨j - 1, by omega, by omega, by rw [← he]; exact e⟩
        · exact ⟨j, hj, by omega, e⟩
/-- sorted, then each once -/
def sortU (l : List Int) : List Int := Lib.compact (l.mergeSort fun x y => decide (x ≤ y))
theorem sorted_ms (l : List Int) : (l.mergeSort fun x y => decide (x ≤ y)).Pairwise (· ≤ ·) := by
  have := List.pairwise_mergeSort (le := fun x y : Int => decide (x ≤ y)) (by intro a b c h1 h2; simp at *; omega) (by intro a b; simp; omega) l
  exact this.imp (fun h => by simpa using h)
theorem ss_sortU (l : List Int) : SS (sortU l) := by
  unfold sortU Lib.compact
  exact (compact_upto _ (by simpa using sorted_ms l) _ (by simp)).1
theorem mem_sortU (l : List Int) (x : Int) : x ∈ sortU l ↔ x ∈ l := by
  unfold sortU Lib.compact
  rw [(compact_upto _ (by simpa using sorted_ms l) _ (by simp)).2 x]
  have hm : x ∈ (l.mergeSort fun x y => decide (x ≤ y)) ↔ x ∈ l := (List.mergeSort_perm l _).mem_iff
  rw [← hm]
  constructor
  · rintro ⟨j, hj, _, e⟩
    rw [← e]; simp
  · intro h
    obtain ⟨j, hj, e⟩ := List.getElem_of_mem h
    exact ⟨j, by simpa using hj, by simpa using hj, by simpa using e⟩
def isU (t : V) : Bool := decide (t.k = 9) && decide (t.n = 6) && decide (t.kids.length = 1) && decide ((t.kids.headD V0).k = 3)
def uN (t : V) : Int := (t.kids.headD V0).n
def useL (L : List V) : List Int := (L.filter isU).map uN
mutual
def usesT : V → List Int
  | .mk k n e s ks => usesTs ks (if isU (.mk k n e s ks) then insU [] (uN (.mk k n e s ks)) else [])
def usesTs : List V → List Int → List Int
  | [], o => o
  | t :: ts, o => usesTs ts ((usesT t).foldl insU o)
 end
theorem usesT_eq (t : V) : usesT t = usesTs t.kids (if isU t then insU [] (uN t) else []) := by cases t; rw [usesT]; rfl
theorem foldl_ins (l o : List Int) (h : SS o) : SS (l.foldl insU o) ∧ ∀ x, x ∈ l.foldl insU o ↔ x ∈ o ∨ x ∈ l := by
  induction l generalizing o with
  | nil => exact ⟨h, fun x => by simp⟩
  | cons y l ih =>
    obtain ⟨h1, h2⟩ := ih (insU o y) (ss_insU o y h)
    refine ⟨h1, fun x => ?_⟩
    rw [List.foldl_cons, h2, mem_insU, List.mem_cons, or_assoc]
theorem useL_append (a b : List V) : useL (a ++ b) = useL a ++ useL b := by unfold useL; rw [List.filter_append, List.map_append]
mutual
theorem uses_law : ∀ t : V, SS (usesT t) ∧ ∀ x, x ∈ usesT t ↔ x ∈ useL t.pre
  | .mk k n e s ks => by
    rw [usesT_eq, V.pre_eq]
    have h0 : SS (if isU (.mk k n e s ks) then insU [] (uN (.mk k n e s ks)) else []) := by
      split
      · simp [insU, SS]
      · simp [SS]
    obtain ⟨h1, h2⟩ := usess_law ks _ h0
    refine ⟨h1, fun x => (h2 x).trans ?_⟩
    rw [show ((.mk k n e s ks : V) :: pres (V.mk k n e s ks).kids) = [.mk k n e s ks] ++ pres ks from rfl, useL_append, List.mem_append]
    unfold useL
    by_cases h : isU (.mk k n e s ks) = true
    · rw [if_pos h, List.filter_cons_of_pos h]; simp [insU]
    · rw [if_neg h, List.filter_cons_of_neg h]; simp
theorem usess_law : ∀ (ts : List V) (o : List Int), SS o → SS (usesTs ts o) ∧ ∀ x, x ∈ usesTs ts o ↔ x ∈ o ∨ x ∈ useL (pres ts)
  | [], o, h => ⟨by rw [usesTs]; exact h, fun x => by rw [usesTs]; simp [pres, useL]⟩
  | t :: ts, o, h => by
    obtain ⟨h1, h2⟩ := uses_law t
    obtain ⟨h3, h4⟩ := foldl_ins (usesT t) o h
    obtain ⟨h5, h6⟩ := usess_law ts _ h3
    rw [usesTs]
    refine ⟨h5, fun x => ?_⟩
    rw [h6, h4, h2, pres, useL_append, List.mem_append, or_assoc]
 end
theorem uses_same (t : V) : usesT t = sortU (useL t.pre) :=
  ss_ext _ _ (uses_law t).1 (ss_sortU _) (fun x => ((uses_law t).2 x).trans (mem_sortU _ x).symm)
theorem usesTs_take (ts : List V) (o : List Int) (j : Nat) (hj : j < ts.length) : usesTs (ts.take (j + 1)) o = (usesT ts[j]).foldl insU (usesTs (ts.take j) o) := by
  have key : ∀ (a : List V) (t : V) (o : List Int), usesTs (a ++ [t]) o = (usesT t).foldl insU (usesTs a o) := by
    intro a
    induction a with
    | nil => intro t o; simp [usesTs]
    | cons u a ih => intro t o; rw [List.cons_append, usesTs, usesTs, ih]
  rw [List.take_succ_eq_append_getElem hj, key]
theorem insU_length (l : List Int) (n : Int) : (insU l n).length ≤ l.length + 1 := by
  induction l with
  | nil => simp [insU]
  | cons x l ih => rw [insU]; split; (simp; omega); split <;> simp
theorem foldl_length (l o : List Int) : (l.foldl insU o).length ≤ o.length + l.length := by
  induction l generalizing o with
  | nil => simp
  | cons x l ih => rw [List.foldl_cons]; have := ih (insU o x); have := insU_length o x; simp only [List.length_cons]; omega
mutual
theorem usesT_length : ∀ t : V, (usesT t).length ≤ t.pre.length
  | .mk k n e s ks => by
    rw [usesT_eq, V.pre_eq]
    have := usesTs_length ks (if isU (.mk k n e s ks) then insU [] (uN (.mk k n e s ks)) else [])
    have h1 : (if isU (.mk k n e s ks) then insU [] (uN (.mk k n e s ks)) else []).length ≤ 1 := by split <;> simp [insU]
    simp only [List.length_cons, V.kids] at *
    omega
theorem usesTs_length : ∀ (ts : List V) (o : List Int), (usesTs ts o).length ≤ o.length + (pres ts).length
  | [], o => by simp [usesTs]
  | t :: ts, o => by
    rw [usesTs, pres, List.length_append]
    have h1 := usesTs_length ts ((usesT t).foldl insU o)
    have h2 := foldl_length (usesT t) o
    have h3 := usesT_length t
    omega
 end
/-- the place at which a number goes in -/
theorem insU_at : ∀ (l : List Int) (n : Int) (k : Nat), k ≤ l.length → (∀ j (h : j < l.length), j < k → l[j] < n) → (∀ h : k < l.length, ¬ l[k] < n) →
    insU l n = if (∃ h : k < l.length, l[k] = n) then l else l.take k ++ [n] ++ l.drop k
  | [], n, k, hk, _, _ => by
    have : k = 0 := by simpa using hk
    subst this
    rw [if_neg (by rintro ⟨h, _⟩; simp at h)]; simp [insU]
  | x :: l, n, 0, _, _, h0 => by
    have hx : ¬ x < n := h0 (by simp)
    rw [insU, if_neg hx]
    by_cases e : x = n
    · rw [if_pos e, if_pos ⟨by simp, e⟩]
    · rw [if_neg e, if_neg (by rintro ⟨_, h⟩; exact e h)]; simp
  | x :: l, n, k + 1, hk, h1, h0 => by
    have hx : x < n := h1 0 (by simp) (by omega)
    rw [insU, if_pos hx, insU_at l n k (by simpa using hk) (fun j hj hjk => by have := h1 (j + 1) (by simpa using hj) (by omega); simpa using this) (fun h => by have := h0 (by simpa using h); simpa using this)]
    by_cases e : ∃ h : k < l.length, l[k] = n
    · rw [if_pos e, if_pos (by obtain ⟨h, e⟩ := e; exact ⟨by simpa using h, by simpa using e⟩)]
    · rw [if_neg e, if_neg (by rintro ⟨h, e2⟩; exact e ⟨by simpa using h, by simpa using e2⟩)]; simp
end Go.Proofs.Ytllngpnhhpnjoaa
