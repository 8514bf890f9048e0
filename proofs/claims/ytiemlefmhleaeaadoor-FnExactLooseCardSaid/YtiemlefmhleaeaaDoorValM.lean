/- Right values, plainly: what the reference's ValueOk and the program's reckon is one. No program in sight. -/
import Derived.Test.YtiemlefmhleaeaaDoorVal
import Derived.Lib.ValidLaws
namespace Go.Proofs.YtiemlefmhleaeaaDoor
set_option linter.unusedVariables false
set_option maxRecDepth 100000
open Go.RowKit
def txt (s : ByteArray) : Bool := Lib.validD s.data.toList
mutual
def V.dec : (a b : V) → Decidable (a = b)
  | .mk k n e s ks, .mk k' n' e' s' ks' =>
    if h1 : k = k' ∧ n = n' ∧ e = e' ∧ s = s' then
      match decs ks ks' with
      | isTrue h => isTrue (by obtain ⟨rfl, rfl, rfl, rfl⟩ := h1; rw [h])
      | isFalse h => isFalse (fun x => h (by injection x))
    else isFalse (fun x => h1 (by injection x with a b c d; exact ⟨a, b, c, d⟩))
def decs : (a b : List V) → Decidable (a = b)
  | [], [] => isTrue rfl
  | [], _ :: _ => isFalse (by simp)
  | _ :: _, [] => isFalse (by simp)
  | a :: xs, b :: bs => match V.dec a b with
    | isFalse h => isFalse (fun x => h (by injection x))
    | isTrue h => match decs xs bs with
      | isTrue h2 => isTrue (by rw [h, h2])
      | isFalse h2 => isFalse (fun x => h2 (by injection x))
 end
instance : DecidableEq V := V.dec
/-- a number times ten to a power, where each step stays within 64 bits -/
def fits10 (n : Int) : Nat → Option Int
  | 0 => some n
  | e + 1 => if -9223372036854775808 ≤ n * 10 ∧ n * 10 ≤ 9223372036854775807 then fits10 (n * 10) e else none
def decOk (n e : Int) : Bool :=
  decide (n.tmod 10 ≠ 0 ∧ -999999999999999999 ≤ n ∧ n ≤ 999999999999999999 ∧ -20 ≤ e ∧ e ≤ 20 ∧ e ≠ 0) && !(decide (0 < e) && (fits10 n e.toNat).isSome)
def isKeyB (t : V) : Bool := decide (t.k = 5 ∨ t.k = 3)
/-- the elements at even places -/
def evV : List V → List V
  | [] => []
  | [t] => [t]
  | t :: _ :: ts => t :: evV ts
def keyEq (a b : V) : Prop := a.k = b.k ∧ a.n = b.n ∧ a.s = b.s
instance (a b : V) : Decidable (keyEq a b) := by unfold keyEq; exact inferInstance
/-- keys, each another than all ahead of it -/
def keysB (eq : V → V → Bool) (ts : List V) : Bool := ts.all isKeyB && decide (ts.Pairwise fun a b => eq a b = false)
def pairsB (ts : List V) : Bool := keysB (fun a b => decide (keyEq a b)) (evV ts) && decide (ts.length % 2 = 0) && decide (ts.length ≤ 300)
def pairsI (ts : List V) : Bool := keysB (fun a b => decide (a = b)) (evV ts) && decide (ts.length % 2 = 0)
/-- what a value holds but for its kids -/
def nodeB (t : V) : Bool :=
  if t.k = 0 ∨ t.k = 1 ∨ t.k = 2 ∨ t.k = 7 ∨ t.k = 8 then decide (t.n = 0 ∧ t.e = 0 ∧ t.s.size = 0)
  else if t.k = 3 then decide (t.e = 0 ∧ t.s.size = 0)
  else if t.k = 4 then decOk t.n t.e && decide (t.s.size = 0)
  else if t.k = 5 then decide (t.n = 0 ∧ t.e = 0 ∧ t.s.size ≤ 2000) && txt t.s
  else if t.k = 6 then decide (t.n = 0 ∧ t.e = 0 ∧ t.s.size ≤ 2000)
  else if t.k = 9 then decide (0 ≤ t.n ∧ t.n ≤ 1000000 ∧ t.e = 0 ∧ t.s.size = 0)
  else false
/-- its kids' number, and the keys -/
def areB (t : V) : Bool :=
  if t.k = 7 then true else if t.k = 9 then decide (t.kids.length = 1) else if t.k = 8 then pairsI t.kids else decide (t.kids.length = 0)
/-- as the reference has it -/
def ownB (t : V) : Bool :=
  nodeB t && (if t.k = 7 then true else if t.k = 9 then decide (t.kids.length = 1) else if t.k = 8 then pairsB t.kids else decide (t.kids.length = 0))
mutual
def rightB : V → Int → Bool
  | .mk k n e s ks, d => decide (0 ≤ d) && ownB (.mk k n e s ks) && rightsB ks (d - 1)
def rightsB : List V → Int → Bool
  | [], _ => true
  | t :: ts, d => rightB t d && rightsB ts d
 end
mutual
def V.nodes : V → Nat
  | .mk _ _ _ _ ks => 1 + nodess ks
def nodess : List V → Nat
  | [] => 0
  | t :: ts => t.nodes + nodess ts
 end
theorem V.nodes_eq (t : V) : t.nodes = 1 + nodess t.kids := by cases t; rw [V.nodes]; rfl
theorem rightB_eq (t : V) (d : Int) : rightB t d = (decide (0 ≤ d) && ownB t && rightsB t.kids (d - 1)) := by cases t; rw [rightB]; rfl
theorem nodess_length : ∀ ts : List V, ts.length ≤ nodess ts
  | [] => by simp
  | t :: ts => by have := nodess_length ts; have := V.nodes_eq t; simp only [nodess, List.length_cons]; omega
theorem nodess_append : ∀ a b : List V, nodess (a ++ b) = nodess a + nodess b
  | [], b => by simp [nodess]
  | t :: a, b => by simp only [List.cons_append, nodess, nodess_append a b]; omega
mutual
theorem nodes_sz : ∀ t : V, t.nodes ≤ 1 + t.sz
  | .mk k n e s ks => by have := nodess_sz ks; simp only [V.nodes, V.sz]; omega
theorem nodess_sz : ∀ ts : List V, nodess ts ≤ szs ts
  | [] => by simp [nodess]
  | t :: ts => by have h1 := nodes_sz t; have h2 := nodess_sz ts; simp only [nodess, szs]; omega
 end
/-- a value that is right -/
def okT (t : V) : Bool := rightB t 12 && decide (t.nodes ≤ 300)
theorem rightsB_all (ts : List V) (d : Int) : rightsB ts d = ts.all fun t => rightB t d := by
  induction ts with
  | nil => rfl
  | cons t ts ih => simp only [rightsB, List.all_cons, ih]
/-- the program's way: how many nodes are left, none where the value is not right -/
def impStep (t : V) (d L : Int) : Bool := decide (0 ≤ L - 1 ∧ d ≤ 12 ∧ (t.kids.length : Int) ≤ L - 1) && nodeB t && areB t
mutual
def imp : V → Int → Int → Option Int
  | .mk k n e s ks, d, L => if impStep (.mk k n e s ks) d L then imps ks (d + 1) (L - 1) else none
def imps : List V → Int → Int → Option Int
  | [], _, L => some L
  | t :: ts, d, L => (imp t d L).bind fun L' => imps ts d L'
 end
theorem imp_eq (t : V) (d L : Int) : imp t d L = if impStep t d L then imps t.kids (d + 1) (L - 1) else none := by cases t; rw [imp]; rfl
theorem mem_evV {t : V} : ∀ {ts : List V}, t ∈ evV ts → t ∈ ts
  | [], h => by simp [evV] at h
  | [u], h => by simpa [evV] using h
  | u :: v :: ts, h => by
    simp only [evV, List.mem_cons] at h
    rcases h with h | h
    · simp [h]
    · have := mem_evV h; simp [this]
theorem ba_empty {s : ByteArray} (h : s.size = 0) : s = ⟨#[]⟩ := by cases s; rename_i d; simp [ByteArray.size] at h; simp [h]
theorem key_full {t : V} (hk : isKeyB t = true) (hn : nodeB t = true) (hr : t.kids.length = 0) : t = if t.k = 5 then .mk 5 0 0 t.s [] else .mk 3 t.n 0 ⟨#[]⟩ [] := by
  have hk' : t.k = 5 ∨ t.k = 3 := of_decide_eq_true hk
  have hr' : t.kids = [] := List.eq_nil_of_length_eq_zero hr
  have he := V.eta t
  unfold nodeB at hn
  rcases hk' with h5 | h3
  · rw [if_pos h5]
    rw [if_neg (by omega), if_neg (by omega), if_neg (by omega), if_pos h5] at hn
    simp only [Bool.and_eq_true, decide_eq_true_eq] at hn
    rw [h5, hn.1.1, hn.1.2.1, hr'] at he
    exact he.symm
  · rw [if_neg (by omega)]
    rw [if_neg (by omega), if_pos h3] at hn
    simp only [decide_eq_true_eq] at hn
    rw [h3, hn.1, ba_empty hn.2, hr'] at he
    exact he.symm
theorem keyEq_iff {a b : V} (ha : isKeyB a = true ∧ nodeB a = true ∧ a.kids.length = 0) (hb : isKeyB b = true ∧ nodeB b = true ∧ b.kids.length = 0) : keyEq a b ↔ a = b := by
  constructor
  · rintro ⟨h1, h2, h3⟩
    rw [key_full ha.1 ha.2.1 ha.2.2, key_full hb.1 hb.2.1 hb.2.2, h1, h2, h3]
  · rintro rfl; exact ⟨rfl, rfl, rfl⟩
theorem pairwise_congr {α : Type} {R S : α → α → Prop} {l : List α} (h : ∀ a ∈ l, ∀ b ∈ l, R a b ↔ S a b) : l.Pairwise R ↔ l.Pairwise S := by
  induction l with
  | nil => simp
  | cons x l ih =>
    simp only [List.pairwise_cons]
    rw [ih (fun a ha b hb => h a (List.mem_cons_of_mem _ ha) b (List.mem_cons_of_mem _ hb))]
    constructor
    · rintro ⟨h1, h2⟩; exact ⟨fun a ha => (h x (List.mem_cons_self ..) a (List.mem_cons_of_mem _ ha)).1 (h1 a ha), h2⟩
    · rintro ⟨h1, h2⟩; exact ⟨fun a ha => (h x (List.mem_cons_self ..) a (List.mem_cons_of_mem _ ha)).2 (h1 a ha), h2⟩
theorem rightB_leaf {t : V} {d : Int} (h : rightB t d = true) : nodeB t = true ∧ (isKeyB t = true → t.kids.length = 0) := by
  rw [rightB_eq] at h
  simp only [Bool.and_eq_true, ownB] at h
  refine ⟨h.1.2.1, fun hk => ?_⟩
  have h2 := h.1.2.2
  simp only [isKeyB, decide_eq_true_eq] at hk
  rw [if_neg (by omega), if_neg (by omega), if_neg (by omega)] at h2
  simpa using h2
/-- where all kids are right, both ways to ask for the keys are one -/
theorem pairs_same {ts : List V} {d : Int} (h : rightsB ts d = true) (hl : ts.length ≤ 300) : pairsB ts = pairsI ts := by
  rw [rightsB_all, List.all_eq_true] at h
  unfold pairsB pairsI keysB
  rw [decide_eq_true hl, Bool.and_true]
  congr 1
  by_cases ha : (evV ts).all isKeyB = true
  · rw [ha, Bool.true_and, Bool.true_and, decide_eq_decide]
    rw [List.all_eq_true] at ha
    apply pairwise_congr
    intro a hA b hB
    have h1 := rightB_leaf (h a (mem_evV hA))
    have h2 := rightB_leaf (h b (mem_evV hB))
    rw [decide_eq_false_iff_not, decide_eq_false_iff_not, keyEq_iff ⟨ha a hA, h1.1, h1.2 (ha a hA)⟩ ⟨ha b hB, h2.1, h2.2 (ha b hB)⟩]
  · rw [Bool.eq_false_iff.2 ha, Bool.false_and, Bool.false_and]
theorem own_are {t : V} {d : Int} (h : rightsB t.kids d = true) (hl : t.kids.length ≤ 300) : ownB t = (nodeB t && areB t) := by
  unfold ownB areB
  rw [pairs_same h hl]
mutual
theorem imp_is : ∀ (t : V) (d L : Int), 0 ≤ d → 0 ≤ L → L ≤ 300 → imp t d L = if rightB t (12 - d) = true ∧ (t.nodes : Int) ≤ L then some (L - t.nodes) else none
  | .mk k n e s ks, d, L, hd, hL, hL3 => by
    have hlen := nodess_length ks
    rw [imp, rightB, V.nodes]
    by_cases h1 : 0 ≤ L - 1
    · rw [imps_is ks (d + 1) (L - 1) (by omega) h1 (by omega)]
      rw [show 12 - (d + 1) = 12 - d - 1 by omega]
      by_cases hr : rightsB ks (12 - d - 1) = true ∧ (nodess ks : Int) ≤ L - 1
      · rw [if_pos hr]
        have ho := own_are (t := .mk k n e s ks) hr.1 (by simp only [V.kids]; omega)
        rw [ho]
        by_cases hs : impStep (.mk k n e s ks) d L = true
        · rw [if_pos hs]
          simp only [impStep, Bool.and_eq_true] at hs
          have hd1 := of_decide_eq_true hs.1.1
          rw [if_pos ⟨by rw [decide_eq_true (show 0 ≤ 12 - d by omega), hr.1, hs.1.2, hs.2]; rfl, by omega⟩]
          congr 1; omega
        · rw [if_neg hs, if_neg]
          rintro ⟨h2, h3⟩
          simp only [Bool.and_eq_true, decide_eq_true_eq] at h2
          apply hs
          simp only [impStep, Bool.and_eq_true]
          exact ⟨⟨decide_eq_true ⟨h1, by omega, by show (ks.length : Int) ≤ _; omega⟩, h2.1.2.1⟩, h2.1.2.2⟩
      · rw [if_neg hr]
        have hno : ¬ ((decide (0 ≤ 12 - d) && ownB (.mk k n e s ks) && rightsB ks (12 - d - 1)) = true ∧ ((1 + nodess ks : Nat) : Int) ≤ L) := by
          rintro ⟨h2, h3⟩
          simp only [Bool.and_eq_true] at h2
          exact hr ⟨h2.2, by omega⟩
        rw [if_neg hno]
        split <;> rfl
    · rw [if_neg, if_neg]
      · rintro ⟨_, h3⟩; omega
      · simp [impStep]; omega
theorem imps_is : ∀ (ts : List V) (d L : Int), 0 ≤ d → 0 ≤ L → L ≤ 300 → imps ts d L = if rightsB ts (12 - d) = true ∧ (nodess ts : Int) ≤ L then some (L - nodess ts) else none
  | [], d, L, hd, hL, hL3 => by rw [imps, if_pos ⟨rfl, by simpa [nodess] using hL⟩]; simp [nodess]
  | t :: ts, d, L, hd, hL, hL3 => by
    rw [imps, imp_is t d L hd hL hL3, rightsB, nodess]
    by_cases h1 : rightB t (12 - d) = true ∧ (t.nodes : Int) ≤ L
    · rw [if_pos h1, Option.bind_some, imps_is ts d (L - t.nodes) hd (by omega) (by omega)]
      by_cases h2 : rightsB ts (12 - d) = true ∧ (nodess ts : Int) ≤ L - t.nodes
      · rw [if_pos h2, if_pos ⟨by rw [h1.1, h2.1]; rfl, by omega⟩]; congr 1; omega
      · rw [if_neg h2, if_neg]
        rintro ⟨h3, h4⟩
        simp only [Bool.and_eq_true] at h3
        exact h2 ⟨h3.2, by omega⟩
    · rw [if_neg h1, if_neg]
      · rfl
      · rintro ⟨h3, h4⟩
        simp only [Bool.and_eq_true] at h3
        exact h1 ⟨h3.1, by omega⟩
 end
/-- both ways to ask are one -/
theorem imp_ok (t : V) : (imp t 0 300).isSome = okT t := by
  rw [imp_is t 0 300 (by omega) (by omega) (by omega)]
  unfold okT
  rw [show (12 : Int) - 0 = 12 by omega]
  by_cases h : rightB t 12 = true ∧ (t.nodes : Int) ≤ 300
  · rw [if_pos h]; simp [h.1]; omega
  · rw [if_neg h]
    cases h2 : rightB t 12
    · rfl
    · simp [h2] at h; simp; omega
end Go.Proofs.YtiemlefmhleaeaaDoor
