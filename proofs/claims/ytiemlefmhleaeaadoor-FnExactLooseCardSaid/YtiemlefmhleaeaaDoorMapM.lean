/- Keys of maps turned into numbers and back, plainly. No program in sight. -/
import Derived.Test.YtiemlefmhleaeaaDoorValM
import Derived.Test.YtiemlefmhleaeaaDoorAreKids
import Derived.Test.YtiemlefmhleaeaaDoorNamesOk
namespace Go.Proofs.YtiemlefmhleaeaaDoor
set_option linter.unusedVariables false
set_option maxRecDepth 100000
open Go.RowKit
theorem nodes_mem {t : V} {ts : List V} (h : t ∈ ts) : t.nodes ≤ nodess ts := by
  induction ts with
  | nil => cases h
  | cons u us ih =>
    rw [nodess]
    rcases List.mem_cons.1 h with rfl | h
    · omega
    · have := ih h; omega
theorem nodess_congr : ∀ {ts us : List V}, ts.length = us.length → (∀ j (h : j < ts.length) (h' : j < us.length), ts[j].nodes = us[j].nodes) → nodess ts = nodess us
  | [], [], _, _ => rfl
  | t :: ts, u :: us, hl, h => by
    have h0 : t.nodes = u.nodes := h 0 (by simp) (by simp)
    rw [nodess, nodess, h0, nodess_congr (ts := ts) (us := us) (by simpa using hl) (fun j hj hj' => h (j + 1) (by simpa using hj) (by simpa using hj'))]
theorem atFrom_at (s : ByteArray) : ∀ (l : List ByteArray) (i : Nat), 0 ≤ atFrom s i l → ∃ k, ∃ h : k < l.length, atFrom s i l = ((i + k : Nat) : Int) ∧ l[k] = s
  | [], i, h => by simp [atFrom] at h
  | x :: l, i, h => by
    by_cases hx : x = s
    · exact ⟨0, by simp, by simp [atFrom, hx], hx⟩
    · simp only [atFrom, if_neg hx] at h ⊢
      obtain ⟨k, hk, e1, e2⟩ := atFrom_at s l (i + 1) h
      exact ⟨k + 1, by simpa using hk, by rw [e1]; congr 1; omega, by simpa using e2⟩
theorem atS_at {l : List ByteArray} {s : ByteArray} (h : 0 ≤ atS l s) : ∃ k, ∃ h : k < l.length, (atS l s = ((k : Nat) : Int) ∧ l[k] = s) := by
  obtain ⟨k, hk, e1, e2⟩ := atFrom_at s l 0 h
  exact ⟨k, hk, by rw [atS, e1, Nat.zero_add], e2⟩
mutual
/-- a value whose kids are turned: f is told whether the kid is a key, the kid, and the kid turned -/
def trn (f : Bool → V → Option V → Option V) : V → Option V
  | .mk k n e s ks => (trns f (decide (k = 8)) 0 ks).map (V.mk k n e s)
def trns (f : Bool → V → Option V → Option V) (m : Bool) : Nat → List V → Option (List V)
  | _, [] => some []
  | i, t :: ts => (f (m && decide (i % 2 = 0)) t (trn f t)).bind fun x => (trns f m (i + 1) ts).map fun xs => x :: xs
 end
theorem trn_eq (f : Bool → V → Option V → Option V) (t : V) : trn f t = (trns f (decide (t.k = 8)) 0 t.kids).map (V.mk t.k t.n t.e t.s) := by cases t; rw [trn]; rfl
theorem trns_snoc (f : Bool → V → Option V → Option V) (m : Bool) : ∀ (ts : List V) (i : Nat) (t : V),
    trns f m i (ts ++ [t]) = (trns f m i ts).bind fun xs => (f (m && decide ((i + ts.length) % 2 = 0)) t (trn f t)).map fun x => xs ++ [x]
  | [], i, t => by simp only [List.nil_append, trns, List.length_nil, Nat.add_zero, Option.bind_some]; cases f (m && decide (i % 2 = 0)) t (trn f t) <;> rfl
  | u :: ts, i, t => by
    simp only [List.cons_append, trns, List.length_cons]
    rw [trns_snoc f m ts (i + 1) t, show i + 1 + ts.length = i + (ts.length + 1) by omega]
    cases f (m && decide (i % 2 = 0)) u (trn f u) with
    | none => rfl
    | some x =>
      simp only [Option.bind_some]
      cases trns f m (i + 1) ts with
      | none => rfl
      | some xs =>
        simp only [Option.bind_some, Option.map_some]
        cases f (m && decide ((i + (ts.length + 1)) % 2 = 0)) t (trn f t) <;> rfl
theorem trns_take (f : Bool → V → Option V → Option V) (m : Bool) (ts : List V) (j : Nat) (hj : j < ts.length) :
    trns f m 0 (ts.take (j + 1)) = (trns f m 0 (ts.take j)).bind fun xs => (f (m && decide (j % 2 = 0)) ts[j] (trn f ts[j])).map fun x => xs ++ [x] := by
  rw [List.take_succ_eq_append_getElem hj, trns_snoc, List.length_take, Nat.min_eq_left (by omega), Nat.zero_add]
theorem trns_append_none (f : Bool → V → Option V → Option V) (m : Bool) : ∀ (a b : List V) (i : Nat), trns f m i a = none → trns f m i (a ++ b) = none
  | [], b, i, h => by simp [trns] at h
  | t :: a, b, i, h => by
    simp only [List.cons_append, trns] at h ⊢
    cases hf : f (m && decide (i % 2 = 0)) t (trn f t) with
    | none => rfl
    | some x =>
      rw [hf] at h
      simp only [Option.bind_some] at h ⊢
      cases hr : trns f m (i + 1) a with
      | none => rw [trns_append_none f m a b (i + 1) hr]; rfl
      | some xs => rw [hr] at h; simp at h
theorem trns_none (f : Bool → V → Option V → Option V) (m : Bool) (ts : List V) (j : Nat) (h : trns f m 0 (ts.take j) = none) : trns f m 0 ts = none := by
  have := trns_append_none f m (ts.take j) (ts.drop j) 0 h
  rwa [List.take_append_drop] at this
theorem trns_get (f : Bool → V → Option V → Option V) (m : Bool) : ∀ (ts us : List V) (i : Nat), trns f m i ts = some us →
    us.length = ts.length ∧ ∀ j (h : j < ts.length) (h' : j < us.length), f (m && decide ((i + j) % 2 = 0)) ts[j] (trn f ts[j]) = some us[j]
  | [], us, i, h => by simp only [trns, Option.some.injEq] at h; subst h; exact ⟨rfl, fun j h => absurd h (by simp)⟩
  | t :: ts, us, i, h => by
    simp only [trns] at h
    cases hf : f (m && decide (i % 2 = 0)) t (trn f t) with
    | none => rw [hf] at h; simp at h
    | some x =>
      rw [hf] at h
      simp only [Option.bind_some] at h
      cases hr : trns f m (i + 1) ts with
      | none => rw [hr] at h; simp at h
      | some xs =>
        rw [hr] at h
        simp only [Option.map_some, Option.some.injEq] at h
        subst h
        obtain ⟨hl, hg⟩ := trns_get f m ts xs (i + 1) hr
        refine ⟨by simp [hl], fun j hj hj' => ?_⟩
        cases j with
        | zero => simpa using hf
        | succ j =>
          have := hg j (by simpa using hj) (by simpa using hj')
          rw [show i + 1 + j = i + (j + 1) by omega] at this
          simpa using this
/-- the key of a map, where the map is right -/
theorem key_at {t : V} {d : Int} (h : rightB t d = true) (hk : t.k = 8) (j : Nat) (hj : j < t.kids.length) (he : j % 2 = 0) : isKeyB t.kids[j] = true := by
  rw [rightB_eq] at h
  simp only [Bool.and_eq_true, ownB] at h
  have h2 := h.1.2.2
  rw [if_neg (by omega), if_neg (by omega), if_pos hk] at h2
  simp only [pairsB, keysB, Bool.and_eq_true, decide_eq_true_eq] at h2
  have hlen := h2.1.2
  have hall := List.all_eq_true.1 h2.1.1.1
  refine hall _ ?_
  have := (mem_evV_take t.kids t.kids.length hlen t.kids[j]).2 ⟨j, hj, hj, he, rfl⟩
  rwa [List.take_length] at this
theorem rightsB_at {ts : List V} {d : Int} (h : rightsB ts d = true) (j : Nat) (hj : j < ts.length) : rightB ts[j] d = true := by
  rw [rightsB_all, List.all_eq_true] at h
  exact h _ (List.getElem_mem hj)
theorem right_kids {t : V} {d : Int} (h : rightB t d = true) : rightsB t.kids (d - 1) = true := by
  rw [rightB_eq] at h
  simp only [Bool.and_eq_true] at h
  exact h.2
theorem leaf_trn (f : Bool → V → Option V → Option V) {t : V} (h : t.kids = []) : trn f t = some t := by
  rw [trn_eq, h]; simp only [trns, Option.map_some]; rw [← h, V.eta]
theorem key_leaf {t : V} {d : Int} (h : rightB t d = true) (hk : isKeyB t = true) : t.kids = [] := List.eq_nil_of_length_eq_zero ((rightB_leaf h).2 hk)
/-- two ways that agree at right kids agree -/
theorem trns_congr (f g : Bool → V → Option V → Option V) (m : Bool) : ∀ (ts : List V) (i : Nat),
    (∀ j (h : j < ts.length), f (m && decide ((i + j) % 2 = 0)) ts[j] (trn f ts[j]) = g (m && decide ((i + j) % 2 = 0)) ts[j] (trn g ts[j])) → trns f m i ts = trns g m i ts
  | [], i, h => by simp [trns]
  | t :: ts, i, h => by
    have h0 := h 0 (by simp)
    simp only [Nat.add_zero, List.getElem_cons_zero] at h0
    rw [trns, trns, h0, trns_congr f g m ts (i + 1) (fun j hj => by
      have := h (j + 1) (by simpa using hj)
      simp only [List.getElem_cons_succ] at this
      rw [show i + 1 + j = i + (j + 1) by omega]; exact this)]
theorem trn_congr (f g : Bool → V → Option V → Option V) (H : ∀ b t d, rightB t d = true → (b = true → isKeyB t = true) → trn f t = trn g t → f b t (trn f t) = g b t (trn g t)) :
    ∀ (N : Nat) (t : V) (d : Int), t.nodes ≤ N → rightB t d = true → trn f t = trn g t := by
  intro N
  induction N with
  | zero => intro t d h; rw [V.nodes_eq] at h; omega
  | succ N ih =>
    intro t d hN hr
    have hk := right_kids hr
    rw [trn_eq, trn_eq]
    congr 1
    refine trns_congr f g _ _ 0 (fun j hj => ?_)
    have hrj := rightsB_at hk j hj
    refine H _ _ (d - 1) hrj ?_ (ih _ (d - 1) ?_ hrj)
    · intro hb
      simp only [Bool.and_eq_true, decide_eq_true_eq, Nat.zero_add] at hb
      exact key_at hr hb.1 j hj hb.2
    · have := nodes_mem (List.getElem_mem hj)
      rw [V.nodes_eq] at hN; omega
def intV (n : Int) : V := .mk 3 n 0 ⟨#[]⟩ []
def textV (s : ByteArray) : V := .mk 5 0 0 s []
def keyM (l : List ByteArray) (b : Bool) (u : V) : V := if b = true ∧ u.k = 5 ∧ 0 ≤ atS l u.s then intV (atS l u.s) else u
/-- the reference's map, and the program's -/
def mapS (l : List ByteArray) : Bool → V → Option V → Option V := fun b _ r => r.map (keyM l b)
def byMap (l : List ByteArray) (t : V) : Option V := if t.k = 5 then some (keyM l true t) else none
def mapI (l : List ByteArray) : Bool → V → Option V → Option V := fun b t r => if b then byMap l t else r
def unkey (l : List ByteArray) (n : Int) : Option V := if 0 ≤ n ∧ n ≤ (l.length : Int) - 1 then some (textV (l.getD n.toNat ⟨#[]⟩)) else none
def unS (l : List ByteArray) : Bool → V → Option V → Option V := fun b _ r => r.bind fun u => if b = true ∧ u.k = 3 then unkey l u.n else some u
def byUn (l : List ByteArray) (t : V) : Option V := if t.k = 5 then some t else unkey l t.n
def unI (l : List ByteArray) : Bool → V → Option V → Option V := fun b t r => if b then byUn l t else r
theorem un_same (l : List ByteArray) {t : V} {d : Int} (h : rightB t d = true) : trn (unI l) t = trn (unS l) t := by
  refine trn_congr _ _ ?_ _ t d (Nat.le_refl _) h
  intro b t d hr hk he
  cases b with
  | false =>
    rw [he]; unfold unI unS
    cases trn (unS l) t <;> simp
  | true =>
    have hkk := hk rfl
    rw [leaf_trn _ (key_leaf hr hkk), leaf_trn _ (key_leaf hr hkk)]
    unfold unI unS byUn
    simp only [isKeyB, decide_eq_true_eq] at hkk
    simp only [Option.bind_some, if_true, true_and]
    rcases hkk with h5 | h3
    · rw [if_pos h5, if_neg (by omega)]
    · rw [if_neg (by omega), if_pos h3]
mutual
def whole : V → Bool
  | .mk k _ _ _ ks => wholes (decide (k = 8)) 0 ks
def wholes (m : Bool) : Nat → List V → Bool
  | _, [] => false
  | i, t :: ts => (m && decide (i % 2 = 0) && decide (t.k = 3)) || whole t || wholes m (i + 1) ts
 end
theorem whole_eq (t : V) : whole t = wholes (decide (t.k = 8)) 0 t.kids := by cases t; rw [whole]; rfl
theorem wholes_any (m : Bool) : ∀ (ts : List V) (i : Nat), wholes m i ts = true ↔ ∃ j, ∃ h : j < ts.length, (m = true ∧ (i + j) % 2 = 0 ∧ ts[j].k = 3) ∨ whole ts[j] = true
  | [], i => by simp [wholes]
  | t :: ts, i => by
    rw [wholes]
    simp only [Bool.or_eq_true, Bool.and_eq_true, decide_eq_true_eq]
    rw [wholes_any m ts (i + 1)]
    constructor
    · rintro ((⟨⟨h1, h2⟩, h3⟩ | h) | ⟨j, hj, h⟩)
      · exact ⟨0, by simp, .inl ⟨h1, h2, h3⟩⟩
      · exact ⟨0, by simp, .inr h⟩
      · refine ⟨j + 1, by simpa using hj, ?_⟩
        rw [show i + (j + 1) = i + 1 + j by omega]; simpa using h
    · rintro ⟨j, hj, h⟩
      cases j with
      | zero =>
        rcases h with ⟨h1, h2, h3⟩ | h
        · exact .inl (.inl ⟨⟨h1, h2⟩, h3⟩)
        · exact .inl (.inr h)
      | succ j =>
        refine .inr ⟨j, by simpa using hj, ?_⟩
        rw [show i + (j + 1) = i + 1 + j by omega] at h; simpa using h
theorem mapS_some (l : List ByteArray) : ∀ (N : Nat) (t : V), t.nodes ≤ N → ∃ u, trn (mapS l) t = some u := by
  intro N
  induction N with
  | zero => intro t h; rw [V.nodes_eq] at h; omega
  | succ N ih =>
    intro t hN
    rw [trn_eq]
    have key : ∀ (ts : List V) (m : Bool) (i : Nat), nodess ts ≤ N → ∃ us, trns (mapS l) m i ts = some us := by
      intro ts
      induction ts with
      | nil => intro m i _; exact ⟨[], by rw [trns]⟩
      | cons t ts ih2 =>
        intro m i h
        rw [nodess] at h
        obtain ⟨u, hu⟩ := ih t (by omega)
        obtain ⟨us, hus⟩ := ih2 m (i + 1) (by omega)
        exact ⟨keyM l (m && decide (i % 2 = 0)) u :: us, by rw [trns, hu, hus]; rfl⟩
    obtain ⟨us, h⟩ := key t.kids (decide (t.k = 8)) 0 (by rw [V.nodes_eq] at hN; omega)
    exact ⟨_, by rw [h]; rfl⟩
def mapT (l : List ByteArray) (t : V) : V := (trn (mapS l) t).getD t
theorem mapT_some (l : List ByteArray) (t : V) : trn (mapS l) t = some (mapT l t) := by
  obtain ⟨u, h⟩ := mapS_some l _ t (Nat.le_refl _)
  rw [mapT, h]; rfl
/-- the program's way fails just where a key is a number -/
theorem map_same (l : List ByteArray) : ∀ (N : Nat) (t : V) (d : Int), t.nodes ≤ N → rightB t d = true → trn (mapI l) t = if whole t then none else some (mapT l t) := by
  intro N
  induction N with
  | zero => intro t d h; rw [V.nodes_eq] at h; omega
  | succ N ih =>
    intro t d hN hr
    have hk := right_kids hr
    have IH : ∀ j (hj : j < t.kids.length), trn (mapI l) t.kids[j] = if whole t.kids[j] then none else some (mapT l t.kids[j]) := fun j hj => ih _ (d - 1) (by have := nodes_mem (List.getElem_mem hj); rw [V.nodes_eq] at hN; omega) (rightsB_at hk j hj)
    have step : ∀ j (hj : j < t.kids.length), mapI l (decide (t.k = 8) && decide (j % 2 = 0)) t.kids[j] (trn (mapI l) t.kids[j]) =
        if (decide (t.k = 8) && decide (j % 2 = 0) && decide (t.kids[j].k = 3)) || whole t.kids[j] then none else some (keyM l (decide (t.k = 8) && decide (j % 2 = 0)) (mapT l t.kids[j])) := by
      intro j hj
      by_cases hb : t.k = 8 ∧ j % 2 = 0
      · have hkey := key_at hr hb.1 j hj hb.2
        have hlf := key_leaf (rightsB_at hk j hj) hkey
        have hw : whole t.kids[j] = false := by rw [whole_eq, hlf, wholes]
        have hm : mapT l t.kids[j] = t.kids[j] := by have := mapT_some l t.kids[j]; rw [leaf_trn _ hlf] at this; exact (Option.some.inj this).symm
        rw [hw, hm, decide_eq_true hb.1, decide_eq_true hb.2]
        simp only [isKeyB, decide_eq_true_eq] at hkey
        simp only [mapI, byMap, Bool.and_self, if_true, Bool.true_and, Bool.or_false]
        rcases hkey with h5 | h3
        · rw [if_pos h5, if_neg (by simp [h5])]
        · rw [if_neg (by omega), if_pos (by simp [h3])]
      · have hf : (decide (t.k = 8) && decide (j % 2 = 0)) = false := by
          by_cases h1 : t.k = 8 <;> by_cases h2 : j % 2 = 0 <;> simp [h1, h2] <;> exact absurd ⟨h1, h2⟩ hb
        rw [hf, IH j hj]
        simp only [mapI, Bool.false_and, Bool.false_or, keyM]
        simp
    by_cases hw : whole t = true
    · rw [if_pos hw]
      rw [whole_eq, wholes_any] at hw
      obtain ⟨j, hj, h⟩ := hw
      rw [trn_eq]
      cases hx : trns (mapI l) (decide (t.k = 8)) 0 t.kids with
      | none => rfl
      | some us =>
        exfalso
        obtain ⟨hl, hg⟩ := trns_get _ _ _ _ _ hx
        have h1 := hg j hj (by omega)
        rw [Nat.zero_add, step j hj, if_pos] at h1
        · simp at h1
        · rcases h with ⟨h1, h2, h3⟩ | h
          · rw [h1, Nat.zero_add] at *; simp [h2, h3]
          · simp [h]
    · rw [if_neg hw, ← mapT_some, trn_eq, trn_eq]
      congr 1
      refine trns_congr _ _ _ _ 0 (fun j hj => ?_)
      rw [Nat.zero_add, step j hj, if_neg, mapT_some]
      · rfl
      · intro h
        apply hw
        rw [whole_eq, wholes_any]
        simp only [Bool.or_eq_true, Bool.and_eq_true, decide_eq_true_eq] at h
        rcases h with ⟨⟨h1, h2⟩, h3⟩ | h
        · exact ⟨j, hj, .inl ⟨by simp [h1], by rw [Nat.zero_add]; exact h2, h3⟩⟩
        · exact ⟨j, hj, .inr h⟩
theorem evV_map (g : V → V) : ∀ (ts us : List V), us.length = ts.length → (∀ j (h : j < ts.length) (h' : j < us.length), j % 2 = 0 → us[j] = g ts[j]) → evV us = (evV ts).map g
  | [], us, hl, _ => by
    obtain rfl : us = [] := List.eq_nil_of_length_eq_zero (by simpa using hl)
    rfl
  | [t], us, hl, h => by
    match us, hl with
    | [u], _ => have := h 0 (by simp) (by simp) rfl; simp only [List.getElem_cons_zero] at this; simp [evV, this]
  | t :: t2 :: ts, us, hl, h => by
    match us, hl with
    | u :: u2 :: us, hl =>
      have h0 := h 0 (by simp) (by simp) rfl
      simp only [List.getElem_cons_zero] at h0
      have := evV_map g ts us (by simpa using hl) (fun j hj hj' he => by
        have := h (j + 2) (by simp; omega) (by simp; omega) (by omega)
        simpa using this)
      simp only [evV, List.map_cons, this, h0]
theorem keyM_keyEq {l : List ByteArray} {a b : V} (ha : a.k = 5 ∧ a.n = 0) (hb : b.k = 5 ∧ b.n = 0) : keyEq (keyM l true a) (keyM l true b) → keyEq a b := by
  unfold keyM keyEq
  simp only [true_and]
  by_cases h1 : a.k = 5 ∧ 0 ≤ atS l a.s
  · rw [if_pos h1]
    by_cases h2 : b.k = 5 ∧ 0 ≤ atS l b.s
    · rw [if_pos h2]
      rintro ⟨_, h, _⟩
      have he : atS l a.s = atS l b.s := h
      obtain ⟨i, hi, e1⟩ := atS_at h1.2
      obtain ⟨j, hj, e2⟩ := atS_at h2.2
      have hij : i = j := by have := e1.1; have := e2.1; omega
      subst hij
      exact ⟨by rw [ha.1, hb.1], by rw [ha.2, hb.2], by rw [← e1.2, ← e2.2]⟩
    · rw [if_neg h2]
      rintro ⟨h, _, _⟩
      have : (3 : Int) = b.k := h
      omega
  · rw [if_neg h1]
    by_cases h2 : b.k = 5 ∧ 0 ≤ atS l b.s
    · rw [if_pos h2]
      rintro ⟨h, _, _⟩
      have : a.k = 3 := h
      omega
    · rw [if_neg h2]; exact id
theorem map_right (l : List ByteArray) : ∀ (N : Nat) (t u : V) (d : Int), t.nodes ≤ N → rightB t d = true → trn (mapI l) t = some u → rightB u d = true ∧ u.nodes = t.nodes ∧ (u.k = t.k ∧ u.n = t.n ∧ u.e = t.e ∧ u.s = t.s) := by
  intro N
  induction N with
  | zero => intro t u d h; rw [V.nodes_eq] at h; omega
  | succ N ih =>
    intro t u d hN hr hu
    have hk := right_kids hr
    rw [trn_eq] at hu
    cases hx : trns (mapI l) (decide (t.k = 8)) 0 t.kids with
    | none => rw [hx] at hu; simp at hu
    | some us =>
      rw [hx] at hu
      simp only [Option.map_some, Option.some.injEq] at hu
      subst hu
      obtain ⟨hl, hg⟩ := trns_get _ _ _ _ _ hx
      have el : ∀ j (hj : j < t.kids.length) (hj' : j < us.length), rightB us[j] (d - 1) = true ∧ us[j].nodes = t.kids[j].nodes := by
        intro j hj hj'
        have h1 := hg j hj hj'
        rw [Nat.zero_add] at h1
        by_cases hb : t.k = 8 ∧ j % 2 = 0
        · rw [decide_eq_true hb.1, decide_eq_true hb.2] at h1
          have hrj := rightsB_at hk j hj
          have hkey := key_at hr hb.1 j hj hb.2
          have hlf := key_leaf hrj hkey
          simp only [mapI, byMap, Bool.and_self, if_true] at h1
          by_cases h5 : t.kids[j].k = 5
          · rw [if_pos h5] at h1
            have h2 := Option.some.inj h1
            rw [← h2]
            unfold keyM
            split
            · rename_i hc
              refine ⟨?_, by rw [V.nodes_eq, V.nodes_eq, hlf]; rfl⟩
              have hd : 0 ≤ d - 1 := by rw [rightB_eq] at hrj; simp only [Bool.and_eq_true, decide_eq_true_eq] at hrj; exact hrj.1.1
              rw [rightB_eq]
              simp only [intV, V.kids, rightsB, Bool.and_true, Bool.and_eq_true, decide_eq_true_eq]
              refine ⟨hd, ?_⟩
              simp [ownB, nodeB, V.k, V.e, V.s, V.kids, ByteArray.size]
            · exact ⟨hrj, rfl⟩
          · rw [if_neg h5] at h1; simp at h1
        · have hf : (decide (t.k = 8) && decide (j % 2 = 0)) = false := by
            by_cases h1 : t.k = 8 <;> by_cases h2 : j % 2 = 0 <;> simp [h1, h2] <;> exact absurd ⟨h1, h2⟩ hb
          rw [hf] at h1
          simp only [mapI, Bool.false_eq_true, if_false] at h1
          have := ih _ _ (d - 1) (by have := nodes_mem (List.getElem_mem hj); rw [V.nodes_eq] at hN; omega) (rightsB_at hk j hj) h1
          exact ⟨this.1, this.2.1⟩
      refine ⟨?_, ?_, rfl, rfl, rfl, rfl⟩
      · rw [rightB_eq] at hr ⊢
        simp only [Bool.and_eq_true] at hr ⊢
        refine ⟨⟨hr.1.1, ?_⟩, ?_⟩
        · have ho := hr.1.2
          simp only [ownB, Bool.and_eq_true] at ho ⊢
          refine ⟨ho.1, ?_⟩
          have h2 := ho.2
          show (if t.k = 7 then true else if t.k = 9 then decide (us.length = 1) else if t.k = 8 then pairsB us else decide (us.length = 0)) = true
          by_cases h7 : t.k = 7
          · rw [if_pos h7]
          · rw [if_neg h7] at h2 ⊢
            by_cases h9 : t.k = 9
            · rw [if_pos h9] at h2 ⊢; rw [hl]; exact h2
            · rw [if_neg h9] at h2 ⊢
              by_cases h8 : t.k = 8
              · rw [if_pos h8] at h2 ⊢
                have hev : evV us = (evV t.kids).map (keyM l true) := by
                  refine evV_map _ _ _ hl (fun j hj hj' he => ?_)
                  have h1 := hg j hj hj'
                  rw [Nat.zero_add, decide_eq_true h8, decide_eq_true he] at h1
                  simp only [mapI, byMap, Bool.and_self, if_true] at h1
                  by_cases h5 : t.kids[j].k = 5
                  · rw [if_pos h5] at h1; exact (Option.some.inj h1).symm
                  · rw [if_neg h5] at h1; simp at h1
                have h5all : ∀ a ∈ evV t.kids, a.k = 5 ∧ a.n = 0 := by
                  intro a ha
                  have hlen : t.kids.length % 2 = 0 := by simp only [pairsB, Bool.and_eq_true, decide_eq_true_eq] at h2; exact h2.1.2
                  have ha' : a ∈ evV (t.kids.take t.kids.length) := by rw [List.take_length]; exact ha
                  obtain ⟨q, hq, _, hqe, rfl⟩ := (mem_evV_take t.kids t.kids.length hlen a).1 ha'
                  have h1 := hg q hq (by omega)
                  rw [Nat.zero_add, decide_eq_true h8, decide_eq_true hqe] at h1
                  simp only [mapI, byMap, Bool.and_self, if_true] at h1
                  by_cases h5 : t.kids[q].k = 5
                  · refine ⟨h5, ?_⟩
                    have := (rightB_leaf (rightsB_at hk q hq)).1
                    unfold nodeB at this
                    rw [if_neg (by omega), if_neg (by omega), if_neg (by omega), if_pos h5] at this
                    simp only [Bool.and_eq_true, decide_eq_true_eq] at this
                    exact this.1.1
                  · rw [if_neg h5] at h1; simp at h1
                simp only [pairsB, keysB, Bool.and_eq_true, decide_eq_true_eq] at h2 ⊢
                refine ⟨⟨⟨?_, ?_⟩, by rw [hl]; exact h2.1.2⟩, by rw [hl]; exact h2.2⟩
                · rw [hev, List.all_map, List.all_eq_true]
                  intro a ha
                  simp only [Function.comp, keyM]
                  split
                  · rfl
                  · simp [isKeyB, (h5all a ha).1]
                · rw [hev, List.pairwise_map]
                  refine List.Pairwise.imp_of_mem ?_ h2.1.1.2
                  intro a b ha hb hab
                  rw [decide_eq_false_iff_not] at hab ⊢
                  exact fun e => hab (keyM_keyEq (h5all a ha) (h5all b hb) e)
              · rw [if_neg h8] at h2 ⊢; rw [hl]; exact h2
        · show rightsB us (d - 1) = true
          rw [rightsB_all, List.all_eq_true]
          intro x hx'
          obtain ⟨j, hj, rfl⟩ := List.getElem_of_mem hx'
          exact (el j (by omega) hj).1
      · rw [V.nodes_eq, V.nodes_eq]
        show 1 + nodess us = 1 + nodess t.kids
        rw [nodess_congr hl (fun j hj hj' => (el j hj' hj).2)]
theorem map_ok (l : List ByteArray) {t u : V} (h : okT t = true) (hu : trn (mapI l) t = some u) : okT u = true := by
  simp only [okT, Bool.and_eq_true, decide_eq_true_eq] at h ⊢
  have := map_right l _ t u 12 (Nat.le_refl _) h.1 hu
  exact ⟨this.1, by rw [this.2.1]; exact h.2⟩
end Go.Proofs.YtiemlefmhleaeaaDoor
