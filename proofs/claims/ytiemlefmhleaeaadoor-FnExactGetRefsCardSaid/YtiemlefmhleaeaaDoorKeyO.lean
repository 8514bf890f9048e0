/- The program's turnKeys: by any function value that turns keys. The program's MapKeys and UnmapKeys, and the reference's. MapKeys and UnmapKeys, whole: the program's and the reference's. UnmapKeys of the program; MapKeys and UnmapKeys of the reference. -/
import Derived.Test.YtiemlefmhleaeaaDoorKeyU
import Derived.Test.YtiemlefmhleaeaaDoorIsValue
import Derived.Test.YtiemlefmhleaeaaDoorRight
import Derived.Test.YtiemlefmhleaeaaDoorRefM
namespace Go.Proofs.YtiemlefmhleaeaaDoor
set_option linter.unusedVariables false
set_option maxRecDepth 100000
open Go.RowKit
def byF (by0 : V → Option V) : Bool → V → Option V → Option V := fun b t r => if b then by0 t else r
end Go.Proofs.YtiemlefmhleaeaaDoor
namespace Go.Proofs.YtiemlefmhleaeaaDoor
set_option linter.unusedVariables false
set_option maxRecDepth 100000
open Go.RowKit
/-- a value in memory of its own, and a truth -/
def VBRet (w : World) (t : V) (b : Bool) (e : Ending) (w' : World) : Prop := ∃ sl, e = .returned (.tuple #[t.agg sl, .bool b]) ∧ t.wf ∧ OwnS w' (fun x => w.heap.size ≤ x) sl t.kids ∧ Below w.heap.size w w'
def kyR (by0 : V → Option V) (l : List ByteArray) (t : V) : Option V := if okT t && namesB l then (trn (byF by0) t).filter (fun u => okT u) else none
/-- a name's cell, and what stands in it -/
def NameAt (w : World) (c : Nat) (nv : Value) : Prop := w.heap[c]? = some (.cells #[nv] 0 (0, 0))
theorem key5 {t : V} (hk : t.kids = []) (h : isKeyB t = true) (h5 : t.k = 5) : True := trivial
theorem within_any (n lo hi : Int) (w : World) : Calls Tryd.prog 92 #[.int .i64 n, .int .i64 lo, .int .i64 hi] w fun e w' => e = .returned (.bool (decide (lo ≤ n ∧ n ≤ hi))) ∧ w' = w := by
  by_cases h : lo ≤ n ∧ n ≤ hi
  · rw [decide_eq_true h]; exact within_yes n lo hi w h.1 h.2
  · rw [decide_eq_false h]; exact within_no n lo hi w (by omega)
end Go.Proofs.YtiemlefmhleaeaaDoor
namespace Go.Proofs.YtiemlefmhleaeaaDoor
set_option linter.unusedVariables false
set_option maxRecDepth 100000
open Go.RowKit
theorem names_small {l : List ByteArray} (h : namesB l = true) : ∀ s ∈ l, s.size ≤ 100 := by
  simp only [namesB, Bool.and_eq_true] at h
  have key : ∀ k, k ≤ l.length → namesGo (l.take k) (l.drop k) = true := by
    intro k
    induction k with
    | zero => intro _; simpa using h.2
    | succ k ih =>
      intro hk
      have h1 := ih (by omega)
      rw [namesGo_step l k (by omega)] at h1
      simp only [Bool.and_eq_true] at h1
      exact h1.2
  intro s hs
  obtain ⟨k, hk, rfl⟩ := List.getElem_of_mem hs
  have h1 := key k (by omega)
  rw [namesGo_step l k hk] at h1
  simp only [Bool.and_eq_true, decide_eq_true_eq] at h1
  exact h1.1.1.1
theorem szs_small : ∀ us : List V, (∀ j (h : j < us.length), us[j].sz + 1 ≤ 2001 * us[j].nodes) → szs us ≤ 2001 * nodess us
  | [], _ => by simp [szs]
  | u :: us, h => by
    have h0 : u.sz + 1 ≤ 2001 * u.nodes := h 0 (by simp)
    have h1 := szs_small us (fun j hj => h (j + 1) (by simpa using hj))
    rw [szs, nodess]; omega
theorem un_small (l : List ByteArray) (hl : ∀ s ∈ l, s.size ≤ 100) : ∀ (N : Nat) (t u : V) (d : Int), t.nodes ≤ N → rightB t d = true → trn (unI l) t = some u → u.nodes = t.nodes ∧ u.sz + 1 ≤ 2001 * u.nodes := by
  intro N
  induction N with
  | zero => intro t u d h; rw [V.nodes_eq] at h; omega
  | succ N ih =>
    intro t u d hN hr hu
    have hk := right_kids hr
    rw [trn_eq] at hu
    cases hx : trns (unI l) (decide (t.k = 8)) 0 t.kids with
    | none => rw [hx] at hu; simp at hu
    | some us =>
      rw [hx] at hu
      simp only [Option.map_some, Option.some.injEq] at hu
      subst hu
      obtain ⟨hl2, hg⟩ := trns_get _ _ _ _ _ hx
      have el : ∀ j (hj : j < t.kids.length) (hj' : j < us.length), us[j].nodes = t.kids[j].nodes ∧ us[j].sz + 1 ≤ 2001 * us[j].nodes := by
        intro j hj hj'
        have h1 := hg j hj hj'
        rw [Nat.zero_add] at h1
        by_cases hb : (decide (t.k = 8) && decide (j % 2 = 0)) = true
        · have hb' := hb
          simp only [Bool.and_eq_true, decide_eq_true_eq] at hb'
          have hrj := rightsB_at hk j hj
          have hlf := key_leaf hrj (key_at hr hb'.1 j hj hb'.2)
          rw [hb] at h1
          simp only [unI, byUn, if_true] at h1
          split at h1
          · rw [← Option.some.inj h1]; exact ⟨rfl, right_small _ _ hrj⟩
          · unfold unkey at h1
            split at h1
            · rename_i hin
              rw [← Option.some.inj h1]
              have hix : t.kids[j].n.toNat < l.length := by omega
              have hs := hl _ (List.getElem_mem hix)
              have e9 : l.getD t.kids[j].n.toNat ⟨#[]⟩ = l[t.kids[j].n.toNat] := by rw [List.getD_eq_getElem?_getD, List.getElem?_eq_getElem hix]; rfl
              rw [e9]
              refine ⟨by rw [V.nodes_eq, V.nodes_eq, hlf]; rfl, ?_⟩
              rw [V.sz_eq, V.nodes_eq]
              show l[t.kids[j].n.toNat].size + 0 + 1 ≤ 2001 * (1 + 0)
              omega
            · simp at h1
        · rw [Bool.not_eq_true] at hb
          rw [hb] at h1
          simp only [unI, Bool.false_eq_true, if_false] at h1
          exact ih _ _ (d - 1) (by have := nodes_mem (List.getElem_mem hj); rw [V.nodes_eq] at hN; omega) (rightsB_at hk j hj) h1
      have hns := nodess_congr hl2 (fun j hj hj' => (el j hj' hj).1)
      have hss := szs_small us (fun j hj => (el j (by omega) hj).2)
      have hs := node_small (rightB_leaf hr).1
      refine ⟨?_, ?_⟩
      · rw [V.nodes_eq, V.nodes_eq]
        show 1 + nodess us = 1 + nodess t.kids
        rw [hns]
      · rw [V.nodes_eq, V.sz_eq]
        show t.s.size + szs us + 1 ≤ 2001 * (1 + nodess us)
        omega
theorem map_sz (l : List ByteArray) {t u : V} (h : okT t = true) (hu : trn (byF (byMap l)) t = some u) : u.sz ≤ 1048576 := by
  have := (ok_small (map_ok l h hu)).1; omega
theorem un_sz (l : List ByteArray) (hl : namesB l = true) {t u : V} (h : okT t = true) (hu : trn (byF (byUn l)) t = some u) : u.sz ≤ 1048576 := by
  have h2 := ok_small h
  simp only [okT, Bool.and_eq_true] at h
  have := un_small l (fun s hs => names_small hl s hs) _ t u 12 (Nat.le_refl _) h.1 hu
  omega
theorem kyR_sz (f : V → Option V) (l : List ByteArray) {t : V} (h : t.sz ≤ 1048576) : ((kyR f l t).getD t).sz ≤ 1048576 := by
  cases hk : kyR f l t with
  | none => exact h
  | some u =>
    unfold kyR at hk
    split at hk
    · rw [Option.filter_eq_some_iff] at hk
      have := (ok_small hk.2).1
      simp only [Option.getD_some]; omega
    · cases hk
def mkB (l : List ByteArray) (t : V) : Bool := okT t && namesB l && !whole t
theorem kyR_map (l : List ByteArray) (t : V) : kyR (byMap l) l t = if mkB l t then some (mapT l t) else none := by
  unfold kyR mkB
  by_cases h : (okT t && namesB l) = true
  · rw [if_pos h, h, Bool.true_and]
    have hok : okT t = true := by simp only [Bool.and_eq_true] at h; exact h.1
    have hr := hok
    simp only [okT, Bool.and_eq_true] at hr
    have hm := map_same l _ t 12 (Nat.le_refl _) hr.1
    have hm2 : trn (byF (byMap l)) t = if whole t then none else some (mapT l t) := hm
    rw [hm2]
    cases hw : whole t with
    | true => rfl
    | false =>
      have hu : trn (mapI l) t = some (mapT l t) := by rw [hm, hw]; rfl
      have := map_ok l hok hu
      simp [Option.filter, this]
  · rw [if_neg h, Bool.not_eq_true] at *
    rw [h]; rfl
theorem kyR_un (l : List ByteArray) (t : V) : kyR (byUn l) l t = if okT t && namesB l then (trn (unS l) t).filter (fun u => okT u) else none := by
  unfold kyR
  by_cases h : (okT t && namesB l) = true
  · rw [if_pos h, if_pos h]
    simp only [Bool.and_eq_true, okT] at h
    have : trn (byF (byUn l)) t = trn (unS l) t := un_same l h.1.1
    rw [this]
  · rw [if_neg h, if_neg h]
end Go.Proofs.YtiemlefmhleaeaaDoor
namespace Go.Proofs.YtiemlefmhleaeaaDoor
set_option linter.unusedVariables false
set_option maxRecDepth 100000
open Go.RowKit
end Go.Proofs.YtiemlefmhleaeaaDoor
