/- Lists of names: laws.szNames, toNames, eqNames; where a name stands: spec.l11At, slices.Index, slices.Contains. -/
import Derived.Test.YtllngpnhhpnjoaaDoorStrs
import Derived.Test.YtllngpnhhpnjoaaDoorSzVal
import Derived.Test.YtllngpnhhpnjoaaDoorLawAid
import Derived.Deep.RegionWith
import Derived.Deep.QuietTactic
import Derived.BigQuiet
import Derived.WalkSpells
import Derived.Lib.Hide
namespace Go.Proofs.YtllngpnhhpnjoaaDoor
set_option linter.unusedVariables false
set_option maxRecDepth 100000
open Go.RowKit
/-- how many names and letters -/
def szl : List ByteArray → Nat
  | [] => 0
  | s :: l => 1 + s.size + szl l
theorem szl_append (a b : List ByteArray) : szl (a ++ b) = szl a + szl b := by
  induction a with
  | nil => simp [szl]
  | cons s a ih => simp only [List.cons_append, szl, ih]; omega
theorem szl_length (l : List ByteArray) : l.length ≤ szl l := by
  induction l with
  | nil => simp
  | cons s a ih => simp only [List.length_cons, szl]; omega
theorem szl_take (l : List ByteArray) (k : Nat) (h : k < l.length) : szl (l.take (k + 1)) = szl (l.take k) + 1 + (l[k]).size := by
  rw [List.take_succ_eq_append_getElem h, szl_append, szl, szl]; omega
theorem szl_split (l : List ByteArray) (k : Nat) : szl (l.take k) + szl (l.drop k) = szl l := by
  rw [← szl_append, List.take_append_drop]
/-- the place of a name in a list, -1 where it is not there -/
def atFrom (s : ByteArray) : Nat → List ByteArray → Int
  | _, [] => -1
  | i, x :: l => if x = s then i else atFrom s (i + 1) l
def atS (l : List ByteArray) (s : ByteArray) : Int := atFrom s 0 l
theorem atFrom_found (s : ByteArray) : ∀ (l : List ByteArray) (i k : Nat) (hk : k < l.length), (∀ j, (hj : j < k) → l[j] ≠ s) → l[k] = s → atFrom s i l = ((i + k : Nat) : Int)
  | [], _, _, hk, _, _ => by simp at hk
  | x :: l, i, 0, _, _, e => by simp at e; simp [atFrom, e]
  | x :: l, i, k + 1, hk, h, e => by
    have h0 : ¬ x = s := h 0 (by omega)
    rw [atFrom, if_neg h0, atFrom_found s l (i + 1) k (by simpa using hk) (fun j hj => h (j + 1) (by omega)) (by simpa using e)]
    congr 1; omega
theorem atFrom_none (s : ByteArray) : ∀ (l : List ByteArray) (i : Nat), (∀ x ∈ l, x ≠ s) → atFrom s i l = -1
  | [], _, _ => rfl
  | x :: l, i, h => by rw [atFrom, if_neg (h x (List.mem_cons_self ..)), atFrom_none s l (i + 1) (fun y hy => h y (List.mem_cons_of_mem _ hy))]
theorem atS_found {l : List ByteArray} {s : ByteArray} {k : Nat} (hk : k < l.length) (h : ∀ j, (hj : j < k) → l[j] ≠ s) (e : l[k] = s) : atS l s = k := by
  rw [atS, atFrom_found s l 0 k hk h e, Nat.zero_add]
theorem atS_none {l : List ByteArray} {s : ByteArray} (h : ∀ j, (hj : j < l.length) → l[j] ≠ s) : atS l s = -1 :=
  atFrom_none s l 0 (fun x hx => by obtain ⟨i, hi, e⟩ := List.getElem_of_mem hx; rw [← e]; exact h i hi)
theorem atFrom_mem (s : ByteArray) : ∀ (l : List ByteArray) (i : Nat), 0 ≤ atFrom s i l ↔ s ∈ l
  | [], _ => by simp [atFrom]
  | x :: l, i => by
    rw [atFrom]
    split
    · rename_i h; subst h; simp
    · rename_i h; rw [atFrom_mem s l (i + 1)]; simp [show ¬ s = x from fun e => h e.symm]
theorem atS_nonneg {l : List ByteArray} {s : ByteArray} : 0 ≤ atS l s ↔ s ∈ l := atFrom_mem s l 0
set_option maxHeartbeats 400000 in
theorem l11At_any (w0 : World) (v : Value) (l : List ByteArray) (s : ByteArray) (h : RepSs w0 v l) (w : World) (hw : Below w0.heap.size w0 w) :
    Calls Tryd.prog 116 #[v, .string s] w fun e w' => e = .returned (.int .i64 (atS l s)) ∧ w' = w := by
  obtain ⟨a, b, off, cap, rfl, ha, hc, hm, hcell⟩ := h
  have HA := Lib.hid ha; have HC := Lib.hid hcell
  have hlen : l.length ≤ 9223372036854775807 := by omega
  clear ha hcell hc hm
  go_enter Tryd.func116, Tryd.ntmps116
  go_wp2_with fail
  go_loop [5] (fun i => ∃ k : Nat, k ≤ l.length ∧ i = .int .i64 k ∧ Hid (∀ j, (hj : j < k) → (hl : j < l.length) → l[j] ≠ s)) (fun i => l.length - (intOf i).toNat)
  case atStart => exact ⟨0, by omega, rfl, Lib.hid (by omega)⟩
  case round =>
    obtain ⟨k, hk, rfl, HN⟩ := hrel
    by_cases hlt : k < l.length
    · have hne : l ≠ [] := by intro e; rw [e] at hlt; simp at hlt
      obtain ⟨rfl, hbw⟩ := HA.out hne
      have hcell : w.cell? ⟨b, off + k, none⟩ = some (.string l[k]) := by rw [World.cell?_of_block (a := ⟨b, off + k, none⟩) (hw.block b hbw)]; exact (HC.out k hlt).1
      have HE := Lib.hid (show ∀ (e : l[k] = s), atS l s = k from fun e => atS_found hlt (fun j hj => HN.out j hj (by omega)) e)
      by_cases he : l[k] = s
      · have hE := HE.out he
        have HE2 := Lib.hid hE
        have hb := ba_yes he
        have hb' := ba_yes he.symm
        clear he hE
        generalize l[k] = q at *
        go_wp2_with fail
        go_ret
        exact ⟨by rw [HE2.out]; rfl, rfl⟩
      · have hb := ba_no he
        have hb' := ba_no (fun e => he e.symm)
        have HN2 := Lib.hid (show ∀ j, (hj : j < k + 1) → (hl : j < l.length) → l[j] ≠ s from fun j hj hl => by
          by_cases hjk : j < k
          · exact HN.out j hjk hl
          · have : j = k := by omega
            subst this; exact he)
        clear he
        generalize l[k] = q at *
        go_wp2_with fail
        go_round
        case rel => exact ⟨k + 1, by omega, by go_num, HN2⟩
        case measure => simp [intOf]; omega
    · have H := Lib.hid (show atS l s = -1 from atS_none (fun j hj => HN.out j (by omega) hj))
      go_wp2_with fail
      go_ret
      exact ⟨by rw [H.out]; rfl, rfl⟩
set_option maxHeartbeats 400000 in
theorem IndexN_any (w0 : World) (v : Value) (l : List ByteArray) (s : ByteArray) (h : RepSs w0 v l) (w : World) (hw : Below w0.heap.size w0 w) :
    Calls Tryd.prog 81 #[v, .string s] w fun e w' => e = .returned (.int .i64 (atS l s)) ∧ w' = w := by
  obtain ⟨a, b, off, cap, rfl, ha, hc, hm, hcell⟩ := h
  have HA := Lib.hid ha; have HC := Lib.hid hcell
  have hlen : l.length ≤ 9223372036854775807 := by omega
  clear ha hcell hc hm
  go_enter Tryd.func81, Tryd.ntmps81
  go_wp2_with fail
  go_loop [8, 5] (fun i _ => ∃ k : Nat, k ≤ l.length ∧ i = .int .i64 k ∧ Hid (∀ j, (hj : j < k) → (hl : j < l.length) → l[j] ≠ s)) (fun i _ => l.length - (intOf i).toNat)
  case atStart => exact ⟨0, by omega, rfl, Lib.hid (by omega)⟩
  case round =>
    obtain ⟨k, hk, rfl, HN⟩ := hrel
    by_cases hlt : k < l.length
    · have hne : l ≠ [] := by intro e; rw [e] at hlt; simp at hlt
      obtain ⟨rfl, hbw⟩ := HA.out hne
      have hcell : w.cell? ⟨b, off + k, none⟩ = some (.string l[k]) := by rw [World.cell?_of_block (a := ⟨b, off + k, none⟩) (hw.block b hbw)]; exact (HC.out k hlt).1
      have HE := Lib.hid (show ∀ (e : l[k] = s), atS l s = k from fun e => atS_found hlt (fun j hj => HN.out j hj (by omega)) e)
      by_cases he : l[k] = s
      · have hE := HE.out he
        have HE2 := Lib.hid hE
        have hb := ba_yes he
        have hb' := ba_yes he.symm
        clear he hE
        generalize l[k] = q at *
        go_wp2_with fail
        go_ret
        exact ⟨by rw [HE2.out]; rfl, rfl⟩
      · have hb := ba_no he
        have hb' := ba_no (fun e => he e.symm)
        have HN2 := Lib.hid (show ∀ j, (hj : j < k + 1) → (hl : j < l.length) → l[j] ≠ s from fun j hj hl => by
          by_cases hjk : j < k
          · exact HN.out j hjk hl
          · have : j = k := by omega
            subst this; exact he)
        clear he
        generalize l[k] = q at *
        go_wp2_with fail
        go_round
        case rel => exact ⟨k + 1, by omega, by go_num, HN2⟩
        case measure => simp [intOf]; omega
    · have H := Lib.hid (show atS l s = -1 from atS_none (fun j hj => HN.out j (by omega) hj))
      go_wp2_with fail
      go_ret
      exact ⟨by rw [H.out]; rfl, rfl⟩
set_option maxHeartbeats 400000 in
theorem ContainsN_any (w0 : World) (v : Value) (l : List ByteArray) (s : ByteArray) (h : RepSs w0 v l) (w : World) (hw : Below w0.heap.size w0 w) :
    Calls Tryd.prog 162 #[v, .string s] w fun e w' => e = .returned (.bool (decide (0 ≤ atS l s))) ∧ w' = w := by
  have hh := IndexN_any w0 v l s h w hw
  obtain ⟨a, b, off, cap, rfl, _⟩ := h
  generalize atS l s = q at *
  have HH := Lib.hid hh; clear hh
  go_enter Tryd.func162, Tryd.ntmps162
  go_wp2_with fail
  refine HH.out.mono ?_
  rintro e w1 ⟨rfl, rfl⟩
  go_wp2_with fail
  go_ret
  exact ⟨rfl, rfl⟩
set_option maxHeartbeats 400000 in
theorem sz_names (w0 : World) (v : Value) (l : List ByteArray) (h : RepSs w0 v l) (w : World) (hw : Below w0.heap.size w0 w) (m : Int) (h0 : 0 ≤ m) (h1 : m ≤ 1048576) :
    Calls Tryd.prog 28 #[v, .int .i64 m] w fun e w' => e = .returned (.int .i64 (szr m (szl l))) ∧ w' = w := by
  obtain ⟨a, b, off, cap, rfl, ha, hc, hm, hcell⟩ := h
  have HA := Lib.hid ha; have HC := Lib.hid hcell
  have hlen := szl_length l
  clear ha hcell
  by_cases hl : m < l.length
  · have H := Lib.hid (show szr m (szl l) = -1 by unfold szr; rw [if_pos (by omega)])
    go_enter Tryd.func28, Tryd.ntmps28
    go_wp2_with fail
    go_ret
    exact ⟨by rw [H.out]; rfl, rfl⟩
  · go_enter Tryd.func28, Tryd.ntmps28
    go_wp2_with fail
    go_loop [1, 5] (fun l' i => ∃ k : Nat, ∃ q : Int, k ≤ l.length ∧ i = .int .i64 k ∧ l' = .int .i64 q ∧ 0 ≤ q ∧ q ≤ m ∧ Hid (q = m - l.length - (szl (l.take k) - k))) (fun _ i => l.length - (intOf i).toNat)
    case atStart => exact ⟨0, m - l.length, by omega, rfl, rfl, by omega, by omega, Lib.hid (by simp [szl])⟩
    case round =>
      obtain ⟨k, q, hk, rfl, rfl, hpos, hqm, HQ⟩ := hrel
      by_cases hlt : k < l.length
      · have hne : l ≠ [] := by intro e; rw [e] at hlt; simp at hlt
        obtain ⟨rfl, hbw⟩ := HA.out hne
        have hcell : w.cell? ⟨b, off + k, none⟩ = some (.string l[k]) := by rw [World.cell?_of_block (a := ⟨b, off + k, none⟩) (hw.block b hbw)]; exact (HC.out k hlt).1
        have hss := (HC.out k hlt).2
        have HT := Lib.hid (szl_take l k hlt)
        have HS := Lib.hid (show q < (l[k]).size → szr m (szl l) = -1 from fun hh => by
          have h3 := szl_split l (k + 1); have h4 := szl_length (l.drop (k + 1)); rw [List.length_drop] at h4
          have h5 := HT.out; have h6 := HQ.out; unfold szr; rw [if_pos (by omega)])
        generalize l[k] = s at *
        by_cases hq : q < s.size
        · have HS2 := Lib.hid (HS.out hq)
          go_wp2_with fail
          go_ret
          exact ⟨by rw [HS2.out]; rfl, rfl⟩
        · go_wp2_with fail
          go_round
          case rel => exact ⟨k + 1, q - s.size, by omega, by go_num, rfl, by omega, by omega, Lib.hid (by rw [HT.out, HQ.out]; omega)⟩
          case measure => simp [intOf]; omega
      · have H := Lib.hid (show q = szr m (szl l) by
          have h6 := HQ.out; rw [List.take_of_length_le (by omega)] at h6; unfold szr; rw [if_neg (by omega)]; omega)
        go_wp2_with fail
        go_ret
        exact ⟨by rw [← H.out]; rfl, rfl⟩
set_option maxHeartbeats 400000 in
theorem eq_names (w0 : World) (v u : Value) (l : List ByteArray) (h : RepSs w0 v l) (h2 : RepSs w0 u l) (w : World) (hw : Below w0.heap.size w0 w) :
    Calls Tryd.prog 32 #[v, u] w (LawRet w) := by
  obtain ⟨a, b, off, cap, rfl, ha, hc, hm, hcell⟩ := h
  obtain ⟨a2, b2, off2, cap2, rfl, ha2, hc2, hm2, hcell2⟩ := h2
  have HA := Lib.hid ha; have HC := Lib.hid hcell; have HA2 := Lib.hid ha2; have HC2 := Lib.hid hcell2
  clear ha hcell ha2 hcell2
  go_enter Tryd.func32, Tryd.ntmps32
  go_wp2_with fail
  go_loopw [5] (fun i wr => ∃ k : Nat, k ≤ l.length ∧ i = .int .i64 k ∧ Below w.heap.size w wr) (fun i _ => l.length - (intOf i).toNat)
  case atStart => exact ⟨0, by omega, rfl, Below.refl _ _⟩
  case round =>
    obtain ⟨k, hk, rfl, hbl⟩ := hrel
    by_cases hlt : k < l.length
    · have hne : l ≠ [] := by intro e; rw [e] at hlt; simp at hlt
      obtain ⟨rfl, hbw⟩ := HA.out hne
      obtain ⟨rfl, hbw2⟩ := HA2.out hne
      have hx : ∀ b, b < w0.heap.size → wr.heap[b]? = w0.heap[b]? := fun b hb => (hbl.block b (Nat.lt_of_lt_of_le hb hw.size)).trans (hw.block b hb)
      have hcell : wr.cell? ⟨b, off + k, none⟩ = some (.string l[k]) := by rw [World.cell?_of_block (a := ⟨b, off + k, none⟩) (hx b hbw)]; exact (HC.out k hlt).1
      have hcell2 : wr.cell? ⟨b2, off2 + k, none⟩ = some (.string l[k]) := by rw [World.cell?_of_block (a := ⟨b2, off2 + k, none⟩) (hx b2 hbw2)]; exact (HC2.out k hlt).1
      clear hx
      generalize l[k] = s at *
      go_wp2_with fail
      go_quiet (fail)
      all_goals go_wp2_with fail
      all_goals go_goals
      all_goals go_roundw
      case rel => exact ⟨k + 1, by omega, by go_num, (by (repeat' (first | with_reducible exact Below.refl _ _ | with_reducible refine below_alloc ?_ _ ?_ | with_reducible refine Below.setCell ?_ ?_ _ | with_reducible refine Below.drew ?_ | with_reducible refine below_drewN ?_ _ | with_reducible refine below_step ?_ (by assumption) ?_ | with_reducible refine below_mark ?_ (by assumption) ?_)); all_goals (first | omega | (simp; done) | (simp; omega)))⟩
      case measure => simp [intOf]; omega
    · go_wp2_with fail
      go_ret
      exact ⟨rfl, hbl⟩
set_option maxHeartbeats 400000 in
theorem to_names (w0 : World) (v : Value) (l : List ByteArray) (h : RepSs w0 v l) (hl : l.length ≤ 1048576) (w : World) (hw : Below w0.heap.size w0 w) :
    Calls Tryd.prog 30 #[v] w (StrsRet w l) := by
  obtain ⟨a, b, off, cap, rfl, ha, hc, hm, hcell⟩ := h
  have HA := Lib.hid ha; have HC := Lib.hid hcell
  clear ha hcell
  obtain ⟨i0, hi, hz0, hz1, hz2⟩ := info_parts info_str
  obtain ⟨wm, hrun, hrow, hg⟩ := run_make_full (P := Tryd.prog) w w.heap.size 40 9 i0 _ 1 Tryd.underlying40 hi hz0 hz1 .i64 .i64 l.length (by rw [hz2]; omega) (by simp only [maxLen]; omega) (Nat.le_refl _)
  have HR := Lib.hid (SRow.made hrow)
  have hbm : Below w.heap.size w wm := (Below.refl _ _).grown hg (Nat.le_refl _) (by simp)
  clear hi hz0 hz1 hz2 hrow
  generalize hgg : w.heap.size = g at *
  have HG := Lib.hid hgg; clear hgg
  go_enter Tryd.func30, Tryd.ntmps30
  go_wp2_with fail
  clear hrun
  go_loopw [4] (fun i wr => ∃ k : Nat, k ≤ l.length ∧ i = .int .i64 k ∧ SRow wr g (.slice (some ⟨g, 0, none⟩) l.length l.length) (l.take k ++ List.replicate (l.length - k) ⟨#[]⟩) ∧ Below g w wr) (fun i _ => l.length - (intOf i).toNat)
  case atStart => exact ⟨0, by omega, rfl, by simpa using HR.out, hbm⟩
  case round =>
    obtain ⟨k, hk, rfl, hrow, hbl⟩ := hrel
    have HROW := Lib.hid hrow; clear hrow
    by_cases hlt : k < l.length
    · have hne : l ≠ [] := by intro e; rw [e] at hlt; simp at hlt
      obtain ⟨rfl, hbw⟩ := HA.out hne
      have hcell : wr.cell? ⟨b, off + k, none⟩ = some (.string l[k]) := by rw [World.cell?_of_block (a := ⟨b, off + k, none⟩) ((hbl.block b (by rw [← HG.out]; exact Nat.lt_of_lt_of_le hbw hw.size)).trans (hw.block b hbw))]; exact (HC.out k hlt).1
      have HS := Lib.hid (SRow.set (i := k) HROW.out (HC.out k hlt).2)
      have HE := Lib.hid (fill_set (⟨#[]⟩ : ByteArray) l k hlt)
      obtain ⟨c1, c2⟩ := HROW.out.cells (i := k) (by simp; omega)
      generalize l[k] = s at *
      go_wp2_with fail
      go_roundw
      case rel => exact ⟨k + 1, by omega, by go_num, by rw [← HE.out]; exact HS.out, (by (repeat' (first | with_reducible exact Below.refl _ _ | with_reducible refine below_alloc ?_ _ ?_ | with_reducible refine Below.setCell ?_ ?_ _ | with_reducible refine Below.drew ?_ | with_reducible refine below_drewN ?_ _ | with_reducible refine below_step ?_ (by assumption) ?_ | with_reducible refine below_mark ?_ (by assumption) ?_)); all_goals (first | omega | (simp; done) | (simp; omega)))⟩
      case measure => simp [intOf]; omega
    · have hkl : k = l.length := by omega
      subst hkl
      go_wp2_with fail
      go_ret
      exact ⟨_, rfl, by rw [HG.out]; simpa using HROW.out, by rw [HG.out]; exact hbl⟩
end Go.Proofs.YtllngpnhhpnjoaaDoor
