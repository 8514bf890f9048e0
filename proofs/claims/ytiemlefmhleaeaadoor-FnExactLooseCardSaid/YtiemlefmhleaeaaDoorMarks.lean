/- What the laws write into results and look for later: laws.markText, markStringS, heldStringS; laws.eqStringS. -/
import Derived.Test.YtiemlefmhleaeaaDoorStrs
import Derived.Deep.RegionHeld3
import Derived.Deep.QuietTactic
import Derived.BigQuiet
import Derived.WalkSpells
import Derived.Lib.Hide
namespace Go.Proofs.YtiemlefmhleaeaaDoor
set_option linter.unusedVariables false
set_option maxRecDepth 100000
open Go.RowKit
theorem grownBy_refl (w : World) (r : Option Nat) : w.grownBy w r := ⟨rfl, rfl, rfl, Nat.le_refl _, fun _ _ _ => rfl⟩
theorem grownBy_below {a b : World} {r : Option Nat} (h : Below a.heap.size a b) : a.grownBy b r := ⟨h.os, h.tape, h.output, h.size, fun i hi _ => h.block i hi⟩
def mtL (n : Nat) : List UInt8 := if h : n = 0 then [] else mtL (n / 10) ++ [UInt8.ofNat (48 + n % 10)]
termination_by n
theorem mtL_zero : mtL 0 = [] := by rw [mtL]; rfl
theorem mtL_pos {n : Nat} (h : ¬ n = 0) : mtL n = mtL (n / 10) ++ [UInt8.ofNat (48 + n % 10)] := by rw [mtL, dif_neg h]
theorem mtL_length (n : Nat) : (mtL n).length ≤ n := by
  induction n using Nat.strongRecOn with
  | ind n ih =>
    by_cases h : n = 0
    · subst h; simp [mtL_zero]
    · rw [mtL_pos h, List.length_append]
      have := ih (n / 10) (by omega)
      simp; omega
theorem bstr_cat (l m : List UInt8) : (⟨l.toArray⟩ : ByteArray) ++ ⟨m.toArray⟩ = ⟨(l ++ m).toArray⟩ := by
  simp [ByteArray.ext_iff]
def mt (k : Int) : ByteArray := if k ≤ 0 then ⟨#[109, 48]⟩ else ⟨(109 :: mtL k.toNat).toArray⟩
theorem mt_size (k : Int) (h : k ≤ 4611686018427387904) : (mt k).size ≤ 9223372036854775807 := by
  unfold mt
  split
  · decide
  · have := mtL_length k.toNat
    simp only [ByteArray.size, List.size_toArray, List.length_cons]; omega
set_option maxHeartbeats 400000 in
theorem markText_any (k : Int) (w : World) (h : k ≤ 4611686018427387904) : Calls Tryd.prog 113 #[.int .i64 k] w fun e w' => e = .returned (.string (mt k)) ∧ Below w.heap.size w w' := by
  by_cases h0 : k ≤ 0
  · have H := Lib.hid (show mt k = ⟨#[109, 48]⟩ by rw [mt, if_pos h0])
    go_enter Tryd.func113, Tryd.ntmps113
    go_wp2_with fail
    go_ret
    exact ⟨by rw [H.out]; rfl, Below.refl _ _⟩
  · have H := Lib.hid (show mt k = ⟨(109 :: mtL k.toNat).toArray⟩ by rw [mt, if_neg h0])
    go_enter Tryd.func113, Tryd.ntmps113
    go_wp2_with fail
    go_loopw [0, 3] (fun x s wr => ∃ (q : Int) (L : List UInt8), 0 ≤ q ∧ q ≤ k ∧ x = .int .i64 q ∧ s = bstr L ∧ (L.length : Int) + q ≤ k ∧ Hid (mtL k.toNat = mtL q.toNat ++ L) ∧ Below w.heap.size w wr) (fun x _ _ => (intOf x).toNat)
    case atStart => exact ⟨k, [], by omega, by omega, rfl, rfl, by simp, Lib.hid (by simp), Below.refl _ _⟩
    case round =>
      obtain ⟨q, L, hq, hqk, rfl, rfl, hl, HM, hb⟩ := hrel
      by_cases hlt : 0 < q
      · have HS := Lib.hid (mtL_pos (n := q.toNat) (by omega))
        have hc := fun (W : World) (b : Nat) => run_str1 W b (48 + q.tmod 10)
        have hm : q.tmod 10 = q % 10 := Int.tmod_eq_emod_of_nonneg hq
        have hd : q.tdiv 10 = q / 10 := Int.tdiv_eq_ediv_of_nonneg hq
        rw [hm] at hc
        go_wp2_with fail
        go_roundw
        case rel => 
          refine ⟨q / 10, UInt8.ofNat (48 + q.toNat % 10) :: L, by omega, by omega, by first | rfl | rw [hd], ?_, ?_, Lib.hid ?_, (by (repeat' (first | with_reducible exact Below.refl _ _ | with_reducible refine below_alloc ?_ _ ?_ | with_reducible refine Below.setCell ?_ ?_ _ | with_reducible refine Below.drew ?_ | with_reducible refine below_drewN ?_ _ | with_reducible refine below_step ?_ (by assumption) ?_ | with_reducible refine below_mark ?_ (by assumption) ?_)); all_goals (first | omega | (simp; done) | (simp; omega)))⟩
          · rw [show (48 + q % 10).toNat = 48 + q.toNat % 10 by omega]; exact congrArg Value.string (bstr_cat _ _)
          · simp; omega
          · rw [HM.out, HS.out, show (q / 10).toNat = q.toNat / 10 by omega]; simp
        case measure => simp [intOf]; omega
      · have hq0 : q = 0 := by omega
        subst hq0
        go_wp2_with fail
        go_ret
        refine ⟨?_, hb⟩
        rw [H.out, HM.out, Int.toNat_zero, mtL_zero]
        exact congrArg (fun s => Ending.returned (.string s)) (bstr_cat [109] L).symm
def mkL (k : Int) (j : Nat) : List ByteArray := (List.range j).map fun (i : Nat) => mt (k + (i : Int))
theorem mkL_length (k : Int) (j : Nat) : (mkL k j).length = j := by simp [mkL]
theorem mkL_get (k : Int) (j i : Nat) (h : i < (mkL k j).length) : (mkL k j)[i] = mt (k + i) := by simp [mkL]
theorem mkL_set (k : Int) (l : List ByteArray) (j : Nat) (h : j < l.length) : (mkL k j ++ l.drop j).set j (mt (k + j)) = mkL k (j + 1) ++ l.drop (j + 1) := by
  have hl := mkL_length k j
  rw [List.set_append, if_neg (by omega), hl, Nat.sub_self, List.drop_eq_getElem_cons h, List.set_cons_zero]
  simp [mkL, List.range_succ]
theorem SRow.form {w : World} {base : Nat} {v : Value} {l : List ByteArray} (h : SRow w base v l) : ∃ a cap, v = .slice a l.length cap ∧ l.length ≤ cap ∧ cap ≤ 9223372036854775807 ∧ (l ≠ [] → ∃ g, a = some ⟨g, 0, none⟩ ∧ base ≤ g) := by
  rcases h.1.2 with ⟨rfl, hn⟩ | ⟨g, cap, cur, hv, hb, hg, hnc, hcm, _⟩
  · exact ⟨none, 0, by rw [hn], by omega, by omega, fun e => absurd (List.eq_nil_of_length_eq_zero hn) e⟩
  · exact ⟨_, _, hv, hnc, by simpa [maxLen] using hcm, fun _ => ⟨g, rfl, hb⟩⟩
set_option maxHeartbeats 400000 in
theorem markStringS_any (B : Nat) (v : Value) (l : List ByteArray) (k : Int) (w : World) (hrow : SRow w B v l) (hl : l.length ≤ 1099511627776) (hk0 : 0 ≤ k) (hk : k ≤ 1152921504606846976) :
    Calls Tryd.prog 55 #[v, .int .i64 k] w fun e w' => e = .returned (.int .i64 (k + l.length)) ∧ SRow w' B v (mkL k l.length) ∧ w.grownBy w' v.ownBlock := by
  obtain ⟨a, cap, rfl, hlc, hcm, ha⟩ := hrow.form
  have HA := Lib.hid ha; have HROW := Lib.hid hrow
  clear ha hrow
  go_enter Tryd.func55, Tryd.ntmps55
  go_wp2_with fail
  go_loopw [1, 5] (fun x i wr => ∃ j : Nat, j ≤ l.length ∧ i = .int .i64 j ∧ x = .int .i64 (k + j) ∧ SRow wr B (.slice a l.length cap) (mkL k j ++ l.drop j) ∧ w.grownBy wr (Value.ownBlock (.slice a l.length cap))) (fun _ i _ => l.length - (intOf i).toNat)
  case atStart => exact ⟨0, by omega, rfl, by simp, by simpa [mkL] using HROW.out, grownBy_refl _ _⟩
  case round =>
    obtain ⟨j, hj, rfl, rfl, hrow, hg⟩ := hrel
    have HR := Lib.hid hrow; have HG := Lib.hid hg
    clear hrow hg
    by_cases hlt : j < l.length
    · have hne : l ≠ [] := by intro e; rw [e] at hlt; simp at hlt
      obtain ⟨g, rfl, hBg⟩ := HA.out hne
      have MT := Lib.hid (fun W => markText_any (k + j) W (by omega))
      have HS := Lib.hid (mkL_set k l j hlt)
      have hms := mt_size (k + j) (by omega)
      generalize mt (k + j) = s at *
      go_wp2_with fail
      refine (MT.out _).mono ?_
      rintro e1 w1 ⟨rfl, hb1⟩
      have R1 := Lib.hid (show SRow w1 B (.slice (some ⟨g, 0, none⟩) l.length cap) (mkL k j ++ l.drop j) from HR.out.keep (fun x hx => hb1.block x (HR.out.lt x hx).2))
      obtain ⟨c1, c2⟩ := R1.out.cells (i := j) (by rw [List.length_append, mkL_length, List.length_drop]; omega)
      have R2 := Lib.hid (SRow.set (i := j) R1.out hms)
      go_wp2_with fail
      go_roundw
      case rel => exact ⟨j + 1, by omega, by go_num, by go_num, by rw [← HS.out]; exact R2.out, grownBy_trans (grownBy_trans HG.out (grownBy_below hb1)) (grownBy_cell _ _ _ _)⟩
      case measure => simp [intOf]; omega
    · have hj' : j = l.length := by omega
      subst hj'
      go_wp2_with fail
      go_ret
      exact ⟨rfl, by simpa using HR.out, HG.out⟩
set_option maxHeartbeats 400000 in
theorem heldStringS_any (w0 : World) (v : Value) (k : Int) (n : Nat) (h : RepSs w0 v (mkL k n)) (w : World) (hw : Below w0.heap.size w0 w) (hn : n ≤ 1099511627776) (hk0 : 0 ≤ k) (hk : k ≤ 1152921504606846976) :
    Calls Tryd.prog 56 #[v, .int .i64 k] w fun e w' => e = .returned (.int .i64 (k + n)) ∧ Below w.heap.size w w' := by
  obtain ⟨a, b, off, cap, rfl, ha, hc, hm, hcell⟩ := h
  rw [mkL_length] at hc ⊢
  have HA := Lib.hid ha; have HC := Lib.hid hcell
  clear ha hcell
  go_enter Tryd.func56, Tryd.ntmps56
  go_wp2_with fail
  go_loopw [1, 5] (fun x i wr => ∃ j : Nat, j ≤ n ∧ i = .int .i64 j ∧ x = .int .i64 (k + j) ∧ Below w.heap.size w wr) (fun _ i _ => n - (intOf i).toNat)
  case atStart => exact ⟨0, by omega, rfl, by simp, Below.refl _ _⟩
  case round =>
    obtain ⟨j, hj, rfl, rfl, hbl⟩ := hrel
    by_cases hlt : j < n
    · have hne : mkL k n ≠ [] := by intro e; have := mkL_length k n; rw [e] at this; simp at this; omega
      obtain ⟨rfl, hbw⟩ := HA.out hne
      have hcell : wr.cell? ⟨b, off + j, none⟩ = some (.string (mt (k + j))) := by
        rw [World.cell?_of_block (a := ⟨b, off + j, none⟩) ((hbl.block b (Nat.lt_of_lt_of_le hbw hw.size)).trans (hw.block b hbw)), (HC.out j (by rw [mkL_length]; exact hlt)).1, mkL_get]
      have MT := Lib.hid (fun W => markText_any (k + j) W (by omega))
      have t1 := ba_yes (rfl : mt (k + j) = mt (k + j))
      generalize mt (k + j) = s at *
      go_wp2_with fail
      have hbr : b < wr.heap.size := Nat.lt_of_lt_of_le hbw (Nat.le_trans hw.size hbl.size)
      go_region_held3 (fun w' => w'.cell? ⟨b, off + j, none⟩ = some (.string s)) (first | assumption | go_keep) ((go_at_call 113; refine (MT.out _).mono ?_; rintro e2 w2 ⟨rfl, hb2⟩; have hbc := (hb2.cell (p := ⟨b, off + j, none⟩) (by simp; omega)); have hbc2 := hbc.trans ‹_›))
      go_wp2_with fail
      go_roundw
      case rel => exact ⟨j + 1, by omega, by go_num, by go_num, (by (repeat' (first | with_reducible exact Below.refl _ _ | with_reducible refine below_alloc ?_ _ ?_ | with_reducible refine Below.setCell ?_ ?_ _ | with_reducible refine Below.drew ?_ | with_reducible refine below_drewN ?_ _ | with_reducible refine below_step ?_ (by assumption) ?_ | with_reducible refine below_mark ?_ (by assumption) ?_)); all_goals (first | omega | (simp; done) | (simp; omega)))⟩
      case measure => simp [intOf]; omega
    · have hj' : j = n := by omega
      subst hj'
      go_wp2_with fail
      go_ret
      exact ⟨rfl, hbl⟩
set_option maxHeartbeats 400000 in
theorem eqStringS_any (w0 : World) (v u : Value) (l : List ByteArray) (h : RepSs w0 v l) (h2 : RepSs w0 u l) (w : World) (hw : Below w0.heap.size w0 w) :
    Calls Tryd.prog 54 #[v, u] w fun e w' => e = .returned (.bool true) ∧ Below w.heap.size w w' := by
  obtain ⟨a, b, off, cap, rfl, ha, hc, hm, hcell⟩ := h
  obtain ⟨a2, b2, off2, cap2, rfl, ha2, hc2, hm2, hcell2⟩ := h2
  have HA := Lib.hid ha; have HC := Lib.hid hcell; have HA2 := Lib.hid ha2; have HC2 := Lib.hid hcell2
  clear ha hcell ha2 hcell2
  go_enter Tryd.func54, Tryd.ntmps54
  go_wp2_with fail
  go_loopw [5] (fun i wr => ∃ k : Nat, k ≤ l.length ∧ i = .int .i64 k ∧ Below w.heap.size w wr) (fun i _ => l.length - (intOf i).toNat)
  case atStart => exact ⟨0, by omega, rfl, Below.refl _ _⟩
  case round =>
    obtain ⟨k, hk, rfl, hbl⟩ := hrel
    by_cases hlt : k < l.length
    · have hne : l ≠ [] := by intro e; rw [e] at hlt; simp at hlt
      obtain ⟨rfl, hbw⟩ := HA.out hne
      obtain ⟨rfl, hbw2⟩ := HA2.out hne
      have hx : ∀ b, b < w0.heap.size → wr.heap[b]? = w0.heap[b]? := fun b hb => (hbl.block b (Nat.lt_of_lt_of_le hb hw.size)).trans (hw.block b hb)
      have hcell : wr.cell? ⟨b, off + k, none⟩ = some (.string l[k]) := by rw [World.cell?_of_block (a := ⟨b, off + k, none⟩) (hx b hbw)]; exact (HC.out k hlt).1
      have hcell2 : wr.cell? ⟨b2, off2 + k, none⟩ = some (.string l[k]) := by rw [World.cell?_of_block (a := ⟨b2, off2 + k, none⟩) (hx b2 hbw2)]; exact (HC2.out k hlt).1
      clear hx
      generalize l[k] = s at *
      have t1 := ba_yes (rfl : s = s)
      go_wp2_with fail
      go_quiet (fail)
      all_goals go_wp2_with fail
      all_goals go_roundw
      case rel => exact ⟨k + 1, by omega, by go_num, (by (repeat' (first | with_reducible exact Below.refl _ _ | with_reducible refine below_alloc ?_ _ ?_ | with_reducible refine Below.setCell ?_ ?_ _ | with_reducible refine Below.drew ?_ | with_reducible refine below_drewN ?_ _ | with_reducible refine below_step ?_ (by assumption) ?_ | with_reducible refine below_mark ?_ (by assumption) ?_)); all_goals (first | omega | (simp; done) | (simp; omega)))⟩
      case measure => simp [intOf]; omega
    · go_wp2_with fail
      go_ret
      exact ⟨rfl, hbl⟩
end Go.Proofs.YtiemlefmhleaeaaDoor
