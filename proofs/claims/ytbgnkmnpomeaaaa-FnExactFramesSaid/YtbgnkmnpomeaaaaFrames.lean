/- The contents of consecutive frames: impl.framesOf, impl.Frames, spec.Frames. -/
import Derived.Test.YtbgnkmnpomeaaaaGetFrame
import Derived.Test.YtbgnkmnpomeaaaaStrs
import Derived.Test.YtbgnkmnpomeaaaaInts
import Derived.Deep.QuietTactic
import Derived.BigQuiet
import Derived.WalkSpells
import Derived.Lib.Hide
namespace Go.Proofs.Ytbgnkmnpomeaaaa
set_option linter.unusedVariables false
open Go.RowKit
theorem getF_range (s : ByteArray) (i : Int) : (getF s i).2 = -1 ∨ (0 ≤ i ∧ i < (getF s i).2 ∧ (getF s i).2 ≤ s.size) := by
  unfold getF
  rcases getH_found s i with e | ⟨a, n, x, e, hf, _⟩
  · rw [e]; left; rfl
  · rw [e]
    have h1 := hf.i0; have h2 := hf.x0; have h3 := hf.n0
    simp only []
    split
    · left; rfl
    · split
      · right; simp only []; omega
      · left; rfl
theorem getF_size (s : ByteArray) (i : Int) : (getF s i).1.size ≤ s.size := by
  have hx : ∀ a b : Nat, (s.extract a b).size ≤ s.size := by intro a b; simp; omega
  unfold getF
  simp only []
  split
  · exact Nat.zero_le s.size
  · split
    · exact hx _ _
    · exact Nat.zero_le s.size
def frs (s : ByteArray) (i : Int) : List (ByteArray × Int) := if h : i < (getF s i).2 ∧ (getF s i).2 ≤ s.size ∧ 0 ≤ i then getF s i :: frs s (getF s i).2 else []
termination_by (s.size - i).toNat
theorem frs_stop {s : ByteArray} {i : Int} (h : (getF s i).2 < 0) (h0 : 0 ≤ i) : frs s i = [] := by
  rw [frs, dif_neg (by omega)]
theorem frs_go {s : ByteArray} {i : Int} (h : ¬ (getF s i).2 < 0) : frs s i = ((getF s i).1, (getF s i).2) :: frs s (getF s i).2 := by
  rw [frs, dif_pos (by have := getF_range s i; omega)]
/-- the texts of the frames of s, and the place behind the last one -/
def conts (P : List (ByteArray × Int)) : List ByteArray := P.map (·.1)
theorem conts_snoc (P : List (ByteArray × Int)) (x : ByteArray × Int) : conts (P ++ [x]) = conts P ++ [x.1] := by simp [conts]
theorem conts_length (P : List (ByteArray × Int)) : (conts P).length = P.length := by simp [conts]
def frL (s : ByteArray) : List ByteArray := conts (frs s 0)
def lastE (P : List (ByteArray × Int)) : Int := (P.map (·.2)).getLastD 0
theorem lastE_snoc (P : List (ByteArray × Int)) (x : ByteArray × Int) : lastE (P ++ [x]) = x.2 := by simp [lastE]
def frE (s : ByteArray) : Int := lastE (frs s 0)
set_option maxRecDepth 100000 in
set_option maxHeartbeats 800000 in
theorem Frames_spec (s : ByteArray) (w : World) (hs : s.size ≤ 1048576) :
    Calls Try.prog 35 #[.string s] w fun e w' => ∃ v, e = .returned (.tuple #[v, .int .i64 (frE s)]) ∧ SRow w' w.heap.size v (frL s) ∧ Below w.heap.size w w' := by
  go_enter Try.func35, Try.ntmps35
  go_wp2_with fail
  go_loopw [4, 5] (fun v x wr => ∃ (P : List (ByteArray × Int)) (i : Int), x = .int .i64 i ∧ SRow wr w.heap.size v (conts P) ∧ 0 ≤ i ∧ i ≤ s.size ∧ (P.length : Int) ≤ i ∧ Hid (frs s 0 = P ++ frs s i) ∧ Hid (lastE P = i) ∧ Below w.heap.size w wr) (fun _ x _ => s.size - (intOf x).toNat)
  case atStart => exact ⟨[], 0, rfl, SRow.made0 (Nat.le_refl _), by omega, by omega, by simp, Lib.hid (by simp), Lib.hid rfl, (by (repeat' (first | with_reducible exact Below.refl _ _ | with_reducible refine below_alloc ?_ _ ?_ | with_reducible refine Below.setCell ?_ ?_ _ | with_reducible refine Below.drew ?_ | with_reducible refine below_drewN ?_ _ | with_reducible refine below_step ?_ (by assumption) ?_)); all_goals (first | omega | (simp; done) | (simp; omega)))⟩
  case round =>
    obtain ⟨P, i, rfl, hrow, hi0, hi1, hP, HF, HL, hb⟩ := hrel
    have HR := Lib.hid hrow; clear hrow
    have hsz := hb.size
    have GF := Lib.hid (fun W => GetFrame_spec s i W (by omega) (by omega) (by omega))
    have hr := getF_range s i
    have HSZ := Lib.hid (Nat.le_trans (getF_size s i) hs)
    by_cases hneg : (getF s i).2 < 0
    · have HE := Lib.hid (frs_stop hneg hi0)
      generalize (getF s i).1 = c at *
      generalize (getF s i).2 = x at *
      clear hr
      go_wp2_with fail
      refine (GF.out _).mono ?_
      rintro e1 w1 ⟨rfl, hb1⟩
      go_wp2_with fail
      go_ret2
      refine ⟨u4, ?_, ?_, ?_⟩
      · rw [frE, HF.out, HE.out, List.append_nil, HL.out]; rfl
      · rw [frL, HF.out, HE.out, List.append_nil]
        exact HR.out.keep (fun y hy => hb1.block y (HR.out.lt y hy).2)
      · exact (by (repeat' (first | with_reducible exact Below.refl _ _ | with_reducible refine below_alloc ?_ _ ?_ | with_reducible refine Below.setCell ?_ ?_ _ | with_reducible refine Below.drew ?_ | with_reducible refine below_drewN ?_ _ | with_reducible refine below_step ?_ (by assumption) ?_)); all_goals (first | omega | (simp; done) | (simp; omega)))
    · have HE := Lib.hid (frs_go hneg)
      have HPx := Lib.hid (lastE_snoc P ((getF s i).1, (getF s i).2))
      generalize (getF s i).1 = c at *
      generalize (getF s i).2 = x at *
      go_wp2_with fail
      refine (GF.out _).mono ?_
      rintro e1 w1 ⟨rfl, hb1⟩
      have R1 := Lib.hid (show SRow (w1.alloc (.cells #[.string c] 9)) w.heap.size u4 (conts P) from HR.out.keep (fun y hy => (Below.heap_alloc _ _ _ (Nat.lt_of_lt_of_le (HR.out.lt y hy).2 hb1.size)).trans (hb1.block y (HR.out.lt y hy).2)))
      have S1 := Lib.hid (src_str1 w1 c)
      have hsz1 := hb1.size
      have hcl := conts_length P
      go_wp2_with (at_builtin; refine app_strs rfl _ _ _ rfl w.heap.size _ _ rfl R1.out _ rfl _ S1.out (by intro q hq; simp at hq; rw [hq]; have := HSZ.out; omega) (by simp; omega) (by simp; omega) ?_; intro v2 w2 hrow2 hg2 hfr2)
      go_roundw
      case rel =>
        refine ⟨P ++ [(c, x)], x, rfl, by rw [conts_snoc]; exact hrow2, by omega, by omega, by simp; omega, Lib.hid (by rw [HF.out, HE.out]; simp), Lib.hid HPx.out, ?_⟩
        exact (below_step hb hb1 (by omega)).trans (((Below.refl _ _).alloc (by omega) _).grown hg2 (by simp; omega) (fun k' hk' => (R1.out.lt k' hk').1))
      case measure => simp [intOf]; omega
def ends (P : List (ByteArray × Int)) : List Int := P.map (·.2)
theorem ends_snoc (P : List (ByteArray × Int)) (x : ByteArray × Int) : ends (P ++ [x]) = ends P ++ [x.2] := by simp [ends]
theorem ends_length (P : List (ByteArray × Int)) : (ends P).length = P.length := by simp [ends]
/-- two slices do not lie in the same block -/
def Apart (v u : Value) : Prop := ∀ x, v.ownBlock = some x → u.ownBlock = some x → False
theorem two_first {W w2 : World} {B : Nat} {v u v2 : Value} {l l2 : List ByteArray} {m : List Int} (hap : Apart v u) (hr : SRow W B v l) (hi : IRow W B u m) (hg : W.grownBy w2 v.ownBlock) (hf : FreshOr W v v2) (h2 : SRow w2 B v2 l2) (x : Int) :
    SRow (w2.alloc (.cells #[.int .i64 x] 3)) B v2 l2 ∧ IRow (w2.alloc (.cells #[.int .i64 x] 3)) B u m ∧ Apart v2 u := by
  have hs := hg.size
  refine ⟨h2.keep (fun y hy => Below.heap_alloc _ _ _ (h2.lt y hy).2), hi.keep (fun y hy => (Below.heap_alloc _ _ _ (Nat.lt_of_lt_of_le (hi.lt y hy).2 hs)).trans (hg.block y (hi.lt y hy).2 (fun e => hap y e.symm hy))), fun y h3 h4 => ?_⟩
  rcases hf with e | e
  · exact hap y (e ▸ h3) h4
  · rw [e] at h3; have := (hi.lt y h4).2; simp at h3; omega
theorem two_second {W w2 : World} {B : Nat} {v u u2 : Value} {l : List ByteArray} {m m2 : List Int} (hr : SRow W B v l) (hi : IRow W B u m) (hap : Apart v u) (hg : W.grownBy w2 u.ownBlock) (hf : FreshOr W u u2) (h2 : IRow w2 B u2 m2) :
    SRow w2 B v l ∧ IRow w2 B u2 m2 ∧ Apart v u2 := by
  have hs := hg.size
  refine ⟨hr.keep (fun y hy => hg.block y (hr.lt y hy).2 (fun e => hap y hy e.symm)), h2, fun y h3 h4 => ?_⟩
  rcases hf with e | e
  · exact hap y h3 (e ▸ h4)
  · rw [e] at h4; have := (hr.lt y h3).2; simp at h4; omega
set_option maxRecDepth 100000 in
set_option maxHeartbeats 800000 in
theorem framesOf_any (s : ByteArray) (w : World) (hs : s.size ≤ 1048576) :
    Calls Try.prog 59 #[.string s] w fun e w' => ∃ v u, e = .returned (.tuple #[v, u]) ∧ SRow w' w.heap.size v (frL s) ∧ IRow w' w.heap.size u (ends (frs s 0)) ∧ Below w.heap.size w w' := by
  go_enter Try.func59, Try.ntmps59
  go_wp2_with fail
  go_loopw [4, 5, 6] (fun v u x wr => ∃ (P : List (ByteArray × Int)) (i : Int), x = .int .i64 i ∧ SRow wr w.heap.size v (conts P) ∧ IRow wr w.heap.size u (ends P) ∧ Apart v u ∧ 0 ≤ i ∧ i ≤ s.size ∧ (P.length : Int) ≤ i ∧ Hid (frs s 0 = P ++ frs s i) ∧ Below w.heap.size w wr) (fun _ _ x _ => s.size - (intOf x).toNat)
  case atStart => 
    refine ⟨[], 0, rfl, ?_, ?_, ?_, by omega, by omega, by simp, Lib.hid (by simp), (by (repeat' (first | with_reducible exact Below.refl _ _ | with_reducible refine below_alloc ?_ _ ?_ | with_reducible refine Below.setCell ?_ ?_ _ | with_reducible refine Below.drew ?_ | with_reducible refine below_drewN ?_ _ | with_reducible refine below_step ?_ (by assumption) ?_)); all_goals (first | omega | (simp; done) | (simp; omega)))⟩
    · exact (SRow.made0 (Nat.le_refl _)).keep (fun y hy => Below.heap_alloc _ _ _ (by simp [Value.ownBlock] at hy; simp; omega))
    · have := IRow.made0 (w := w.alloc (.cells #[] 9)) (base := w.heap.size) (by simp)
      simpa [ends] using this
    · intro y h1 h2; simp [Value.ownBlock] at h1 h2; omega
  case round =>
    obtain ⟨P, i, rfl, hrow, hirow, hap, hi0, hi1, hP, HF, hb⟩ := hrel
    have HR := Lib.hid hrow; clear hrow
    have HI := Lib.hid hirow; clear hirow
    have HAP := Lib.hid hap; clear hap
    have hsz := hb.size
    have GF := Lib.hid (fun W => GetFrame_impl s i W (by omega) (by omega) (by omega))
    have hr := getF_range s i
    have HSZ := Lib.hid (Nat.le_trans (getF_size s i) hs)
    by_cases hneg : (getF s i).2 < 0
    · have HE := Lib.hid (frs_stop hneg hi0)
      generalize (getF s i).1 = c at *
      generalize (getF s i).2 = x at *
      clear hr
      go_wp2_with fail
      refine (GF.out _).mono ?_
      rintro e1 w1 ⟨rfl, hb1⟩
      go_wp2_with fail
      go_ret2
      refine ⟨u4, u5, rfl, ?_, ?_, ?_⟩
      · rw [frL, HF.out, HE.out, List.append_nil]
        exact HR.out.keep (fun y hy => hb1.block y (HR.out.lt y hy).2)
      · rw [HF.out, HE.out, List.append_nil]
        exact HI.out.keep (fun y hy => hb1.block y (HI.out.lt y hy).2)
      · exact (by (repeat' (first | with_reducible exact Below.refl _ _ | with_reducible refine below_alloc ?_ _ ?_ | with_reducible refine Below.setCell ?_ ?_ _ | with_reducible refine Below.drew ?_ | with_reducible refine below_drewN ?_ _ | with_reducible refine below_step ?_ (by assumption) ?_)); all_goals (first | omega | (simp; done) | (simp; omega)))
    · have HE := Lib.hid (frs_go hneg)
      generalize (getF s i).1 = c at *
      generalize (getF s i).2 = x at *
      go_wp2_with fail
      refine (GF.out _).mono ?_
      rintro e1 w1 ⟨rfl, hb1⟩
      have R1 := Lib.hid (show SRow (w1.alloc (.cells #[.string c] 9)) w.heap.size u4 (conts P) from HR.out.keep (fun y hy => (Below.heap_alloc _ _ _ (Nat.lt_of_lt_of_le (HR.out.lt y hy).2 hb1.size)).trans (hb1.block y (HR.out.lt y hy).2)))
      have I1 := Lib.hid (show IRow (w1.alloc (.cells #[.string c] 9)) w.heap.size u5 (ends P) from HI.out.keep (fun y hy => (Below.heap_alloc _ _ _ (Nat.lt_of_lt_of_le (HI.out.lt y hy).2 hb1.size)).trans (hb1.block y (HI.out.lt y hy).2)))
      have S1 := Lib.hid (src_str1 w1 c)
      have hsz1 := hb1.size
      have hcl := conts_length P
      have hel := ends_length P
      go_wp2_with (first | (at_builtin; refine app_strs rfl _ _ _ rfl w.heap.size _ _ rfl R1.out _ rfl _ S1.out (by intro q hq; simp at hq; rw [hq]; have := HSZ.out; omega) (by simp; omega) (by simp; omega) ?_; intro v2 w2 hrow2 hg2 hfr2; have HQ2 := Lib.hid (two_first HAP.out R1.out I1.out hg2 hfr2 hrow2 x); have S2 := Lib.hid (src_int1 w2 x); have hsz2 := hg2.size; have HG2 := Lib.hid hg2; clear hrow2 hg2 hfr2) | (at_builtin; refine app_ints rfl _ _ _ rfl w.heap.size _ _ rfl HQ2.out.2.1 _ rfl _ S2.out (by simp; omega) (by simp at hsz2; simp; omega) ?_; intro v4 w4 hrow4 hg4 hfr4; have HQ4 := Lib.hid (two_second HQ2.out.1 HQ2.out.2.1 HQ2.out.2.2 hg4 hfr4 hrow4); have HG4 := Lib.hid hg4; have hsz4 := hg4.size; clear hrow4 hg4 hfr4))
      go_roundw
      case rel =>
        refine ⟨P ++ [(c, x)], x, rfl, by rw [conts_snoc]; exact HQ4.out.1, by rw [ends_snoc]; exact HQ4.out.2.1, HQ4.out.2.2, by omega, by omega, by simp; omega, Lib.hid (by rw [HF.out, HE.out]; simp), ?_⟩
        have h1 := (below_step hb hb1 (by omega)).trans (((Below.refl _ _).alloc (by omega) _).grown HG2.out (by simp; omega) (fun k' hk' => (R1.out.lt k' hk').1))
        simp at hsz2
        exact h1.trans (((Below.refl _ _).alloc (by omega) _).grown HG4.out (by simp; omega) (fun k' hk' => (HI.out.lt k' hk').1))
      case measure => simp [intOf]; omega
theorem getLastD_get (l : List Int) (h : l ≠ []) (i : Nat) (hi : i + 1 = l.length) : l.getLastD 0 = l[i] := by
  rw [List.getLastD_eq_getLast?, List.getLast?_eq_getElem?, List.getElem?_eq_getElem (by omega)]
  simp only [Option.getD_some]
  congr 1; omega
set_option maxRecDepth 100000 in
set_option maxHeartbeats 800000 in
theorem Frames_impl (s : ByteArray) (w : World) (hs : s.size ≤ 1048576) :
    Calls Try.prog 36 #[.string s] w fun e w' => ∃ v, e = .returned (.tuple #[v, .int .i64 (frE s)]) ∧ SRow w' w.heap.size v (frL s) ∧ Below w.heap.size w w' := by
  have hf := fun W => framesOf_any s W hs
  unfold frE lastE
  unfold ends at hf
  generalize (frs s 0).map (·.2) = E at *
  have FO := Lib.hid hf; clear hf
  go_enter Try.func36, Try.ntmps36
  go_wp2_with fail
  refine (FO.out _).mono ?_
  rintro e1 w1 ⟨v, u, rfl, hrow, hirow, hb⟩
  obtain ⟨a, cap, rfl, hc, hm, ha⟩ := hirow.form
  have HR := Lib.hid hrow; have HI := Lib.hid hirow; clear hrow hirow
  by_cases hE : E = []
  · subst hE
    go_wp2_with fail
    go_ret2
    exact ⟨v, rfl, HR.out, hb⟩
  · obtain ⟨g, rfl, hg⟩ := ha hE
    have hpos : 0 < E.length := List.length_pos_iff.2 hE
    obtain ⟨n, hn⟩ : ∃ n, n + 1 = E.length := ⟨E.length - 1, by omega⟩
    have HL := Lib.hid (getLastD_get E hE n hn)
    obtain ⟨c1, _⟩ := HI.out.cells (i := n) (by omega)
    clear hE ha
    generalize E[n] = y at *
    have hn2 : n = E.length - 1 := by omega
    subst hn2
    clear hn
    generalize E.length = N at *
    have c2 : w1.cell? ⟨g, ((N : Int) - 1).toNat, none⟩ = some (.int .i64 y) := by rw [show ((N : Int) - 1).toNat = N - 1 by omega]; exact c1
    have b1 : (0 : Int) ≤ (N : Int) - 1 := by omega
    have b2 : (N : Int) - 1 < N := by omega
    have b3 : IntKind.i64.wrap ((N : Int) - 1) = (N : Int) - 1 := by simp [IntKind.wrap, IntKind.signed, IntKind.bits]; omega
    have b4 : ((N : Int) == 0) = false := by simp; omega
    go_wp2_with fail
    go_quiet (fail)
    all_goals go_wp2_with fail
    all_goals go_ret2
    all_goals exact ⟨v, by rw [HL.out]; rfl, HR.out.keep (fun _ _ => rfl), (by (repeat' (first | with_reducible exact Below.refl _ _ | with_reducible refine below_alloc ?_ _ ?_ | with_reducible refine Below.setCell ?_ ?_ _ | with_reducible refine Below.drew ?_ | with_reducible refine below_drewN ?_ _ | with_reducible refine below_step ?_ (by assumption) ?_)); all_goals (first | omega | (simp; done) | (simp; omega)))⟩
end Go.Proofs.Ytbgnkmnpomeaaaa
