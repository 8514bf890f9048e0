/- For every string the program's Frames and the reference's return the same list and the same place, in memory of their own, and the law returns true. -/
import Derived.Test.YtbgnkmnpomeaaaaLawKit
import Derived.Test.YtbgnkmnpomeaaaaFrames
import Derived.Test.YtbgnkmnpomeaaaaMarks
namespace Go.Proofs.Ytbgnkmnpomeaaaa
set_option linter.unusedVariables false
open Go.ChangeShapes Go.WideShapes Go.ChangeAt Go.RowKit
open Go.ChangeMaps (open_string shut_string)
theorem frs_len (s : ByteArray) : ∀ (n : Nat) (i : Int), (s.size - i).toNat ≤ n → (frs s i).length ≤ (s.size - i).toNat
  | 0, i, h => by
    rw [frs, dif_neg (by omega)]; exact Nat.zero_le _
  | n + 1, i, h => by
    rw [frs]
    split
    · rename_i hc
      have := frs_len s n (getF s i).2 (by omega)
      rw [List.length_cons]; omega
    · exact Nat.zero_le _
theorem frL_len (s : ByteArray) : (frL s).length ≤ s.size := by
  have := frs_len s _ 0 (Nat.le_refl _)
  rw [frL, conts_length]; omega
theorem SRow.stay {w w' : World} {base : Nat} {v : Value} {l : List ByteArray} (h : SRow w base v l) {B : Nat} (hb : Below B w w') (hB : w.heap.size ≤ B) : SRow w' base v l :=
  h.keep (fun x hx => hb.block x (Nat.lt_of_lt_of_le (h.lt x hx).2 hB))
set_option maxRecDepth 100000 in
set_option maxHeartbeats 800000 in
theorem walk_FnExactFrames (s : ByteArray) (hs : s.size ≤ maxLen) (w : World) : Calls Try.prog 10 #[.string s] w (LawRet w) := by
  unfold maxLen at hs
  by_cases h : s.size ≤ 1048576
  · have hn := Nat.le_trans (frL_len s) h
    have FS := Lib.hid (fun W => Frames_spec s W h)
    have FI := Lib.hid (fun W => Frames_impl s W h)
    generalize frL s = L at *
    generalize frE s = x at *
    generalize hN : L.length = N at *
    have HN := Lib.hid hN; clear hN
    have hn' : (N : Int) ≤ 1048576 := by omega
    go_enter Try.func10, Try.ntmps10
    go_wp2_with fail
    refine (FS.out _).mono ?_
    rintro e w1 ⟨v1, rfl, hr1, hb1⟩
    have R1 := Lib.hid hr1; clear hr1
    go_wp2_with fail
    refine (FI.out _).mono ?_
    rintro e w2 ⟨v2, rfl, hr2, hb2⟩
    have R2 := Lib.hid hr2; clear hr2
    have hz2 := hb2.size
    go_wp2_with fail
    refine (eqStringS_any _ _ _ L R2.out.rep (R1.out.stay hb2 (Nat.le_refl _)).rep _ (Below.refl _ _)).mono ?_
    rintro e w3 ⟨rfl, hb3⟩
    have hz3 := hb3.size
    have R3 := Lib.hid (R2.out.stay hb3 (Nat.le_refl _))
    go_wp2_with fail
    refine (markStringS_any _ _ L 1 _ R3.out (by have := HN.out; omega) (by omega) (by omega)).mono ?_
    rw [HN.out]
    rintro e w4 ⟨rfl, hr4, hg4⟩
    have R4 := Lib.hid hr4; clear hr4
    have hb4 : Below w1.heap.size w3 w4 := (Below.refl _ _).grown hg4 (by omega) (fun k' hk' => (R3.out.lt k' hk').1)
    clear hg4
    have hz1 := hb1.size
    have B4 : Below w1.heap.size w1 w4 := Below.trans (by (repeat' (first | with_reducible exact Below.refl _ _ | with_reducible refine below_alloc ?_ _ ?_ | with_reducible refine Below.setCell ?_ ?_ _ | with_reducible refine Below.drew ?_ | with_reducible refine below_drewN ?_ _ | with_reducible refine below_step ?_ (by assumption) ?_)); all_goals (first | omega | (simp; done) | (simp; omega))) hb4
    have C4 : Below w.heap.size w w4 := hb1.trans (B4.mono hz1)
    have hz4 := hb4.size
    go_wp2_with fail
    refine (heldStringS_any _ _ 1 N R4.out.rep _ (Below.refl _ _) (by omega) (by omega) (by omega)).mono ?_
    rintro e w5 ⟨rfl, hb5⟩
    have R5 := Lib.hid (R4.out.stay hb5 (Nat.le_refl _))
    have hz5 := hb5.size
    have t1 : ((1 + (N : Int)) != (1 + (N : Int))) = false := by simp
    have t2 : decide (1 + (N : Int) < 0) = false := by simp; omega
    go_wp2_with fail
    refine (FI.out _).mono ?_
    rintro e w6 ⟨v6, rfl, hr6, hb6⟩
    have hz6 := hb6.size
    have R6 := Lib.hid hr6; clear hr6
    have H1 := Lib.hid (R1.out.stay (B := w1.heap.size) (w' := w6) (below_step (below_step B4 hb5 (by omega)) hb6 (by omega)) (Nat.le_refl _))
    have H2 := Lib.hid (R5.out.stay hb6 (Nat.le_refl _))
    go_wp2_with fail
    refine (eqStringS_any _ _ _ L R6.out.rep H1.out.rep _ (Below.refl _ _)).mono ?_
    rintro e w7 ⟨rfl, hb7⟩
    have hz7 := hb7.size
    have H3 := Lib.hid (H2.out.stay hb7 (Nat.le_refl _))
    go_wp2_with fail
    refine (heldStringS_any _ _ 1 N H3.out.rep _ (Below.refl _ _) (by omega) (by omega) (by omega)).mono ?_
    rintro e w8 ⟨rfl, hb8⟩
    go_wp2_with fail
    go_ret
    exact ⟨rfl, below_step (below_step (below_step (below_step C4 hb5 (by omega)) hb6 (by omega)) hb7 (by omega)) hb8 (by omega)⟩
  · go_enter Try.func10, Try.ntmps10
    go_wp2_with fail
    go_ret
    exact ⟨rfl, Below.refl _ _⟩
set_option maxRecDepth 100000 in
theorem lifted_FnExactFrames (os : Os) (started : os.Started) (H : Type) (enc : TypeId × Value → H) :
    ReturnsInHanded {} Try.checked os 10 .any (Rows.fnExactFramesSpec.pre6 enc Try.prog Try.f10 Rows.fnExactFramesRow.domain false) (Rows.fnExactFramesSpec.post enc Try.prog Try.f10 false true false false) := by
  refine returnsInHanded_of_change (C := Try.checked) lawOwn started (by kernel_rfl) Try.func10
    (ChangeSpec.witness6 (enc := enc) (C := Try.checked) false ⟨#[], #[.string ByteArray.empty], []⟩ 8 (by kernel_rfl) (by kernel_rfl) (by kernel_rfl) (by kernel_rfl)) ?_
  intro W base args ds gs before hval0 hW hcnd _
  have hval : ∀ (j : Nat) t v, Try.f10.params[j]? = some t → args[j]? = some v → Value.okWide Try.prog W .any base t v := hval0
  have hW' := hW
  obtain ⟨p, q, hA0, hV, hpq, hfz, hnd⟩ := hW
  have hA : DataW.TrodAll enc Try.prog W 0 (fun _ => true) true Try.f10.params.toList args.toList ds p := hA0
  rw [Try.params10] at hA hval
  obtain ⟨v0, vs0, d0, ds0, p0, q0, hargs, rfl, hp, h0, r0⟩ := trodAll_cons hA
  obtain ⟨rfl, rfl, rfl⟩ := trodAll_nil r0
  obtain rfl : args = #[v0] := by cases args; simp_all
  obtain ⟨a0, rfl, rfl, rfl, w0⟩ := open_string Try.underlying9 (hval 0 9 v0 rfl rfl) h0
  refine (walk_FnExactFrames a0 w0 W).mono fun e W' ⟨he, hb⟩ => ?_
  subst he
  refine ⟨_, rfl, law_post rfl rfl rfl ?_ hW' hb⟩
  rw [Try.params10]
  intro t ht
  obtain rfl := List.mem_singleton.1 ht
  exact ⟨by kernel_rfl, of_decide_eq_true (by kernel_rfl)⟩
/-- THE STATEMENT -/
theorem holds_FnExactFrames : Rows.FnExactFramesSaid :=
  OpenClaim.holds_of_wide 10 Try.f10 rfl rfl rfl rfl rfl rfl rfl ⟨rfl, rfl, rfl, rfl, rfl⟩ rfl rfl rfl rfl rfl (by kernel_rfl) Try.func10 (by kernel_rfl)
    (of_decide_eq_true (by kernel_rfl)) (by unfold Func.isWrapper; first | (rw [if_pos (by decide +kernel)]; kernel_rfl) | (rw [if_neg (by decide +kernel)]; exact ⟨rfl, rfl⟩))
    (fun os started H enc _ => lifted_FnExactFrames os started H enc)
#print axioms holds_FnExactFrames
end Go.Proofs.Ytbgnkmnpomeaaaa
