/- For every list of names the program's NamesOk and the reference's answer the same and leave the argument as it was: the law returns true. -/
import Derived.Test.YtmjnghlmmaalhaaDoorNamesOk
import Derived.Test.YtmjnghlmmaalhaaDoorExact
import Derived.Test.YtmjnghlmmaalhaaDoorCardKit
import Derived.Deep.RegionWith
import Derived.Deep.DeepCutAuto
namespace Go.Proofs.YtmjnghlmmaalhaaDoor
set_option linter.unusedVariables false
set_option maxRecDepth 100000
open Go.ChangeShapes Go.WideShapes Go.ChangeAt Go.RowKit Go.Lib
set_option maxHeartbeats 8000000 in
theorem walk_FnExactNamesOk {w00 : World} (v0 : Value) (t0 : List ByteArray) (hv0 : RepSs w00 v0 t0) (w : World) (hww : w = w00) (hE : Env w) : Calls Tryd.prog 3 #[v0] w (LawRet w) := by
  subst hww
  have SZ0 := Lib.hid (fun w' (hh : Below w.heap.size w w') (m : Int) (h0 : 0 ≤ m) (h1 : m ≤ 1048576) => sz_namesB w v0 t0 hv0 w' hh m h0 h1)
  have TO0 := Lib.hid (fun w' (hh : Below w.heap.size w w') (hz : szl t0 ≤ 1048576) => to_names w v0 t0 hv0 (Nat.le_trans (szl_length _) hz) w' hh)
  have EQ0 := Lib.hid (fun w1 x y (h1 : RepSs w1 x t0) (h2 : RepSs w1 y t0) => eq_names w1 x y t0 h1 h2 w1 (Below.refl _ _))
  have KS := Lib.hid (fun w1 x0 (h0 : RepSs w1 x0 t0) (z0 : szl t0 ≤ 1048576) => NamesOk_spec w1 x0 t0 h0 z0 w1 (Below.refl _ _))
  have KI := Lib.hid (fun w1 x0 (h0 : RepSs w1 x0 t0) (z0 : szl t0 ≤ 1048576) (hh : Below w.heap.size w w1) => NamesOk_impl w1 x0 t0 h0 z0 w1 (Below.refl _ _) (Env.keep hE hh))
  clear hE
  have HCN0 := Lib.hid (fun (h : szl t0 ≤ 1048576) => Nat.le_trans (szl_length t0) h)
  obtain ⟨va0, vb0, vo0, vc0, rfl, _⟩ := hv0
  generalize namesB t0 = r0 at *
  go_enter Tryd.func3, Tryd.ntmps3
  go_wp2_with fail
  have HOK0 := Lib.hid (fun (h : ¬ szr (1048576) (szl t0) < 0) => szr_ok h)
  have hlo0 := szr_lo (1048576) (szl t0)
  refine (SZ0.out _ (by (repeat' (first | with_reducible exact Below.refl _ _ | with_reducible refine below_alloc ?_ _ ?_ | with_reducible refine Below.setCell ?_ ?_ _ | with_reducible refine Below.drew ?_ | with_reducible refine below_drewN ?_ _ | with_reducible refine below_step ?_ (by assumption) ?_ | with_reducible refine below_mark ?_ (by assumption) ?_)); all_goals (first | omega | (simp; done) | (simp; omega))) _ (by omega) (by omega)).mono ?_
  rintro e1 w1 ⟨rfl, hb1⟩
  have hz1 := hb1.size; try simp at hz1
  generalize szr (1048576) (szl t0) = m0 at *
  by_cases hm0 : m0 < 0
  · go_wp2_with fail
    go_ret
    exact ⟨rfl, (by (repeat' (first | with_reducible exact Below.refl _ _ | with_reducible refine below_alloc ?_ _ ?_ | with_reducible refine Below.setCell ?_ ?_ _ | with_reducible refine Below.drew ?_ | with_reducible refine below_drewN ?_ _ | with_reducible refine below_step ?_ (by assumption) ?_ | with_reducible refine below_mark ?_ (by assumption) ?_)); all_goals (first | omega | (simp; done) | (simp; omega)))⟩
  obtain ⟨hq0, hr0⟩ := HOK0.out hm0
  have hm0' : ¬ m0 < 0 := hm0
  have hs0 := HCN0.out (by omega)
  go_wp2_with fail
  refine (TO0.out _ (by (repeat' (first | with_reducible exact Below.refl _ _ | with_reducible refine below_alloc ?_ _ ?_ | with_reducible refine Below.setCell ?_ ?_ _ | with_reducible refine Below.drew ?_ | with_reducible refine below_drewN ?_ _ | with_reducible refine below_step ?_ (by assumption) ?_ | with_reducible refine below_mark ?_ (by assumption) ?_)); all_goals (first | omega | (simp; done) | (simp; omega))) (by omega)).mono ?_
  rintro e2 w2 ⟨_, rfl, po0, hb2⟩
  have hz2 := hb2.size; try simp at hz2
  obtain ⟨pa0, pc0, rfl⟩ := po0.slice
  have pO0 := Lib.hid po0
  have pR0 := Lib.hid po0.rep
  clear po0
  go_wp2_with fail
  refine (KS.out _ _ (pR0.out.keep (by (repeat' (first | with_reducible exact Below.refl _ _ | with_reducible refine below_alloc ?_ _ ?_ | with_reducible refine Below.setCell ?_ ?_ _ | with_reducible refine Below.drew ?_ | with_reducible refine below_drewN ?_ _ | with_reducible refine below_step ?_ (by assumption) ?_ | with_reducible refine below_mark ?_ (by assumption) ?_)); all_goals (first | omega | (simp; done) | (simp; omega)))) (by omega)).mono ?_
  rintro e3 w3 ⟨rfl, hb3⟩
  have hz3 := hb3.size; try simp at hz3
  go_wp2_with fail
  refine (TO0.out _ (by (repeat' (first | with_reducible exact Below.refl _ _ | with_reducible refine below_alloc ?_ _ ?_ | with_reducible refine Below.setCell ?_ ?_ _ | with_reducible refine Below.drew ?_ | with_reducible refine below_drewN ?_ _ | with_reducible refine below_step ?_ (by assumption) ?_ | with_reducible refine below_mark ?_ (by assumption) ?_)); all_goals (first | omega | (simp; done) | (simp; omega))) (by omega)).mono ?_
  rintro e4 w4 ⟨_, rfl, xo0, hb4⟩
  have hz4 := hb4.size; try simp at hz4
  obtain ⟨xa0, xc0, rfl⟩ := xo0.slice
  have xO0 := Lib.hid xo0
  have xR0 := Lib.hid xo0.rep
  clear xo0
  go_wp2_with fail
  refine (KI.out _ _ (xR0.out.keep (by (repeat' (first | with_reducible exact Below.refl _ _ | with_reducible refine below_alloc ?_ _ ?_ | with_reducible refine Below.setCell ?_ ?_ _ | with_reducible refine Below.drew ?_ | with_reducible refine below_drewN ?_ _ | with_reducible refine below_step ?_ (by assumption) ?_ | with_reducible refine below_mark ?_ (by assumption) ?_)); all_goals (first | omega | (simp; done) | (simp; omega)))) (by omega) (by (repeat' (first | with_reducible exact Below.refl _ _ | with_reducible refine below_alloc ?_ _ ?_ | with_reducible refine Below.setCell ?_ ?_ _ | with_reducible refine Below.drew ?_ | with_reducible refine below_drewN ?_ _ | with_reducible refine below_step ?_ (by assumption) ?_ | with_reducible refine below_mark ?_ (by assumption) ?_)); all_goals (first | omega | (simp; done) | (simp; omega)))).mono ?_
  rintro e5 w5 ⟨rfl, hb5⟩
  have hz5 := hb5.size; try simp at hz5
  have tn0 : (r0 != r0) = false := by simp
  go_wp2_with fail
  refine (TO0.out _ (by (repeat' (first | with_reducible exact Below.refl _ _ | with_reducible refine below_alloc ?_ _ ?_ | with_reducible refine Below.setCell ?_ ?_ _ | with_reducible refine Below.drew ?_ | with_reducible refine below_drewN ?_ _ | with_reducible refine below_step ?_ (by assumption) ?_ | with_reducible refine below_mark ?_ (by assumption) ?_)); all_goals (first | omega | (simp; done) | (simp; omega))) (by omega)).mono ?_
  rintro e6 w6 ⟨_, rfl, yo0, hb6⟩
  have hz6 := hb6.size; try simp at hz6
  have yR0 := Lib.hid yo0.rep
  clear yo0
  go_wp2_with fail
  refine (EQ0.out _ _ _ (xR0.out.keep (by (repeat' (first | with_reducible exact Below.refl _ _ | with_reducible refine below_alloc ?_ _ ?_ | with_reducible refine Below.setCell ?_ ?_ _ | with_reducible refine Below.drew ?_ | with_reducible refine below_drewN ?_ _ | with_reducible refine below_step ?_ (by assumption) ?_ | with_reducible refine below_mark ?_ (by assumption) ?_)); all_goals (first | omega | (simp; done) | (simp; omega)))) yR0.out).mono ?_
  rintro e7 w7 ⟨rfl, hb7⟩
  have hz7 := hb7.size; try simp at hz7
  go_wp2_with fail
  go_ret
  exact ⟨rfl, (by (repeat' (first | with_reducible exact Below.refl _ _ | with_reducible refine below_alloc ?_ _ ?_ | with_reducible refine Below.setCell ?_ ?_ _ | with_reducible refine Below.drew ?_ | with_reducible refine below_drewN ?_ _ | with_reducible refine below_step ?_ (by assumption) ?_ | with_reducible refine below_mark ?_ (by assumption) ?_)); all_goals (first | omega | (simp; done) | (simp; omega)))⟩
set_option maxRecDepth 100000 in
set_option maxHeartbeats 2000000 in
theorem lifted_FnExactNamesOk (os : Os) (started : os.Started) (H : Type) (enc : TypeId × Value → H) :
    ReturnsInHanded {} Tryd.checked os 3 .any (fun w args => (Rows.fnExactNamesOkSpec.pre enc Tryd.prog Tryd.f3 [] false w args ∧ laidMetH Tryd.prog Rows.fnExactNamesOkRow.laid w) ∧ sizedMet enc Tryd.prog Tryd.f3 (OpenSpec.ofChange Rows.fnExactNamesOkSpec) false w args)
      (Rows.fnExactNamesOkSpec.post enc Tryd.prog Tryd.f3 false true false false) := by
  refine returnsInHanded_of_change_and (C := Tryd.checked) (X := fun w _ => laidMetH Tryd.prog Rows.fnExactNamesOkRow.laid w) (fun _ _ _ hh h => h.of_heap hh) lawOwn started (by kernel_rfl) Tryd.func3
    (ChangeSpec.witness_shaped (enc := enc) (C := Tryd.checked) (os := os) (X := fun w _ => laidMetH Tryd.prog Rows.fnExactNamesOkRow.laid w) false (World.laidAll Tryd.prog os Rows.fnExactNamesOkRow.laid) #[.slice none 0 0] 8 (World.laidAll_os _ _ _)
      (World.shaped_of_ZipB (by kernel_rfl) (by kernel_rfl)) (by kernel_rfl) (by kernel_rfl) (by kernel_rfl)
      (by rw [MakeChecks.laidMetH_plain _ _ _ (by kernel_rfl)]; exact laidMet_laidAll _ (by kernel_rfl) (by kernel_rfl))) ?_
  intro W base args ds gs before hval0 hW _ _ hL _
  have hval : ∀ (j : Nat) t v, Tryd.f3.params[j]? = some t → args[j]? = some v → Value.okWide Tryd.prog W .any base t v := hval0
  have hW' := hW
  obtain ⟨p, q, hA0, hV, hpq, hfz, hnd⟩ := hW
  have hA : DataW.TrodAll enc Tryd.prog W 0 (fun _ => true) true Tryd.f3.params.toList args.toList ds p := hA0
  rw [Tryd.params3] at hA hval
  rw [MakeChecks.laidMetH_plain _ _ _ (by kernel_rfl)] at hL
  have hE : Env W := env_of (Lib.laidMet.reads hL (.tail _ (.head _))) (Lib.laidMet.reads hL (.head _))
  obtain ⟨v0, vs0, d0, ds0, p0, q0, hargs, rfl, hp, h0, r0⟩ := trodAll_cons hA
  obtain ⟨rfl, rfl, rfl⟩ := trodAll_nil r0
  obtain rfl : args = #[v0] := by cases args; simp_all
  obtain ⟨a0, w0⟩ := open_Ss (okWide_slice Tryd.underlying22 (hval 0 22 v0 rfl rfl)) h0
  refine (walk_FnExactNamesOk v0 a0 w0 W rfl hE).mono fun e W' ⟨he, hb⟩ => ?_
  subst he
  refine ⟨_, rfl, law_post rfl rfl rfl ?_ hW' hb⟩
  rw [Tryd.params3]
  intro t ht
  obtain rfl := List.mem_singleton.1 ht
  exact ⟨by kernel_rfl, of_decide_eq_true (by kernel_rfl)⟩
theorem row_FnExactNamesOk : Rows.FnExactNamesOkSaid :=
  OpenClaim.holds_of_wide 3 Tryd.f3 rfl rfl rfl rfl rfl rfl rfl ⟨rfl, rfl, rfl, rfl, rfl⟩ rfl rfl rfl rfl rfl (by kernel_rfl) Tryd.func3 (by kernel_rfl)
    (of_decide_eq_true (by kernel_rfl)) (by unfold Func.isWrapper; first | (rw [if_pos (by decide +kernel)]; kernel_rfl) | (rw [if_neg (by decide +kernel)]; exact ⟨rfl, rfl⟩))
    (fun os started H enc _ => lifted_FnExactNamesOk os started H enc)
/-- THE STATEMENT -/
theorem holds_FnExactNamesOkCard : Rows.FnExactNamesOkCardSaid :=
  Claim7.holds_tied_plain_at .later [] [.data, .pinned] true (true, "5aecb500b00aa1afc94ddf2b0b68169156ba80dd2796bff2d630372a8a604335") false row_FnExactNamesOk (fun _ h => by cases h) (by kernel_rfl) (fun _ h => by cases h) fnExactNamesOk_row_tie rfl ⟨rfl, rfl⟩ (by kernel_rfl) rfl
    (fun f fn hf hfn => by
      obtain rfl : f = 3 := Option.some.inj ((show Tryd.prog.funcNamed "loop.example/g00421/laws.FnExactNamesOk" = some 3 by kernel_rfl).symm.trans hf) |>.symm
      obtain rfl : fn = Tryd.f3 := (Option.some.inj (Tryd.func3.symm.trans hfn)).symm
      exact ⟨by kernel_rfl, fun j t ht => by
        have hm : t ∈ Tryd.f3.params.toList := by simpa using Array.mem_of_getElem? ht
        have hall : (Tryd.f3.params.toList.all fun u => !Tryd.prog.wantsStandIn u) = true := by kernel_rfl
        exact (show Tryd.prog.wantsStandIn t = false by simpa using List.all_eq_true.1 hall t hm)⟩)
    (by kernel_rfl)
#print axioms holds_FnExactNamesOkCard
end Go.Proofs.YtmjnghlmmaalhaaDoor
