/- For every integer the program's Least and the reference's return the same number, and the law returns true. -/
import Derived.Test.YtlholofiepjeaaaLawKit
namespace Go.Proofs.Ytlholofiepjeaaa
open Go.ChangeShapes Go.WideShapes Go.ChangeAt Go.RowKit
def leastOf (n : Int) : Int := if n < 24 then 3 else if n < 256 then 4 else if n < 65536 then 5 else if n < 4294967296 then 7 else 11
set_option maxHeartbeats 400000 in
theorem Least_spec (n : Int) (w : World) : Calls Try.prog 8 #[.int .i64 n] w fun e w' => e = .returned (.int .i64 (leastOf n)) ∧ w' = w := by
  unfold leastOf
  go_enter Try.func8, Try.ntmps8
  go_wp2
  all_goals go_ret
  all_goals simp [*]
set_option maxHeartbeats 400000 in
theorem Least_impl (n : Int) (w : World) : Calls Try.prog 9 #[.int .i64 n] w fun e w' => e = .returned (.int .i64 (leastOf n)) ∧ w' = w := by
  unfold leastOf
  go_enter Try.func9, Try.ntmps9
  go_wp2
  all_goals go_ret
  all_goals simp [*]
set_option maxHeartbeats 400000 in
theorem walk_FnExactLeast (n : Int) (hn : (Lit.int .i64 n).wf = true) (w : World) : Calls Try.prog 3 #[.int .i64 n] w (LawRet w) := by
  clear hn
  go_enter Try.func3, Try.ntmps3
  go_wp2_with fail
  refine (Least_spec _ _).mono ?_
  rintro e w' ⟨rfl, rfl⟩
  go_wp2_with fail
  refine (Least_impl _ _).mono ?_
  rintro e w' ⟨rfl, rfl⟩
  go_wp2_with fail
  go_ret
  exact ⟨rfl, Below.refl _ _⟩
set_option maxRecDepth 100000 in
theorem lifted_FnExactLeast (os : Os) (started : os.Started) (H : Type) (enc : TypeId × Value → H) :
    ReturnsInHanded {} Try.checked os 3 .any (Rows.fnExactLeastSpec.pre6 enc Try.prog Try.f3 Rows.fnExactLeastRow.domain false) (Rows.fnExactLeastSpec.post enc Try.prog Try.f3 false true false false) := by
  refine returnsInHanded_of_change (C := Try.checked) lawOwn started (by kernel_rfl) Try.func3
    (ChangeSpec.witness6 (enc := enc) (C := Try.checked) false ⟨#[], #[.int .i64 0], []⟩ 8 (by kernel_rfl) (by kernel_rfl) (by kernel_rfl) (by kernel_rfl)) ?_
  intro W base args ds gs before hval0 hW hcnd _
  have hval : ∀ (j : Nat) t v, Try.f3.params[j]? = some t → args[j]? = some v → Value.okWide Try.prog W .any base t v := hval0
  have hW' := hW
  obtain ⟨p, q, hA0, hV, hpq, hfz, hnd⟩ := hW
  have hA : DataW.TrodAll enc Try.prog W 0 (fun _ => true) true Try.f3.params.toList args.toList ds p := hA0
  rw [Try.params3] at hA hval
  obtain ⟨v0, vs0, d0, ds0, p0, q0, hargs, rfl, hp, h0, r0⟩ := trodAll_cons hA
  obtain ⟨rfl, rfl, rfl⟩ := trodAll_nil r0
  obtain rfl : args = #[v0] := by cases args; simp_all
  obtain ⟨a0, rfl, rfl, rfl, w0⟩ := open_int Try.underlying3 (hval 0 3 v0 rfl rfl) h0
  refine (walk_FnExactLeast a0 w0 W).mono fun e W' ⟨he, hb⟩ => ?_
  subst he
  refine ⟨_, rfl, law_post rfl rfl rfl ?_ hW' hb⟩
  rw [Try.params3]
  intro t ht
  obtain rfl := List.mem_singleton.1 ht
  exact ⟨by kernel_rfl, of_decide_eq_true (by kernel_rfl)⟩
/-- THE STATEMENT -/
theorem holds_FnExactLeast : Rows.FnExactLeastSaid :=
  OpenClaim.holds_of_wide 3 Try.f3 rfl rfl rfl rfl rfl rfl rfl ⟨rfl, rfl, rfl, rfl, rfl⟩ rfl rfl rfl rfl rfl (by kernel_rfl) Try.func3 (by kernel_rfl)
    (of_decide_eq_true (by kernel_rfl)) (by unfold Func.isWrapper; first | (rw [if_pos (by decide +kernel)]; kernel_rfl) | (rw [if_neg (by decide +kernel)]; exact ⟨rfl, rfl⟩))
    (fun os started H enc _ => lifted_FnExactLeast os started H enc)
#print axioms holds_FnExactLeast
end Go.Proofs.Ytlholofiepjeaaa
