/- What the laws write into results and look for later: laws.markText, markStringS, heldStringS; laws.eqStringS. -/
import Derived.Test.YtllngpnhhpnjoaaBytes
import Derived.Test.YtllngpnhhpnjoaaOwnV
import Derived.Deep.RegionHeld3
import Derived.Deep.QuietTactic
import Derived.BigQuiet
import Derived.WalkSpells
import Derived.Lib.Hide
namespace Go.Proofs.Ytllngpnhhpnjoaa
set_option linter.unusedVariables false
set_option maxRecDepth 100000
open Go.RowKit
theorem grownBy_refl (w : World) (r : Option Nat) : w.grownBy w r := ⟨rfl, rfl, rfl, Nat.le_refl _, fun _ _ _ => rfl⟩
theorem grownBy_below {a b : World} {r : Option Nat} (h : Below a.heap.size a b) : a.grownBy b r := ⟨h.os, h.tape, h.output, h.size, fun i hi _ => h.block i hi⟩
def mtL (n : Nat) : List UInt8 := if h : n = 0 then [] else mtL (n / 10) ++ [UInt8.ofNat (48 + n % 10)]
termination_by n
theorem mtL_zero : mtL 0 = [] := by rw [mtL]; rfl
theorem mtL_pos {n : Nat} (h : ¬ n = 0) : mtL n = mtL (n / 10) ++ [UInt8.ofNat (48 + n % 10)] := by rw [mtL, dif_neg h]
theorem mtL_length (n : Nat) : (mtL n).length ≤ n := by
  induction n using Nat.strongRecOn with
  | ind n ih =>
    by_cases h : n = 0
    · subst h; simp [mtL_zero]
    · rw [mtL_pos h, List.length_append]
      have := ih (n / 10) (by omega)
      simp; omega
theorem bstr_cat (l m : List UInt8) : (⟨l.toArray⟩ : ByteArray) ++ ⟨m.toArray⟩ = ⟨(l ++ m).toArray⟩ := by
  simp [ByteArray.ext_iff]
def mt (k : Int) : ByteArray := if k ≤ 0 then ⟨#[109, 48]⟩ else ⟨(109 :: mtL k.toNat).toArray⟩
theorem mt_size (k : Int) (h : k ≤ 4611686018427387904) : (mt k).size ≤ 9223372036854775807 := by
  unfold mt
  split
  · decide
  · have := mtL_length k.toNat
    simp only [ByteArray.size, List.size_toArray, List.length_cons]; omega
set_option maxHeartbeats 400000 in
theorem markText_any (k : Int) (w : World) (h : k ≤ 4611686018427387904) : Calls Try.prog 24 #[.int .i64 k] w fun e w' => e = .returned (.string (mt k)) ∧ Below w.heap.size w w' := by
  by_cases h0 : k ≤ 0
  · have H := Lib.hid (show mt k = ⟨#[109, 48]⟩ by rw [mt, if_pos h0])
    go_enter Try.func24, Try.ntmps24
    go_wp2_with fail
    go_ret
    exact ⟨by rw [H.out]; rfl, Below.refl _ _⟩
  · have H := Lib.hid (show mt k = ⟨(109 :: mtL k.toNat).toArray⟩ by rw [mt, if_neg h0])
    go_enter Try.func24, Try.ntmps24
    go_wp2_with fail
    go_loopw [0, 3] (fun x s wr => ∃ (q : Int) (L : List UInt8), 0 ≤ q ∧ q ≤ k ∧ x = .int .i64 q ∧ s = bstr L ∧ (L.length : Int) + q ≤ k ∧ Hid (mtL k.toNat = mtL q.toNat ++ L) ∧ Below w.heap.size w wr) (fun x _ _ => (intOf x).toNat)
    case atStart => exact ⟨k, [], by omega, by omega, rfl, rfl, by simp, Lib.hid (by simp), Below.refl _ _⟩
    case round =>
      obtain ⟨q, L, hq, hqk, rfl, rfl, hl, HM, hb⟩ := hrel
      by_cases hlt : 0 < q
      · have HS := Lib.hid (mtL_pos (n := q.toNat) (by omega))
        have hc := fun (W : World) (b : Nat) => run_str1 W b (48 + q.tmod 10)
        have hm : q.tmod 10 = q % 10 := Int.tmod_eq_emod_of_nonneg hq
        have hd : q.tdiv 10 = q / 10 := Int.tdiv_eq_ediv_of_nonneg hq
        rw [hm] at hc
        go_wp2_with fail
        go_roundw
        case rel => 
          refine ⟨q / 10, UInt8.ofNat (48 + q.toNat % 10) :: L, by omega, by omega, by first | rfl | rw [hd], ?_, ?_, Lib.hid ?_, (by (repeat' (first | with_reducible exact Below.refl _ _ | with_reducible refine below_alloc ?_ _ ?_ | with_reducible refine Below.setCell ?_ ?_ _ | with_reducible refine Below.drew ?_ | with_reducible refine below_drewN ?_ _ | with_reducible refine below_step ?_ (by assumption) ?_ | with_reducible refine below_mark ?_ (by assumption) ?_)); all_goals (first | omega | (simp; done) | (simp; omega)))⟩
          · rw [show (48 + q % 10).toNat = 48 + q.toNat % 10 by omega]; exact congrArg Value.string (bstr_cat _ _)
          · simp; omega
          · rw [HM.out, HS.out, show (q / 10).toNat = q.toNat / 10 by omega]; simp
        case measure => simp [intOf]; omega
      · have hq0 : q = 0 := by omega
        subst hq0
        go_wp2_with fail
        go_ret
        refine ⟨?_, hb⟩
        rw [H.out, HM.out, Int.toNat_zero, mtL_zero]
        exact congrArg (fun s => Ending.returned (.string s)) (bstr_cat [109] L).symm
end Go.Proofs.Ytllngpnhhpnjoaa
