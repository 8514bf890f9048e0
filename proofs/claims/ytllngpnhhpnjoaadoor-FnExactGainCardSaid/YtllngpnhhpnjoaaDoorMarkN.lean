/- laws.markNames: as markStringS. -/
import Derived.Test.YtllngpnhhpnjoaaDoorMarks
namespace Go.Proofs.YtllngpnhhpnjoaaDoor
set_option linter.unusedVariables false
set_option maxRecDepth 100000
open Go.RowKit
set_option maxHeartbeats 400000 in
theorem markNames_any (B : Nat) (v : Value) (l : List ByteArray) (k : Int) (w : World) (hrow : SRow w B v l) (hl : l.length ≤ 1099511627776) (hk0 : 0 ≤ k) (hk : k ≤ 1152921504606846976) :
    Calls Tryd.prog 33 #[v, .int .i64 k] w fun e w' => e = .returned (.int .i64 (k + l.length)) ∧ SRow w' B v (mkL k l.length) ∧ w.grownBy w' v.ownBlock := by
  obtain ⟨a, cap, rfl, hlc, hcm, ha⟩ := hrow.form
  have HA := Lib.hid ha; have HROW := Lib.hid hrow
  clear ha hrow
  go_enter Tryd.func33, Tryd.ntmps33
  go_wp2_with fail
  go_loopw [1, 5] (fun x i wr => ∃ j : Nat, j ≤ l.length ∧ i = .int .i64 j ∧ x = .int .i64 (k + j) ∧ SRow wr B (.slice a l.length cap) (mkL k j ++ l.drop j) ∧ w.grownBy wr (Value.ownBlock (.slice a l.length cap))) (fun _ i _ => l.length - (intOf i).toNat)
  case atStart => exact ⟨0, by omega, rfl, by simp, by simpa [mkL] using HROW.out, grownBy_refl _ _⟩
  case round =>
    obtain ⟨j, hj, rfl, rfl, hrow, hg⟩ := hrel
    have HR := Lib.hid hrow; have HG := Lib.hid hg
    clear hrow hg
    by_cases hlt : j < l.length
    · have hne : l ≠ [] := by intro e; rw [e] at hlt; simp at hlt
      obtain ⟨g, rfl, hBg⟩ := HA.out hne
      have MT := Lib.hid (fun W => markText_any (k + j) W (by omega))
      have HS := Lib.hid (mkL_set k l j hlt)
      have hms := mt_size (k + j) (by omega)
      generalize mt (k + j) = s at *
      go_wp2_with fail
      refine (MT.out _).mono ?_
      rintro e1 w1 ⟨rfl, hb1⟩
      have R1 := Lib.hid (show SRow w1 B (.slice (some ⟨g, 0, none⟩) l.length cap) (mkL k j ++ l.drop j) from HR.out.keep (fun x hx => hb1.block x (HR.out.lt x hx).2))
      obtain ⟨c1, c2⟩ := R1.out.cells (i := j) (by rw [List.length_append, mkL_length, List.length_drop]; omega)
      have R2 := Lib.hid (SRow.set (i := j) R1.out hms)
      go_wp2_with fail
      go_roundw
      case rel => exact ⟨j + 1, by omega, by go_num, by go_num, by rw [← HS.out]; exact R2.out, grownBy_trans (grownBy_trans HG.out (grownBy_below hb1)) (grownBy_cell _ _ _ _)⟩
      case measure => simp [intOf]; omega
    · have hj' : j = l.length := by omega
      subst hj'
      go_wp2_with fail
      go_ret
      exact ⟨rfl, by simpa using HR.out, HG.out⟩
end Go.Proofs.YtllngpnhhpnjoaaDoor
