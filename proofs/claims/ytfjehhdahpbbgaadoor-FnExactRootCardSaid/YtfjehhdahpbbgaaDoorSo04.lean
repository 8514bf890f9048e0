/- Lemmas for the statement of the last text of this claim: texts joined. -/
import Derived.Test.YtfjehhdahpbbgaaDoorSo01
import Derived.Test.YtfjehhdahpbbgaaDoorSo02
import Derived.Test.YtfjehhdahpbbgaaDoorSo03
import Derived.Deep.RegionHeld3
import Derived.Deep.RegionWith
import Derived.Lib.Hide
import Derived.Deep.QuietTactic
import Derived.BigQuiet
import Derived.WalkSpells
import Derived.Deep.DeepCutAuto
import Derived.BigGuard
import Derived.OwnWalk
namespace Go.Proofs.YtfjehhdahpbbgaaDoor
set_option linter.unusedSimpArgs false
set_option linter.unusedVariables false
set_option maxRecDepth 100000
open Go.RowKit
theorem own_nes (n e : Int) (s : ByteArray) : decide (n = 0 ∧ e = 0 ∧ s.size = 0) = ((n == 0) && (e == 0) && s.toList.isEmpty) := by
  rw [Bool.decide_and, Bool.decide_and, Bool.and_assoc]
  congr 1
  congr 1
  by_cases h : s.size = 0
  · rw [ba_empty h, ByteArray.toList_eq]; rfl
  · rw [(str_ne h).2.1, decide_eq_false h]
theorem own_es (e : Int) (s : ByteArray) : decide (e = 0 ∧ s.size = 0) = ((e == 0) && s.toList.isEmpty) := by
  have := own_nes 0 e s
  simpa using this
theorem own_s (s : ByteArray) : decide (s.size = 0) = s.toList.isEmpty := by
  have := own_nes 0 0 s
  simpa using this
theorem own_ne (n e : Int) (P : Prop) [Decidable P] : decide (n = 0 ∧ e = 0 ∧ P) = ((n == 0) && (e == 0) && decide P) := by
  rw [Bool.decide_and, Bool.decide_and, Bool.and_assoc]; rfl
theorem own_len (n : Nat) (q : Nat) : decide (n = q) = ((n : Int) == (q : Int)) := by
  by_cases h : n = q
  · subst h; simp
  · rw [decide_eq_false h]
    symm
    rw [beq_eq_false_iff_ne]
    omega
theorem l01In_any (a lo hi : Int) (w : World) : Calls Tryd.prog 55 #[.int .i64 a, .int .i64 lo, .int .i64 hi] w fun e w' => e = .returned (.bool (decide (lo ≤ a ∧ a ≤ hi))) ∧ w' = w := by
  by_cases h1 : lo ≤ a
  · by_cases h2 : a ≤ hi
    · have t1 : decide (lo ≤ a) = true := decide_eq_true h1
      have t2 : decide (a ≤ hi) = true := decide_eq_true h2
      rw [decide_eq_true ⟨h1, h2⟩]
      go_enter Tryd.func55, Tryd.ntmps55
      go_wp2_with fail
      go_ret
      exact ⟨rfl, rfl⟩
    · have t1 : decide (lo ≤ a) = true := decide_eq_true h1
      have t2 : decide (a ≤ hi) = false := decide_eq_false h2
      rw [decide_eq_false (fun h => h2 h.2)]
      go_enter Tryd.func55, Tryd.ntmps55
      go_wp2_with fail
      go_ret
      exact ⟨rfl, rfl⟩
  · have t1 : decide (lo ≤ a) = false := decide_eq_false h1
    rw [decide_eq_false (fun h => h1 h.1)]
    go_enter Tryd.func55, Tryd.ntmps55
    go_wp2_with fail
    go_ret
    exact ⟨rfl, rfl⟩

set_option maxHeartbeats 1000000 in
theorem own_a (t : V) (h : t.k = 0 ∨ t.k = 1 ∨ t.k = 2) : ownB t = ((t.n == 0) && (t.e == 0) && t.s.toList.isEmpty && ((t.kids.length : Int) == 0)) := by
  have h' := h
  unfold ownB nodeB
  rw [if_pos (by omega), if_neg (by omega), if_neg (by omega), if_neg (by omega), own_nes, own_len]; rfl
set_option maxHeartbeats 1000000 in
theorem own_b (t : V) (h : t.k = 3) : ownB t = ((t.e == 0) && t.s.toList.isEmpty && ((t.kids.length : Int) == 0)) := by
  have h' := h
  unfold ownB nodeB
  rw [if_neg (by omega), if_pos h, if_neg (by omega), if_neg (by omega), if_neg (by omega), own_es, own_len]; rfl
set_option maxHeartbeats 1000000 in
theorem own_c (t : V) (h : t.k = 4) : ownB t = ((t.n.tmod 10 != 0) && (decide (-999999999999999999 ≤ t.n ∧ t.n ≤ 999999999999999999)) && (decide (-20 ≤ t.e ∧ t.e ≤ 20)) && !(t.e == 0) && t.s.toList.isEmpty && ((t.kids.length : Int) == 0) && !(decide (0 < t.e) && (fits10 t.n t.e.toNat).isSome)) := by
  have h' := h
  unfold ownB nodeB
  rw [if_neg (by omega), if_neg (by omega), if_pos h, if_neg (by omega), if_neg (by omega), if_neg (by omega), own_s, own_len, decOk_eq]
  rw [show decide (t.e ≠ 0) = !(t.e == 0) by by_cases h0 : t.e = 0 <;> simp [h0]]
  rw [show decide (t.n.tmod 10 ≠ 0) = (t.n.tmod 10 != 0) by by_cases h0 : t.n.tmod 10 = 0 <;> simp [h0]]
  generalize (t.n.tmod 10 != 0) = a1
  generalize (decide (-999999999999999999 ≤ t.n ∧ t.n ≤ 999999999999999999)) = a2
  generalize decide (-20 ≤ t.e ∧ t.e ≤ 20) = a3
  generalize (t.e == 0) = a4
  generalize (decide (0 < t.e) && (fits10 t.n t.e.toNat).isSome) = a5
  generalize t.s.toList.isEmpty = a6
  show (a1 && a2 && a3 && !a4 && !a5 && a6 && ((t.kids.length : Int) == 0)) = _
  generalize ((t.kids.length : Int) == 0) = a7
  cases a1 <;> cases a2 <;> cases a3 <;> cases a4 <;> cases a5 <;> cases a6 <;> cases a7 <;> rfl
set_option maxHeartbeats 1000000 in
theorem own_d (t : V) (h : t.k = 5) : ownB t = ((t.n == 0) && (t.e == 0) && txt t.s && (decide ((t.s.size : Int) ≤ 2000)) && ((t.kids.length : Int) == 0)) := by
  have h' := h
  unfold ownB nodeB
  rw [if_neg (by omega), if_neg (by omega), if_neg (by omega), if_pos h, if_neg (by omega), if_neg (by omega), if_neg (by omega), own_ne, own_len]
  rw [show decide (t.s.size ≤ 2000) = decide ((t.s.size : Int) ≤ 2000) by rw [decide_eq_decide]; omega]
  generalize decide ((t.s.size : Int) ≤ 2000) = a1
  generalize txt t.s = a2
  generalize (t.n == 0) = a3
  generalize (t.e == 0) = a4
  cases a1 <;> cases a2 <;> cases a3 <;> cases a4 <;> rfl
set_option maxHeartbeats 1000000 in
theorem own_f (t : V) (h : t.k = 6) : ownB t = ((t.n == 0) && (t.e == 0) && (decide ((t.s.size : Int) ≤ 2000)) && ((t.kids.length : Int) == 0)) := by
  have h' := h
  unfold ownB nodeB
  rw [if_neg (by omega), if_neg (by omega), if_neg (by omega), if_neg (by omega), if_pos h, if_neg (by omega), if_neg (by omega), if_neg (by omega), own_ne, own_len]
  rw [show decide (t.s.size ≤ 2000) = decide ((t.s.size : Int) ≤ 2000) by rw [decide_eq_decide]; omega]
  rfl
set_option maxHeartbeats 1000000 in
theorem own_g (t : V) (h : t.k = 7) : ownB t = ((t.n == 0) && (t.e == 0) && t.s.toList.isEmpty) := by
  have h' := h
  unfold ownB nodeB
  rw [if_pos (by omega), if_pos h, own_nes, Bool.and_true]
set_option maxHeartbeats 1000000 in
theorem own_h (t : V) (h : t.k = 8) : ownB t = ((t.n == 0) && (t.e == 0) && t.s.toList.isEmpty && (pairsB t.kids)) := by
  have h' := h
  unfold ownB nodeB
  rw [if_pos (by omega), if_neg (by omega), if_neg (by omega), if_pos h, own_nes]
set_option maxHeartbeats 1000000 in
theorem own_i (t : V) (h : t.k = 9) : ownB t = ((decide (0 ≤ t.n ∧ t.n ≤ 1000000)) && (t.e == 0) && t.s.toList.isEmpty && ((t.kids.length : Int) == 1)) := by
  have h' := h
  unfold ownB nodeB
  rw [if_neg (by omega), if_neg (by omega), if_neg (by omega), if_neg (by omega), if_neg (by omega), if_pos h, if_neg (by omega), if_pos h, own_len]
  rw [show decide (0 ≤ t.n ∧ t.n ≤ 1000000 ∧ t.e = 0 ∧ t.s.size = 0) = (decide (0 ≤ t.n ∧ t.n ≤ 1000000) && (decide (t.e = 0 ∧ t.s.size = 0))) by rw [← Bool.decide_and, decide_eq_decide]; omega, own_es, ← Bool.and_assoc]
  rfl
theorem own_j (t : V) (h : ¬ (0 ≤ t.k ∧ t.k ≤ 9)) : ownB t = false := by
  unfold ownB nodeB
  rw [if_neg (by omega), if_neg (by omega), if_neg (by omega), if_neg (by omega), if_neg (by omega), if_neg (by omega)]; rfl
set_option maxHeartbeats 4000000 in
theorem l02Own_any (w0 : World) (v : Value) (t : V) (h : Rep w0 v t) (hsz : t.sz ≤ 1048576) (w : World) (hw : Below w0.heap.size w0 w) :
    Calls Tryd.prog 102 #[v] w (BoolRet (ownB t) w) := by
  obtain ⟨sl, rfl, hwf, hr⟩ := h
  have hks : t.kids.length ≤ 1048576 := by have := V.sz_eq t; have := szs_length t.kids; omega
  have hss : t.s.size ≤ 1048576 := by have := V.sz_eq t; omega
  obtain ⟨b, hb⟩ : ∃ b : Bool, b = ownB t := ⟨_, rfl⟩
  rw [← hb]
  obtain ⟨a, bb, off, cap, rfl, ha, hc, hm, sls, hel⟩ := hr.opened
  unfold V.agg
  have HB := Lib.hid hb
  have HW := Lib.hid hw
  have HR := Lib.hid hr
  have HWF := Lib.hid hwf
  clear hb ha hc hm hel hw hr hwf
  go_enter Tryd.func102, Tryd.ntmps102
  go_wp2_with fail
  go_quiet (fail)
  have LP := Lib.hid (fun (W : World) (hW : Below w.heap.size w W) => l02Pairs_any w0 _ t.kids HR.out W (HW.out.trans (hW.mono HW.out.size)) hks)
  have TO := Lib.hid (fun (W : World) => textOk_spec t.s W (by omega))
  have WH := Lib.hid (fun (W : World) => l02Whole_any t.n t.e HWF.out.2.1 HWF.out.2.2.1 W)
  have IN1 := Lib.hid (fun (W : World) => l01In_any t.n (-999999999999999999) 999999999999999999 W)
  have IN2 := Lib.hid (fun (W : World) => l01In_any t.e (-20) 20 W)
  have IN3 := Lib.hid (fun (W : World) => l01In_any t.n 0 1000000 W)
  obtain ⟨hwfk, -⟩ := HWF.out
  clear HW HR

  by_cases hk : t.k = 0 ∨ t.k = 1 ∨ t.k = 2
  case' pos =>
    have HB := Lib.hid (show b = ((t.n == 0) && (t.e == 0) && t.s.toList.isEmpty && ((t.kids.length : Int) == 0)) by rw [HB.out, own_a t hk])
    clear HWF LP TO WH IN1 IN2 IN3
    generalize hg0 : (t.n == 0) = g0 at *
    generalize hg1 : (t.e == 0) = g1 at *
    generalize hg2 : t.s.toList.isEmpty = g2 at *
    generalize hg3 : ((t.kids.length : Int) == 0) = g3 at *
    generalize t.k = xk at *
    rcases hk with rfl | rfl | rfl
    all_goals
      cases g0
      case false =>
        go_wp2_with fail
        go_ret
        exact ⟨by rw [HB.out]; simp, (by (repeat' (first | with_reducible exact Below.refl _ _ | with_reducible refine below_alloc ?_ _ ?_ | with_reducible refine Below.setCell ?_ ?_ _ | with_reducible refine Below.drew ?_ | with_reducible refine below_drewN ?_ _ | with_reducible refine below_step ?_ (by assumption) ?_ | with_reducible refine below_mark ?_ (by assumption) ?_)); all_goals (first | omega | (simp; done) | (simp; omega)))⟩
      case true =>
        cases g1
        case false =>
          go_wp2_with fail
          go_ret
          exact ⟨by rw [HB.out]; simp, (by (repeat' (first | with_reducible exact Below.refl _ _ | with_reducible refine below_alloc ?_ _ ?_ | with_reducible refine Below.setCell ?_ ?_ _ | with_reducible refine Below.drew ?_ | with_reducible refine below_drewN ?_ _ | with_reducible refine below_step ?_ (by assumption) ?_ | with_reducible refine below_mark ?_ (by assumption) ?_)); all_goals (first | omega | (simp; done) | (simp; omega)))⟩
        case true =>
          cases g2
          case false =>
            go_wp2_with fail
            go_ret
            exact ⟨by rw [HB.out]; simp, (by (repeat' (first | with_reducible exact Below.refl _ _ | with_reducible refine below_alloc ?_ _ ?_ | with_reducible refine Below.setCell ?_ ?_ _ | with_reducible refine Below.drew ?_ | with_reducible refine below_drewN ?_ _ | with_reducible refine below_step ?_ (by assumption) ?_ | with_reducible refine below_mark ?_ (by assumption) ?_)); all_goals (first | omega | (simp; done) | (simp; omega)))⟩
          case true =>
            cases g3
            case false =>
              go_wp2_with fail
              go_ret
              exact ⟨by rw [HB.out]; simp, (by (repeat' (first | with_reducible exact Below.refl _ _ | with_reducible refine below_alloc ?_ _ ?_ | with_reducible refine Below.setCell ?_ ?_ _ | with_reducible refine Below.drew ?_ | with_reducible refine below_drewN ?_ _ | with_reducible refine below_step ?_ (by assumption) ?_ | with_reducible refine below_mark ?_ (by assumption) ?_)); all_goals (first | omega | (simp; done) | (simp; omega)))⟩
            case true =>
              go_wp2_with fail
              go_ret
              exact ⟨by rw [HB.out]; rfl, (by (repeat' (first | with_reducible exact Below.refl _ _ | with_reducible refine below_alloc ?_ _ ?_ | with_reducible refine Below.setCell ?_ ?_ _ | with_reducible refine Below.drew ?_ | with_reducible refine below_drewN ?_ _ | with_reducible refine below_step ?_ (by assumption) ?_ | with_reducible refine below_mark ?_ (by assumption) ?_)); all_goals (first | omega | (simp; done) | (simp; omega)))⟩
  case' neg =>
    have hka := hk; clear hk
  by_cases hk : t.k = 3
  case' pos =>
    have HB := Lib.hid (show b = ((t.e == 0) && t.s.toList.isEmpty && ((t.kids.length : Int) == 0)) by rw [HB.out, own_b t hk])
    clear HWF LP TO WH IN1 IN2 IN3
    generalize hg0 : (t.e == 0) = g0 at *
    generalize hg1 : t.s.toList.isEmpty = g1 at *
    generalize hg2 : ((t.kids.length : Int) == 0) = g2 at *
    generalize t.k = xk at *
    subst hk
    cases g0
    case false =>
      go_wp2_with fail
      go_ret
      exact ⟨by rw [HB.out]; simp, (by (repeat' (first | with_reducible exact Below.refl _ _ | with_reducible refine below_alloc ?_ _ ?_ | with_reducible refine Below.setCell ?_ ?_ _ | with_reducible refine Below.drew ?_ | with_reducible refine below_drewN ?_ _ | with_reducible refine below_step ?_ (by assumption) ?_ | with_reducible refine below_mark ?_ (by assumption) ?_)); all_goals (first | omega | (simp; done) | (simp; omega)))⟩
    case true =>
      cases g1
      case false =>
        go_wp2_with fail
        go_ret
        exact ⟨by rw [HB.out]; simp, (by (repeat' (first | with_reducible exact Below.refl _ _ | with_reducible refine below_alloc ?_ _ ?_ | with_reducible refine Below.setCell ?_ ?_ _ | with_reducible refine Below.drew ?_ | with_reducible refine below_drewN ?_ _ | with_reducible refine below_step ?_ (by assumption) ?_ | with_reducible refine below_mark ?_ (by assumption) ?_)); all_goals (first | omega | (simp; done) | (simp; omega)))⟩
      case true =>
        cases g2
        case false =>
          go_wp2_with fail
          go_ret
          exact ⟨by rw [HB.out]; simp, (by (repeat' (first | with_reducible exact Below.refl _ _ | with_reducible refine below_alloc ?_ _ ?_ | with_reducible refine Below.setCell ?_ ?_ _ | with_reducible refine Below.drew ?_ | with_reducible refine below_drewN ?_ _ | with_reducible refine below_step ?_ (by assumption) ?_ | with_reducible refine below_mark ?_ (by assumption) ?_)); all_goals (first | omega | (simp; done) | (simp; omega)))⟩
        case true =>
          go_wp2_with fail
          go_ret
          exact ⟨by rw [HB.out]; rfl, (by (repeat' (first | with_reducible exact Below.refl _ _ | with_reducible refine below_alloc ?_ _ ?_ | with_reducible refine Below.setCell ?_ ?_ _ | with_reducible refine Below.drew ?_ | with_reducible refine below_drewN ?_ _ | with_reducible refine below_step ?_ (by assumption) ?_ | with_reducible refine below_mark ?_ (by assumption) ?_)); all_goals (first | omega | (simp; done) | (simp; omega)))⟩
  case' neg =>
    have hkb := hk; clear hk
  by_cases hk : t.k = 4
  case' pos =>
    have HB := Lib.hid (show b = ((t.n.tmod 10 != 0) && (decide (-999999999999999999 ≤ t.n ∧ t.n ≤ 999999999999999999)) && (decide (-20 ≤ t.e ∧ t.e ≤ 20)) && !(t.e == 0) && t.s.toList.isEmpty && ((t.kids.length : Int) == 0) && !(decide (0 < t.e) && (fits10 t.n t.e.toNat).isSome)) by rw [HB.out, own_c t hk])
    clear HWF LP TO IN3
    generalize hg0 : (t.n.tmod 10 != 0) = g0 at *
    obtain ⟨g1, hg1⟩ : ∃ g : Bool, g = ((decide (-999999999999999999 ≤ t.n ∧ t.n ≤ 999999999999999999))) := ⟨_, rfl⟩
    rw [← hg1] at HB IN1
    clear hg1
    obtain ⟨g2, hg2⟩ : ∃ g : Bool, g = ((decide (-20 ≤ t.e ∧ t.e ≤ 20))) := ⟨_, rfl⟩
    rw [← hg2] at HB IN2
    clear hg2
    generalize hg3 : (t.e == 0) = g3 at *
    generalize hg4 : t.s.toList.isEmpty = g4 at *
    generalize hg5 : ((t.kids.length : Int) == 0) = g5 at *
    obtain ⟨g6, hg6⟩ : ∃ g : Bool, g = ((decide (0 < t.e) && (fits10 t.n t.e.toNat).isSome)) := ⟨_, rfl⟩
    rw [← hg6] at HB WH
    clear hg6
    generalize t.k = xk at *
    subst hk
    cases g0
    case false =>
      go_wp2_with fail
      go_ret
      exact ⟨by rw [HB.out]; simp, (by (repeat' (first | with_reducible exact Below.refl _ _ | with_reducible refine below_alloc ?_ _ ?_ | with_reducible refine Below.setCell ?_ ?_ _ | with_reducible refine Below.drew ?_ | with_reducible refine below_drewN ?_ _ | with_reducible refine below_step ?_ (by assumption) ?_ | with_reducible refine below_mark ?_ (by assumption) ?_)); all_goals (first | omega | (simp; done) | (simp; omega)))⟩
    case true =>
      cases g1
      case false =>
        go_wp2_with fail
        refine (IN1.out _).mono ?_
        rintro x wx ⟨rfl, hwx⟩
        subst wx
        go_wp2_with fail
        go_ret
        exact ⟨by rw [HB.out]; simp, (by (repeat' (first | with_reducible exact Below.refl _ _ | with_reducible refine below_alloc ?_ _ ?_ | with_reducible refine Below.setCell ?_ ?_ _ | with_reducible refine Below.drew ?_ | with_reducible refine below_drewN ?_ _ | with_reducible refine below_step ?_ (by assumption) ?_ | with_reducible refine below_mark ?_ (by assumption) ?_)); all_goals (first | omega | (simp; done) | (simp; omega)))⟩
      case true =>
        cases g2
        case false =>
          go_wp2_with fail
          refine (IN1.out _).mono ?_
          rintro x wx ⟨rfl, hwx⟩
          subst wx
          go_wp2_with fail
          refine (IN2.out _).mono ?_
          rintro x wx ⟨rfl, hwx⟩
          subst wx
          go_wp2_with fail
          go_ret
          exact ⟨by rw [HB.out]; simp, (by (repeat' (first | with_reducible exact Below.refl _ _ | with_reducible refine below_alloc ?_ _ ?_ | with_reducible refine Below.setCell ?_ ?_ _ | with_reducible refine Below.drew ?_ | with_reducible refine below_drewN ?_ _ | with_reducible refine below_step ?_ (by assumption) ?_ | with_reducible refine below_mark ?_ (by assumption) ?_)); all_goals (first | omega | (simp; done) | (simp; omega)))⟩
        case true =>
          cases g3
          case true =>
            go_wp2_with fail
            refine (IN1.out _).mono ?_
            rintro x wx ⟨rfl, hwx⟩
            subst wx
            go_wp2_with fail
            refine (IN2.out _).mono ?_
            rintro x wx ⟨rfl, hwx⟩
            subst wx
            go_wp2_with fail
            go_ret
            exact ⟨by rw [HB.out]; simp, (by (repeat' (first | with_reducible exact Below.refl _ _ | with_reducible refine below_alloc ?_ _ ?_ | with_reducible refine Below.setCell ?_ ?_ _ | with_reducible refine Below.drew ?_ | with_reducible refine below_drewN ?_ _ | with_reducible refine below_step ?_ (by assumption) ?_ | with_reducible refine below_mark ?_ (by assumption) ?_)); all_goals (first | omega | (simp; done) | (simp; omega)))⟩
          case false =>
            cases g4
            case false =>
              go_wp2_with fail
              refine (IN1.out _).mono ?_
              rintro x wx ⟨rfl, hwx⟩
              subst wx
              go_wp2_with fail
              refine (IN2.out _).mono ?_
              rintro x wx ⟨rfl, hwx⟩
              subst wx
              go_wp2_with fail
              go_ret
              exact ⟨by rw [HB.out]; simp, (by (repeat' (first | with_reducible exact Below.refl _ _ | with_reducible refine below_alloc ?_ _ ?_ | with_reducible refine Below.setCell ?_ ?_ _ | with_reducible refine Below.drew ?_ | with_reducible refine below_drewN ?_ _ | with_reducible refine below_step ?_ (by assumption) ?_ | with_reducible refine below_mark ?_ (by assumption) ?_)); all_goals (first | omega | (simp; done) | (simp; omega)))⟩
            case true =>
              cases g5
              case false =>
                go_wp2_with fail
                refine (IN1.out _).mono ?_
                rintro x wx ⟨rfl, hwx⟩
                subst wx
                go_wp2_with fail
                refine (IN2.out _).mono ?_
                rintro x wx ⟨rfl, hwx⟩
                subst wx
                go_wp2_with fail
                go_ret
                exact ⟨by rw [HB.out]; simp, (by (repeat' (first | with_reducible exact Below.refl _ _ | with_reducible refine below_alloc ?_ _ ?_ | with_reducible refine Below.setCell ?_ ?_ _ | with_reducible refine Below.drew ?_ | with_reducible refine below_drewN ?_ _ | with_reducible refine below_step ?_ (by assumption) ?_ | with_reducible refine below_mark ?_ (by assumption) ?_)); all_goals (first | omega | (simp; done) | (simp; omega)))⟩
              case true =>
                cases g6
                case true =>
                  go_wp2_with fail
                  refine (IN1.out _).mono ?_
                  rintro x wx ⟨rfl, hwx⟩
                  subst wx
                  go_wp2_with fail
                  refine (IN2.out _).mono ?_
                  rintro x wx ⟨rfl, hwx⟩
                  subst wx
                  go_wp2_with fail
                  refine (WH.out _).mono ?_
                  rintro x wx ⟨rfl, hwx⟩
                  subst wx
                  go_wp2_with fail
                  go_ret
                  exact ⟨by rw [HB.out]; simp, (by (repeat' (first | with_reducible exact Below.refl _ _ | with_reducible refine below_alloc ?_ _ ?_ | with_reducible refine Below.setCell ?_ ?_ _ | with_reducible refine Below.drew ?_ | with_reducible refine below_drewN ?_ _ | with_reducible refine below_step ?_ (by assumption) ?_ | with_reducible refine below_mark ?_ (by assumption) ?_)); all_goals (first | omega | (simp; done) | (simp; omega)))⟩
                case false =>
                  go_wp2_with fail
                  refine (IN1.out _).mono ?_
                  rintro x wx ⟨rfl, hwx⟩
                  subst wx
                  go_wp2_with fail
                  refine (IN2.out _).mono ?_
                  rintro x wx ⟨rfl, hwx⟩
                  subst wx
                  go_wp2_with fail
                  refine (WH.out _).mono ?_
                  rintro x wx ⟨rfl, hwx⟩
                  subst wx
                  go_wp2_with fail
                  go_ret
                  exact ⟨by rw [HB.out]; rfl, (by (repeat' (first | with_reducible exact Below.refl _ _ | with_reducible refine below_alloc ?_ _ ?_ | with_reducible refine Below.setCell ?_ ?_ _ | with_reducible refine Below.drew ?_ | with_reducible refine below_drewN ?_ _ | with_reducible refine below_step ?_ (by assumption) ?_ | with_reducible refine below_mark ?_ (by assumption) ?_)); all_goals (first | omega | (simp; done) | (simp; omega)))⟩
  case' neg =>
    have hkc := hk; clear hk
  by_cases hk : t.k = 5
  case' pos =>
    have HB := Lib.hid (show b = ((t.n == 0) && (t.e == 0) && txt t.s && (decide ((t.s.size : Int) ≤ 2000)) && ((t.kids.length : Int) == 0)) by rw [HB.out, own_d t hk])
    clear HWF LP WH IN1 IN2 IN3
    generalize hg0 : (t.n == 0) = g0 at *
    generalize hg1 : (t.e == 0) = g1 at *
    obtain ⟨g2, hg2⟩ : ∃ g : Bool, g = (txt t.s) := ⟨_, rfl⟩
    rw [← hg2] at HB TO
    clear hg2
    generalize hg3 : (decide ((t.s.size : Int) ≤ 2000)) = g3 at *
    generalize hg4 : ((t.kids.length : Int) == 0) = g4 at *
    generalize t.k = xk at *
    subst hk
    cases g0
    case false =>
      go_wp2_with fail
      go_ret
      exact ⟨by rw [HB.out]; simp, (by (repeat' (first | with_reducible exact Below.refl _ _ | with_reducible refine below_alloc ?_ _ ?_ | with_reducible refine Below.setCell ?_ ?_ _ | with_reducible refine Below.drew ?_ | with_reducible refine below_drewN ?_ _ | with_reducible refine below_step ?_ (by assumption) ?_ | with_reducible refine below_mark ?_ (by assumption) ?_)); all_goals (first | omega | (simp; done) | (simp; omega)))⟩
    case true =>
      cases g1
      case false =>
        go_wp2_with fail
        go_ret
        exact ⟨by rw [HB.out]; simp, (by (repeat' (first | with_reducible exact Below.refl _ _ | with_reducible refine below_alloc ?_ _ ?_ | with_reducible refine Below.setCell ?_ ?_ _ | with_reducible refine Below.drew ?_ | with_reducible refine below_drewN ?_ _ | with_reducible refine below_step ?_ (by assumption) ?_ | with_reducible refine below_mark ?_ (by assumption) ?_)); all_goals (first | omega | (simp; done) | (simp; omega)))⟩
      case true =>
        cases g2
        case false =>
          go_wp2_with fail
          refine (TO.out _).mono ?_
          rintro x wx ⟨rfl, hbx⟩
          obtain ⟨c0, c1, c2, c3, c4⟩ := (show Box wx w.heap.size 5 t.n t.e t.s _ 29 from (hbx.block w.heap.size (by simp; done)).trans (Box.new w 5 t.n t.e t.s _ 29)).cells
          go_wp2_with fail
          go_ret
          exact ⟨by rw [HB.out]; simp, (by (repeat' (first | with_reducible exact Below.refl _ _ | with_reducible refine below_alloc ?_ _ ?_ | with_reducible refine Below.setCell ?_ ?_ _ | with_reducible refine Below.drew ?_ | with_reducible refine below_drewN ?_ _ | with_reducible refine below_step ?_ (by assumption) ?_ | with_reducible refine below_mark ?_ (by assumption) ?_)); all_goals (first | omega | (simp; done) | (simp; omega)))⟩
        case true =>
          cases g3
          case false =>
            go_wp2_with fail
            refine (TO.out _).mono ?_
            rintro x wx ⟨rfl, hbx⟩
            obtain ⟨c0, c1, c2, c3, c4⟩ := (show Box wx w.heap.size 5 t.n t.e t.s _ 29 from (hbx.block w.heap.size (by simp; done)).trans (Box.new w 5 t.n t.e t.s _ 29)).cells
            go_wp2_with fail
            go_ret
            exact ⟨by rw [HB.out]; simp, (by (repeat' (first | with_reducible exact Below.refl _ _ | with_reducible refine below_alloc ?_ _ ?_ | with_reducible refine Below.setCell ?_ ?_ _ | with_reducible refine Below.drew ?_ | with_reducible refine below_drewN ?_ _ | with_reducible refine below_step ?_ (by assumption) ?_ | with_reducible refine below_mark ?_ (by assumption) ?_)); all_goals (first | omega | (simp; done) | (simp; omega)))⟩
          case true =>
            cases g4
            case false =>
              go_wp2_with fail
              refine (TO.out _).mono ?_
              rintro x wx ⟨rfl, hbx⟩
              obtain ⟨c0, c1, c2, c3, c4⟩ := (show Box wx w.heap.size 5 t.n t.e t.s _ 29 from (hbx.block w.heap.size (by simp; done)).trans (Box.new w 5 t.n t.e t.s _ 29)).cells
              go_wp2_with fail
              go_ret
              exact ⟨by rw [HB.out]; simp, (by (repeat' (first | with_reducible exact Below.refl _ _ | with_reducible refine below_alloc ?_ _ ?_ | with_reducible refine Below.setCell ?_ ?_ _ | with_reducible refine Below.drew ?_ | with_reducible refine below_drewN ?_ _ | with_reducible refine below_step ?_ (by assumption) ?_ | with_reducible refine below_mark ?_ (by assumption) ?_)); all_goals (first | omega | (simp; done) | (simp; omega)))⟩
            case true =>
              go_wp2_with fail
              refine (TO.out _).mono ?_
              rintro x wx ⟨rfl, hbx⟩
              obtain ⟨c0, c1, c2, c3, c4⟩ := (show Box wx w.heap.size 5 t.n t.e t.s _ 29 from (hbx.block w.heap.size (by simp; done)).trans (Box.new w 5 t.n t.e t.s _ 29)).cells
              go_wp2_with fail
              go_ret
              exact ⟨by rw [HB.out]; rfl, (by (repeat' (first | with_reducible exact Below.refl _ _ | with_reducible refine below_alloc ?_ _ ?_ | with_reducible refine Below.setCell ?_ ?_ _ | with_reducible refine Below.drew ?_ | with_reducible refine below_drewN ?_ _ | with_reducible refine below_step ?_ (by assumption) ?_ | with_reducible refine below_mark ?_ (by assumption) ?_)); all_goals (first | omega | (simp; done) | (simp; omega)))⟩
  case' neg =>
    have hkd := hk; clear hk
  by_cases hk : t.k = 6
  case' pos =>
    have HB := Lib.hid (show b = ((t.n == 0) && (t.e == 0) && (decide ((t.s.size : Int) ≤ 2000)) && ((t.kids.length : Int) == 0)) by rw [HB.out, own_f t hk])
    clear HWF LP TO WH IN1 IN2 IN3
    generalize hg0 : (t.n == 0) = g0 at *
    generalize hg1 : (t.e == 0) = g1 at *
    generalize hg2 : (decide ((t.s.size : Int) ≤ 2000)) = g2 at *
    generalize hg3 : ((t.kids.length : Int) == 0) = g3 at *
    generalize t.k = xk at *
    subst hk
    cases g0
    case false =>
      go_wp2_with fail
      go_ret
      exact ⟨by rw [HB.out]; simp, (by (repeat' (first | with_reducible exact Below.refl _ _ | with_reducible refine below_alloc ?_ _ ?_ | with_reducible refine Below.setCell ?_ ?_ _ | with_reducible refine Below.drew ?_ | with_reducible refine below_drewN ?_ _ | with_reducible refine below_step ?_ (by assumption) ?_ | with_reducible refine below_mark ?_ (by assumption) ?_)); all_goals (first | omega | (simp; done) | (simp; omega)))⟩
    case true =>
      cases g1
      case false =>
        go_wp2_with fail
        go_ret
        exact ⟨by rw [HB.out]; simp, (by (repeat' (first | with_reducible exact Below.refl _ _ | with_reducible refine below_alloc ?_ _ ?_ | with_reducible refine Below.setCell ?_ ?_ _ | with_reducible refine Below.drew ?_ | with_reducible refine below_drewN ?_ _ | with_reducible refine below_step ?_ (by assumption) ?_ | with_reducible refine below_mark ?_ (by assumption) ?_)); all_goals (first | omega | (simp; done) | (simp; omega)))⟩
      case true =>
        cases g2
        case false =>
          go_wp2_with fail
          go_ret
          exact ⟨by rw [HB.out]; simp, (by (repeat' (first | with_reducible exact Below.refl _ _ | with_reducible refine below_alloc ?_ _ ?_ | with_reducible refine Below.setCell ?_ ?_ _ | with_reducible refine Below.drew ?_ | with_reducible refine below_drewN ?_ _ | with_reducible refine below_step ?_ (by assumption) ?_ | with_reducible refine below_mark ?_ (by assumption) ?_)); all_goals (first | omega | (simp; done) | (simp; omega)))⟩
        case true =>
          cases g3
          case false =>
            go_wp2_with fail
            go_ret
            exact ⟨by rw [HB.out]; simp, (by (repeat' (first | with_reducible exact Below.refl _ _ | with_reducible refine below_alloc ?_ _ ?_ | with_reducible refine Below.setCell ?_ ?_ _ | with_reducible refine Below.drew ?_ | with_reducible refine below_drewN ?_ _ | with_reducible refine below_step ?_ (by assumption) ?_ | with_reducible refine below_mark ?_ (by assumption) ?_)); all_goals (first | omega | (simp; done) | (simp; omega)))⟩
          case true =>
            go_wp2_with fail
            go_ret
            exact ⟨by rw [HB.out]; rfl, (by (repeat' (first | with_reducible exact Below.refl _ _ | with_reducible refine below_alloc ?_ _ ?_ | with_reducible refine Below.setCell ?_ ?_ _ | with_reducible refine Below.drew ?_ | with_reducible refine below_drewN ?_ _ | with_reducible refine below_step ?_ (by assumption) ?_ | with_reducible refine below_mark ?_ (by assumption) ?_)); all_goals (first | omega | (simp; done) | (simp; omega)))⟩
  case' neg =>
    have hkf := hk; clear hk
  by_cases hk : t.k = 7
  case' pos =>
    have HB := Lib.hid (show b = ((t.n == 0) && (t.e == 0) && t.s.toList.isEmpty) by rw [HB.out, own_g t hk])
    clear HWF LP TO WH IN1 IN2 IN3
    generalize hg0 : (t.n == 0) = g0 at *
    generalize hg1 : (t.e == 0) = g1 at *
    generalize hg2 : t.s.toList.isEmpty = g2 at *
    generalize t.k = xk at *
    subst hk
    cases g0
    case false =>
      go_wp2_with fail
      go_ret
      exact ⟨by rw [HB.out]; simp, (by (repeat' (first | with_reducible exact Below.refl _ _ | with_reducible refine below_alloc ?_ _ ?_ | with_reducible refine Below.setCell ?_ ?_ _ | with_reducible refine Below.drew ?_ | with_reducible refine below_drewN ?_ _ | with_reducible refine below_step ?_ (by assumption) ?_ | with_reducible refine below_mark ?_ (by assumption) ?_)); all_goals (first | omega | (simp; done) | (simp; omega)))⟩
    case true =>
      cases g1
      case false =>
        go_wp2_with fail
        go_ret
        exact ⟨by rw [HB.out]; simp, (by (repeat' (first | with_reducible exact Below.refl _ _ | with_reducible refine below_alloc ?_ _ ?_ | with_reducible refine Below.setCell ?_ ?_ _ | with_reducible refine Below.drew ?_ | with_reducible refine below_drewN ?_ _ | with_reducible refine below_step ?_ (by assumption) ?_ | with_reducible refine below_mark ?_ (by assumption) ?_)); all_goals (first | omega | (simp; done) | (simp; omega)))⟩
      case true =>
        cases g2
        case false =>
          go_wp2_with fail
          go_ret
          exact ⟨by rw [HB.out]; simp, (by (repeat' (first | with_reducible exact Below.refl _ _ | with_reducible refine below_alloc ?_ _ ?_ | with_reducible refine Below.setCell ?_ ?_ _ | with_reducible refine Below.drew ?_ | with_reducible refine below_drewN ?_ _ | with_reducible refine below_step ?_ (by assumption) ?_ | with_reducible refine below_mark ?_ (by assumption) ?_)); all_goals (first | omega | (simp; done) | (simp; omega)))⟩
        case true =>
          go_wp2_with fail
          go_ret
          exact ⟨by rw [HB.out]; rfl, (by (repeat' (first | with_reducible exact Below.refl _ _ | with_reducible refine below_alloc ?_ _ ?_ | with_reducible refine Below.setCell ?_ ?_ _ | with_reducible refine Below.drew ?_ | with_reducible refine below_drewN ?_ _ | with_reducible refine below_step ?_ (by assumption) ?_ | with_reducible refine below_mark ?_ (by assumption) ?_)); all_goals (first | omega | (simp; done) | (simp; omega)))⟩
  case' neg =>
    have hkg := hk; clear hk
  by_cases hk : t.k = 8
  case' pos =>
    have HB := Lib.hid (show b = ((t.n == 0) && (t.e == 0) && t.s.toList.isEmpty && (pairsB t.kids)) by rw [HB.out, own_h t hk])
    clear HWF TO WH IN1 IN2 IN3
    generalize hg0 : (t.n == 0) = g0 at *
    generalize hg1 : (t.e == 0) = g1 at *
    generalize hg2 : t.s.toList.isEmpty = g2 at *
    obtain ⟨g3, hg3⟩ : ∃ g : Bool, g = ((pairsB t.kids)) := ⟨_, rfl⟩
    rw [← hg3] at HB LP
    clear hg3
    generalize t.k = xk at *
    subst hk
    cases g0
    case false =>
      go_wp2_with fail
      go_ret
      exact ⟨by rw [HB.out]; simp, (by (repeat' (first | with_reducible exact Below.refl _ _ | with_reducible refine below_alloc ?_ _ ?_ | with_reducible refine Below.setCell ?_ ?_ _ | with_reducible refine Below.drew ?_ | with_reducible refine below_drewN ?_ _ | with_reducible refine below_step ?_ (by assumption) ?_ | with_reducible refine below_mark ?_ (by assumption) ?_)); all_goals (first | omega | (simp; done) | (simp; omega)))⟩
    case true =>
      cases g1
      case false =>
        go_wp2_with fail
        go_ret
        exact ⟨by rw [HB.out]; simp, (by (repeat' (first | with_reducible exact Below.refl _ _ | with_reducible refine below_alloc ?_ _ ?_ | with_reducible refine Below.setCell ?_ ?_ _ | with_reducible refine Below.drew ?_ | with_reducible refine below_drewN ?_ _ | with_reducible refine below_step ?_ (by assumption) ?_ | with_reducible refine below_mark ?_ (by assumption) ?_)); all_goals (first | omega | (simp; done) | (simp; omega)))⟩
      case true =>
        cases g2
        case false =>
          go_wp2_with fail
          go_ret
          exact ⟨by rw [HB.out]; simp, (by (repeat' (first | with_reducible exact Below.refl _ _ | with_reducible refine below_alloc ?_ _ ?_ | with_reducible refine Below.setCell ?_ ?_ _ | with_reducible refine Below.drew ?_ | with_reducible refine below_drewN ?_ _ | with_reducible refine below_step ?_ (by assumption) ?_ | with_reducible refine below_mark ?_ (by assumption) ?_)); all_goals (first | omega | (simp; done) | (simp; omega)))⟩
        case true =>
          cases g3
          case false =>
            go_wp2_with fail
            refine (LP.out _ ((by (repeat' (first | with_reducible exact Below.refl _ _ | with_reducible refine below_alloc ?_ _ ?_ | with_reducible refine Below.setCell ?_ ?_ _ | with_reducible refine Below.drew ?_ | with_reducible refine below_drewN ?_ _ | with_reducible refine below_step ?_ (by assumption) ?_ | with_reducible refine below_mark ?_ (by assumption) ?_)); all_goals (first | omega | (simp; done) | (simp; omega))))).mono ?_
            rintro x wx ⟨rfl, hbx⟩
            go_wp2_with fail
            go_ret
            exact ⟨by rw [HB.out]; simp, (by (repeat' (first | with_reducible exact Below.refl _ _ | with_reducible refine below_alloc ?_ _ ?_ | with_reducible refine Below.setCell ?_ ?_ _ | with_reducible refine Below.drew ?_ | with_reducible refine below_drewN ?_ _ | with_reducible refine below_step ?_ (by assumption) ?_ | with_reducible refine below_mark ?_ (by assumption) ?_)); all_goals (first | omega | (simp; done) | (simp; omega)))⟩
          case true =>
            go_wp2_with fail
            refine (LP.out _ ((by (repeat' (first | with_reducible exact Below.refl _ _ | with_reducible refine below_alloc ?_ _ ?_ | with_reducible refine Below.setCell ?_ ?_ _ | with_reducible refine Below.drew ?_ | with_reducible refine below_drewN ?_ _ | with_reducible refine below_step ?_ (by assumption) ?_ | with_reducible refine below_mark ?_ (by assumption) ?_)); all_goals (first | omega | (simp; done) | (simp; omega))))).mono ?_
            rintro x wx ⟨rfl, hbx⟩
            go_wp2_with fail
            go_ret
            exact ⟨by rw [HB.out]; rfl, (by (repeat' (first | with_reducible exact Below.refl _ _ | with_reducible refine below_alloc ?_ _ ?_ | with_reducible refine Below.setCell ?_ ?_ _ | with_reducible refine Below.drew ?_ | with_reducible refine below_drewN ?_ _ | with_reducible refine below_step ?_ (by assumption) ?_ | with_reducible refine below_mark ?_ (by assumption) ?_)); all_goals (first | omega | (simp; done) | (simp; omega)))⟩
  case' neg =>
    have hkh := hk; clear hk
  by_cases hk : t.k = 9
  case' pos =>
    have HB := Lib.hid (show b = ((decide (0 ≤ t.n ∧ t.n ≤ 1000000)) && (t.e == 0) && t.s.toList.isEmpty && ((t.kids.length : Int) == 1)) by rw [HB.out, own_i t hk])
    clear HWF LP TO WH IN1 IN2
    obtain ⟨g0, hg0⟩ : ∃ g : Bool, g = ((decide (0 ≤ t.n ∧ t.n ≤ 1000000))) := ⟨_, rfl⟩
    rw [← hg0] at HB IN3
    clear hg0
    generalize hg1 : (t.e == 0) = g1 at *
    generalize hg2 : t.s.toList.isEmpty = g2 at *
    generalize hg3 : ((t.kids.length : Int) == 1) = g3 at *
    generalize t.k = xk at *
    subst hk
    cases g0
    case false =>
      go_wp2_with fail
      refine (IN3.out _).mono ?_
      rintro x wx ⟨rfl, hwx⟩
      subst wx
      go_wp2_with fail
      go_ret
      exact ⟨by rw [HB.out]; simp, (by (repeat' (first | with_reducible exact Below.refl _ _ | with_reducible refine below_alloc ?_ _ ?_ | with_reducible refine Below.setCell ?_ ?_ _ | with_reducible refine Below.drew ?_ | with_reducible refine below_drewN ?_ _ | with_reducible refine below_step ?_ (by assumption) ?_ | with_reducible refine below_mark ?_ (by assumption) ?_)); all_goals (first | omega | (simp; done) | (simp; omega)))⟩
    case true =>
      cases g1
      case false =>
        go_wp2_with fail
        refine (IN3.out _).mono ?_
        rintro x wx ⟨rfl, hwx⟩
        subst wx
        go_wp2_with fail
        go_ret
        exact ⟨by rw [HB.out]; simp, (by (repeat' (first | with_reducible exact Below.refl _ _ | with_reducible refine below_alloc ?_ _ ?_ | with_reducible refine Below.setCell ?_ ?_ _ | with_reducible refine Below.drew ?_ | with_reducible refine below_drewN ?_ _ | with_reducible refine below_step ?_ (by assumption) ?_ | with_reducible refine below_mark ?_ (by assumption) ?_)); all_goals (first | omega | (simp; done) | (simp; omega)))⟩
      case true =>
        cases g2
        case false =>
          go_wp2_with fail
          refine (IN3.out _).mono ?_
          rintro x wx ⟨rfl, hwx⟩
          subst wx
          go_wp2_with fail
          go_ret
          exact ⟨by rw [HB.out]; simp, (by (repeat' (first | with_reducible exact Below.refl _ _ | with_reducible refine below_alloc ?_ _ ?_ | with_reducible refine Below.setCell ?_ ?_ _ | with_reducible refine Below.drew ?_ | with_reducible refine below_drewN ?_ _ | with_reducible refine below_step ?_ (by assumption) ?_ | with_reducible refine below_mark ?_ (by assumption) ?_)); all_goals (first | omega | (simp; done) | (simp; omega)))⟩
        case true =>
          cases g3
          case false =>
            go_wp2_with fail
            refine (IN3.out _).mono ?_
            rintro x wx ⟨rfl, hwx⟩
            subst wx
            go_wp2_with fail
            go_ret
            exact ⟨by rw [HB.out]; simp, (by (repeat' (first | with_reducible exact Below.refl _ _ | with_reducible refine below_alloc ?_ _ ?_ | with_reducible refine Below.setCell ?_ ?_ _ | with_reducible refine Below.drew ?_ | with_reducible refine below_drewN ?_ _ | with_reducible refine below_step ?_ (by assumption) ?_ | with_reducible refine below_mark ?_ (by assumption) ?_)); all_goals (first | omega | (simp; done) | (simp; omega)))⟩
          case true =>
            go_wp2_with fail
            refine (IN3.out _).mono ?_
            rintro x wx ⟨rfl, hwx⟩
            subst wx
            go_wp2_with fail
            go_ret
            exact ⟨by rw [HB.out]; rfl, (by (repeat' (first | with_reducible exact Below.refl _ _ | with_reducible refine below_alloc ?_ _ ?_ | with_reducible refine Below.setCell ?_ ?_ _ | with_reducible refine Below.drew ?_ | with_reducible refine below_drewN ?_ _ | with_reducible refine below_step ?_ (by assumption) ?_ | with_reducible refine below_mark ?_ (by assumption) ?_)); all_goals (first | omega | (simp; done) | (simp; omega)))⟩
  case' neg =>
    have hki := hk; clear hk
  have HB := Lib.hid (show b = false by rw [HB.out, own_j t (by omega)])
  clear HWF LP TO WH IN1 IN2 IN3
  generalize t.k = xk at *
  have t0 : (xk == 0) = false := by rw [beq_eq_false_iff_ne]; omega
  have t1 : (xk == 1) = false := by rw [beq_eq_false_iff_ne]; omega
  have t2 : (xk == 2) = false := by rw [beq_eq_false_iff_ne]; omega
  have t3 : (xk == 3) = false := by rw [beq_eq_false_iff_ne]; omega
  have t4 : (xk == 4) = false := by rw [beq_eq_false_iff_ne]; omega
  have t5 : (xk == 5) = false := by rw [beq_eq_false_iff_ne]; omega
  have t6 : (xk == 6) = false := by rw [beq_eq_false_iff_ne]; omega
  have t7 : (xk == 7) = false := by rw [beq_eq_false_iff_ne]; omega
  have t8 : (xk == 8) = false := by rw [beq_eq_false_iff_ne]; omega
  have t9 : (xk == 9) = false := by rw [beq_eq_false_iff_ne]; omega
  clear hka hkb hkc hkd hkf hkg hkh hki
  go_wp2_with fail
  go_ret
  exact ⟨by rw [HB.out]; rfl, (by (repeat' (first | with_reducible exact Below.refl _ _ | with_reducible refine below_alloc ?_ _ ?_ | with_reducible refine Below.setCell ?_ ?_ _ | with_reducible refine Below.drew ?_ | with_reducible refine below_drewN ?_ _ | with_reducible refine below_step ?_ (by assumption) ?_ | with_reducible refine below_mark ?_ (by assumption) ?_)); all_goals (first | omega | (simp; done) | (simp; omega)))⟩
theorem rightsB_take (ts : List V) (d : Int) (j : Nat) (hj : j < ts.length) : rightsB (ts.take (j + 1)) d = (rightsB (ts.take j) d && rightB ts[j] d) := by
  rw [rightsB_all, rightsB_all, List.take_succ_eq_append_getElem hj, List.all_append]
  simp
theorem rightsB_stuck (ts : List V) (d : Int) (j : Nat) (hj : j < ts.length) (h : rightB ts[j] d = false) : rightsB ts d = false := by
  rw [rightsB_all, Bool.eq_false_iff]
  intro hc
  rw [List.all_eq_true] at hc
  rw [hc _ (List.getElem_mem hj)] at h
  exact absurd h (by simp)
set_option maxHeartbeats 1000000 in
theorem l02Right_all (w0 : World) : ∀ (N : Nat) (v : Value) (t : V), t.sz < N → Rep w0 v t → t.sz ≤ 1048576 → ∀ (d : Int), -9223372036854775807 ≤ d → d ≤ 9223372036854775807 → ∀ (w : World), Below w0.heap.size w0 w →
    Calls Tryd.prog 73 #[v, .int .i64 d] w (BoolRet (rightB t d) w) := by
  intro N
  induction N with
  | zero => intro v t h; omega
  | succ N ih =>
    intro v t hN h hsz d hd0 hd1 w hw
    by_cases hd : d < 0
    · have t1 : decide (d < 0) = true := decide_eq_true hd
      rw [show rightB t d = false by rw [rightB_eq, decide_eq_false (show ¬ (0 ≤ d) by omega)]; rfl]
      obtain ⟨sl, rfl, hwf, hr⟩ := h
      unfold V.agg
      clear ih hr
      go_enter Tryd.func73, Tryd.ntmps73
      go_wp2_with fail
      go_ret
      exact ⟨rfl, (by (repeat' (first | with_reducible exact Below.refl _ _ | with_reducible refine below_alloc ?_ _ ?_ | with_reducible refine Below.setCell ?_ ?_ _ | with_reducible refine Below.drew ?_ | with_reducible refine below_drewN ?_ _ | with_reducible refine below_step ?_ (by assumption) ?_ | with_reducible refine below_mark ?_ (by assumption) ?_)); all_goals (first | omega | (simp; done) | (simp; omega)))⟩
    have t1 : decide (d < 0) = false := decide_eq_false hd
    have OW := Lib.hid (fun (W : World) (hW : Below w.heap.size w W) => l02Own_any w0 v t h hsz W (hw.trans (hW.mono hw.size)))
    obtain ⟨sl, rfl, hwf, hr⟩ := h
    have hks : t.kids.length ≤ 1048576 := by have := V.sz_eq t; have := szs_length t.kids; omega
    obtain ⟨b, hb⟩ : ∃ b : Bool, b = rightB t d := ⟨_, rfl⟩
    rw [← hb]
    have HB := Lib.hid (show b = (ownB t && rightsB t.kids (d - 1)) by rw [hb, rightB_eq, decide_eq_true (show 0 ≤ d by omega)]; rfl)
    have HW := Lib.hid hw
    obtain ⟨a, bb, off, cap, rfl, ha, hc, hm, sls, hel⟩ := hr.opened
    have HA := Lib.hid ha
    have IH := Lib.hid (fun (j : Nat) (hj : j < t.kids.length) (W : World) (hW : Below w.heap.size w W) => ih (t.kids[j].agg (sls j)) t.kids[j] (by have := V.sz_eq t; have := szs_mem (List.getElem_mem hj); omega) ⟨sls j, rfl, (hel j hj).2.1, (hel j hj).2.2⟩ (by have := V.sz_eq t; have := szs_mem (List.getElem_mem hj); omega) (d - 1) (by omega) (by omega) W (hw.trans (hW.mono hw.size)))
    have HE := Lib.hid hel
    clear ih hr hel ha hb hw hc hm
    have BX := Lib.hid (Box.new w t.k t.n t.e t.s (.slice a t.kids.length cap) 29)
    unfold V.agg at OW ⊢
    cases ho : ownB t
    case false =>
      have HB := Lib.hid (show b = false by rw [HB.out, ho]; rfl)
      rw [ho] at OW
      clear IH HE
      go_enter Tryd.func73, Tryd.ntmps73
      go_wp2_with fail
      refine (OW.out _ ((by (repeat' (first | with_reducible exact Below.refl _ _ | with_reducible refine below_alloc ?_ _ ?_ | with_reducible refine Below.setCell ?_ ?_ _ | with_reducible refine Below.drew ?_ | with_reducible refine below_drewN ?_ _ | with_reducible refine below_step ?_ (by assumption) ?_ | with_reducible refine below_mark ?_ (by assumption) ?_)); all_goals (first | omega | (simp; done) | (simp; omega))))).mono ?_
      rintro x w1 ⟨rfl, hb1⟩
      go_wp2_with fail
      go_ret
      exact ⟨by rw [HB.out]; rfl, (by (repeat' (first | with_reducible exact Below.refl _ _ | with_reducible refine below_alloc ?_ _ ?_ | with_reducible refine Below.setCell ?_ ?_ _ | with_reducible refine Below.drew ?_ | with_reducible refine below_drewN ?_ _ | with_reducible refine below_step ?_ (by assumption) ?_ | with_reducible refine below_mark ?_ (by assumption) ?_)); all_goals (first | omega | (simp; done) | (simp; omega)))⟩
    rw [ho, Bool.true_and] at HB
    rw [ho] at OW
    clear ho
    go_enter Tryd.func73, Tryd.ntmps73
    go_wp2_with fail
    refine (OW.out _ ((by (repeat' (first | with_reducible exact Below.refl _ _ | with_reducible refine below_alloc ?_ _ ?_ | with_reducible refine Below.setCell ?_ ?_ _ | with_reducible refine Below.drew ?_ | with_reducible refine below_drewN ?_ _ | with_reducible refine below_step ?_ (by assumption) ?_ | with_reducible refine below_mark ?_ (by assumption) ?_)); all_goals (first | omega | (simp; done) | (simp; omega))))).mono ?_
    rintro x w1 ⟨rfl, hb1⟩
    have hz1 := hb1.size
    simp at hz1
    have BX := Lib.hid (BX.out.stay hb1)
    obtain ⟨c0, c1, c2, c3, c4⟩ := BX.out.cells
    clear OW c0 c1 c2 c3
    go_wp2_with fail
    go_loopw [5] (fun i wr => ∃ j : Nat, j ≤ t.kids.length ∧ i = .int .i64 j ∧ Hid (rightsB (t.kids.take j) (d - 1) = true) ∧ Below w1.heap.size w1 wr) (fun i _ => t.kids.length + 1 - (intOf i).toNat)
    case atStart => exact ⟨0, by omega, rfl, Lib.hid rfl, Below.refl _ _⟩
    case round =>
      obtain ⟨j, hj, rfl, HN, hbl⟩ := hrel
      obtain ⟨-, -, -, -, c4⟩ := (BX.out.stay hbl).cells
      by_cases hlt : j < t.kids.length
      · have hne : t.kids ≠ [] := by intro e; rw [e] at hlt; simp at hlt
        obtain ⟨rfl, hbw⟩ := HA.out hne
        have HWR := Lib.hid (show Below w0.heap.size w0 wr from HW.out.trans (Below.mono ((by (repeat' (first | with_reducible exact Below.refl _ _ | with_reducible refine below_alloc ?_ _ ?_ | with_reducible refine Below.setCell ?_ ?_ _ | with_reducible refine Below.drew ?_ | with_reducible refine below_drewN ?_ _ | with_reducible refine below_step ?_ (by assumption) ?_ | with_reducible refine below_mark ?_ (by assumption) ?_)); all_goals (first | omega | (simp; done) | (simp; omega)))) HW.out.size))
        obtain ⟨d0, d1, d2, d3, d4⟩ := (HE.out j hlt).1.keep (HWR.out.block bb hbw)
        have IHJ := Lib.hid (IH.out j hlt)
        obtain ⟨ak, kcap, hks⟩ := (HE.out j hlt).2.2.slice
        rw [hks] at d4 IHJ
        clear hks
        have hdd : IntKind.i64.wrap (d - 1) = d - 1 := IntWalk.i64_in _ (by omega)
        have HT := Lib.hid (rightsB_take t.kids (d - 1) j hlt)
        have HS := Lib.hid (rightsB_stuck t.kids (d - 1) j hlt)
        rw [HN.out, Bool.true_and] at HT
        clear IH
        unfold V.agg at IHJ
        cases hrb : rightB t.kids[j] (d - 1)
        · have HX := Lib.hid (show b = false by rw [HB.out, HS.out hrb])
          rw [hrb] at IHJ
          clear HT HS hrb
          go_wp2_with fail
          refine (IHJ.out _ ((by (repeat' (first | with_reducible exact Below.refl _ _ | with_reducible refine below_alloc ?_ _ ?_ | with_reducible refine Below.setCell ?_ ?_ _ | with_reducible refine Below.drew ?_ | with_reducible refine below_drewN ?_ _ | with_reducible refine below_step ?_ (by assumption) ?_ | with_reducible refine below_mark ?_ (by assumption) ?_)); all_goals (first | omega | (simp; done) | (simp; omega))))).mono ?_
          rintro x wx ⟨rfl, hbx⟩
          go_wp2_with fail
          go_ret
          exact ⟨by rw [HX.out]; rfl, (by (repeat' (first | with_reducible exact Below.refl _ _ | with_reducible refine below_alloc ?_ _ ?_ | with_reducible refine Below.setCell ?_ ?_ _ | with_reducible refine Below.drew ?_ | with_reducible refine below_drewN ?_ _ | with_reducible refine below_step ?_ (by assumption) ?_ | with_reducible refine below_mark ?_ (by assumption) ?_)); all_goals (first | omega | (simp; done) | (simp; omega)))⟩
        · rw [hrb] at IHJ HT
          clear HS hrb
          go_wp2_with fail
          refine (IHJ.out _ ((by (repeat' (first | with_reducible exact Below.refl _ _ | with_reducible refine below_alloc ?_ _ ?_ | with_reducible refine Below.setCell ?_ ?_ _ | with_reducible refine Below.drew ?_ | with_reducible refine below_drewN ?_ _ | with_reducible refine below_step ?_ (by assumption) ?_ | with_reducible refine below_mark ?_ (by assumption) ?_)); all_goals (first | omega | (simp; done) | (simp; omega))))).mono ?_
          rintro x wx ⟨rfl, hbx⟩
          go_wp2_with fail
          go_roundw
          case rel => exact ⟨j + 1, by omega, by go_num, HT, (by (repeat' (first | with_reducible exact Below.refl _ _ | with_reducible refine below_alloc ?_ _ ?_ | with_reducible refine Below.setCell ?_ ?_ _ | with_reducible refine Below.drew ?_ | with_reducible refine below_drewN ?_ _ | with_reducible refine below_step ?_ (by assumption) ?_ | with_reducible refine below_mark ?_ (by assumption) ?_)); all_goals (first | omega | (simp; done) | (simp; omega)))⟩
          case measure => simp [intOf]; omega
      · have HX := Lib.hid (show b = true by
          rw [HB.out]
          have := HN.out
          rwa [show j = t.kids.length by omega, List.take_length] at this)
        clear HN
        go_wp2_with fail
        go_ret
        exact ⟨by rw [HX.out]; rfl, (by (repeat' (first | with_reducible exact Below.refl _ _ | with_reducible refine below_alloc ?_ _ ?_ | with_reducible refine Below.setCell ?_ ?_ _ | with_reducible refine Below.drew ?_ | with_reducible refine below_drewN ?_ _ | with_reducible refine below_step ?_ (by assumption) ?_ | with_reducible refine below_mark ?_ (by assumption) ?_)); all_goals (first | omega | (simp; done) | (simp; omega)))⟩
set_option maxHeartbeats 1000000 in
theorem ValueOk_spec (w0 : World) (v : Value) (t : V) (h : Rep w0 v t) (hsz : t.sz ≤ 1048576) (w : World) (hw : Below w0.heap.size w0 w) : Calls Tryd.prog 46 #[v] w fun e w' => e = .returned (.bool (okT t)) ∧ Below w.heap.size w w' := by
  have RI := Lib.hid (fun (W : World) (hW : Below w.heap.size w W) => l02Right_all w0 _ v t (Nat.lt_succ_self _) h hsz 12 (by omega) (by omega) W (hw.trans (hW.mono hw.size)))
  have HB := Lib.hid (show okT t = (rightB t 12 && decide ((t.nodes : Int) ≤ 300)) by unfold okT; congr 1; rw [decide_eq_decide]; omega)
  have hno : (t.nodes : Int) ≤ 1048577 := by have := nodes_sz t; omega
  obtain ⟨b, hb⟩ : ∃ b : Bool, b = okT t := ⟨_, rfl⟩
  rw [← hb] at HB ⊢
  clear hb
  obtain ⟨sl, rfl, hwf, hr⟩ := h
  have NO := Lib.hid (fun (W : World) (hW : Below w.heap.size w W) => nodes_any w0 _ sl t.kids (Nat.le_refl _) hr (by have := V.sz_eq t; omega) t rfl W (hw.trans (hW.mono hw.size)))
  have BX := Lib.hid (Box.new w t.k t.n t.e t.s sl 29)
  clear hr
  unfold V.agg at *
  cases hrb : rightB t 12
  · rw [hrb] at HB RI
    go_enter Tryd.func46, Tryd.ntmps46
    go_wp2_with fail
    refine (RI.out _ ((by (repeat' (first | with_reducible exact Below.refl _ _ | with_reducible refine below_alloc ?_ _ ?_ | with_reducible refine Below.setCell ?_ ?_ _ | with_reducible refine Below.drew ?_ | with_reducible refine below_drewN ?_ _ | with_reducible refine below_step ?_ (by assumption) ?_ | with_reducible refine below_mark ?_ (by assumption) ?_)); all_goals (first | omega | (simp; done) | (simp; omega))))).mono ?_
    rintro x wx ⟨rfl, hbx⟩
    go_wp2_with fail
    go_ret
    exact ⟨by rw [HB.out]; rfl, (by (repeat' (first | with_reducible exact Below.refl _ _ | with_reducible refine below_alloc ?_ _ ?_ | with_reducible refine Below.setCell ?_ ?_ _ | with_reducible refine Below.drew ?_ | with_reducible refine below_drewN ?_ _ | with_reducible refine below_step ?_ (by assumption) ?_ | with_reducible refine below_mark ?_ (by assumption) ?_)); all_goals (first | omega | (simp; done) | (simp; omega)))⟩
  · rw [hrb, Bool.true_and] at HB
    rw [hrb] at RI
    generalize hg : decide ((t.nodes : Int) ≤ 300) = g at *
    go_enter Tryd.func46, Tryd.ntmps46
    go_wp2_with fail
    refine (RI.out _ ((by (repeat' (first | with_reducible exact Below.refl _ _ | with_reducible refine below_alloc ?_ _ ?_ | with_reducible refine Below.setCell ?_ ?_ _ | with_reducible refine Below.drew ?_ | with_reducible refine below_drewN ?_ _ | with_reducible refine below_step ?_ (by assumption) ?_ | with_reducible refine below_mark ?_ (by assumption) ?_)); all_goals (first | omega | (simp; done) | (simp; omega))))).mono ?_
    rintro x wx ⟨rfl, hbx⟩
    obtain ⟨c0, c1, c2, c3, c4⟩ := (BX.out.stay hbx).cells
    go_wp2_with fail
    refine (NO.out _ ((by (repeat' (first | with_reducible exact Below.refl _ _ | with_reducible refine below_alloc ?_ _ ?_ | with_reducible refine Below.setCell ?_ ?_ _ | with_reducible refine Below.drew ?_ | with_reducible refine below_drewN ?_ _ | with_reducible refine below_step ?_ (by assumption) ?_ | with_reducible refine below_mark ?_ (by assumption) ?_)); all_goals (first | omega | (simp; done) | (simp; omega))))).mono ?_
    rintro x wy ⟨rfl, hby⟩
    cases g
    all_goals go_wp2_with fail
    all_goals go_ret
    all_goals exact ⟨by rw [HB.out]; rfl, (by (repeat' (first | with_reducible exact Below.refl _ _ | with_reducible refine below_alloc ?_ _ ?_ | with_reducible refine Below.setCell ?_ ?_ _ | with_reducible refine Below.drew ?_ | with_reducible refine below_drewN ?_ _ | with_reducible refine below_step ?_ (by assumption) ?_ | with_reducible refine below_mark ?_ (by assumption) ?_)); all_goals (first | omega | (simp; done) | (simp; omega)))⟩
end Go.Proofs.YtfjehhdahpbbgaaDoor
namespace Go.Proofs.YtfjehhdahpbbgaaDoor
set_option linter.unusedSimpArgs false
set_option linter.unusedVariables false
set_option maxRecDepth 100000
open Go.RowKit
theorem node_small {t : V} (h : nodeB t = true) : t.s.size ≤ 2000 := by
  unfold nodeB at h
  split at h
  · have := of_decide_eq_true h; omega
  · split at h
    · have := of_decide_eq_true h; omega
    · split at h
      · simp only [Bool.and_eq_true, decide_eq_true_eq] at h; omega
      · split at h
        · simp only [Bool.and_eq_true, decide_eq_true_eq] at h; omega
        · split at h
          · have := of_decide_eq_true h; omega
          · split at h
            · have := of_decide_eq_true h; omega
            · cases h
mutual
theorem right_small : ∀ (t : V) (d : Int), rightB t d = true → t.sz + 1 ≤ 2001 * t.nodes
  | .mk k n e s ks, d, h => by
    have h1 := node_small (rightB_leaf h).1
    have h2 := rights_small ks (d - 1) (right_kids h)
    rw [V.nodes_eq, V.sz]
    simp only [V.s, V.kids] at h1 ⊢
    omega
theorem rights_small : ∀ (ts : List V) (d : Int), rightsB ts d = true → szs ts ≤ 2001 * nodess ts
  | [], _, _ => by simp [szs]
  | t :: ts, d, h => by
    rw [rightsB, Bool.and_eq_true] at h
    have h1 := right_small t d h.1
    have h2 := rights_small ts d h.2
    rw [szs, nodess]; omega
 end
theorem ok_small {t : V} (h : okT t = true) : t.sz ≤ 600300 ∧ t.nodes ≤ 300 := by
  simp only [okT, Bool.and_eq_true, decide_eq_true_eq] at h
  have := right_small t 12 h.1
  omega
end Go.Proofs.YtfjehhdahpbbgaaDoor
namespace Go.Proofs.YtfjehhdahpbbgaaDoor
set_option linter.unusedSimpArgs false
set_option linter.unusedVariables false
set_option maxRecDepth 100000
open Go.RowKit
theorem plain_kids {t : V} {d : Int} (h : rightB t d = true) (hk : t.k ≠ 7 ∧ t.k ≠ 8 ∧ t.k ≠ 9) : t.kids = [] := by
  rw [rightB_eq] at h
  simp only [Bool.and_eq_true, ownB] at h
  have h2 := h.1.2.2
  rw [if_neg hk.1, if_neg hk.2.2, if_neg hk.2.1] at h2
  exact List.eq_nil_of_length_eq_zero (by simpa using h2)
theorem kind_in {t : V} {d : Int} (h : rightB t d = true) : 0 ≤ t.k ∧ t.k ≤ 9 := by
  have h2 := (rightB_leaf h).1
  unfold nodeB at h2
  by_cases hk : 0 ≤ t.k ∧ t.k ≤ 9
  · exact hk
  · rw [if_neg (by omega), if_neg (by omega), if_neg (by omega), if_neg (by omega), if_neg (by omega), if_neg (by omega)] at h2
    cases h2
theorem tag_n {t : V} {d : Int} (h : rightB t d = true) (hk : t.k = 9) : 0 ≤ t.n ∧ t.n ≤ 1000000 := by
  have h2 := (rightB_leaf h).1
  unfold nodeB at h2
  rw [if_neg (by omega), if_neg (by omega), if_neg (by omega), if_neg (by omega), if_neg (by omega), if_pos hk] at h2
  have := of_decide_eq_true h2
  omega
end Go.Proofs.YtfjehhdahpbbgaaDoor
namespace Go.Proofs.YtfjehhdahpbbgaaDoor
set_option linter.unusedSimpArgs false
set_option linter.unusedVariables false
set_option maxRecDepth 100000
open Go.RowKit
theorem u64w (x : Int) (h0 : 0 ≤ x) (h1 : x < 18446744073709551616) : IntKind.u64.wrap x = x := by
  unfold IntKind.wrap; simp [IntKind.bits, IntKind.signed]; omega
end Go.Proofs.YtfjehhdahpbbgaaDoor
namespace Go.Proofs.YtfjehhdahpbbgaaDoor
set_option linter.unusedSimpArgs false
set_option linter.unusedVariables false
set_option maxRecDepth 100000
open Go.RowKit
def wval (l : List UInt8) : Nat := l.foldl (fun n c => 256 * n + c.toNat) 0
def sub (l : List UInt8) (i m : Nat) : List UInt8 := (l.drop i).take m
end Go.Proofs.YtfjehhdahpbbgaaDoor
namespace Go.Proofs.YtfjehhdahpbbgaaDoor
set_option linter.unusedSimpArgs false
set_option linter.unusedVariables false
set_option maxRecDepth 100000
open Go.RowKit
def byteAt (s : ByteArray) (i : Int) : Int := ((s.data.toList.getD i.toNat 0).toNat : Int)
end Go.Proofs.YtfjehhdahpbbgaaDoor
namespace Go.Proofs.YtfjehhdahpbbgaaDoor
set_option linter.unusedSimpArgs false
set_option linter.unusedVariables false
set_option maxRecDepth 100000
open Go.RowKit
def PredRet (I J : World → Prop) (e : Ending) (w' : World) : Prop := (e = .returned (.bool false) ∧ I w') ∨ (e = .returned (.bool true) ∧ J w')
def IdxRet (I J : Nat → World → Prop) (n : Nat) (e : Ending) (w' : World) : Prop := (e = .returned (.int .i64 (-1)) ∧ I n w') ∨ ∃ i, i < n ∧ e = .returned (.int .i64 (i : Nat)) ∧ J i w'
def HasRet (I J : Nat → World → Prop) (n : Nat) (e : Ending) (w' : World) : Prop := (e = .returned (.bool false) ∧ I n w') ∨ ∃ i, i < n ∧ e = .returned (.bool true) ∧ J i w'
set_option maxHeartbeats 1000000 in
theorem index2_any (w0 : World) (F : FuncId) (c1 c2 : Value) (hF : ∀ (args : Array Value) (w : World), (callFunc F args).run Tryd.prog w = .ok (.enter F args) w) (v : Value) (ts : List V) (h : RepS w0 v ts) (I J : Nat → World → Prop)
    (hI0 : ∀ i w, I i w → Below w0.heap.size w0 w)
    (hY : ∀ i (hi : i < ts.length) (sl : Value) (w : World), RepS w0 sl ts[i].kids → ts[i].wf → I i w → Calls Tryd.prog F #[ts[i].agg sl, c1, c2] w (PredRet (I (i + 1)) (J i))) (w : World) (hw : I 0 w) :
    Calls Tryd.prog 133 #[v, .func (.func F) #[] #[c1, c2]] w (IdxRet I J ts.length) := by
  obtain ⟨a, b, off, cap, rfl, ha, hc, hm, sls, hel⟩ := h.opened
  have HA := Lib.hid ha; have HE := Lib.hid hel; have HY := Lib.hid hY; have HI := Lib.hid hI0; have HW := Lib.hid hw
  have hl63 : ts.length ≤ 9223372036854775807 := by omega
  have HP1 := Lib.hid (show ∀ w', I ts.length w' → IdxRet I J ts.length (.returned (.int .i64 (-1))) w' from fun w' h => .inl ⟨rfl, h⟩)
  have HP2 := Lib.hid (show ∀ i w', i < ts.length → J i w' → IdxRet I J ts.length (.returned (.int .i64 (i : Nat))) w' from fun i w' h1 h2 => .inr ⟨i, h1, rfl, h2⟩)
  clear ha hel hY hI0 hw hc hm h
  go_enter Tryd.func133, Tryd.ntmps133
  go_wp2_with fail
  go_loopw [8] (fun i wr => ∃ k : Nat, k ≤ ts.length ∧ i = .int .i64 k ∧ Hid (I k wr)) (fun i _ => ts.length - (intOf i).toNat)
  case atStart => exact ⟨0, by omega, rfl, HW⟩
  case round =>
    obtain ⟨k, hk, rfl, HK⟩ := hrel
    by_cases hlt : k < ts.length
    · have hne : ts ≠ [] := by intro e; rw [e] at hlt; simp at hlt
      obtain ⟨rfl, hbw⟩ := HA.out hne
      have HWR := Lib.hid (HI.out k wr HK.out)
      obtain ⟨c0, c1', c2', c3, c4⟩ := (HE.out k hlt).1.keep (HWR.out.block b hbw)
      have Y1 := Lib.hid (HY.out k hlt (sls k) wr (HE.out k hlt).2.2 (HE.out k hlt).2.1 HK.out)
      obtain ⟨a3, cap3, hs3⟩ := (HE.out k hlt).2.2.slice
      rw [hs3] at c4 Y1
      unfold V.agg at Y1
      clear hs3
      generalize ts[k].k = xk at *
      generalize ts[k].n = xn at *
      generalize ts[k].e = xe at *
      generalize ts[k].s = xs at *
      go_wp2_with fail
      refine Y1.out.mono ?_
      rintro e1 w1 hpost
      rcases hpost with ⟨rfl, hi1⟩ | ⟨rfl, hj1⟩
      · have HI1 := Lib.hid hi1; clear hi1
        go_wp2_with fail
        go_roundw
        case rel => exact ⟨k + 1, by omega, by go_num, HI1⟩
        case measure => simp [intOf]; omega
      · have HP := Lib.hid (HP2.out k w1 hlt hj1); clear hj1
        go_wp2_with fail
        go_ret
        exact HP.out
    · have hkl : k = ts.length := by omega
      subst hkl
      have HP := Lib.hid (HP1.out wr HK.out)
      go_wp2_with fail
      go_ret
      exact HP.out
set_option maxHeartbeats 400000 in
theorem has2_any (w0 : World) (F : FuncId) (c1 c2 : Value) (hF : ∀ (args : Array Value) (w : World), (callFunc F args).run Tryd.prog w = .ok (.enter F args) w) (v : Value) (ts : List V) (h : RepS w0 v ts) (I J : Nat → World → Prop)
    (hI0 : ∀ i w, I i w → Below w0.heap.size w0 w)
    (hY : ∀ i (hi : i < ts.length) (sl : Value) (w : World), RepS w0 sl ts[i].kids → ts[i].wf → I i w → Calls Tryd.prog F #[ts[i].agg sl, c1, c2] w (PredRet (I (i + 1)) (J i))) (w : World) (hw : I 0 w) :
    Calls Tryd.prog 108 #[v, .func (.func F) #[] #[c1, c2]] w (HasRet I J ts.length) := by
  have IX := Lib.hid (index2_any w0 F c1 c2 hF v ts h I J hI0 hY w hw)
  obtain ⟨a, b, off, cap, rfl, _⟩ := h.opened
  have HP1 := Lib.hid (show ∀ w', I ts.length w' → HasRet I J ts.length (.returned (.bool false)) w' from fun w' h => .inl ⟨rfl, h⟩)
  have HP2 := Lib.hid (show ∀ i w', i < ts.length → J i w' → HasRet I J ts.length (.returned (.bool true)) w' from fun i w' h1 h2 => .inr ⟨i, h1, rfl, h2⟩)
  clear hI0 hY hw h
  go_enter Tryd.func108, Tryd.ntmps108
  go_wp2_with fail
  refine IX.out.mono ?_
  rintro e1 w1 hpost
  rcases hpost with ⟨rfl, hi1⟩ | ⟨i, hi, rfl, hj1⟩
  · have HP := Lib.hid (HP1.out w1 hi1); clear hi1
    go_wp2_with fail
    go_ret
    exact HP.out
  · have HP := Lib.hid (HP2.out i w1 hi hj1); clear hj1
    have h0 : (0 : Int) ≤ (i : Int) := by omega
    go_wp2_with fail
    go_ret
    exact HP.out
end Go.Proofs.YtfjehhdahpbbgaaDoor
namespace Go.Proofs.YtfjehhdahpbbgaaDoor
set_option linter.unusedSimpArgs false
set_option linter.unusedVariables false
set_option maxRecDepth 100000
open Go.RowKit
theorem Box.overB {w w' : World} {B b : Nat} {k n e : Int} {s : ByteArray} {sl : Value} {T : TypeId} (h : Box w b k n e s sl T) (hb : Below B w w') (hB : b < B) : Box w' b k n e s sl T := (hb.block b hB).trans h
def Cell1 (w : World) (c : Nat) (v : Value) (T : TypeId) : Prop := w.heap[c]? = some (.cells #[v] T (0, 0))
theorem Cell1.over {w w' : World} {c : Nat} {v : Value} {T : TypeId} (h : Cell1 w c v T) (hb : w'.heap[c]? = w.heap[c]?) : Cell1 w' c v T := hb.trans h
def oneC (c : Nat) : Nat → Prop := fun x => x = c
def LeftIs (c : Nat) (w w' : World) (L : Int) : Prop := Cell1 w' c (.int .i64 L) 3 ∧ -1 ≤ L ∧ L ≤ 300 ∧ Touch (oneC c) (oneC c) w w'
def IVRet (o : Option Int) (c : Nat) (w : World) (e : Ending) (w' : World) : Prop := e = .returned (.bool o.isSome) ∧ ∃ L', LeftIs c w w' L' ∧ ∀ r, o = some r → L' = r
def IV1Ret (o : Option Int) (c : Nat) (w : World) (e : Ending) (w' : World) : Prop := e = .returned (.bool (!o.isSome)) ∧ ∃ L', LeftIs c w w' L' ∧ ∀ r, o = some r → L' = r
set_option maxHeartbeats 400000 in
theorem isValue1_any (k n e : Int) (s : ByteArray) (sl : Value) (p1 p2 c : Nat) (d : Int) (o : Option Int) (hd0 : 0 ≤ d) (hd1 : d ≤ 20) (w : World) (h1 : Cell1 w p1 (.int .i64 d) 3) (h2 : Cell1 w p2 (.pointer (some ⟨c, 0, none⟩)) 81)
    (hc : c < w.heap.size) (IVH : ∀ W, Below w.heap.size w W → Calls Tryd.prog 76 #[.agg #[.int .i64 k, .int .i64 n, .int .i64 e, .string s, sl], .int .i64 (d + 1), .pointer (some ⟨c, 0, none⟩)] W (IVRet o c W)) :
    Calls Tryd.prog 109 #[.agg #[.int .i64 k, .int .i64 n, .int .i64 e, .string s, sl], .pointer (some ⟨p1, 0, none⟩), .pointer (some ⟨p2, 0, none⟩)] w (IV1Ret o c w) := by
  have d1 := cell_of_one h1
  have d2 := cell_of_one h2
  have l1 := lt_of_heap h1
  have l2 := lt_of_heap h2
  have IV := Lib.hid IVH
  clear h1 h2 IVH
  go_enter Tryd.func109, Tryd.ntmps109
  go_wp2_with fail
  refine (IV.out _ (by (repeat' (first | with_reducible exact Below.refl _ _ | with_reducible refine below_alloc ?_ _ ?_ | with_reducible refine Below.setCell ?_ ?_ _ | with_reducible refine Below.drew ?_ | with_reducible refine below_drewN ?_ _ | with_reducible refine below_step ?_ (by assumption) ?_ | with_reducible refine below_mark ?_ (by assumption) ?_)); all_goals (first | omega | (simp; done) | (simp; omega)))).mono ?_
  rintro x w1 ⟨rfl, L', ⟨hL1, hL2, hL3, hL4⟩, hL5⟩
  have HL := Lib.hid (show ∃ L', LeftIs c w w1 L' ∧ ∀ r, o = some r → L' = r from ⟨L', ⟨hL1, hL2, hL3, Touch.trans (Touch.of_below (A := oneC c) ((by (repeat' (first | with_reducible exact Below.refl _ _ | with_reducible refine below_alloc ?_ _ ?_ | with_reducible refine Below.setCell ?_ ?_ _ | with_reducible refine Below.drew ?_ | with_reducible refine below_drewN ?_ _ | with_reducible refine below_step ?_ (by assumption) ?_ | with_reducible refine below_mark ?_ (by assumption) ?_)); all_goals (first | omega | (simp; done) | (simp; omega))))) hL4⟩, hL5⟩)
  clear hL1 hL2 hL3 hL4 hL5
  go_wp2_with fail
  go_ret
  exact ⟨by cases o <;> rfl, HL.out⟩
theorem enters_isValue1 : ∀ (args : Array Value) (w : World), (callFunc 109 args).run Tryd.prog w = .ok (.enter 109 args) w := by
  intro args w
  have h1 : (Tryd.f109.name == "runtime.NumGoroutine") = false := by kernel_rfl
  have h2 : Tryd.f109.body.isNone = false := by kernel_rfl
  have h1' : ¬ Tryd.f109.name = "runtime.NumGoroutine" := by simpa using h1
  have h2' : ¬ Tryd.f109.body = none := by intro e; rw [e] at h2; cases h2
  simp [callFunc, Tryd.func109, go_sem, h1', h2']
theorem imps_take (ts : List V) (d L : Int) (i : Nat) (h : i < ts.length) : imps (ts.take (i + 1)) d L = (imps (ts.take i) d L).bind fun x => imp ts[i] d x := by
  have app : ∀ (a b : List V) (L : Int), imps (a ++ b) d L = (imps a d L).bind fun x => imps b d x := by
    intro a
    induction a with
    | nil => intro b L; simp [imps]
    | cons t a ih => intro b L; simp only [List.cons_append, imps]; cases imp t d L <;> simp [ih]
  rw [List.take_succ_eq_append_getElem h, app]
  congr 1
  funext x
  simp only [imps]
  cases imp ts[i] d x <;> rfl
theorem imps_none (ts : List V) (d L : Int) (i : Nat) (h : imps (ts.take i) d L = none) : imps ts d L = none := by
  have app : ∀ (a b : List V) (L : Int), imps (a ++ b) d L = (imps a d L).bind fun x => imps b d x := by
    intro a
    induction a with
    | nil => intro b L; simp [imps]
    | cons t a ih => intro b L; simp only [List.cons_append, imps]; cases imp t d L <;> simp [ih]
  have := app (ts.take i) (ts.drop i) L
  rw [List.take_append_drop, h] at this
  exact this
theorem imp_bounds (t : V) (d L r : Int) (hd : 0 ≤ d) (h0 : 0 ≤ L) (h1 : L ≤ 300) (h : imp t d L = some r) : 0 ≤ r ∧ r ≤ 300 := by
  rw [imp_is t d L hd h0 h1] at h
  split at h
  · injection h with h; omega
  · cases h
set_option maxHeartbeats 4000000 in
theorem isValue_all (w0 : World) (hE : Env w0) : ∀ (N : Nat) (v : Value) (ts : List V), szs ts ≤ N → RepS w0 v ts → szs ts ≤ 1048576 → ∀ (u : V), u.kids = ts → u.wf → ∀ (d L : Int) (c : Nat) (w : World), 0 ≤ d → d ≤ 13 → 0 ≤ L → L ≤ 300 → w0.heap.size ≤ c →
    Cell1 w c (.int .i64 L) 3 → Below w0.heap.size w0 w → Calls Tryd.prog 76 #[u.agg v, .int .i64 d, .pointer (some ⟨c, 0, none⟩)] w (IVRet (imp u d L) c w) := by
  intro N
  induction N using Nat.strongRecOn with
  | ind N ih =>
  intro v ts hN hrep hsz u huk uwf d L c w hd0 hd1 hL0 hL1 hc0 hcell hw
  obtain ⟨a, cap, rfl⟩ := hrep.slice
  have hcw := lt_of_heap hcell
  have hlen : ts.length ≤ 1048576 := Nat.le_trans (szs_length ts) hsz
  have HO := Lib.hid (show imp u d L = if impStep u d L then imps ts (d + 1) (L - 1) else none by rw [imp_eq, huk])
  have HS := Lib.hid (show impStep u d L = (decide (0 ≤ L - 1 ∧ d ≤ 12 ∧ (ts.length : Int) ≤ L - 1) && nodeB u && areB u) by unfold impStep; rw [huk])
  have ND := Lib.hid (fun (W : World) (hW : Below w0.heap.size w0 W) => isNode_any u (.slice a ts.length cap) W uwf (hE.keep hW))
  have AK := Lib.hid (fun (W : World) (hW : Below w0.heap.size w0 W) => areKids_any w0 u (.slice a ts.length cap) (by rw [huk]; exact hrep) uwf W hW (by rw [huk]; exact hlen))
  have IH := Lib.hid (show ∀ i (hi : i < ts.length) (sl : Value), RepS w0 sl ts[i].kids → ∀ (d L : Int) (c : Nat) (w : World), 0 ≤ d → d ≤ 13 → 0 ≤ L → L ≤ 300 → w0.heap.size ≤ c → Cell1 w c (.int .i64 L) 3 → Below w0.heap.size w0 w → ts[i].wf → Calls Tryd.prog 76 #[ts[i].agg sl, .int .i64 d, .pointer (some ⟨c, 0, none⟩)] w (IVRet (imp ts[i] d L) c w) from
    fun i hi sl hrs d L c w h1 h2 h3 h4 h5 h6 h7 h8 => by
      have q1 := szs_mem (List.getElem_mem hi); have q2 := V.sz_eq ts[i]
      exact ih (szs ts[i].kids) (by omega) sl ts[i].kids (Nat.le_refl _) hrs (by omega) ts[i] rfl h8 d L c w h1 h2 h3 h4 h5 h6 h7)
  have HREP := Lib.hid hrep; have HSZ := Lib.hid hsz
  clear ih hsz hrep hE
  have HW := Lib.hid hw
  have hws := hw.size
  obtain ⟨o, ho⟩ : ∃ o, o = imp u d L := ⟨_, rfl⟩
  rw [← ho] at HO ⊢
  have HCELL := Lib.hid hcell
  clear ho hw hcell
  unfold V.agg at ND AK ⊢
  generalize nodeB u = nb at *
  generalize areB u = ab at *
  generalize u.k = vk at *
  generalize u.n = vn at *
  generalize u.e = ve at *
  generalize u.s = vs at *
  generalize hW3 : ((w.alloc (.cells #[.int .i64 vk, .int .i64 vn, .int .i64 ve, .string vs, .slice a ts.length cap] 29)).alloc (.cells #[.int .i64 d] 3)).alloc (.cells #[.pointer (some ⟨c, 0, none⟩)] 81) = W3
  have HB3 := Lib.hid (show Below w.heap.size w W3 by rw [← hW3]; exact (by (repeat' (first | with_reducible exact Below.refl _ _ | with_reducible refine below_alloc ?_ _ ?_ | with_reducible refine Below.setCell ?_ ?_ _ | with_reducible refine Below.drew ?_ | with_reducible refine below_drewN ?_ _ | with_reducible refine below_step ?_ (by assumption) ?_ | with_reducible refine below_mark ?_ (by assumption) ?_)); all_goals (first | omega | (simp; done) | (simp; omega))))
  have HX3 := Lib.hid (show Box W3 w.heap.size vk vn ve vs (.slice a ts.length cap) 29 ∧ Cell1 W3 (w.heap.size + 1) (.int .i64 d) 3 ∧ Cell1 W3 (w.heap.size + 1 + 1) (.pointer (some ⟨c, 0, none⟩)) 81 by
    have z1 : (w.alloc (.cells #[.int .i64 vk, .int .i64 vn, .int .i64 ve, .string vs, .slice a ts.length cap] 29)).heap.size = w.heap.size + 1 := by simp
    have z2 : ((w.alloc (.cells #[.int .i64 vk, .int .i64 vn, .int .i64 ve, .string vs, .slice a ts.length cap] 29)).alloc (.cells #[.int .i64 d] 3)).heap.size = w.heap.size + 1 + 1 := by simp
    rw [← hW3]
    refine ⟨((Box.new w vk vn ve vs _ _).alloc _).alloc _, ?_, ?_⟩
    · refine Cell1.over ?_ (heap_alloc_old _ _ (by rw [z2]; omega))
      have := heap_alloc_new (w.alloc (.cells #[.int .i64 vk, .int .i64 vn, .int .i64 ve, .string vs, .slice a ts.length cap] 29)) (.cells #[.int .i64 d] 3)
      rw [z1] at this; exact this
    · have := heap_alloc_new ((w.alloc (.cells #[.int .i64 vk, .int .i64 vn, .int .i64 ve, .string vs, .slice a ts.length cap] 29)).alloc (.cells #[.int .i64 d] 3)) (.cells #[.pointer (some ⟨c, 0, none⟩)] 81)
      rw [z2] at this; exact this)
  have hz3 : W3.heap.size = w.heap.size + 1 + 1 + 1 := by rw [← hW3]; simp
  have HZ3 := Lib.hid hz3
  have dc : (((w.alloc (.cells #[.int .i64 vk, .int .i64 vn, .int .i64 ve, .string vs, .slice a ts.length cap] 29)).alloc (.cells #[.int .i64 d] 3)).alloc (.cells #[.pointer (some ⟨c, 0, none⟩)] 81)).cell? ⟨c, 0, none⟩ = some (.int .i64 L) := by rw [hW3]; exact cell_of_one ((HB3.out.block c hcw).trans HCELL.out)
  have fc : (((w.alloc (.cells #[.int .i64 vk, .int .i64 vn, .int .i64 ve, .string vs, .slice a ts.length cap] 29)).alloc (.cells #[.int .i64 d] 3)).alloc (.cells #[.pointer (some ⟨c, 0, none⟩)] 81)).frozen? ⟨c, 0, none⟩ = false := by rw [hW3]; exact free_of_one ((HB3.out.block c hcw).trans HCELL.out)
  have HW3 := Lib.hid hW3
  clear hW3 hz3
  go_enter Tryd.func76, Tryd.ntmps76
  go_wp2_with fail
  rw [HW3.out]
  clear dc fc
  generalize hW4 : W3.setCell ⟨c, 0, none⟩ (.int .i64 (L - 1)) = W4
  have HC4 := Lib.hid (show Cell1 W4 c (.int .i64 (L - 1)) 3 by
    rw [← hW4]; have := heap_setCell_same W3 c 0 #[.int .i64 L] _ (.int .i64 (L - 1)) ((HB3.out.block c hcw).trans HCELL.out); exact this)
  have ho4 : ∀ x, x ≠ c → W4.heap[x]? = W3.heap[x]? := fun x hx => by rw [← hW4]; exact heap_setCell_other _ _ _ _ hx
  have HX4 := Lib.hid (show Box W4 w.heap.size vk vn ve vs (.slice a ts.length cap) 29 ∧ Cell1 W4 (w.heap.size + 1) (.int .i64 d) 3 ∧ Cell1 W4 (w.heap.size + 1 + 1) (.pointer (some ⟨c, 0, none⟩)) 81 from
    ⟨(ho4 _ (by omega)).trans HX3.out.1, HX3.out.2.1.over (ho4 _ (by omega)), HX3.out.2.2.over (ho4 _ (by omega))⟩)
  have HT4 := Lib.hid (show Touch (oneC c) (oneC c) w W4 from (Touch.of_below HB3.out).trans (by rw [← hW4]; exact touch_cell W3 c 0 _ rfl))
  have HB4 := Lib.hid (show Below w0.heap.size w0 W4 from HW.out.trans ((HT4.out.below (fun x hx => by have h1 : x = c := hx; omega) hws)))
  have hz4 : W4.heap.size = w.heap.size + 1 + 1 + 1 := by rw [← hW4]; simpa using HZ3.out
  clear hW4 ho4 HX3 HB3 HZ3 HW3 HCELL
  -- what is handed back
  have HNO := Lib.hid (show ∀ (W : World), Below W4.heap.size W4 W → o = none → IVRet o c w (.returned (.bool false)) W from fun W hW h => by
    subst h
    exact ⟨rfl, L - 1, ⟨HC4.out.over (hW.block c (by omega)), by omega, by omega, HT4.out.trans (Touch.of_below hW)⟩, fun r h => by cases h⟩)
  obtain ⟨b0, b1, b2, b3, b4⟩ := HX4.out.1.cells
  have e1 := cell_of_one HX4.out.2.1
  have e2 := cell_of_one HX4.out.2.2
  have e3 := cell_of_one HC4.out
  by_cases c1 : L - 1 < 0
  · have H := Lib.hid (HNO.out · · (show o = none by rw [HO.out, HS.out, decide_eq_false (by omega)]; rfl))
    clear HO HS ND AK IH
    go_quiet (fail)
    all_goals go_wp2_with fail
    all_goals go_ret
    all_goals exact H.out _ (by (repeat' (first | with_reducible exact Below.refl _ _ | with_reducible refine below_alloc ?_ _ ?_ | with_reducible refine Below.setCell ?_ ?_ _ | with_reducible refine Below.drew ?_ | with_reducible refine below_drewN ?_ _ | with_reducible refine below_step ?_ (by assumption) ?_ | with_reducible refine below_mark ?_ (by assumption) ?_)); all_goals (first | omega | (simp; done) | (simp; omega)))
  by_cases c2 : 12 < d
  · have H := Lib.hid (HNO.out · · (show o = none by rw [HO.out, HS.out, decide_eq_false (by omega)]; rfl))
    clear HO HS ND AK IH
    go_quiet (fail)
    all_goals go_wp2_with fail
    all_goals go_ret
    all_goals exact H.out _ (by (repeat' (first | with_reducible exact Below.refl _ _ | with_reducible refine below_alloc ?_ _ ?_ | with_reducible refine Below.setCell ?_ ?_ _ | with_reducible refine Below.drew ?_ | with_reducible refine below_drewN ?_ _ | with_reducible refine below_step ?_ (by assumption) ?_ | with_reducible refine below_mark ?_ (by assumption) ?_)); all_goals (first | omega | (simp; done) | (simp; omega)))
  by_cases c3 : L - 1 < ts.length
  · have H := Lib.hid (HNO.out · · (show o = none by rw [HO.out, HS.out, decide_eq_false (by omega)]; rfl))
    clear HO HS ND AK IH
    go_quiet (fail)
    all_goals go_wp2_with fail
    all_goals go_ret
    all_goals exact H.out _ (by (repeat' (first | with_reducible exact Below.refl _ _ | with_reducible refine below_alloc ?_ _ ?_ | with_reducible refine Below.setCell ?_ ?_ _ | with_reducible refine Below.drew ?_ | with_reducible refine below_drewN ?_ _ | with_reducible refine below_step ?_ (by assumption) ?_ | with_reducible refine below_mark ?_ (by assumption) ?_)); all_goals (first | omega | (simp; done) | (simp; omega)))
  cases nb
  case false =>
    have H := Lib.hid (HNO.out · · (show o = none by rw [HO.out, HS.out]; simp))
    clear HO HS AK IH
    go_region_with (go_at_call 106; refine (ND.out _ (below_mark HB4.out (show Below W4.heap.size W4 _ by exact (by (repeat' (first | with_reducible exact Below.refl _ _ | with_reducible refine below_alloc ?_ _ ?_ | with_reducible refine Below.setCell ?_ ?_ _ | with_reducible refine Below.drew ?_ | with_reducible refine below_drewN ?_ _ | with_reducible refine below_step ?_ (by assumption) ?_ | with_reducible refine below_mark ?_ (by assumption) ?_)); all_goals (first | omega | (simp; done) | (simp; omega)))) (by have := HB4.out.size; omega))).mono ?_; rintro x5 w5 ⟨rfl, hb5⟩)
    all_goals go_wp2_with fail
    all_goals go_ret
    all_goals exact H.out _ (by (repeat' (first | with_reducible exact Below.refl _ _ | with_reducible refine below_alloc ?_ _ ?_ | with_reducible refine Below.setCell ?_ ?_ _ | with_reducible refine Below.drew ?_ | with_reducible refine below_drewN ?_ _ | with_reducible refine below_step ?_ (by assumption) ?_ | with_reducible refine below_mark ?_ (by assumption) ?_)); all_goals (first | omega | (simp; done) | (simp; omega)))
  case true =>
    go_cut [38] (fun s wx => s = .bool (!ab) ∧ Below W4.heap.size W4 wx)
    case first =>
      go_region_with (first | (go_at_call 106; refine (ND.out _ (below_mark HB4.out (show Below W4.heap.size W4 _ by exact (by (repeat' (first | with_reducible exact Below.refl _ _ | with_reducible refine below_alloc ?_ _ ?_ | with_reducible refine Below.setCell ?_ ?_ _ | with_reducible refine Below.drew ?_ | with_reducible refine below_drewN ?_ _ | with_reducible refine below_step ?_ (by assumption) ?_ | with_reducible refine below_mark ?_ (by assumption) ?_)); all_goals (first | omega | (simp; done) | (simp; omega)))) (by have := HB4.out.size; omega))).mono ?_; rintro x5 w5 ⟨rfl, hb5⟩; obtain ⟨y0, y1, y2, y3, y4⟩ := (HX4.out.1.overB (show Below W4.heap.size W4 w5 by exact (by (repeat' (first | with_reducible exact Below.refl _ _ | with_reducible refine below_alloc ?_ _ ?_ | with_reducible refine Below.setCell ?_ ?_ _ | with_reducible refine Below.drew ?_ | with_reducible refine below_drewN ?_ _ | with_reducible refine below_step ?_ (by assumption) ?_ | with_reducible refine below_mark ?_ (by assumption) ?_)); all_goals (first | omega | (simp; done) | (simp; omega)))) (by omega)).cells) | (go_at_call 107; refine (AK.out _ (below_mark HB4.out (show Below W4.heap.size W4 _ by exact (by (repeat' (first | with_reducible exact Below.refl _ _ | with_reducible refine below_alloc ?_ _ ?_ | with_reducible refine Below.setCell ?_ ?_ _ | with_reducible refine Below.drew ?_ | with_reducible refine below_drewN ?_ _ | with_reducible refine below_step ?_ (by assumption) ?_ | with_reducible refine below_mark ?_ (by assumption) ?_)); all_goals (first | omega | (simp; done) | (simp; omega)))) (by have := HB4.out.size; omega))).mono ?_; rintro x6 w6 ⟨rfl, hb6⟩))
      all_goals (go_wp2_with fail; go_meet; exact ⟨rfl, (by (repeat' (first | with_reducible exact Below.refl _ _ | with_reducible refine below_alloc ?_ _ ?_ | with_reducible refine Below.setCell ?_ ?_ _ | with_reducible refine Below.drew ?_ | with_reducible refine below_drewN ?_ _ | with_reducible refine below_step ?_ (by assumption) ?_ | with_reducible refine below_mark ?_ (by assumption) ?_)); all_goals (first | omega | (simp; done) | (simp; omega)))⟩)
    case rest =>
      obtain ⟨rfl, hbc⟩ := hcut
      cases ab
      case false =>
        have H := Lib.hid (HNO.out · · (show o = none by rw [HO.out, HS.out]; simp))
        clear HO HS IH
        go_wp2_with fail
        go_ret
        exact H.out _ hbc
      case true =>
        have HO2 := Lib.hid (show o = imps ts (d + 1) (L - 1) by rw [HO.out, HS.out, decide_eq_true (by omega)]; rfl)
        clear HO HS HNO b0 b1 b2 b3 b4 e1 e2 e3
        have BX := Lib.hid (HX4.out.1.overB hbc (by omega))
        obtain ⟨b0, b1, b2, b3, b4⟩ := BX.out.cells
        have HI := Lib.hid (has2_any w0 109 (.pointer (some ⟨w.heap.size + 1, 0, none⟩)) (.pointer (some ⟨w.heap.size + 1 + 1, 0, none⟩)) enters_isValue1 (.slice a ts.length cap) ts HREP.out
          (fun i W => ∃ Li, imps (ts.take i) (d + 1) (L - 1) = some Li ∧ Cell1 W c (.int .i64 Li) 3 ∧ Cell1 W (w.heap.size + 1) (.int .i64 d) 3 ∧ Cell1 W (w.heap.size + 1 + 1) (.pointer (some ⟨c, 0, none⟩)) 81 ∧ 0 ≤ Li ∧ Li ≤ 300 ∧ Touch (oneC c) (oneC c) w W)
          (fun i W => o = none ∧ ∃ L', LeftIs c w W L')
          (fun i W ⟨Li, _, _, _, _, _, _, ht⟩ => HW.out.trans (ht.below (fun x hx => by have h1 : x = c := hx; omega) hws))
          (fun i hi sl W hrs wfi ⟨Li, h1, h2, h3, h4, h5, h6, ht⟩ => by
            have hbW : Below w0.heap.size w0 W := HW.out.trans (ht.below (fun x hx => by have h1 : x = c := hx; omega) hws)
            refine (isValue1_any ts[i].k ts[i].n ts[i].e ts[i].s sl (w.heap.size + 1) (w.heap.size + 1 + 1) c d (imp ts[i] (d + 1) Li) hd0 (by omega) W h3 h4 (by have := ht.size; omega) (fun W' hW' => ?_)).mono ?_
            · exact IH.out i hi sl hrs (d + 1) Li c W' (by omega) (by omega) h5 h6 hc0 (h2.over (hW'.block c (by have := ht.size; omega))) (hbW.trans (hW'.mono hbW.size)) wfi
            · rintro e w' ⟨rfl, L', ⟨g1, g2, g3, g4⟩, g5⟩
              have ht' := ht.trans g4
              cases hq : imp ts[i] (d + 1) Li with
              | none =>
                right
                refine ⟨rfl, ?_, L', g1, g2, g3, ht'⟩
                rw [HO2.out]
                exact imps_none ts (d + 1) (L - 1) (i + 1) (by rw [imps_take ts (d + 1) (L - 1) i hi, h1]; exact hq)
              | some r =>
                left
                obtain rfl := g5 r hq
                have hbd := imp_bounds ts[i] (d + 1) Li L' (by omega) h5 h6 hq
                refine ⟨rfl, L', by rw [imps_take ts (d + 1) (L - 1) i hi, h1]; exact hq, g1, h3.over (g4.block _ (by have := lt_of_heap h3; omega) (fun hx => by have : w.heap.size + 1 = c := hx; omega)), h4.over (g4.block _ (by have := lt_of_heap h4; omega) (fun hx => by have : w.heap.size + 1 + 1 = c := hx; omega)), hbd.1, hbd.2, ht'⟩) wc
          ⟨L - 1, by simp [imps], HC4.out.over (hbc.block c (by omega)), HX4.out.2.1.over (hbc.block _ (by omega)), HX4.out.2.2.over (hbc.block _ (by omega)), by omega, by omega, HT4.out.trans (Touch.of_below hbc)⟩)
        clear IH
        go_wp2_with fail
        refine HI.out.mono ?_
        rintro x7 w7 hpost
        rcases hpost with ⟨rfl, hi⟩ | ⟨i, hi, rfl, ho, L', hL⟩
        · have HF := Lib.hid (show IVRet o c w (.returned (.bool true)) w7 by
            obtain ⟨Li, h1, h2, h3, h4, h5, h6, ht⟩ := hi
            rw [List.take_length] at h1
            have ho : o = some Li := by rw [HO2.out, h1]
            rw [ho]
            exact ⟨rfl, Li, ⟨h2, by omega, h6, ht⟩, fun r hr => by injection hr⟩)
          clear hi
          go_wp2_with fail
          go_ret
          exact HF.out
        · have HF := Lib.hid (show IVRet o c w (.returned (.bool false)) w7 by
            subst ho
            exact ⟨rfl, L', hL, fun r hr => by cases hr⟩)
          clear hL ho
          go_wp2_with fail
          go_ret
          exact HF.out
set_option maxHeartbeats 400000 in
theorem ValueOk_impl (w0 : World) (hE : Env w0) (v : Value) (t : V) (h : Rep w0 v t) (hsz : t.sz ≤ 1048576) (w : World) (hw : Below w0.heap.size w0 w) : Calls Tryd.prog 49 #[v] w fun e w' => e = .returned (.bool (okT t)) ∧ Below w.heap.size w w' := by
  obtain ⟨sl, rfl, hwf, hr⟩ := h
  have hws := hw.size
  have IV := Lib.hid (fun (c : Nat) (W : World) (hc : w.heap.size ≤ c) (h1 : Cell1 W c (.int .i64 300) 3) (hW : Below w.heap.size w W) => isValue_all w0 hE _ sl t.kids (Nat.le_refl _) hr (by have := V.sz_eq t; omega) t rfl hwf 0 300 c W (by omega) (by omega) (by omega) (by omega) (by omega) h1 (hw.trans (hW.mono hws)))
  obtain ⟨b, hb⟩ : ∃ b, b = okT t := ⟨_, rfl⟩
  rw [← hb]
  have HB := Lib.hid (show (imp t 0 300).isSome = b by rw [hb]; exact imp_ok t)
  clear hr hw hE hb
  unfold V.agg at IV ⊢
  generalize imp t 0 300 = o at *
  generalize t.k = vk at *
  generalize t.n = vn at *
  generalize t.e = ve at *
  generalize t.s = vs at *
  go_enter Tryd.func49, Tryd.ntmps49
  go_wp2_with fail
  have HC := Lib.hid (show Cell1 ((w.alloc (.cells #[.int .i64 vk, .int .i64 vn, .int .i64 ve, .string vs, sl] 29)).alloc (.cells #[.int .i64 300] 3)) (w.heap.size + 1) (.int .i64 300) 3 by
    have := heap_alloc_new (w.alloc (.cells #[.int .i64 vk, .int .i64 vn, .int .i64 ve, .string vs, sl] 29)) (.cells #[.int .i64 300] 3)
    rw [show (w.alloc (.cells #[.int .i64 vk, .int .i64 vn, .int .i64 ve, .string vs, sl] 29)).heap.size = w.heap.size + 1 by simp] at this; exact this)
  refine (IV.out _ _ (by omega) HC.out (by (repeat' (first | with_reducible exact Below.refl _ _ | with_reducible refine below_alloc ?_ _ ?_ | with_reducible refine Below.setCell ?_ ?_ _ | with_reducible refine Below.drew ?_ | with_reducible refine below_drewN ?_ _ | with_reducible refine below_step ?_ (by assumption) ?_ | with_reducible refine below_mark ?_ (by assumption) ?_)); all_goals (first | omega | (simp; done) | (simp; omega)))).mono ?_
  rintro x w1 ⟨rfl, L', ⟨_, _, _, ht⟩, _⟩
  have HT := Lib.hid (ht.below (B := w.heap.size) (fun x hx => by have : x = w.heap.size + 1 := hx; omega) (by simp; omega))
  clear ht
  go_wp2_with fail
  go_ret
  exact ⟨by rw [← HB.out]; rfl, Below.trans ((by (repeat' (first | with_reducible exact Below.refl _ _ | with_reducible refine below_alloc ?_ _ ?_ | with_reducible refine Below.setCell ?_ ?_ _ | with_reducible refine Below.drew ?_ | with_reducible refine below_drewN ?_ _ | with_reducible refine below_step ?_ (by assumption) ?_ | with_reducible refine below_mark ?_ (by assumption) ?_)); all_goals (first | omega | (simp; done) | (simp; omega)))) HT.out⟩
end Go.Proofs.YtfjehhdahpbbgaaDoor
namespace Go.Proofs.YtfjehhdahpbbgaaDoor
set_option linter.unusedSimpArgs false
set_option linter.unusedVariables false
set_option maxRecDepth 100000
open Go.RowKit
end Go.Proofs.YtfjehhdahpbbgaaDoor
namespace Go.Proofs.YtfjehhdahpbbgaaDoor
set_option linter.unusedSimpArgs false
set_option linter.unusedVariables false
set_option maxRecDepth 100000
open Go.RowKit
theorem rightsB_get : ∀ {ts : List V} {d : Int}, rightsB ts d = true → ∀ (j : Nat) (hj : j < ts.length), rightB ts[j] d = true
  | [], _, _, j, hj => by simp at hj
  | t :: ts, d, h, j, hj => by
    rw [rightsB, Bool.and_eq_true] at h
    cases j with
    | zero => exact h.1
    | succ j => exact rightsB_get h.2 j (by simpa using hj)
theorem nodess_mem : ∀ {ts : List V} {x : V}, x ∈ ts → x.nodes ≤ nodess ts
  | t :: ts, x, h => by
    rw [nodess]
    rcases List.mem_cons.1 h with rfl | h
    · omega
    · have := nodess_mem h; omega
theorem box_cells (w : World) (k n e : Int) (s : ByteArray) (sl : Value) (T : TypeId) {W : World} (h : Box W w.heap.size k n e s sl T) :
    W.cell? ⟨w.heap.size, 0, none⟩ = some (.int .i64 k) ∧ W.cell? ⟨w.heap.size, 1, none⟩ = some (.int .i64 n) ∧ W.cell? ⟨w.heap.size, 2, none⟩ = some (.int .i64 e) ∧
    W.cell? ⟨w.heap.size, 3, none⟩ = some (.string s) ∧ W.cell? ⟨w.heap.size, 4, none⟩ = some sl := h.cells
theorem cat2 (a : List UInt8) (s : ByteArray) : (⟨a.toArray⟩ : ByteArray) ++ s = ⟨(a ++ s.data.toList).toArray⟩ := by simp [ByteArray.ext_iff]
theorem keep1 {W w2 : World} {b i : Nat} {x : Value} (hb : Below W.heap.size W w2) (h : W.cell? ⟨b, i, none⟩ = some x) : w2.cell? ⟨b, i, none⟩ = some x :=
  (hb.cell (p := ⟨b, i, none⟩) (World.block_lt_of_cell? _ _ h)).trans h
theorem keep2b {w W w2 : World} {b i c j : Nat} {x y : Value} (hb : Below W.heap.size W w2) (h : W.cell? ⟨b, i, none⟩ = some x ∧ W.cell? ⟨c, j, none⟩ = some y ∧ Below w.heap.size w W) : w2.cell? ⟨b, i, none⟩ = some x ∧ w2.cell? ⟨c, j, none⟩ = some y ∧ Below w.heap.size w w2 :=
  ⟨keep1 hb h.1, keep1 hb h.2.1, h.2.2.trans (hb.mono h.2.2.size)⟩
theorem keep1b {w W w2 : World} {b i : Nat} {x : Value} (hb : Below W.heap.size W w2) (h : W.cell? ⟨b, i, none⟩ = some x ∧ Below w.heap.size w W) : w2.cell? ⟨b, i, none⟩ = some x ∧ Below w.heap.size w w2 :=
  ⟨keep1 hb h.1, h.2.trans (hb.mono h.2.size)⟩
end Go.Proofs.YtfjehhdahpbbgaaDoor
namespace Go.Proofs.YtfjehhdahpbbgaaDoor
set_option linter.unusedSimpArgs false
set_option linter.unusedVariables false
set_option maxRecDepth 100000
open Go.RowKit
theorem RepS.empty {w : World} {v : Value} (h : RepS w v []) (F : Nat → Prop) : OwnS w F v [] := by
  generalize hts : ([] : List V) = ts at h
  cases h with
  | mk a b off cap ts sls ha hc hm hbb cells wfs kids =>
    subst hts
    exact OwnS.mk F a b off cap [] sls (fun _ _ => False) (fun h => absurd rfl h) hc hm (fun h => absurd rfl h) (fun i hi => absurd hi (by simp)) (fun i j hij hj => absurd hj (by simp)) (fun i hi => absurd hi (by simp)) (fun i hi => absurd hi (by simp)) (fun i hi => absurd hi (by simp))
theorem VRow.snoc {w w' : World} {base : Nat} {E : TypeId} {G F : Nat → Prop} {v v' : Value} {ts : List V} {sls : List Value} {Fs : Nat → Nat → Prop} {t : V} {sl : Value} (h : VRow w base E G v ts sls Fs) (ht : t.wf) (ho : OwnS w F sl t.kids)
    (hF : ∀ x, F x → base ≤ x ∧ x < w.heap.size ∧ ¬ G x ∧ v.ownBlock ≠ some x)
    (hrow : w'.ownsRow base E 5 v' (ts.length + 1) (flat ts sls ++ flat [t] [sl])) (hg : w.grownBy w' v.ownBlock) (hfr : FreshOr w v v') :
    VRows w' base E (fun x => G x ∨ F x) v' (ts ++ [t]) := by
  have hk : ∀ x, (G x ∨ F x) → x < w.heap.size → w'.heap[x]? = w.heap[x]? := by
    intro x hx hs
    refine hg.block x hs (fun e => ?_)
    rcases hx with hx | hx
    · exact h.own x e.symm hx
    · exact (hF x hx).2.2.2 e.symm
  refine ⟨sls ++ [sl], fun i => if i < ts.length then Fs i else F, ?_, by simp [h.len], ?_, ?_, ?_, ?_, ?_, ?_⟩
  · rw [flat_append _ _ _ _ h.len, List.length_append]; exact hrow
  · intro i hi
    rw [List.length_append] at hi
    by_cases hlt : i < ts.length
    · rw [List.getElem_append_left hlt]; exact h.wfs i hlt
    · have : i = ts.length := by simp at hi; omega
      subst this; simpa using ht
  · intro i hi
    rw [List.length_append] at hi
    by_cases hlt : i < ts.length
    · have h1 := h.kids i hlt
      rw [if_pos hlt, List.getElem_append_left hlt]
      have : (sls ++ [sl]).getD i undef = sls.getD i undef := by
        rw [List.getD_eq_getElem?_getD, List.getD_eq_getElem?_getD, List.getElem?_append_left (by rw [h.len]; exact hlt)]
      rw [this]
      exact h1.keep (fun x hx hs => hk x (.inl (h.sub i hlt x hx)) hs)
    · have : i = ts.length := by simp at hi; omega
      subst this
      have e : (sls ++ [sl]).getD ts.length undef = sl := by rw [List.getD_eq_getElem?_getD, ← h.len]; simp
      rw [if_neg hlt, e]
      simpa using ho.keep (fun x hx hs => hk x (.inr hx) hs)
  · intro i hi x hx
    by_cases hlt : i < ts.length
    · simp only [if_pos hlt] at hx; exact .inl (h.sub i hlt x hx)
    · simp only [if_neg hlt] at hx; exact .inr hx
  · intro i j hij hj x hx hx'
    rw [List.length_append] at hj
    have hi : i < ts.length := by simp at hj; omega
    simp only [if_pos hi] at hx
    by_cases hlt : j < ts.length
    · simp only [if_pos hlt] at hx'; exact h.dis i j hij hlt x hx hx'
    · simp only [if_neg hlt] at hx'; exact (hF x hx').2.2.1 (h.sub i hi x hx)
  · intro g hg' hG
    rcases hfr with e | e
    · rw [e] at hg'
      rcases hG with hG | hG
      · exact h.own g hg' hG
      · exact (hF g hG).2.2.2 hg'
    · rw [e] at hg'
      simp only [Option.some.injEq] at hg'
      subst hg'
      rcases hG with hG | hG
      · have := (h.inG _ hG).2; omega
      · have := (hF _ hG).2.1; omega
  · intro x hx
    rcases hx with hx | hx
    · exact ⟨(h.inG x hx).1, Nat.lt_of_lt_of_le (h.inG x hx).2 hg.size⟩
    · exact ⟨(hF x hx).1, Nat.lt_of_lt_of_le (hF x hx).2.1 hg.size⟩
theorem VRows.slice3 {w : World} {base : Nat} {E : TypeId} {G : Nat → Prop} {v : Value} {ts : List V} (h : VRows w base E G v ts) : ∃ a n cap, v = .slice a n cap := by
  obtain ⟨a, cap, e⟩ := h.own.slice
  exact ⟨a, _, cap, e⟩
theorem VRows.made0 {w : World} {base b : Nat} {E : TypeId} (hb : base ≤ b) (h : w.heap[b]? = some (.cells #[] E (0, 0))) : VRows w base E (fun _ => False) (.slice (some ⟨b, 0, none⟩) 0 0) [] := by
  refine ⟨[], fun _ _ => False, ⟨?_, rfl, by simp, by simp, by simp, by simp, by simp, by simp⟩⟩
  exact ⟨rfl, .inr ⟨b, 0, #[], rfl, hb, h, Nat.le_refl 0, by simp [maxLen], by simp, by simp [flat]⟩⟩
theorem src_val {w : World} {b : Nat} {t : V} {sl : Value} (hb : w.heap[b]? = some (.cells #[.int .i64 t.k, .int .i64 t.n, .int .i64 t.e, .string t.s, sl] 29 (0, 0))) (h : RepS w sl t.kids) :
    Src Tryd.prog 5 27 (.slice (some ⟨b, 0, none⟩) 1 1) 1 (flat [t] [sl]) w := by
  refine Src.ofSlice _ Tryd.underlying27 _ _ _ _ (by simp [flat]) ?_ (flat_one [t] [sl] ?_)
  · intro j u hu
    rw [addr_add _ _ rfl, Nat.zero_add]
    rw [cell_of_row _ _ _ _ _ (0, 0) hb]
    simpa [flat] using hu
  · intro s hs
    obtain rfl := List.mem_singleton.1 hs
    obtain ⟨a, cap, e⟩ := h.slice
    exact ⟨a, _, cap, e⟩
section
variable {w : World} {ops : Array Oper} {rest : List Oper} {o : Oper} {a : Act} {Q : Exit → Act → World → Prop}
theorem app_own (hgd : o.guard = none) (s x : Operand)
    (ho : o.op = .call { callee := .builtin .append, args := #[s, x], argTypes := #[27, 27] })
    (base : Nat) (G F : Nat → Prop) (v : Value) (ts : List V) (hs : a.eval s = v) (hown : VRows w base 29 G v ts) (t : V) (sl : Value) (b : Nat) (hx : a.eval x = .slice (some ⟨b, 0, none⟩) 1 1)
    (hb : w.heap[b]? = some (.cells #[.int .i64 t.k, .int .i64 t.n, .int .i64 t.e, .string t.s, sl] 29 (0, 0))) (ht : t.wf) (hO : OwnS w F sl t.kids)
    (hF : ∀ x, F x → base ≤ x ∧ x < w.heap.size ∧ ¬ G x ∧ v.ownBlock ≠ some x)
    (h63 : ts.length ≤ 1099511627000) (hbase : base ≤ w.heap.size)
    (h : ∀ v' w', VRows w' base 29 (fun x => G x ∨ F x) v' (ts ++ [t]) → w.grownBy w' v.ownBlock → FreshOr w v v' → wpList Tryd.prog ops Q rest (a.put o.dst v') w') : wpList Tryd.prog ops Q (o :: rest) a w := by
  obtain ⟨i0, hi, hz0, hz1, hz2⟩ := info_parts info_impl
  obtain ⟨sls, Fs, hp⟩ := hown
  exact wpList_app hgd s x 27 27 ho base 29 i0 _ 5 64 Tryd.underlying27 hi hz0 hz1 hz2 rfl (by decide) v ts.length (flat ts sls) hs hp.row _ hx 1 (flat [t] [sl]) (src_val hb hO.rep) (by omega) hbase
    (fun v' w' h1 h2 h3 _ => h v' w' (hp.snoc ht hO hF h1 h2 h3) h2 h3)
end
end Go.Proofs.YtfjehhdahpbbgaaDoor
namespace Go.Proofs.YtfjehhdahpbbgaaDoor
set_option linter.unusedSimpArgs false
set_option linter.unusedVariables false
set_option maxRecDepth 100000
open Go.RowKit
theorem Box.set4 {w : World} {b : Nat} {k n e : Int} {s : ByteArray} {sl v : Value} {T : TypeId} (h : Box w b k n e s sl T) : Box (w.setCell ⟨b, 4, none⟩ v) b k n e s v T := by
  unfold Box at *
  rw [heap_setCell_same w b 4 _ _ _ h]; rfl
theorem Box.free {w : World} {b i : Nat} {k n e : Int} {s : ByteArray} {sl : Value} {T : TypeId} (h : Box w b k n e s sl T) : w.frozen? ⟨b, i, none⟩ = false := frozen_of_row w b i _ _ h
theorem VRows.move {w w' : World} {base : Nat} {E : TypeId} {G : Nat → Prop} {v : Value} {ts : List V} (h : VRows w base E G v ts) (hz : w.heap.size ≤ w'.heap.size) (hk : ∀ x, (G x ∨ v.ownBlock = some x) → w'.heap[x]? = w.heap[x]?) : VRows w' base E G v ts := by
  obtain ⟨sls, Fs, h⟩ := h
  refine ⟨sls, Fs, ⟨⟨h.row.1, ?_⟩, h.len, h.wfs, fun i hi => (h.kids i hi).keep (fun x hx _ => hk x (.inl (h.sub i hi x hx))), h.sub, h.dis, h.own, fun x hx => ⟨(h.inG x hx).1, Nat.lt_of_lt_of_le (h.inG x hx).2 hz⟩⟩⟩
  rcases h.row.2 with h2 | ⟨g, cap, cur, rfl, hbg, hg, r⟩
  · exact .inl h2
  · exact .inr ⟨g, cap, cur, rfl, hbg, by rw [hk g (.inr rfl)]; exact hg, r⟩
abbrev set5 (w : World) (c : Nat) (v0 v1 v2 v3 v4 : Value) : World := ((((w.setCell ⟨c, 0, none⟩ v0).setCell ⟨c, 1, none⟩ v1).setCell ⟨c, 2, none⟩ v2).setCell ⟨c, 3, none⟩ v3).setCell ⟨c, 4, none⟩ v4
theorem heap_set5 (w : World) (c x : Nat) (v0 v1 v2 v3 v4 : Value) (h : x ≠ c) : (set5 w c v0 v1 v2 v3 v4).heap[x]? = w.heap[x]? := by
  unfold set5
  rw [heap_setCell_other _ _ _ _ h, heap_setCell_other _ _ _ _ h, heap_setCell_other _ _ _ _ h, heap_setCell_other _ _ _ _ h, heap_setCell_other _ _ _ _ h]
theorem below_set5 (w : World) (c : Nat) (v0 v1 v2 v3 v4 : Value) : Below c w (set5 w c v0 v1 v2 v3 v4) := by
  unfold set5
  exact (((((Below.refl c w).setCell (Nat.le_refl c) v0).setCell (Nat.le_refl c) v1).setCell (Nat.le_refl c) v2).setCell (Nat.le_refl c) v3).setCell (Nat.le_refl c) v4
theorem size_set5 (w : World) (c : Nat) (v0 v1 v2 v3 v4 : Value) : (set5 w c v0 v1 v2 v3 v4).heap.size = w.heap.size := by simp [set5]
theorem OwnS.set5 {w : World} {F : Nat → Prop} {v : Value} {ts : List V} (h : OwnS w F v ts) (c : Nat) (hc : ¬ F c) (v0 v1 v2 v3 v4 : Value) : OwnS (Go.Proofs.YtfjehhdahpbbgaaDoor.set5 w c v0 v1 v2 v3 v4) F v ts :=
  h.keep (fun x hx _ => heap_set5 _ _ _ _ _ _ _ _ (fun e => hc (e ▸ hx)))
theorem Touch.set5 {A A' : Nat → Prop} {w W : World} (h : Touch A A' w W) (c : Nat) (hc : w.heap.size ≤ c) (v0 v1 v2 v3 v4 : Value) : Touch A A' w (Go.Proofs.YtfjehhdahpbbgaaDoor.set5 W c v0 v1 v2 v3 v4) :=
  ⟨(below_set5 W c v0 v1 v2 v3 v4).os.trans h.os, (below_set5 W c v0 v1 v2 v3 v4).tape.trans h.tape, (below_set5 W c v0 v1 v2 v3 v4).output.trans h.output, by rw [size_set5]; exact h.size, fun x hx hn => (heap_set5 _ _ _ _ _ _ _ _ (by omega)).trans (h.block x hx hn), h.new⟩
end Go.Proofs.YtfjehhdahpbbgaaDoor
namespace Go.Proofs.YtfjehhdahpbbgaaDoor
set_option linter.unusedSimpArgs false
set_option linter.unusedVariables false
set_option maxRecDepth 100000
open Go.RowKit
def hdManyOf (r : Int) : Nat := if r = 24 then 1 else if r = 25 then 2 else if r = 26 then 4 else 8
def anyH (s : ByteArray) (i : Int) : Int × Int × Int :=
  if i < 0 ∨ s.size ≤ i then (-1, 0, -1)
  else if byteAt s i % 32 < 24 then (byteAt s i / 32, byteAt s i % 32, i + 1)
  else if 27 < byteAt s i % 32 then (-1, 0, -1)
  else if (s.size : Int) < i + 1 + hdManyOf (byteAt s i % 32) then (-1, 0, -1)
  else (byteAt s i / 32, wval (sub s.data.toList (i.toNat + 1) (hdManyOf (byteAt s i % 32))), i + 1 + hdManyOf (byteAt s i % 32))
structure Found (s : ByteArray) (i a n x : Int) : Prop where
  i0 : 0 ≤ i
  a0 : 0 ≤ a
  a7 : a ≤ 7
  n0 : 0 ≤ n
  n1 : n < 18446744073709551616
  x0 : i < x
  x1 : x ≤ s.size
  x9 : x ≤ i + 9
  same : (headL a.toNat n.toNat).length = (x - i).toNat → headL a.toNat n.toNat = sub s.data.toList i.toNat (x - i).toNat
def getH (s : ByteArray) (i : Int) : Int × Int × Int :=
  let r := anyH s i
  if r.2.2 < 0 ∨ (headL r.1.toNat r.2.1.toNat).length ≠ (r.2.2 - i).toNat then (-1, 0, -1) else r
end Go.Proofs.YtfjehhdahpbbgaaDoor
namespace Go.Proofs.YtfjehhdahpbbgaaDoor
set_option linter.unusedSimpArgs false
set_option linter.unusedVariables false
set_option maxRecDepth 100000
open Go.RowKit
abbrev MG := Option (V × Nat × Nat)
def mgStr (s : ByteArray) (k : Int) (i many l : Nat) : MG := if i + many ≤ s.size then some (.mk k 0 0 (s.extract i (i + many)) [], i + many, l) else none
def mgKids (g : Nat → Nat → MG) : Nat → Nat → Nat → Option (List V × Nat × Nat)
  | 0, i, l => some ([], i, l)
  | k + 1, i, l => (mgKids g k i l).bind fun p => (g p.2.1 p.2.2).map fun q => (p.1 ++ [q.1], q.2)
def mgNode (k n : Int) (o : Option (List V × Nat × Nat)) : MG := o.map fun p => (.mk k n 0 ⟨#[]⟩ p.1, p.2)
def mgLeaf (k n e : Int) (i l : Nat) : MG := some (.mk k n e ⟨#[]⟩ [], i, l)
def MGood (s : ByteArray) (i l : Nat) (o : MG) : Prop := ∀ v j m, o = some (v, j, m) → v.sz + 1 + i ≤ j ∧ j ≤ s.size ∧ m < l ∧ v.nodes + m = l ∧ v.wf
theorem nodess_ge : ∀ ts : List V, ts.length ≤ nodess ts
  | [] => by simp
  | t :: ts => by
    have := nodess_ge ts
    rw [nodess, V.nodes_eq, List.length_cons]; omega
structure RAcc (r : Nat) (w W : World) (b : Nat) (k n e : Int) (s : ByteArray) (us : List V) (o : Value) (G : Nat → Prop) : Prop where
  box : Box W b k n e s o 29
  rows : VRows W (b + 1) 29 G o us
  touch : Touch (fun x => x = r ∨ x = b) (fun x => x = r ∨ x = b) w W
  hwb : w.heap.size = b + 1
  hr : r < b
theorem RAcc.stay {r b : Nat} {w W W' : World} {k n e : Int} {s : ByteArray} {us : List V} {o : Value} {G : Nat → Prop} (h : RAcc r w W b k n e s us o G) (hb : Below W.heap.size W W') : RAcc r w W' b k n e s us o G :=
  ⟨h.box.stay hb, h.rows.keep hb, h.touch.trans (Touch.of_below hb), h.hwb, h.hr⟩
theorem RAcc.over {r b : Nat} {w W W' : World} {k n e : Int} {s : ByteArray} {us : List V} {o : Value} {G : Nat → Prop} (h : RAcc r w W b k n e s us o G) (ht : Touch (fun x => x = r) (fun x => x = r) W W') : RAcc r w W' b k n e s us o G := by
  have hr := h.hr
  refine ⟨(ht.block b h.box.lt (by omega)).trans h.box, h.rows.move ht.size (fun x hx => ht.block x ?_ ?_), h.touch.trans (ht.mono (fun x hx => .inl hx) (fun x hx => .inl (.inl hx))), h.hwb, h.hr⟩
  · rcases hx with hx | hx
    · exact (h.rows.inG x hx).2
    · exact (h.rows.lt x hx).2
  · rcases hx with hx | hx
    · have := (h.rows.inG x hx).1; omega
    · have := (h.rows.lt x hx).1; omega
theorem RAcc.same {r b : Nat} {w W W1 W2 : World} {k n e : Int} {s : ByteArray} {us : List V} {o : Value} {G : Nat → Prop} (h : RAcc r w W b k n e s us o G) (hW : Below W.heap.size W W1) (hg : W1.grownBy W2 o.ownBlock) (v2 : Value) :
    ∀ x, x < w.heap.size → x ≠ b → (W2.setCell ⟨b, 4, none⟩ v2).heap[x]? = W.heap[x]? := fun x hx hb => by
  have h1 := h.touch.size
  have h2 := h.hwb
  have h3 := hW.size
  rw [heap_setCell_other _ _ _ _ (show x ≠ b from hb), hg.block x (by omega) (fun e => by have := (h.rows.lt x e.symm).1; omega)]
  exact hW.block x (by omega)
theorem RAcc.put {r b : Nat} {w W W1 W2 : World} {k n e : Int} {s : ByteArray} {us us2 : List V} {o v2 : Value} {G G2 : Nat → Prop} (h : RAcc r w W b k n e s us o G) (hW : Below W.heap.size W W1) (hg : W1.grownBy W2 o.ownBlock) (hr2 : VRows W2 (b + 1) 29 G2 v2 us2) :
    RAcc r w (W2.setCell ⟨b, 4, none⟩ v2) b k n e s us2 v2 G2 := by
  have hl := h.box.lt
  have z1 := hW.size
  have z2 := hg.size
  have hz := h.touch.size
  have B2 : Box W2 b k n e s o 29 := by
    have hn : o.ownBlock ≠ some b := fun e => by have := (h.rows.lt b e).1; omega
    exact (hg.block b (by omega) (fun e => hn e.symm)).trans (h.box.stay hW)
  refine ⟨B2.set4, hr2.move (by simp) (fun x hx => heap_setCell_other _ _ _ _ (fun e => ?_)), ?_, h.hwb, h.hr⟩
  · have e' : x = b := e
    rcases hx with hx | hx
    · have := (hr2.inG x hx).1; omega
    · have := (hr2.lt x hx).1; omega
  · exact ⟨hg.os.trans (hW.os.trans h.touch.os), hg.tape.trans (hW.tape.trans h.touch.tape), hg.output.trans (hW.output.trans h.touch.output), by simp; omega, fun x hx hn => (h.same hW hg v2 x hx (fun e => hn (.inr e))).trans (h.touch.block x hx hn), h.touch.new⟩
theorem RAcc.nil {r b : Nat} {w : World} {k n e : Int} {s : ByteArray} (hB : Box w b k n e s (.slice none 0 0) 29) (hwb : w.heap.size = b + 1) (hr : r < b) : RAcc r w w b k n e s [] (.slice none 0 0) (fun _ => False) :=
  ⟨hB, VRows.nil _ _ _, Touch.refl _ _, hwb, hr⟩
end Go.Proofs.YtfjehhdahpbbgaaDoor
namespace Go.Proofs.YtfjehhdahpbbgaaDoor
set_option linter.unusedSimpArgs false
set_option linter.unusedVariables false
set_option maxRecDepth 100000
open Go.RowKit
def hdR (lo : Bool) (s : ByteArray) (i : Nat) : Option (Nat × Nat × Nat) :=
  if (if lo then anyH s i else getH s i).2.2 < 0 then none
  else some ((if lo then anyH s i else getH s i).1.toNat, (if lo then anyH s i else getH s i).2.1.toNat, (if lo then anyH s i else getH s i).2.2.toNat)
def cgChunks (s : ByteArray) (a : Nat) : Nat → Nat → Option (ByteArray × Nat)
  | 0, _ => none
  | f + 1, i => if h : i < s.size then (if s[i].toNat = 255 then some (⟨#[]⟩, i + 1) else
      match hdR true s i with
      | none => none
      | some (m, n, x) => if m = a ∧ x + n ≤ s.size ∧ (a = 3 → txt (s.extract x (x + n)) = true) then (cgChunks s a f (x + n)).map fun p => (s.extract x (x + n) ++ p.1, p.2) else none) else none
def cgUpto (s : ByteArray) (g : Nat → Nat → MG) : Nat → Nat → Nat → Option (List V × Nat × Nat)
  | 0, _, _ => none
  | f + 1, i, l => if h : i < s.size then (if s[i].toNat = 255 then some ([], i + 1, l) else
      (g i l).bind fun q => (cgUpto s g f q.2.1 q.2.2).map fun p => (q.1 :: p.1, p.2)) else none
def evenK (sp : Bool) (o : Option (List V × Nat × Nat)) : Option (List V × Nat × Nat) := o.bind fun p => if sp = true ∧ p.1.length % 2 = 1 then none else some p
def cgOpen (sp : Bool) (s : ByteArray) (g : Nat → Nat → MG) (a i l : Nat) : MG :=
  if a = 2 then (cgChunks s 2 (s.size + 1) i).map fun p => (.mk 6 0 0 p.1 [], p.2, l)
  else if a = 3 then (cgChunks s 3 (s.size + 1) i).map fun p => (.mk 5 0 0 p.1 [], p.2, l)
  else if a = 4 then mgNode 7 0 (cgUpto s g (s.size + 1) i l)
  else mgNode 8 0 (evenK sp (cgUpto s g (s.size + 1) i l))
def decOf : V × Nat × Nat → MG
  | (.mk k _ _ _ [x, y], j, m) => if k = 7 ∧ x.k = 3 ∧ y.k = 3 then mgLeaf 4 y.n x.n j m else none
  | _ => none
def cgTag (n : Nat) (q : V × Nat × Nat) : MG := if n = 4 then decOf q else some (.mk 9 (min n 4294967296 : Nat) 0 ⟨#[]⟩ [q.1], q.2)
def cgHead (sp lo : Bool) (s : ByteArray) (g : Nat → Nat → MG) (a n x l : Nat) : MG :=
  if a ≤ 1 then (if 9223372036854775807 < n then none else mgLeaf 3 (if a = 1 then -1 - (n : Int) else n) 0 x l)
  else if a = 2 then mgStr s 6 x n l
  else if a = 3 then mgStr s 5 x n l
  else if a = 4 then (if sp = true ∧ 300 < n then none else mgNode 7 0 (mgKids g n x l))
  else if a = 5 then (if sp = true ∧ 300 < n then none else mgNode 8 0 (mgKids g (2 * min n 4294967296) x l))
  else if a = 6 then (if sp = true ∧ 1000000 < n then none else (g x l).bind (cgTag n))
  else if n = 20 then mgLeaf 1 0 0 x l else if n = 21 then mgLeaf 2 0 0 x l
  else if n = 22 ∨ (n = 23 ∧ lo = true) then mgLeaf 0 0 0 x l else none
def isOpen (lo : Bool) (b : Nat) : Prop := lo = true ∧ b % 32 = 31 ∧ 2 ≤ b / 32 ∧ b / 32 ≤ 5
instance (lo : Bool) (b : Nat) : Decidable (isOpen lo b) := by unfold isOpen; exact inferInstance
def cgVal (sp lo : Bool) (s : ByteArray) (g : Nat → Nat → MG) (b i l : Nat) : MG :=
  if isOpen lo b then cgOpen sp s g (b / 32) (i + 1) l
  else match hdR lo s i with
    | none => none
    | some (a, n, x) => cgHead sp lo s g a n x l
def cg (sp lo : Bool) (s : ByteArray) : Nat → Nat → Nat → MG
  | 0, _, _ => none
  | f + 1, i, l => if h : i < s.size then (if l = 0 then none else cgVal sp lo s (cg sp lo s f) s[i].toNat i (l - 1)) else none
def VOk (t : V) : Prop := t.wf ∧ (t.k = 3 → t.kids = [])
def CGood (s : ByteArray) (i l : Nat) (o : MG) : Prop := ∀ v j m, o = some (v, j, m) → v.sz + 1 + i ≤ j ∧ j ≤ s.size ∧ m < l ∧ v.nodes + m ≤ l ∧ VOk v ∧ ∀ t ∈ v.kids, VOk t
theorem MGood.c {s : ByteArray} {i l : Nat} {o : MG} (h : MGood s i l o) (hk : ∀ v j m, o = some (v, j, m) → v.kids = []) : CGood s i l o := fun v j m e => by
  have := h v j m e
  exact ⟨this.1, this.2.1, this.2.2.1, by omega, ⟨this.2.2.2.2, fun _ => hk v j m e⟩, fun t ht => by rw [hk v j m e] at ht; cases ht⟩
end Go.Proofs.YtfjehhdahpbbgaaDoor
