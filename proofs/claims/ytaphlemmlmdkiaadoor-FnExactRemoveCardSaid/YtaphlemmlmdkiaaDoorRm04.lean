/- Lemmas for the statement of the last text of this claim: texts joined. -/
import Derived.Test.YtaphlemmlmdkiaaDoorRm01
import Derived.Test.YtaphlemmlmdkiaaDoorRm02
import Derived.Test.YtaphlemmlmdkiaaDoorRm03
import Derived.Test.YtaphlemmlmdkiaaDoorShelfQ
import Derived.WalkSpells
import Derived.Lib.Hide
namespace Go.Proofs.YtaphlemmlmdkiaaDoor
set_option linter.unusedSimpArgs false
set_option linter.unusedVariables false
set_option maxRecDepth 100000
open Go.RowKit
theorem own_nes (n e : Int) (s : ByteArray) : decide (n = 0 ∧ e = 0 ∧ s.size = 0) = ((n == 0) && (e == 0) && s.toList.isEmpty) := by
  rw [Bool.decide_and, Bool.decide_and, Bool.and_assoc]
  congr 1
  congr 1
  by_cases h : s.size = 0
  · rw [ba_empty h, ByteArray.toList_eq]; rfl
  · rw [(str_ne h).2.1, decide_eq_false h]
theorem own_es (e : Int) (s : ByteArray) : decide (e = 0 ∧ s.size = 0) = ((e == 0) && s.toList.isEmpty) := by
  have := own_nes 0 e s
  simpa using this
theorem own_s (s : ByteArray) : decide (s.size = 0) = s.toList.isEmpty := by
  have := own_nes 0 0 s
  simpa using this
theorem own_ne (n e : Int) (P : Prop) [Decidable P] : decide (n = 0 ∧ e = 0 ∧ P) = ((n == 0) && (e == 0) && decide P) := by
  rw [Bool.decide_and, Bool.decide_and, Bool.and_assoc]; rfl
theorem own_len (n : Nat) (q : Nat) : decide (n = q) = ((n : Int) == (q : Int)) := by
  by_cases h : n = q
  · subst h; simp
  · rw [decide_eq_false h]
    symm
    rw [beq_eq_false_iff_ne]
    omega
theorem l01In_any (a lo hi : Int) (w : World) : Calls Tryd.prog 84 #[.int .i64 a, .int .i64 lo, .int .i64 hi] w fun e w' => e = .returned (.bool (decide (lo ≤ a ∧ a ≤ hi))) ∧ w' = w := by
  by_cases h1 : lo ≤ a
  · by_cases h2 : a ≤ hi
    · have t1 : decide (lo ≤ a) = true := decide_eq_true h1
      have t2 : decide (a ≤ hi) = true := decide_eq_true h2
      rw [decide_eq_true ⟨h1, h2⟩]
      go_enter Tryd.func84, Tryd.ntmps84
      go_wp2_with fail
      go_ret
      exact ⟨rfl, rfl⟩
    · have t1 : decide (lo ≤ a) = true := decide_eq_true h1
      have t2 : decide (a ≤ hi) = false := decide_eq_false h2
      rw [decide_eq_false (fun h => h2 h.2)]
      go_enter Tryd.func84, Tryd.ntmps84
      go_wp2_with fail
      go_ret
      exact ⟨rfl, rfl⟩
  · have t1 : decide (lo ≤ a) = false := decide_eq_false h1
    rw [decide_eq_false (fun h => h1 h.1)]
    go_enter Tryd.func84, Tryd.ntmps84
    go_wp2_with fail
    go_ret
    exact ⟨rfl, rfl⟩

set_option maxHeartbeats 1000000 in
theorem own_a (t : V) (h : t.k = 0 ∨ t.k = 1 ∨ t.k = 2) : ownB t = ((t.n == 0) && (t.e == 0) && t.s.toList.isEmpty && ((t.kids.length : Int) == 0)) := by
  have h' := h
  unfold ownB nodeB
  rw [if_pos (by omega), if_neg (by omega), if_neg (by omega), if_neg (by omega), own_nes, own_len]; rfl
set_option maxHeartbeats 1000000 in
theorem own_b (t : V) (h : t.k = 3) : ownB t = ((t.e == 0) && t.s.toList.isEmpty && ((t.kids.length : Int) == 0)) := by
  have h' := h
  unfold ownB nodeB
  rw [if_neg (by omega), if_pos h, if_neg (by omega), if_neg (by omega), if_neg (by omega), own_es, own_len]; rfl
set_option maxHeartbeats 1000000 in
theorem own_c (t : V) (h : t.k = 4) : ownB t = ((t.n.tmod 10 != 0) && (decide (-999999999999999999 ≤ t.n ∧ t.n ≤ 999999999999999999)) && (decide (-20 ≤ t.e ∧ t.e ≤ 20)) && !(t.e == 0) && t.s.toList.isEmpty && ((t.kids.length : Int) == 0) && !(decide (0 < t.e) && (fits10 t.n t.e.toNat).isSome)) := by
  have h' := h
  unfold ownB nodeB
  rw [if_neg (by omega), if_neg (by omega), if_pos h, if_neg (by omega), if_neg (by omega), if_neg (by omega), own_s, own_len, decOk_eq]
  rw [show decide (t.e ≠ 0) = !(t.e == 0) by by_cases h0 : t.e = 0 <;> simp [h0]]
  rw [show decide (t.n.tmod 10 ≠ 0) = (t.n.tmod 10 != 0) by by_cases h0 : t.n.tmod 10 = 0 <;> simp [h0]]
  generalize (t.n.tmod 10 != 0) = a1
  generalize (decide (-999999999999999999 ≤ t.n ∧ t.n ≤ 999999999999999999)) = a2
  generalize decide (-20 ≤ t.e ∧ t.e ≤ 20) = a3
  generalize (t.e == 0) = a4
  generalize (decide (0 < t.e) && (fits10 t.n t.e.toNat).isSome) = a5
  generalize t.s.toList.isEmpty = a6
  show (a1 && a2 && a3 && !a4 && !a5 && a6 && ((t.kids.length : Int) == 0)) = _
  generalize ((t.kids.length : Int) == 0) = a7
  cases a1 <;> cases a2 <;> cases a3 <;> cases a4 <;> cases a5 <;> cases a6 <;> cases a7 <;> rfl
set_option maxHeartbeats 1000000 in
theorem own_d (t : V) (h : t.k = 5) : ownB t = ((t.n == 0) && (t.e == 0) && txt t.s && (decide ((t.s.size : Int) ≤ 2000)) && ((t.kids.length : Int) == 0)) := by
  have h' := h
  unfold ownB nodeB
  rw [if_neg (by omega), if_neg (by omega), if_neg (by omega), if_pos h, if_neg (by omega), if_neg (by omega), if_neg (by omega), own_ne, own_len]
  rw [show decide (t.s.size ≤ 2000) = decide ((t.s.size : Int) ≤ 2000) by rw [decide_eq_decide]; omega]
  generalize decide ((t.s.size : Int) ≤ 2000) = a1
  generalize txt t.s = a2
  generalize (t.n == 0) = a3
  generalize (t.e == 0) = a4
  cases a1 <;> cases a2 <;> cases a3 <;> cases a4 <;> rfl
set_option maxHeartbeats 1000000 in
theorem own_f (t : V) (h : t.k = 6) : ownB t = ((t.n == 0) && (t.e == 0) && (decide ((t.s.size : Int) ≤ 2000)) && ((t.kids.length : Int) == 0)) := by
  have h' := h
  unfold ownB nodeB
  rw [if_neg (by omega), if_neg (by omega), if_neg (by omega), if_neg (by omega), if_pos h, if_neg (by omega), if_neg (by omega), if_neg (by omega), own_ne, own_len]
  rw [show decide (t.s.size ≤ 2000) = decide ((t.s.size : Int) ≤ 2000) by rw [decide_eq_decide]; omega]
  rfl
set_option maxHeartbeats 1000000 in
theorem own_g (t : V) (h : t.k = 7) : ownB t = ((t.n == 0) && (t.e == 0) && t.s.toList.isEmpty) := by
  have h' := h
  unfold ownB nodeB
  rw [if_pos (by omega), if_pos h, own_nes, Bool.and_true]
set_option maxHeartbeats 1000000 in
theorem own_h (t : V) (h : t.k = 8) : ownB t = ((t.n == 0) && (t.e == 0) && t.s.toList.isEmpty && (pairsB t.kids)) := by
  have h' := h
  unfold ownB nodeB
  rw [if_pos (by omega), if_neg (by omega), if_neg (by omega), if_pos h, own_nes]
set_option maxHeartbeats 1000000 in
theorem own_i (t : V) (h : t.k = 9) : ownB t = ((decide (0 ≤ t.n ∧ t.n ≤ 1000000)) && (t.e == 0) && t.s.toList.isEmpty && ((t.kids.length : Int) == 1)) := by
  have h' := h
  unfold ownB nodeB
  rw [if_neg (by omega), if_neg (by omega), if_neg (by omega), if_neg (by omega), if_neg (by omega), if_pos h, if_neg (by omega), if_pos h, own_len]
  rw [show decide (0 ≤ t.n ∧ t.n ≤ 1000000 ∧ t.e = 0 ∧ t.s.size = 0) = (decide (0 ≤ t.n ∧ t.n ≤ 1000000) && (decide (t.e = 0 ∧ t.s.size = 0))) by rw [← Bool.decide_and, decide_eq_decide]; omega, own_es, ← Bool.and_assoc]
  rfl
theorem own_j (t : V) (h : ¬ (0 ≤ t.k ∧ t.k ≤ 9)) : ownB t = false := by
  unfold ownB nodeB
  rw [if_neg (by omega), if_neg (by omega), if_neg (by omega), if_neg (by omega), if_neg (by omega), if_neg (by omega)]; rfl
set_option maxHeartbeats 4000000 in
theorem l02Own_any (w0 : World) (v : Value) (t : V) (h : Rep w0 v t) (hsz : t.sz ≤ 1048576) (w : World) (hw : Below w0.heap.size w0 w) :
    Calls Tryd.prog 61 #[v] w (BoolRet (ownB t) w) := by
  obtain ⟨sl, rfl, hwf, hr⟩ := h
  have hks : t.kids.length ≤ 1048576 := by have := V.sz_eq t; have := szs_length t.kids; omega
  have hss : t.s.size ≤ 1048576 := by have := V.sz_eq t; omega
  obtain ⟨b, hb⟩ : ∃ b : Bool, b = ownB t := ⟨_, rfl⟩
  rw [← hb]
  obtain ⟨a, bb, off, cap, rfl, ha, hc, hm, sls, hel⟩ := hr.opened
  unfold V.agg
  have HB := Lib.hid hb
  have HW := Lib.hid hw
  have HR := Lib.hid hr
  have HWF := Lib.hid hwf
  clear hb ha hc hm hel hw hr hwf
  go_enter Tryd.func61, Tryd.ntmps61
  go_wp2_with fail
  go_quiet (fail)
  have LP := Lib.hid (fun (W : World) (hW : Below w.heap.size w W) => l02Pairs_any w0 _ t.kids HR.out W (HW.out.trans (hW.mono HW.out.size)) hks)
  have TO := Lib.hid (fun (W : World) => textOk_spec t.s W (by omega))
  have WH := Lib.hid (fun (W : World) => l02Whole_any t.n t.e HWF.out.2.1 HWF.out.2.2.1 W)
  have IN1 := Lib.hid (fun (W : World) => l01In_any t.n (-999999999999999999) 999999999999999999 W)
  have IN2 := Lib.hid (fun (W : World) => l01In_any t.e (-20) 20 W)
  have IN3 := Lib.hid (fun (W : World) => l01In_any t.n 0 1000000 W)
  obtain ⟨hwfk, -⟩ := HWF.out
  clear HW HR

  by_cases hk : t.k = 0 ∨ t.k = 1 ∨ t.k = 2
  case' pos =>
    have HB := Lib.hid (show b = ((t.n == 0) && (t.e == 0) && t.s.toList.isEmpty && ((t.kids.length : Int) == 0)) by rw [HB.out, own_a t hk])
    clear HWF LP TO WH IN1 IN2 IN3
    generalize hg0 : (t.n == 0) = g0 at *
    generalize hg1 : (t.e == 0) = g1 at *
    generalize hg2 : t.s.toList.isEmpty = g2 at *
    generalize hg3 : ((t.kids.length : Int) == 0) = g3 at *
    generalize t.k = xk at *
    rcases hk with rfl | rfl | rfl
    all_goals
      cases g0
      case false =>
        go_wp2_with fail
        go_ret
        exact ⟨by rw [HB.out]; simp, (by (repeat' (first | with_reducible exact Below.refl _ _ | with_reducible refine below_alloc ?_ _ ?_ | with_reducible refine Below.setCell ?_ ?_ _ | with_reducible refine Below.drew ?_ | with_reducible refine Go.below_drewN ?_ _ | with_reducible refine below_step ?_ (by assumption) ?_ | with_reducible refine below_mark ?_ (by assumption) ?_)); all_goals (first | omega | (simp; done) | (simp; omega)))⟩
      case true =>
        cases g1
        case false =>
          go_wp2_with fail
          go_ret
          exact ⟨by rw [HB.out]; simp, (by (repeat' (first | with_reducible exact Below.refl _ _ | with_reducible refine below_alloc ?_ _ ?_ | with_reducible refine Below.setCell ?_ ?_ _ | with_reducible refine Below.drew ?_ | with_reducible refine Go.below_drewN ?_ _ | with_reducible refine below_step ?_ (by assumption) ?_ | with_reducible refine below_mark ?_ (by assumption) ?_)); all_goals (first | omega | (simp; done) | (simp; omega)))⟩
        case true =>
          cases g2
          case false =>
            go_wp2_with fail
            go_ret
            exact ⟨by rw [HB.out]; simp, (by (repeat' (first | with_reducible exact Below.refl _ _ | with_reducible refine below_alloc ?_ _ ?_ | with_reducible refine Below.setCell ?_ ?_ _ | with_reducible refine Below.drew ?_ | with_reducible refine Go.below_drewN ?_ _ | with_reducible refine below_step ?_ (by assumption) ?_ | with_reducible refine below_mark ?_ (by assumption) ?_)); all_goals (first | omega | (simp; done) | (simp; omega)))⟩
          case true =>
            cases g3
            case false =>
              go_wp2_with fail
              go_ret
              exact ⟨by rw [HB.out]; simp, (by (repeat' (first | with_reducible exact Below.refl _ _ | with_reducible refine below_alloc ?_ _ ?_ | with_reducible refine Below.setCell ?_ ?_ _ | with_reducible refine Below.drew ?_ | with_reducible refine Go.below_drewN ?_ _ | with_reducible refine below_step ?_ (by assumption) ?_ | with_reducible refine below_mark ?_ (by assumption) ?_)); all_goals (first | omega | (simp; done) | (simp; omega)))⟩
            case true =>
              go_wp2_with fail
              go_ret
              exact ⟨by rw [HB.out]; rfl, (by (repeat' (first | with_reducible exact Below.refl _ _ | with_reducible refine below_alloc ?_ _ ?_ | with_reducible refine Below.setCell ?_ ?_ _ | with_reducible refine Below.drew ?_ | with_reducible refine Go.below_drewN ?_ _ | with_reducible refine below_step ?_ (by assumption) ?_ | with_reducible refine below_mark ?_ (by assumption) ?_)); all_goals (first | omega | (simp; done) | (simp; omega)))⟩
  case' neg =>
    have hka := hk; clear hk
  by_cases hk : t.k = 3
  case' pos =>
    have HB := Lib.hid (show b = ((t.e == 0) && t.s.toList.isEmpty && ((t.kids.length : Int) == 0)) by rw [HB.out, own_b t hk])
    clear HWF LP TO WH IN1 IN2 IN3
    generalize hg0 : (t.e == 0) = g0 at *
    generalize hg1 : t.s.toList.isEmpty = g1 at *
    generalize hg2 : ((t.kids.length : Int) == 0) = g2 at *
    generalize t.k = xk at *
    subst hk
    cases g0
    case false =>
      go_wp2_with fail
      go_ret
      exact ⟨by rw [HB.out]; simp, (by (repeat' (first | with_reducible exact Below.refl _ _ | with_reducible refine below_alloc ?_ _ ?_ | with_reducible refine Below.setCell ?_ ?_ _ | with_reducible refine Below.drew ?_ | with_reducible refine Go.below_drewN ?_ _ | with_reducible refine below_step ?_ (by assumption) ?_ | with_reducible refine below_mark ?_ (by assumption) ?_)); all_goals (first | omega | (simp; done) | (simp; omega)))⟩
    case true =>
      cases g1
      case false =>
        go_wp2_with fail
        go_ret
        exact ⟨by rw [HB.out]; simp, (by (repeat' (first | with_reducible exact Below.refl _ _ | with_reducible refine below_alloc ?_ _ ?_ | with_reducible refine Below.setCell ?_ ?_ _ | with_reducible refine Below.drew ?_ | with_reducible refine Go.below_drewN ?_ _ | with_reducible refine below_step ?_ (by assumption) ?_ | with_reducible refine below_mark ?_ (by assumption) ?_)); all_goals (first | omega | (simp; done) | (simp; omega)))⟩
      case true =>
        cases g2
        case false =>
          go_wp2_with fail
          go_ret
          exact ⟨by rw [HB.out]; simp, (by (repeat' (first | with_reducible exact Below.refl _ _ | with_reducible refine below_alloc ?_ _ ?_ | with_reducible refine Below.setCell ?_ ?_ _ | with_reducible refine Below.drew ?_ | with_reducible refine Go.below_drewN ?_ _ | with_reducible refine below_step ?_ (by assumption) ?_ | with_reducible refine below_mark ?_ (by assumption) ?_)); all_goals (first | omega | (simp; done) | (simp; omega)))⟩
        case true =>
          go_wp2_with fail
          go_ret
          exact ⟨by rw [HB.out]; rfl, (by (repeat' (first | with_reducible exact Below.refl _ _ | with_reducible refine below_alloc ?_ _ ?_ | with_reducible refine Below.setCell ?_ ?_ _ | with_reducible refine Below.drew ?_ | with_reducible refine Go.below_drewN ?_ _ | with_reducible refine below_step ?_ (by assumption) ?_ | with_reducible refine below_mark ?_ (by assumption) ?_)); all_goals (first | omega | (simp; done) | (simp; omega)))⟩
  case' neg =>
    have hkb := hk; clear hk
  by_cases hk : t.k = 4
  case' pos =>
    have HB := Lib.hid (show b = ((t.n.tmod 10 != 0) && (decide (-999999999999999999 ≤ t.n ∧ t.n ≤ 999999999999999999)) && (decide (-20 ≤ t.e ∧ t.e ≤ 20)) && !(t.e == 0) && t.s.toList.isEmpty && ((t.kids.length : Int) == 0) && !(decide (0 < t.e) && (fits10 t.n t.e.toNat).isSome)) by rw [HB.out, own_c t hk])
    clear HWF LP TO IN3
    generalize hg0 : (t.n.tmod 10 != 0) = g0 at *
    obtain ⟨g1, hg1⟩ : ∃ g : Bool, g = ((decide (-999999999999999999 ≤ t.n ∧ t.n ≤ 999999999999999999))) := ⟨_, rfl⟩
    rw [← hg1] at HB IN1
    clear hg1
    obtain ⟨g2, hg2⟩ : ∃ g : Bool, g = ((decide (-20 ≤ t.e ∧ t.e ≤ 20))) := ⟨_, rfl⟩
    rw [← hg2] at HB IN2
    clear hg2
    generalize hg3 : (t.e == 0) = g3 at *
    generalize hg4 : t.s.toList.isEmpty = g4 at *
    generalize hg5 : ((t.kids.length : Int) == 0) = g5 at *
    obtain ⟨g6, hg6⟩ : ∃ g : Bool, g = ((decide (0 < t.e) && (fits10 t.n t.e.toNat).isSome)) := ⟨_, rfl⟩
    rw [← hg6] at HB WH
    clear hg6
    generalize t.k = xk at *
    subst hk
    cases g0
    case false =>
      go_wp2_with fail
      go_ret
      exact ⟨by rw [HB.out]; simp, (by (repeat' (first | with_reducible exact Below.refl _ _ | with_reducible refine below_alloc ?_ _ ?_ | with_reducible refine Below.setCell ?_ ?_ _ | with_reducible refine Below.drew ?_ | with_reducible refine Go.below_drewN ?_ _ | with_reducible refine below_step ?_ (by assumption) ?_ | with_reducible refine below_mark ?_ (by assumption) ?_)); all_goals (first | omega | (simp; done) | (simp; omega)))⟩
    case true =>
      cases g1
      case false =>
        go_wp2_with fail
        refine (IN1.out _).mono ?_
        rintro x wx ⟨rfl, hwx⟩
        subst wx
        go_wp2_with fail
        go_ret
        exact ⟨by rw [HB.out]; simp, (by (repeat' (first | with_reducible exact Below.refl _ _ | with_reducible refine below_alloc ?_ _ ?_ | with_reducible refine Below.setCell ?_ ?_ _ | with_reducible refine Below.drew ?_ | with_reducible refine Go.below_drewN ?_ _ | with_reducible refine below_step ?_ (by assumption) ?_ | with_reducible refine below_mark ?_ (by assumption) ?_)); all_goals (first | omega | (simp; done) | (simp; omega)))⟩
      case true =>
        cases g2
        case false =>
          go_wp2_with fail
          refine (IN1.out _).mono ?_
          rintro x wx ⟨rfl, hwx⟩
          subst wx
          go_wp2_with fail
          refine (IN2.out _).mono ?_
          rintro x wx ⟨rfl, hwx⟩
          subst wx
          go_wp2_with fail
          go_ret
          exact ⟨by rw [HB.out]; simp, (by (repeat' (first | with_reducible exact Below.refl _ _ | with_reducible refine below_alloc ?_ _ ?_ | with_reducible refine Below.setCell ?_ ?_ _ | with_reducible refine Below.drew ?_ | with_reducible refine Go.below_drewN ?_ _ | with_reducible refine below_step ?_ (by assumption) ?_ | with_reducible refine below_mark ?_ (by assumption) ?_)); all_goals (first | omega | (simp; done) | (simp; omega)))⟩
        case true =>
          cases g3
          case true =>
            go_wp2_with fail
            refine (IN1.out _).mono ?_
            rintro x wx ⟨rfl, hwx⟩
            subst wx
            go_wp2_with fail
            refine (IN2.out _).mono ?_
            rintro x wx ⟨rfl, hwx⟩
            subst wx
            go_wp2_with fail
            go_ret
            exact ⟨by rw [HB.out]; simp, (by (repeat' (first | with_reducible exact Below.refl _ _ | with_reducible refine below_alloc ?_ _ ?_ | with_reducible refine Below.setCell ?_ ?_ _ | with_reducible refine Below.drew ?_ | with_reducible refine Go.below_drewN ?_ _ | with_reducible refine below_step ?_ (by assumption) ?_ | with_reducible refine below_mark ?_ (by assumption) ?_)); all_goals (first | omega | (simp; done) | (simp; omega)))⟩
          case false =>
            cases g4
            case false =>
              go_wp2_with fail
              refine (IN1.out _).mono ?_
              rintro x wx ⟨rfl, hwx⟩
              subst wx
              go_wp2_with fail
              refine (IN2.out _).mono ?_
              rintro x wx ⟨rfl, hwx⟩
              subst wx
              go_wp2_with fail
              go_ret
              exact ⟨by rw [HB.out]; simp, (by (repeat' (first | with_reducible exact Below.refl _ _ | with_reducible refine below_alloc ?_ _ ?_ | with_reducible refine Below.setCell ?_ ?_ _ | with_reducible refine Below.drew ?_ | with_reducible refine Go.below_drewN ?_ _ | with_reducible refine below_step ?_ (by assumption) ?_ | with_reducible refine below_mark ?_ (by assumption) ?_)); all_goals (first | omega | (simp; done) | (simp; omega)))⟩
            case true =>
              cases g5
              case false =>
                go_wp2_with fail
                refine (IN1.out _).mono ?_
                rintro x wx ⟨rfl, hwx⟩
                subst wx
                go_wp2_with fail
                refine (IN2.out _).mono ?_
                rintro x wx ⟨rfl, hwx⟩
                subst wx
                go_wp2_with fail
                go_ret
                exact ⟨by rw [HB.out]; simp, (by (repeat' (first | with_reducible exact Below.refl _ _ | with_reducible refine below_alloc ?_ _ ?_ | with_reducible refine Below.setCell ?_ ?_ _ | with_reducible refine Below.drew ?_ | with_reducible refine Go.below_drewN ?_ _ | with_reducible refine below_step ?_ (by assumption) ?_ | with_reducible refine below_mark ?_ (by assumption) ?_)); all_goals (first | omega | (simp; done) | (simp; omega)))⟩
              case true =>
                cases g6
                case true =>
                  go_wp2_with fail
                  refine (IN1.out _).mono ?_
                  rintro x wx ⟨rfl, hwx⟩
                  subst wx
                  go_wp2_with fail
                  refine (IN2.out _).mono ?_
                  rintro x wx ⟨rfl, hwx⟩
                  subst wx
                  go_wp2_with fail
                  refine (WH.out _).mono ?_
                  rintro x wx ⟨rfl, hwx⟩
                  subst wx
                  go_wp2_with fail
                  go_ret
                  exact ⟨by rw [HB.out]; simp, (by (repeat' (first | with_reducible exact Below.refl _ _ | with_reducible refine below_alloc ?_ _ ?_ | with_reducible refine Below.setCell ?_ ?_ _ | with_reducible refine Below.drew ?_ | with_reducible refine Go.below_drewN ?_ _ | with_reducible refine below_step ?_ (by assumption) ?_ | with_reducible refine below_mark ?_ (by assumption) ?_)); all_goals (first | omega | (simp; done) | (simp; omega)))⟩
                case false =>
                  go_wp2_with fail
                  refine (IN1.out _).mono ?_
                  rintro x wx ⟨rfl, hwx⟩
                  subst wx
                  go_wp2_with fail
                  refine (IN2.out _).mono ?_
                  rintro x wx ⟨rfl, hwx⟩
                  subst wx
                  go_wp2_with fail
                  refine (WH.out _).mono ?_
                  rintro x wx ⟨rfl, hwx⟩
                  subst wx
                  go_wp2_with fail
                  go_ret
                  exact ⟨by rw [HB.out]; rfl, (by (repeat' (first | with_reducible exact Below.refl _ _ | with_reducible refine below_alloc ?_ _ ?_ | with_reducible refine Below.setCell ?_ ?_ _ | with_reducible refine Below.drew ?_ | with_reducible refine Go.below_drewN ?_ _ | with_reducible refine below_step ?_ (by assumption) ?_ | with_reducible refine below_mark ?_ (by assumption) ?_)); all_goals (first | omega | (simp; done) | (simp; omega)))⟩
  case' neg =>
    have hkc := hk; clear hk
  by_cases hk : t.k = 5
  case' pos =>
    have HB := Lib.hid (show b = ((t.n == 0) && (t.e == 0) && txt t.s && (decide ((t.s.size : Int) ≤ 2000)) && ((t.kids.length : Int) == 0)) by rw [HB.out, own_d t hk])
    clear HWF LP WH IN1 IN2 IN3
    generalize hg0 : (t.n == 0) = g0 at *
    generalize hg1 : (t.e == 0) = g1 at *
    obtain ⟨g2, hg2⟩ : ∃ g : Bool, g = (txt t.s) := ⟨_, rfl⟩
    rw [← hg2] at HB TO
    clear hg2
    generalize hg3 : (decide ((t.s.size : Int) ≤ 2000)) = g3 at *
    generalize hg4 : ((t.kids.length : Int) == 0) = g4 at *
    generalize t.k = xk at *
    subst hk
    cases g0
    case false =>
      go_wp2_with fail
      go_ret
      exact ⟨by rw [HB.out]; simp, (by (repeat' (first | with_reducible exact Below.refl _ _ | with_reducible refine below_alloc ?_ _ ?_ | with_reducible refine Below.setCell ?_ ?_ _ | with_reducible refine Below.drew ?_ | with_reducible refine Go.below_drewN ?_ _ | with_reducible refine below_step ?_ (by assumption) ?_ | with_reducible refine below_mark ?_ (by assumption) ?_)); all_goals (first | omega | (simp; done) | (simp; omega)))⟩
    case true =>
      cases g1
      case false =>
        go_wp2_with fail
        go_ret
        exact ⟨by rw [HB.out]; simp, (by (repeat' (first | with_reducible exact Below.refl _ _ | with_reducible refine below_alloc ?_ _ ?_ | with_reducible refine Below.setCell ?_ ?_ _ | with_reducible refine Below.drew ?_ | with_reducible refine Go.below_drewN ?_ _ | with_reducible refine below_step ?_ (by assumption) ?_ | with_reducible refine below_mark ?_ (by assumption) ?_)); all_goals (first | omega | (simp; done) | (simp; omega)))⟩
      case true =>
        cases g2
        case false =>
          go_wp2_with fail
          refine (TO.out _).mono ?_
          rintro x wx ⟨rfl, hbx⟩
          obtain ⟨c0, c1, c2, c3, c4⟩ := (show Box wx w.heap.size 5 t.n t.e t.s _ 30 from (hbx.block w.heap.size (by simp; done)).trans (Box.new w 5 t.n t.e t.s _ 30)).cells
          go_wp2_with fail
          go_ret
          exact ⟨by rw [HB.out]; simp, (by (repeat' (first | with_reducible exact Below.refl _ _ | with_reducible refine below_alloc ?_ _ ?_ | with_reducible refine Below.setCell ?_ ?_ _ | with_reducible refine Below.drew ?_ | with_reducible refine Go.below_drewN ?_ _ | with_reducible refine below_step ?_ (by assumption) ?_ | with_reducible refine below_mark ?_ (by assumption) ?_)); all_goals (first | omega | (simp; done) | (simp; omega)))⟩
        case true =>
          cases g3
          case false =>
            go_wp2_with fail
            refine (TO.out _).mono ?_
            rintro x wx ⟨rfl, hbx⟩
            obtain ⟨c0, c1, c2, c3, c4⟩ := (show Box wx w.heap.size 5 t.n t.e t.s _ 30 from (hbx.block w.heap.size (by simp; done)).trans (Box.new w 5 t.n t.e t.s _ 30)).cells
            go_wp2_with fail
            go_ret
            exact ⟨by rw [HB.out]; simp, (by (repeat' (first | with_reducible exact Below.refl _ _ | with_reducible refine below_alloc ?_ _ ?_ | with_reducible refine Below.setCell ?_ ?_ _ | with_reducible refine Below.drew ?_ | with_reducible refine Go.below_drewN ?_ _ | with_reducible refine below_step ?_ (by assumption) ?_ | with_reducible refine below_mark ?_ (by assumption) ?_)); all_goals (first | omega | (simp; done) | (simp; omega)))⟩
          case true =>
            cases g4
            case false =>
              go_wp2_with fail
              refine (TO.out _).mono ?_
              rintro x wx ⟨rfl, hbx⟩
              obtain ⟨c0, c1, c2, c3, c4⟩ := (show Box wx w.heap.size 5 t.n t.e t.s _ 30 from (hbx.block w.heap.size (by simp; done)).trans (Box.new w 5 t.n t.e t.s _ 30)).cells
              go_wp2_with fail
              go_ret
              exact ⟨by rw [HB.out]; simp, (by (repeat' (first | with_reducible exact Below.refl _ _ | with_reducible refine below_alloc ?_ _ ?_ | with_reducible refine Below.setCell ?_ ?_ _ | with_reducible refine Below.drew ?_ | with_reducible refine Go.below_drewN ?_ _ | with_reducible refine below_step ?_ (by assumption) ?_ | with_reducible refine below_mark ?_ (by assumption) ?_)); all_goals (first | omega | (simp; done) | (simp; omega)))⟩
            case true =>
              go_wp2_with fail
              refine (TO.out _).mono ?_
              rintro x wx ⟨rfl, hbx⟩
              obtain ⟨c0, c1, c2, c3, c4⟩ := (show Box wx w.heap.size 5 t.n t.e t.s _ 30 from (hbx.block w.heap.size (by simp; done)).trans (Box.new w 5 t.n t.e t.s _ 30)).cells
              go_wp2_with fail
              go_ret
              exact ⟨by rw [HB.out]; rfl, (by (repeat' (first | with_reducible exact Below.refl _ _ | with_reducible refine below_alloc ?_ _ ?_ | with_reducible refine Below.setCell ?_ ?_ _ | with_reducible refine Below.drew ?_ | with_reducible refine Go.below_drewN ?_ _ | with_reducible refine below_step ?_ (by assumption) ?_ | with_reducible refine below_mark ?_ (by assumption) ?_)); all_goals (first | omega | (simp; done) | (simp; omega)))⟩
  case' neg =>
    have hkd := hk; clear hk
  by_cases hk : t.k = 6
  case' pos =>
    have HB := Lib.hid (show b = ((t.n == 0) && (t.e == 0) && (decide ((t.s.size : Int) ≤ 2000)) && ((t.kids.length : Int) == 0)) by rw [HB.out, own_f t hk])
    clear HWF LP TO WH IN1 IN2 IN3
    generalize hg0 : (t.n == 0) = g0 at *
    generalize hg1 : (t.e == 0) = g1 at *
    generalize hg2 : (decide ((t.s.size : Int) ≤ 2000)) = g2 at *
    generalize hg3 : ((t.kids.length : Int) == 0) = g3 at *
    generalize t.k = xk at *
    subst hk
    cases g0
    case false =>
      go_wp2_with fail
      go_ret
      exact ⟨by rw [HB.out]; simp, (by (repeat' (first | with_reducible exact Below.refl _ _ | with_reducible refine below_alloc ?_ _ ?_ | with_reducible refine Below.setCell ?_ ?_ _ | with_reducible refine Below.drew ?_ | with_reducible refine Go.below_drewN ?_ _ | with_reducible refine below_step ?_ (by assumption) ?_ | with_reducible refine below_mark ?_ (by assumption) ?_)); all_goals (first | omega | (simp; done) | (simp; omega)))⟩
    case true =>
      cases g1
      case false =>
        go_wp2_with fail
        go_ret
        exact ⟨by rw [HB.out]; simp, (by (repeat' (first | with_reducible exact Below.refl _ _ | with_reducible refine below_alloc ?_ _ ?_ | with_reducible refine Below.setCell ?_ ?_ _ | with_reducible refine Below.drew ?_ | with_reducible refine Go.below_drewN ?_ _ | with_reducible refine below_step ?_ (by assumption) ?_ | with_reducible refine below_mark ?_ (by assumption) ?_)); all_goals (first | omega | (simp; done) | (simp; omega)))⟩
      case true =>
        cases g2
        case false =>
          go_wp2_with fail
          go_ret
          exact ⟨by rw [HB.out]; simp, (by (repeat' (first | with_reducible exact Below.refl _ _ | with_reducible refine below_alloc ?_ _ ?_ | with_reducible refine Below.setCell ?_ ?_ _ | with_reducible refine Below.drew ?_ | with_reducible refine Go.below_drewN ?_ _ | with_reducible refine below_step ?_ (by assumption) ?_ | with_reducible refine below_mark ?_ (by assumption) ?_)); all_goals (first | omega | (simp; done) | (simp; omega)))⟩
        case true =>
          cases g3
          case false =>
            go_wp2_with fail
            go_ret
            exact ⟨by rw [HB.out]; simp, (by (repeat' (first | with_reducible exact Below.refl _ _ | with_reducible refine below_alloc ?_ _ ?_ | with_reducible refine Below.setCell ?_ ?_ _ | with_reducible refine Below.drew ?_ | with_reducible refine Go.below_drewN ?_ _ | with_reducible refine below_step ?_ (by assumption) ?_ | with_reducible refine below_mark ?_ (by assumption) ?_)); all_goals (first | omega | (simp; done) | (simp; omega)))⟩
          case true =>
            go_wp2_with fail
            go_ret
            exact ⟨by rw [HB.out]; rfl, (by (repeat' (first | with_reducible exact Below.refl _ _ | with_reducible refine below_alloc ?_ _ ?_ | with_reducible refine Below.setCell ?_ ?_ _ | with_reducible refine Below.drew ?_ | with_reducible refine Go.below_drewN ?_ _ | with_reducible refine below_step ?_ (by assumption) ?_ | with_reducible refine below_mark ?_ (by assumption) ?_)); all_goals (first | omega | (simp; done) | (simp; omega)))⟩
  case' neg =>
    have hkf := hk; clear hk
  by_cases hk : t.k = 7
  case' pos =>
    have HB := Lib.hid (show b = ((t.n == 0) && (t.e == 0) && t.s.toList.isEmpty) by rw [HB.out, own_g t hk])
    clear HWF LP TO WH IN1 IN2 IN3
    generalize hg0 : (t.n == 0) = g0 at *
    generalize hg1 : (t.e == 0) = g1 at *
    generalize hg2 : t.s.toList.isEmpty = g2 at *
    generalize t.k = xk at *
    subst hk
    cases g0
    case false =>
      go_wp2_with fail
      go_ret
      exact ⟨by rw [HB.out]; simp, (by (repeat' (first | with_reducible exact Below.refl _ _ | with_reducible refine below_alloc ?_ _ ?_ | with_reducible refine Below.setCell ?_ ?_ _ | with_reducible refine Below.drew ?_ | with_reducible refine Go.below_drewN ?_ _ | with_reducible refine below_step ?_ (by assumption) ?_ | with_reducible refine below_mark ?_ (by assumption) ?_)); all_goals (first | omega | (simp; done) | (simp; omega)))⟩
    case true =>
      cases g1
      case false =>
        go_wp2_with fail
        go_ret
        exact ⟨by rw [HB.out]; simp, (by (repeat' (first | with_reducible exact Below.refl _ _ | with_reducible refine below_alloc ?_ _ ?_ | with_reducible refine Below.setCell ?_ ?_ _ | with_reducible refine Below.drew ?_ | with_reducible refine Go.below_drewN ?_ _ | with_reducible refine below_step ?_ (by assumption) ?_ | with_reducible refine below_mark ?_ (by assumption) ?_)); all_goals (first | omega | (simp; done) | (simp; omega)))⟩
      case true =>
        cases g2
        case false =>
          go_wp2_with fail
          go_ret
          exact ⟨by rw [HB.out]; simp, (by (repeat' (first | with_reducible exact Below.refl _ _ | with_reducible refine below_alloc ?_ _ ?_ | with_reducible refine Below.setCell ?_ ?_ _ | with_reducible refine Below.drew ?_ | with_reducible refine Go.below_drewN ?_ _ | with_reducible refine below_step ?_ (by assumption) ?_ | with_reducible refine below_mark ?_ (by assumption) ?_)); all_goals (first | omega | (simp; done) | (simp; omega)))⟩
        case true =>
          go_wp2_with fail
          go_ret
          exact ⟨by rw [HB.out]; rfl, (by (repeat' (first | with_reducible exact Below.refl _ _ | with_reducible refine below_alloc ?_ _ ?_ | with_reducible refine Below.setCell ?_ ?_ _ | with_reducible refine Below.drew ?_ | with_reducible refine Go.below_drewN ?_ _ | with_reducible refine below_step ?_ (by assumption) ?_ | with_reducible refine below_mark ?_ (by assumption) ?_)); all_goals (first | omega | (simp; done) | (simp; omega)))⟩
  case' neg =>
    have hkg := hk; clear hk
  by_cases hk : t.k = 8
  case' pos =>
    have HB := Lib.hid (show b = ((t.n == 0) && (t.e == 0) && t.s.toList.isEmpty && (pairsB t.kids)) by rw [HB.out, own_h t hk])
    clear HWF TO WH IN1 IN2 IN3
    generalize hg0 : (t.n == 0) = g0 at *
    generalize hg1 : (t.e == 0) = g1 at *
    generalize hg2 : t.s.toList.isEmpty = g2 at *
    obtain ⟨g3, hg3⟩ : ∃ g : Bool, g = ((pairsB t.kids)) := ⟨_, rfl⟩
    rw [← hg3] at HB LP
    clear hg3
    generalize t.k = xk at *
    subst hk
    cases g0
    case false =>
      go_wp2_with fail
      go_ret
      exact ⟨by rw [HB.out]; simp, (by (repeat' (first | with_reducible exact Below.refl _ _ | with_reducible refine below_alloc ?_ _ ?_ | with_reducible refine Below.setCell ?_ ?_ _ | with_reducible refine Below.drew ?_ | with_reducible refine Go.below_drewN ?_ _ | with_reducible refine below_step ?_ (by assumption) ?_ | with_reducible refine below_mark ?_ (by assumption) ?_)); all_goals (first | omega | (simp; done) | (simp; omega)))⟩
    case true =>
      cases g1
      case false =>
        go_wp2_with fail
        go_ret
        exact ⟨by rw [HB.out]; simp, (by (repeat' (first | with_reducible exact Below.refl _ _ | with_reducible refine below_alloc ?_ _ ?_ | with_reducible refine Below.setCell ?_ ?_ _ | with_reducible refine Below.drew ?_ | with_reducible refine Go.below_drewN ?_ _ | with_reducible refine below_step ?_ (by assumption) ?_ | with_reducible refine below_mark ?_ (by assumption) ?_)); all_goals (first | omega | (simp; done) | (simp; omega)))⟩
      case true =>
        cases g2
        case false =>
          go_wp2_with fail
          go_ret
          exact ⟨by rw [HB.out]; simp, (by (repeat' (first | with_reducible exact Below.refl _ _ | with_reducible refine below_alloc ?_ _ ?_ | with_reducible refine Below.setCell ?_ ?_ _ | with_reducible refine Below.drew ?_ | with_reducible refine Go.below_drewN ?_ _ | with_reducible refine below_step ?_ (by assumption) ?_ | with_reducible refine below_mark ?_ (by assumption) ?_)); all_goals (first | omega | (simp; done) | (simp; omega)))⟩
        case true =>
          cases g3
          case false =>
            go_wp2_with fail
            refine (LP.out _ ((by (repeat' (first | with_reducible exact Below.refl _ _ | with_reducible refine below_alloc ?_ _ ?_ | with_reducible refine Below.setCell ?_ ?_ _ | with_reducible refine Below.drew ?_ | with_reducible refine Go.below_drewN ?_ _ | with_reducible refine below_step ?_ (by assumption) ?_ | with_reducible refine below_mark ?_ (by assumption) ?_)); all_goals (first | omega | (simp; done) | (simp; omega))))).mono ?_
            rintro x wx ⟨rfl, hbx⟩
            go_wp2_with fail
            go_ret
            exact ⟨by rw [HB.out]; simp, (by (repeat' (first | with_reducible exact Below.refl _ _ | with_reducible refine below_alloc ?_ _ ?_ | with_reducible refine Below.setCell ?_ ?_ _ | with_reducible refine Below.drew ?_ | with_reducible refine Go.below_drewN ?_ _ | with_reducible refine below_step ?_ (by assumption) ?_ | with_reducible refine below_mark ?_ (by assumption) ?_)); all_goals (first | omega | (simp; done) | (simp; omega)))⟩
          case true =>
            go_wp2_with fail
            refine (LP.out _ ((by (repeat' (first | with_reducible exact Below.refl _ _ | with_reducible refine below_alloc ?_ _ ?_ | with_reducible refine Below.setCell ?_ ?_ _ | with_reducible refine Below.drew ?_ | with_reducible refine Go.below_drewN ?_ _ | with_reducible refine below_step ?_ (by assumption) ?_ | with_reducible refine below_mark ?_ (by assumption) ?_)); all_goals (first | omega | (simp; done) | (simp; omega))))).mono ?_
            rintro x wx ⟨rfl, hbx⟩
            go_wp2_with fail
            go_ret
            exact ⟨by rw [HB.out]; rfl, (by (repeat' (first | with_reducible exact Below.refl _ _ | with_reducible refine below_alloc ?_ _ ?_ | with_reducible refine Below.setCell ?_ ?_ _ | with_reducible refine Below.drew ?_ | with_reducible refine Go.below_drewN ?_ _ | with_reducible refine below_step ?_ (by assumption) ?_ | with_reducible refine below_mark ?_ (by assumption) ?_)); all_goals (first | omega | (simp; done) | (simp; omega)))⟩
  case' neg =>
    have hkh := hk; clear hk
  by_cases hk : t.k = 9
  case' pos =>
    have HB := Lib.hid (show b = ((decide (0 ≤ t.n ∧ t.n ≤ 1000000)) && (t.e == 0) && t.s.toList.isEmpty && ((t.kids.length : Int) == 1)) by rw [HB.out, own_i t hk])
    clear HWF LP TO WH IN1 IN2
    obtain ⟨g0, hg0⟩ : ∃ g : Bool, g = ((decide (0 ≤ t.n ∧ t.n ≤ 1000000))) := ⟨_, rfl⟩
    rw [← hg0] at HB IN3
    clear hg0
    generalize hg1 : (t.e == 0) = g1 at *
    generalize hg2 : t.s.toList.isEmpty = g2 at *
    generalize hg3 : ((t.kids.length : Int) == 1) = g3 at *
    generalize t.k = xk at *
    subst hk
    cases g0
    case false =>
      go_wp2_with fail
      refine (IN3.out _).mono ?_
      rintro x wx ⟨rfl, hwx⟩
      subst wx
      go_wp2_with fail
      go_ret
      exact ⟨by rw [HB.out]; simp, (by (repeat' (first | with_reducible exact Below.refl _ _ | with_reducible refine below_alloc ?_ _ ?_ | with_reducible refine Below.setCell ?_ ?_ _ | with_reducible refine Below.drew ?_ | with_reducible refine Go.below_drewN ?_ _ | with_reducible refine below_step ?_ (by assumption) ?_ | with_reducible refine below_mark ?_ (by assumption) ?_)); all_goals (first | omega | (simp; done) | (simp; omega)))⟩
    case true =>
      cases g1
      case false =>
        go_wp2_with fail
        refine (IN3.out _).mono ?_
        rintro x wx ⟨rfl, hwx⟩
        subst wx
        go_wp2_with fail
        go_ret
        exact ⟨by rw [HB.out]; simp, (by (repeat' (first | with_reducible exact Below.refl _ _ | with_reducible refine below_alloc ?_ _ ?_ | with_reducible refine Below.setCell ?_ ?_ _ | with_reducible refine Below.drew ?_ | with_reducible refine Go.below_drewN ?_ _ | with_reducible refine below_step ?_ (by assumption) ?_ | with_reducible refine below_mark ?_ (by assumption) ?_)); all_goals (first | omega | (simp; done) | (simp; omega)))⟩
      case true =>
        cases g2
        case false =>
          go_wp2_with fail
          refine (IN3.out _).mono ?_
          rintro x wx ⟨rfl, hwx⟩
          subst wx
          go_wp2_with fail
          go_ret
          exact ⟨by rw [HB.out]; simp, (by (repeat' (first | with_reducible exact Below.refl _ _ | with_reducible refine below_alloc ?_ _ ?_ | with_reducible refine Below.setCell ?_ ?_ _ | with_reducible refine Below.drew ?_ | with_reducible refine Go.below_drewN ?_ _ | with_reducible refine below_step ?_ (by assumption) ?_ | with_reducible refine below_mark ?_ (by assumption) ?_)); all_goals (first | omega | (simp; done) | (simp; omega)))⟩
        case true =>
          cases g3
          case false =>
            go_wp2_with fail
            refine (IN3.out _).mono ?_
            rintro x wx ⟨rfl, hwx⟩
            subst wx
            go_wp2_with fail
            go_ret
            exact ⟨by rw [HB.out]; simp, (by (repeat' (first | with_reducible exact Below.refl _ _ | with_reducible refine below_alloc ?_ _ ?_ | with_reducible refine Below.setCell ?_ ?_ _ | with_reducible refine Below.drew ?_ | with_reducible refine Go.below_drewN ?_ _ | with_reducible refine below_step ?_ (by assumption) ?_ | with_reducible refine below_mark ?_ (by assumption) ?_)); all_goals (first | omega | (simp; done) | (simp; omega)))⟩
          case true =>
            go_wp2_with fail
            refine (IN3.out _).mono ?_
            rintro x wx ⟨rfl, hwx⟩
            subst wx
            go_wp2_with fail
            go_ret
            exact ⟨by rw [HB.out]; rfl, (by (repeat' (first | with_reducible exact Below.refl _ _ | with_reducible refine below_alloc ?_ _ ?_ | with_reducible refine Below.setCell ?_ ?_ _ | with_reducible refine Below.drew ?_ | with_reducible refine Go.below_drewN ?_ _ | with_reducible refine below_step ?_ (by assumption) ?_ | with_reducible refine below_mark ?_ (by assumption) ?_)); all_goals (first | omega | (simp; done) | (simp; omega)))⟩
  case' neg =>
    have hki := hk; clear hk
  have HB := Lib.hid (show b = false by rw [HB.out, own_j t (by omega)])
  clear HWF LP TO WH IN1 IN2 IN3
  generalize t.k = xk at *
  have t0 : (xk == 0) = false := by rw [beq_eq_false_iff_ne]; omega
  have t1 : (xk == 1) = false := by rw [beq_eq_false_iff_ne]; omega
  have t2 : (xk == 2) = false := by rw [beq_eq_false_iff_ne]; omega
  have t3 : (xk == 3) = false := by rw [beq_eq_false_iff_ne]; omega
  have t4 : (xk == 4) = false := by rw [beq_eq_false_iff_ne]; omega
  have t5 : (xk == 5) = false := by rw [beq_eq_false_iff_ne]; omega
  have t6 : (xk == 6) = false := by rw [beq_eq_false_iff_ne]; omega
  have t7 : (xk == 7) = false := by rw [beq_eq_false_iff_ne]; omega
  have t8 : (xk == 8) = false := by rw [beq_eq_false_iff_ne]; omega
  have t9 : (xk == 9) = false := by rw [beq_eq_false_iff_ne]; omega
  clear hka hkb hkc hkd hkf hkg hkh hki
  go_wp2_with fail
  go_ret
  exact ⟨by rw [HB.out]; rfl, (by (repeat' (first | with_reducible exact Below.refl _ _ | with_reducible refine below_alloc ?_ _ ?_ | with_reducible refine Below.setCell ?_ ?_ _ | with_reducible refine Below.drew ?_ | with_reducible refine Go.below_drewN ?_ _ | with_reducible refine below_step ?_ (by assumption) ?_ | with_reducible refine below_mark ?_ (by assumption) ?_)); all_goals (first | omega | (simp; done) | (simp; omega)))⟩
theorem rightsB_take (ts : List V) (d : Int) (j : Nat) (hj : j < ts.length) : rightsB (ts.take (j + 1)) d = (rightsB (ts.take j) d && rightB ts[j] d) := by
  rw [rightsB_all, rightsB_all, List.take_succ_eq_append_getElem hj, List.all_append]
  simp
theorem rightsB_stuck (ts : List V) (d : Int) (j : Nat) (hj : j < ts.length) (h : rightB ts[j] d = false) : rightsB ts d = false := by
  rw [rightsB_all, Bool.eq_false_iff]
  intro hc
  rw [List.all_eq_true] at hc
  rw [hc _ (List.getElem_mem hj)] at h
  exact absurd h (by simp)
set_option maxHeartbeats 1000000 in
theorem l02Right_all (w0 : World) : ∀ (N : Nat) (v : Value) (t : V), t.sz < N → Rep w0 v t → t.sz ≤ 1048576 → ∀ (d : Int), -9223372036854775807 ≤ d → d ≤ 9223372036854775807 → ∀ (w : World), Below w0.heap.size w0 w →
    Calls Tryd.prog 39 #[v, .int .i64 d] w (BoolRet (rightB t d) w) := by
  intro N
  induction N with
  | zero => intro v t h; omega
  | succ N ih =>
    intro v t hN h hsz d hd0 hd1 w hw
    by_cases hd : d < 0
    · have t1 : decide (d < 0) = true := decide_eq_true hd
      rw [show rightB t d = false by rw [rightB_eq, decide_eq_false (show ¬ (0 ≤ d) by omega)]; rfl]
      obtain ⟨sl, rfl, hwf, hr⟩ := h
      unfold V.agg
      clear ih hr
      go_enter Tryd.func39, Tryd.ntmps39
      go_wp2_with fail
      go_ret
      exact ⟨rfl, (by (repeat' (first | with_reducible exact Below.refl _ _ | with_reducible refine below_alloc ?_ _ ?_ | with_reducible refine Below.setCell ?_ ?_ _ | with_reducible refine Below.drew ?_ | with_reducible refine Go.below_drewN ?_ _ | with_reducible refine below_step ?_ (by assumption) ?_ | with_reducible refine below_mark ?_ (by assumption) ?_)); all_goals (first | omega | (simp; done) | (simp; omega)))⟩
    have t1 : decide (d < 0) = false := decide_eq_false hd
    have OW := Lib.hid (fun (W : World) (hW : Below w.heap.size w W) => l02Own_any w0 v t h hsz W (hw.trans (hW.mono hw.size)))
    obtain ⟨sl, rfl, hwf, hr⟩ := h
    have hks : t.kids.length ≤ 1048576 := by have := V.sz_eq t; have := szs_length t.kids; omega
    obtain ⟨b, hb⟩ : ∃ b : Bool, b = rightB t d := ⟨_, rfl⟩
    rw [← hb]
    have HB := Lib.hid (show b = (ownB t && rightsB t.kids (d - 1)) by rw [hb, rightB_eq, decide_eq_true (show 0 ≤ d by omega)]; rfl)
    have HW := Lib.hid hw
    obtain ⟨a, bb, off, cap, rfl, ha, hc, hm, sls, hel⟩ := hr.opened
    have HA := Lib.hid ha
    have IH := Lib.hid (fun (j : Nat) (hj : j < t.kids.length) (W : World) (hW : Below w.heap.size w W) => ih (t.kids[j].agg (sls j)) t.kids[j] (by have := V.sz_eq t; have := szs_mem (List.getElem_mem hj); omega) ⟨sls j, rfl, (hel j hj).2.1, (hel j hj).2.2⟩ (by have := V.sz_eq t; have := szs_mem (List.getElem_mem hj); omega) (d - 1) (by omega) (by omega) W (hw.trans (hW.mono hw.size)))
    have HE := Lib.hid hel
    clear ih hr hel ha hb hw hc hm
    have BX := Lib.hid (Box.new w t.k t.n t.e t.s (.slice a t.kids.length cap) 30)
    unfold V.agg at OW ⊢
    cases ho : ownB t
    case false =>
      have HB := Lib.hid (show b = false by rw [HB.out, ho]; rfl)
      rw [ho] at OW
      clear IH HE
      go_enter Tryd.func39, Tryd.ntmps39
      go_wp2_with fail
      refine (OW.out _ ((by (repeat' (first | with_reducible exact Below.refl _ _ | with_reducible refine below_alloc ?_ _ ?_ | with_reducible refine Below.setCell ?_ ?_ _ | with_reducible refine Below.drew ?_ | with_reducible refine Go.below_drewN ?_ _ | with_reducible refine below_step ?_ (by assumption) ?_ | with_reducible refine below_mark ?_ (by assumption) ?_)); all_goals (first | omega | (simp; done) | (simp; omega))))).mono ?_
      rintro x w1 ⟨rfl, hb1⟩
      go_wp2_with fail
      go_ret
      exact ⟨by rw [HB.out]; rfl, (by (repeat' (first | with_reducible exact Below.refl _ _ | with_reducible refine below_alloc ?_ _ ?_ | with_reducible refine Below.setCell ?_ ?_ _ | with_reducible refine Below.drew ?_ | with_reducible refine Go.below_drewN ?_ _ | with_reducible refine below_step ?_ (by assumption) ?_ | with_reducible refine below_mark ?_ (by assumption) ?_)); all_goals (first | omega | (simp; done) | (simp; omega)))⟩
    rw [ho, Bool.true_and] at HB
    rw [ho] at OW
    clear ho
    go_enter Tryd.func39, Tryd.ntmps39
    go_wp2_with fail
    refine (OW.out _ ((by (repeat' (first | with_reducible exact Below.refl _ _ | with_reducible refine below_alloc ?_ _ ?_ | with_reducible refine Below.setCell ?_ ?_ _ | with_reducible refine Below.drew ?_ | with_reducible refine Go.below_drewN ?_ _ | with_reducible refine below_step ?_ (by assumption) ?_ | with_reducible refine below_mark ?_ (by assumption) ?_)); all_goals (first | omega | (simp; done) | (simp; omega))))).mono ?_
    rintro x w1 ⟨rfl, hb1⟩
    have hz1 := hb1.size
    simp at hz1
    have BX := Lib.hid (BX.out.stay hb1)
    obtain ⟨c0, c1, c2, c3, c4⟩ := BX.out.cells
    clear OW c0 c1 c2 c3
    go_wp2_with fail
    go_loopw [5] (fun i wr => ∃ j : Nat, j ≤ t.kids.length ∧ i = .int .i64 j ∧ Hid (rightsB (t.kids.take j) (d - 1) = true) ∧ Below w1.heap.size w1 wr) (fun i _ => t.kids.length + 1 - (intOf i).toNat)
    case atStart => exact ⟨0, by omega, rfl, Lib.hid rfl, Below.refl _ _⟩
    case round =>
      obtain ⟨j, hj, rfl, HN, hbl⟩ := hrel
      obtain ⟨-, -, -, -, c4⟩ := (BX.out.stay hbl).cells
      by_cases hlt : j < t.kids.length
      · have hne : t.kids ≠ [] := by intro e; rw [e] at hlt; simp at hlt
        obtain ⟨rfl, hbw⟩ := HA.out hne
        have HWR := Lib.hid (show Below w0.heap.size w0 wr from HW.out.trans (Below.mono ((by (repeat' (first | with_reducible exact Below.refl _ _ | with_reducible refine below_alloc ?_ _ ?_ | with_reducible refine Below.setCell ?_ ?_ _ | with_reducible refine Below.drew ?_ | with_reducible refine Go.below_drewN ?_ _ | with_reducible refine below_step ?_ (by assumption) ?_ | with_reducible refine below_mark ?_ (by assumption) ?_)); all_goals (first | omega | (simp; done) | (simp; omega)))) HW.out.size))
        obtain ⟨d0, d1, d2, d3, d4⟩ := (HE.out j hlt).1.keep (HWR.out.block bb hbw)
        have IHJ := Lib.hid (IH.out j hlt)
        obtain ⟨ak, kcap, hks⟩ := (HE.out j hlt).2.2.slice
        rw [hks] at d4 IHJ
        clear hks
        have hdd : IntKind.i64.wrap (d - 1) = d - 1 := IntWalk.i64_in _ (by omega)
        have HT := Lib.hid (rightsB_take t.kids (d - 1) j hlt)
        have HS := Lib.hid (rightsB_stuck t.kids (d - 1) j hlt)
        rw [HN.out, Bool.true_and] at HT
        clear IH
        unfold V.agg at IHJ
        cases hrb : rightB t.kids[j] (d - 1)
        · have HX := Lib.hid (show b = false by rw [HB.out, HS.out hrb])
          rw [hrb] at IHJ
          clear HT HS hrb
          go_wp2_with fail
          refine (IHJ.out _ ((by (repeat' (first | with_reducible exact Below.refl _ _ | with_reducible refine below_alloc ?_ _ ?_ | with_reducible refine Below.setCell ?_ ?_ _ | with_reducible refine Below.drew ?_ | with_reducible refine Go.below_drewN ?_ _ | with_reducible refine below_step ?_ (by assumption) ?_ | with_reducible refine below_mark ?_ (by assumption) ?_)); all_goals (first | omega | (simp; done) | (simp; omega))))).mono ?_
          rintro x wx ⟨rfl, hbx⟩
          go_wp2_with fail
          go_ret
          exact ⟨by rw [HX.out]; rfl, (by (repeat' (first | with_reducible exact Below.refl _ _ | with_reducible refine below_alloc ?_ _ ?_ | with_reducible refine Below.setCell ?_ ?_ _ | with_reducible refine Below.drew ?_ | with_reducible refine Go.below_drewN ?_ _ | with_reducible refine below_step ?_ (by assumption) ?_ | with_reducible refine below_mark ?_ (by assumption) ?_)); all_goals (first | omega | (simp; done) | (simp; omega)))⟩
        · rw [hrb] at IHJ HT
          clear HS hrb
          go_wp2_with fail
          refine (IHJ.out _ ((by (repeat' (first | with_reducible exact Below.refl _ _ | with_reducible refine below_alloc ?_ _ ?_ | with_reducible refine Below.setCell ?_ ?_ _ | with_reducible refine Below.drew ?_ | with_reducible refine Go.below_drewN ?_ _ | with_reducible refine below_step ?_ (by assumption) ?_ | with_reducible refine below_mark ?_ (by assumption) ?_)); all_goals (first | omega | (simp; done) | (simp; omega))))).mono ?_
          rintro x wx ⟨rfl, hbx⟩
          go_wp2_with fail
          go_roundw
          case rel => exact ⟨j + 1, by omega, by go_num, HT, (by (repeat' (first | with_reducible exact Below.refl _ _ | with_reducible refine below_alloc ?_ _ ?_ | with_reducible refine Below.setCell ?_ ?_ _ | with_reducible refine Below.drew ?_ | with_reducible refine Go.below_drewN ?_ _ | with_reducible refine below_step ?_ (by assumption) ?_ | with_reducible refine below_mark ?_ (by assumption) ?_)); all_goals (first | omega | (simp; done) | (simp; omega)))⟩
          case measure => simp [intOf]; omega
      · have HX := Lib.hid (show b = true by
          rw [HB.out]
          have := HN.out
          rwa [show j = t.kids.length by omega, List.take_length] at this)
        clear HN
        go_wp2_with fail
        go_ret
        exact ⟨by rw [HX.out]; rfl, (by (repeat' (first | with_reducible exact Below.refl _ _ | with_reducible refine below_alloc ?_ _ ?_ | with_reducible refine Below.setCell ?_ ?_ _ | with_reducible refine Below.drew ?_ | with_reducible refine Go.below_drewN ?_ _ | with_reducible refine below_step ?_ (by assumption) ?_ | with_reducible refine below_mark ?_ (by assumption) ?_)); all_goals (first | omega | (simp; done) | (simp; omega)))⟩
set_option maxHeartbeats 1000000 in
theorem ValueOk_spec (w0 : World) (v : Value) (t : V) (h : Rep w0 v t) (hsz : t.sz ≤ 1048576) (w : World) (hw : Below w0.heap.size w0 w) : Calls Tryd.prog 22 #[v] w fun e w' => e = .returned (.bool (okT t)) ∧ Below w.heap.size w w' := by
  have RI := Lib.hid (fun (W : World) (hW : Below w.heap.size w W) => l02Right_all w0 _ v t (Nat.lt_succ_self _) h hsz 12 (by omega) (by omega) W (hw.trans (hW.mono hw.size)))
  have HB := Lib.hid (show okT t = (rightB t 12 && decide ((t.nodes : Int) ≤ 300)) by unfold okT; congr 1; rw [decide_eq_decide]; omega)
  have hno : (t.nodes : Int) ≤ 1048577 := by have := nodes_sz t; omega
  obtain ⟨b, hb⟩ : ∃ b : Bool, b = okT t := ⟨_, rfl⟩
  rw [← hb] at HB ⊢
  clear hb
  obtain ⟨sl, rfl, hwf, hr⟩ := h
  have NO := Lib.hid (fun (W : World) (hW : Below w.heap.size w W) => nodes_any w0 _ sl t.kids (Nat.le_refl _) hr (by have := V.sz_eq t; omega) t rfl W (hw.trans (hW.mono hw.size)))
  have BX := Lib.hid (Box.new w t.k t.n t.e t.s sl 30)
  clear hr
  unfold V.agg at *
  cases hrb : rightB t 12
  · rw [hrb] at HB RI
    go_enter Tryd.func22, Tryd.ntmps22
    go_wp2_with fail
    refine (RI.out _ ((by (repeat' (first | with_reducible exact Below.refl _ _ | with_reducible refine below_alloc ?_ _ ?_ | with_reducible refine Below.setCell ?_ ?_ _ | with_reducible refine Below.drew ?_ | with_reducible refine Go.below_drewN ?_ _ | with_reducible refine below_step ?_ (by assumption) ?_ | with_reducible refine below_mark ?_ (by assumption) ?_)); all_goals (first | omega | (simp; done) | (simp; omega))))).mono ?_
    rintro x wx ⟨rfl, hbx⟩
    go_wp2_with fail
    go_ret
    exact ⟨by rw [HB.out]; rfl, (by (repeat' (first | with_reducible exact Below.refl _ _ | with_reducible refine below_alloc ?_ _ ?_ | with_reducible refine Below.setCell ?_ ?_ _ | with_reducible refine Below.drew ?_ | with_reducible refine Go.below_drewN ?_ _ | with_reducible refine below_step ?_ (by assumption) ?_ | with_reducible refine below_mark ?_ (by assumption) ?_)); all_goals (first | omega | (simp; done) | (simp; omega)))⟩
  · rw [hrb, Bool.true_and] at HB
    rw [hrb] at RI
    generalize hg : decide ((t.nodes : Int) ≤ 300) = g at *
    go_enter Tryd.func22, Tryd.ntmps22
    go_wp2_with fail
    refine (RI.out _ ((by (repeat' (first | with_reducible exact Below.refl _ _ | with_reducible refine below_alloc ?_ _ ?_ | with_reducible refine Below.setCell ?_ ?_ _ | with_reducible refine Below.drew ?_ | with_reducible refine Go.below_drewN ?_ _ | with_reducible refine below_step ?_ (by assumption) ?_ | with_reducible refine below_mark ?_ (by assumption) ?_)); all_goals (first | omega | (simp; done) | (simp; omega))))).mono ?_
    rintro x wx ⟨rfl, hbx⟩
    obtain ⟨c0, c1, c2, c3, c4⟩ := (BX.out.stay hbx).cells
    go_wp2_with fail
    refine (NO.out _ ((by (repeat' (first | with_reducible exact Below.refl _ _ | with_reducible refine below_alloc ?_ _ ?_ | with_reducible refine Below.setCell ?_ ?_ _ | with_reducible refine Below.drew ?_ | with_reducible refine Go.below_drewN ?_ _ | with_reducible refine below_step ?_ (by assumption) ?_ | with_reducible refine below_mark ?_ (by assumption) ?_)); all_goals (first | omega | (simp; done) | (simp; omega))))).mono ?_
    rintro x wy ⟨rfl, hby⟩
    cases g
    all_goals go_wp2_with fail
    all_goals go_ret
    all_goals exact ⟨by rw [HB.out]; rfl, (by (repeat' (first | with_reducible exact Below.refl _ _ | with_reducible refine below_alloc ?_ _ ?_ | with_reducible refine Below.setCell ?_ ?_ _ | with_reducible refine Below.drew ?_ | with_reducible refine Go.below_drewN ?_ _ | with_reducible refine below_step ?_ (by assumption) ?_ | with_reducible refine below_mark ?_ (by assumption) ?_)); all_goals (first | omega | (simp; done) | (simp; omega)))⟩
end Go.Proofs.YtaphlemmlmdkiaaDoor
namespace Go.Proofs.YtaphlemmlmdkiaaDoor
set_option linter.unusedSimpArgs false
set_option linter.unusedVariables false
set_option maxRecDepth 100000
open Go.RowKit Go.Shelf
structure EnvD (w : World) : Prop where
  env : Env w
  tab : Lib.TabIs Tryd.prog w "internal/strconv.uint64pow10" .u64 Lib.pow10Tab
  es : ∃ ev, w.cell? ⟨Tryd.laysAtoi_ren.g 15, 0, none⟩ = some ev ∧ (ev = .nilIface ∨ ∃ te pe, ev = .iface te pe)
  er : ∃ ev, w.cell? ⟨Tryd.laysAtoi_ren.g 16, 0, none⟩ = some ev ∧ (ev = .nilIface ∨ ∃ te pe, ev = .iface te pe)
theorem EnvD.keep {w w' : World} (h : EnvD w) (hb : Below w.heap.size w w') : EnvD w' := by
  refine ⟨h.env.keep hb, tab_below (g := Tryd.laysItoa_ren.g 17) (by kernel_rfl) h.tab hb, ?_, ?_⟩
  · obtain ⟨ev, h1, h2⟩ := h.es
    exact ⟨ev, by rw [hb.cell (World.block_lt_of_cell? w _ h1)]; exact h1, h2⟩
  · obtain ⟨ev, h1, h2⟩ := h.er
    exact ⟨ev, by rw [hb.cell (World.block_lt_of_cell? w _ h1)]; exact h1, h2⟩
def itoB (n : Int) : ByteArray := ⟨(Lib.itoa n).toArray⟩
theorem itoaI_any (n : Int) (hn : In64 n) (w : World) (ht : Lib.TabIs Tryd.prog w "internal/strconv.uint64pow10" .u64 Lib.pow10Tab) : Calls Tryd.prog 98 #[.int .i64 n] w fun e w' => e = .returned (.string (itoB n)) ∧ Below w.heap.size w w' := by
  refine (Any.strconv_Itoa Tryd.laysItoa n hn.1 hn.2 w ht).mono ?_
  rintro e w' ⟨h1, k, os, rfl⟩
  exact ⟨h1, below_grown_sl w.heap.size w k os (Nat.le_refl _)⟩
def RdRet (w : World) (r : Option Int) (e : Ending) (w' : World) : Prop := e = .returned (.tuple #[.int .i64 (r.getD 0), .bool r.isSome]) ∧ Below w.heap.size w w'
theorem itoB_eq {n : Int} {s : ByteArray} : itoB n = s ↔ Lib.itoa n = s.data.toList := by
  constructor
  · intro h; rw [← h]; rfl
  · intro h; exact ba_ext h
theorem atoi_ok (s : ByteArray) (hs : s.size ≤ 1048576) (v : Int) (h : Lib.atoiAll s.data.toList = .ok v) (w : World) : Calls Tryd.prog 105 #[.string s] w fun e w' => e = .returned (.tuple #[.int .i64 v, .nilIface]) ∧ Below w.heap.size w w' := by
  refine (Any.strconv_Atoi_ok Tryd.laysAtoi s (by omega) v h w).mono ?_
  rintro e w' ⟨h1, h2⟩
  refine ⟨h1, ?_⟩
  rcases h2 with rfl | ⟨t, rfl⟩
  · exact Below.refl _ _
  · exact Lib.bytesWorld_below _ _ _
theorem atoi_bad (s : ByteArray) (hs : s.size ≤ 1048576) (h : Lib.atoiAll s.data.toList = synI ∨ Lib.atoiAll s.data.toList = .range) (w : World) (hE : EnvD w) : Calls Tryd.prog 105 #[.string s] w fun e w' => (∃ z t p, e = .returned (.tuple #[.int .i64 z, .iface t p])) ∧ Below w.heap.size w w' := by
  rcases h with h | h
  · obtain ⟨ev, h1, h2⟩ := hE.es
    refine (Any.strconv_Atoi_syntax Tryd.laysAtoi s (by omega) h ev w h1 h2).mono ?_
    rintro e w' ⟨N, rfl, -, -, hb⟩
    exact ⟨⟨_, _, _, rfl⟩, hb⟩
  · obtain ⟨ev, h1, h2⟩ := hE.er
    refine (Any.strconv_Atoi_range Tryd.laysAtoi s (by omega) h ev w h1 h2).mono ?_
    rintro e w' ⟨N, rfl, -, -, hb⟩
    exact ⟨⟨_, _, _, rfl⟩, hb⟩
set_option maxHeartbeats 1000000 in
theorem ReadDec_impl (s : ByteArray) (hs : s.size ≤ 1048576) (w : World) (hE : EnvD w) : Calls Tryd.prog 101 #[.string s] w (RdRet w (rdec s.data.toList)) := by
  by_cases hbad : Lib.atoiAll s.data.toList = synI ∨ Lib.atoiAll s.data.toList = .range
  · have AT := Lib.hid (atoi_bad s hs hbad w hE)
    have HR := Lib.hid (show rdec s.data.toList = none from hbad.elim rdec_syn rdec_range)
    clear hE hbad
    generalize rdec s.data.toList = R at *
    go_enter Tryd.func101, Tryd.ntmps101
    go_wp2_with fail
    refine AT.out.mono ?_
    rintro e w1 ⟨⟨z, tp, pv, rfl⟩, hb1⟩
    go_wp2_with fail
    go_ret2
    exact ⟨by rw [HR.out]; rfl, hb1⟩
  obtain ⟨v, ha⟩ : ∃ v, Lib.atoiAll s.data.toList = .ok v := by
    cases ha : Lib.atoiAll s.data.toList with
    | ok v => exact ⟨v, rfl⟩
    | range => exact absurd (.inr ha) hbad
    | _ => exact absurd (.inl ha) hbad
  have hb := Lib.atoiAll_bounds ha
  have AT := Lib.hid (atoi_ok s hs v ha w)
  have IT := Lib.hid (fun (W : World) (hW : Below w.heap.size w W) => itoaI_any v ⟨hb.1, hb.2⟩ W (hE.keep hW).tab)
  have HR := Lib.hid (rdec_ok ha)
  have HQ := Lib.hid (@itoB_eq v s)
  clear hE ha hbad
  generalize rdec s.data.toList = R at *
  by_cases he : Lib.itoa v = s.data.toList
  · have hq := HQ.out.2 he
    have HR1 := Lib.hid (show R = some v from by rw [HR.out, if_pos he])
    have tq : ((itoB v).toList == s.toList) = true := ba_yes hq
    clear HR HQ he hq
    generalize itoB v = q at *
    go_enter Tryd.func101, Tryd.ntmps101
    go_wp2_with fail
    refine AT.out.mono ?_
    rintro e w1 ⟨rfl, hb1⟩
    have HB1 := Lib.hid hb1
    clear hb1
    go_wp2_with fail
    refine (IT.out _ HB1.out).mono ?_
    rintro e w2 ⟨rfl, hb2⟩
    have HB2 := Lib.hid (HB1.out.trans (hb2.mono HB1.out.size))
    clear hb2
    go_wp2_with fail
    go_ret2
    exact ⟨by rw [HR1.out]; rfl, HB2.out⟩
  · have HR1 := Lib.hid (show R = none from by rw [HR.out, if_neg he])
    have tq : ((itoB v).toList == s.toList) = false := ba_no (fun e => he (HQ.out.1 e))
    clear HR HQ he
    generalize itoB v = q at *
    go_enter Tryd.func101, Tryd.ntmps101
    go_wp2_with fail
    refine AT.out.mono ?_
    rintro e w1 ⟨rfl, hb1⟩
    have HB1 := Lib.hid hb1
    clear hb1
    go_wp2_with fail
    refine (IT.out _ HB1.out).mono ?_
    rintro e w2 ⟨rfl, hb2⟩
    have HB2 := Lib.hid (HB1.out.trans (hb2.mono HB1.out.size))
    clear hb2
    go_wp2_with fail
    go_ret2
    exact ⟨by rw [HR1.out]; rfl, HB2.out⟩
theorem itoB_nat {n : Nat} (h : ¬ n = 0) : itoB n = ⟨(mtL n).toArray⟩ := by unfold itoB; rw [Lib.itoa_nonneg, dec_mtL h]
theorem itoB_neg {n : Nat} (h : ¬ n = 0) : itoB (-(n : Int)) = ⟨(45 :: mtL n).toArray⟩ := by unfold itoB; rw [Lib.itoa_neg n (by omega), dec_mtL h]
theorem dig_cut : ∀ d : Fin 10, (⟨#[48, 49, 50, 51, 52, 53, 54, 55, 56, 57]⟩ : ByteArray).extract d.val (d.val + 1) = ⟨#[UInt8.ofNat (48 + d.val)]⟩ := by decide
set_option maxHeartbeats 1000000 in
theorem DecTextN_spec (n : Nat) (hn : n ≤ 9223372036854775807) (w : World) : Calls Tryd.prog 66 #[.int .i64 n] w fun e w' => e = .returned (.string (itoB n)) ∧ w' = w := by
  by_cases h0 : n = 0
  · subst h0
    have : itoB ((0 : Nat) : Int) = ⟨#[48]⟩ := by unfold itoB; rw [Lib.itoa_nonneg, Lib.decDigits_one (by omega)]; rfl
    rw [this]
    go_enter Tryd.func66, Tryd.ntmps66
    go_wp2_with fail
    go_ret
    exact ⟨rfl, rfl⟩
  · have H := Lib.hid (itoB_nat h0)
    go_enter Tryd.func66, Tryd.ntmps66
    go_wp2_with fail
    go_loopw [3, 4] (fun s x wr => ∃ (q : Nat) (L : List UInt8), q ≤ n ∧ x = .int .i64 q ∧ s = bstr L ∧ L.length + q ≤ n ∧ Hid (mtL n = mtL q ++ L) ∧ wr = w) (fun _ x _ => (intOf x).toNat)
    case atStart => exact ⟨n, [], by omega, rfl, rfl, by simp, Lib.hid (by simp), rfl⟩
    case round =>
      obtain ⟨q, L, hqn, rfl, rfl, hl, HM, rfl⟩ := hrel
      by_cases hlt : 0 < q
      · have HS := Lib.hid (mtL_pos (n := q) (by omega))
        have hm : (q : Int).tmod 10 = ((q % 10 : Nat) : Int) := by rw [Int.tmod_eq_emod_of_nonneg (by omega)]; omega
        have hd : (q : Int).tdiv 10 = ((q / 10 : Nat) : Int) := by rw [Int.tdiv_eq_ediv_of_nonneg (by omega)]; omega
        have hdc := dig_cut ⟨q % 10, by omega⟩
        have hr : q % 10 < 10 := by omega
        have hqd : q / 10 < q := by omega
        have HT1 := Lib.hid (show mtL n = mtL (q / 10) ++ (UInt8.ofNat (48 + q % 10) :: L) from by rw [HM.out, HS.out]; simp)
        dsimp only at hdc
        generalize q % 10 = r at *
        generalize q / 10 = p at *
        go_wp2_with fail
        go_roundw
        case rel => exact ⟨p, UInt8.ofNat (48 + r) :: L, by omega, rfl, by simp [ByteArray.ext_iff], by simp; omega, HT1, by first | rfl | trivial⟩
        case measure => simp [intOf]; omega
      · have hq0 : q = 0 := by omega
        subst hq0
        go_wp2_with fail
        go_ret
        refine ⟨?_, rfl⟩
        rw [H.out, HM.out, mtL_zero]; rfl
set_option maxHeartbeats 1000000 in
theorem DecTextM_spec (n : Nat) (hn : n ≤ 9223372036854775808) (h0 : 0 < n) (w : World) : Calls Tryd.prog 66 #[.int .i64 (-(n : Int))] w fun e w' => e = .returned (.string (itoB (-(n : Int)))) ∧ w' = w := by
  have H := Lib.hid (itoB_neg (n := n) (by omega))
  have hn20 : (mtL n).length ≤ 20 := by
    rw [← dec_mtL (by omega), Lib.decDigits_length]
    exact nDigits_le 19 n (by omega)
  go_enter Tryd.func66, Tryd.ntmps66
  go_wp2_with fail
  go_loopw [3, 4] (fun s x wr => ∃ (q : Nat) (L : List UInt8), q ≤ n ∧ x = .int .i64 (-(q : Int)) ∧ s = bstr L ∧ L.length + q ≤ n ∧ Hid (mtL n = mtL q ++ L) ∧ wr = w) (fun _ x _ => (intOf x).natAbs)
  case atStart => exact ⟨n, [], by omega, rfl, rfl, by simp, Lib.hid (by simp), rfl⟩
  case round =>
    obtain ⟨q, L, hqn, rfl, rfl, hl, HM, rfl⟩ := hrel
    by_cases hlt : 0 < q
    · have HS := Lib.hid (mtL_pos (n := q) (by omega))
      have hll : L.length + 1 ≤ 20 := by have := congrArg List.length HM.out; rw [HS.out] at this; simp at this; omega
      have hm : (-(q : Int)).tmod 10 = -((q % 10 : Nat) : Int) := by rw [Int.neg_tmod, Int.tmod_eq_emod_of_nonneg (by omega)]; omega
      have hd : (-(q : Int)).tdiv 10 = -((q / 10 : Nat) : Int) := by rw [Int.neg_tdiv, Int.tdiv_eq_ediv_of_nonneg (by omega)]; omega
      have hdc := dig_cut ⟨q % 10, by omega⟩
      have hr : q % 10 < 10 := by omega
      have hqd : q / 10 < q := by omega
      have HT1 := Lib.hid (show mtL n = mtL (q / 10) ++ (UInt8.ofNat (48 + q % 10) :: L) from by rw [HM.out, HS.out]; simp)
      dsimp only at hdc
      generalize q % 10 = r at *
      generalize q / 10 = p at *
      by_cases hr0 : r = 0
      · subst hr0
        go_wp2_with fail
        go_roundw
        case rel => exact ⟨p, UInt8.ofNat (48 + 0) :: L, by omega, rfl, by simp [ByteArray.ext_iff], by simp; omega, HT1, by first | rfl | trivial⟩
        case measure => simp [intOf]; omega
      · go_wp2_with fail
        go_roundw
        case rel => exact ⟨p, UInt8.ofNat (48 + r) :: L, by omega, rfl, by simp [ByteArray.ext_iff], by simp; omega, HT1, by first | rfl | trivial⟩
        case measure => simp [intOf]; omega
    · have hq0 : q = 0 := by omega
      have hll : L.length ≤ 20 := by have := congrArg List.length HM.out; simp at this; omega
      subst hq0
      go_wp2_with fail
      go_ret
      refine ⟨?_, rfl⟩
      rw [H.out, HM.out, mtL_zero]
      exact congrArg (fun s => Ending.returned (.string s)) (bstr_cat [45] L)
theorem DecTextI_spec (n : Int) (hn : In64 n) (w : World) : Calls Tryd.prog 66 #[.int .i64 n] w fun e w' => e = .returned (.string (itoB n)) ∧ w' = w := by
  unfold In64 at hn
  rcases Int.lt_or_le n 0 with h | h
  · obtain ⟨u, rfl⟩ : ∃ u : Nat, n = -(u : Int) := ⟨n.natAbs, by omega⟩
    exact DecTextM_spec u (by omega) (by omega) w
  · obtain ⟨u, rfl⟩ := Int.eq_ofNat_of_zero_le h
    exact DecTextN_spec u (by omega) w
end Go.Proofs.YtaphlemmlmdkiaaDoor
namespace Go.Proofs.YtaphlemmlmdkiaaDoor
set_option linter.unusedSimpArgs false
set_option linter.unusedVariables false
set_option maxRecDepth 100000
open Go.RowKit Go.Shelf
theorem wrap_dec (x : Int) (c : UInt8) : wrap64 (wrap64 (wrap64 (10 * x) + c.toNat) - 48) = wdec x c := by
  unfold wdec wrap64; omega
theorem wfold_in (t : ByteArray) (k : Nat) (h : k < t.size) : t.data.toList.take (k + 1) = t.data.toList.take k ++ [t[k]] := by
  rw [List.take_add_one]
  have h2 : k < t.data.toList.length := by rw [← size_eq]; exact h
  rw [List.getElem?_eq_getElem h2]
  rfl
theorem wstep (t : ByteArray) (k : Nat) (h : k < t.size) : wfold (t.data.toList.take (k + 1)) = wdec (wfold (t.data.toList.take k)) t[k] := by rw [wfold_in t k h, wfold_snoc]
set_option maxHeartbeats 2000000 in
theorem ReadDecN_spec (s t : ByteArray) (hs : s.size ≤ 1048576) (N : Int) (hst : t = s) (h0 : 0 < s.size) (hne : s[0] ≠ 45) (HX : Hid (wfold t.data.toList = N)) (R : Option Int) (HNR : Hid (In64 N)) (HN : Hid (R = if itoB N = s then some N else none)) (HB1 : Hid (∀ k (h : k < t.size), ¬ (48 ≤ (t[k]).toNat ∧ (t[k]).toNat ≤ 57) → R = none)) (HB2 : Hid (¬ t.size ≤ 19 → R = none)) (HB3 : Hid (t.size = 0 → R = none)) (w : World) : Calls Tryd.prog 99 #[.string s] w fun e w' => e = .returned (.tuple #[.int .i64 (R.getD 0), .bool R.isSome]) ∧ w' = w := by
  go_enter Tryd.func99, Tryd.ntmps99
  subst hst
  have tss : (t.toList == t.toList) = true := ba_yes rfl
  have hc0 : (((t[0]).toNat : Int) == 45) = false := by rw [beq_eq_false_iff_ne]; exact u8_ne hne
  go_wp2_with fail
  go_loopw [2, 3, 5, 6] (fun a b x i wr => ∃ k : Nat, a = .int .i64 0 ∧ b = .bool false ∧ x = .int .i64 (wfold (t.data.toList.take k)) ∧ i = .int .i64 k ∧ k ≤ t.size ∧ wr = w) (fun _ _ _ i _ => t.size - (intOf i).toNat)
  case atStart => exact ⟨0, rfl, rfl, rfl, rfl, by omega, rfl⟩
  case round =>
    obtain ⟨k, rfl, rfl, rfl, rfl, hk, hwr⟩ := hrel
    subst hwr
    by_cases hlt : k < t.size
    · have HSN := Lib.hid (wstep t k hlt)
      have hr := wfold_range (t.data.toList.take k)
      unfold In64 at hr
      have hb := (t[k]).toNat_lt
      have HIN := Lib.hid (l01In_any ((t[k]).toNat : Int) 48 57 wr)
      have HBK := Lib.hid (HB1.out k hlt)
      have HW := Lib.hid (wfold_in t k hlt)
      generalize wfold (t.data.toList.take k) = x at *
      by_cases hin : 48 ≤ ((t[k]).toNat : Int) ∧ ((t[k]).toNat : Int) ≤ 57
      case neg =>
        rw [decide_eq_false hin] at HIN
        have HR := Lib.hid (HBK.out (by omega))
        go_wp2_with fail
        refine HIN.out.mono ?_
        rintro e w1 ⟨rfl, rfl⟩
        go_wp2_with fail
        go_ret2
        exact ⟨by rw [HR.out]; rfl, rfl⟩
      rw [decide_eq_true hin] at HIN
      by_cases h19 : t.size ≤ 19
      case neg =>
        have HR := Lib.hid (HB2.out h19)
        go_wp2_with fail
        refine HIN.out.mono ?_
        rintro e w1 ⟨rfl, rfl⟩
        go_wp2_with fail
        go_ret2
        exact ⟨by rw [HR.out]; rfl, rfl⟩
      go_wp2_with fail
      refine HIN.out.mono ?_
      rintro e w1 ⟨rfl, rfl⟩
      go_wp2_with fail
      go_roundw
      case rel => exact ⟨k + 1, rfl, rfl, by rw [HSN.out, wrap_dec], by go_num, by omega, by first | rfl | trivial⟩
      case measure => simp [intOf]; omega
    · have hke : k = t.size := by omega
      subst hke
      have HTK := Lib.hid (show t.data.toList.take t.size = t.data.toList from by rw [size_eq, List.take_length])
      rw [HTK.out]
      have hr := wfold_range t.data.toList
      unfold In64 at hr
      have DT := Lib.hid (fun W => DecTextI_spec N HNR.out W)
      rw [HX.out] at hr ⊢
      by_cases he : t.size = 0
      · have HR := Lib.hid (HB3.out he)
        omega
      obtain ⟨te1, te2, te3⟩ := str_ne he
      by_cases hq : itoB N = t
      · have tq : ((itoB N).toList == t.toList) = true := ba_yes hq
        have HR := Lib.hid (HN.out.trans (if_pos hq))
        generalize itoB N = q at *
        go_wp2_with fail
        refine (DT.out _).mono ?_
        rintro e w1 ⟨rfl, rfl⟩
        go_wp2_with fail
        go_ret2
        exact ⟨by rw [HR.out]; rfl, rfl⟩
      · have tq : ((itoB N).toList == t.toList) = false := ba_no hq
        have HR := Lib.hid (HN.out.trans (if_neg hq))
        generalize itoB N = q at *
        go_wp2_with fail
        refine (DT.out _).mono ?_
        rintro e w1 ⟨rfl, rfl⟩
        go_wp2_with fail
        go_ret2
        exact ⟨by rw [HR.out]; rfl, rfl⟩
theorem str_em {s : ByteArray} (h : s.size = 0) : s.toList = [] ∧ s.toList.isEmpty = true ∧ (s.toList == []) = true := by
  have h1 : s.toList = [] := by rw [ba_empty h, ByteArray.toList_eq]
  exact ⟨h1, by rw [h1]; rfl, by rw [h1]; rfl⟩
set_option maxHeartbeats 2000000 in
theorem ReadDecM_spec (s t : ByteArray) (hs : s.size ≤ 1048576) (N : Int) (hst : s.extract 1 s.size = t) (h0 : 0 < s.size) (hne : s[0] = 45) (htq : t ≠ s) (HX : Hid (wrap64 (-(wfold t.data.toList)) = N)) (R : Option Int) (HNR : Hid (In64 N)) (HN : Hid (R = if itoB N = s then some N else none)) (HB1 : Hid (∀ k (h : k < t.size), ¬ (48 ≤ (t[k]).toNat ∧ (t[k]).toNat ≤ 57) → R = none)) (HB2 : Hid (¬ t.size ≤ 19 → R = none)) (HB3 : Hid (t.size = 0 → R = none)) (w : World) : Calls Tryd.prog 99 #[.string s] w fun e w' => e = .returned (.tuple #[.int .i64 (R.getD 0), .bool R.isSome]) ∧ w' = w := by
  go_enter Tryd.func99, Tryd.ntmps99
  have tss : (t.toList == s.toList) = false := ba_no htq
  have hts : t.size ≤ 1048576 := by rw [← hst, ByteArray.size_extract]; omega
  clear htq
  have hc0 : ((s[0]).toNat : Int) = 45 := by rw [hne]; rfl
  go_wp2_with fail
  go_loopw [2, 3, 5, 6] (fun a b x i wr => ∃ k : Nat, a = .int .i64 0 ∧ b = .bool false ∧ x = .int .i64 (wfold (t.data.toList.take k)) ∧ i = .int .i64 k ∧ k ≤ t.size ∧ wr = w) (fun _ _ _ i _ => t.size - (intOf i).toNat)
  case atStart => exact ⟨0, rfl, rfl, rfl, rfl, by omega, rfl⟩
  case round =>
    obtain ⟨k, rfl, rfl, rfl, rfl, hk, hwr⟩ := hrel
    subst hwr
    by_cases hlt : k < t.size
    · have HSN := Lib.hid (wstep t k hlt)
      have hr := wfold_range (t.data.toList.take k)
      unfold In64 at hr
      have hb := (t[k]).toNat_lt
      have HIN := Lib.hid (l01In_any ((t[k]).toNat : Int) 48 57 wr)
      have HBK := Lib.hid (HB1.out k hlt)
      have HW := Lib.hid (wfold_in t k hlt)
      generalize wfold (t.data.toList.take k) = x at *
      by_cases hin : 48 ≤ ((t[k]).toNat : Int) ∧ ((t[k]).toNat : Int) ≤ 57
      case neg =>
        rw [decide_eq_false hin] at HIN
        have HR := Lib.hid (HBK.out (by omega))
        go_wp2_with fail
        refine HIN.out.mono ?_
        rintro e w1 ⟨rfl, rfl⟩
        go_wp2_with fail
        go_ret2
        exact ⟨by rw [HR.out]; rfl, rfl⟩
      rw [decide_eq_true hin] at HIN
      by_cases h19 : t.size ≤ 19
      case neg =>
        have HR := Lib.hid (HB2.out h19)
        go_wp2_with fail
        refine HIN.out.mono ?_
        rintro e w1 ⟨rfl, rfl⟩
        go_wp2_with fail
        go_ret2
        exact ⟨by rw [HR.out]; rfl, rfl⟩
      go_wp2_with fail
      refine HIN.out.mono ?_
      rintro e w1 ⟨rfl, rfl⟩
      go_wp2_with fail
      go_roundw
      case rel => exact ⟨k + 1, rfl, rfl, by rw [HSN.out, wrap_dec], by go_num, by omega, by first | rfl | trivial⟩
      case measure => simp [intOf]; omega
    · have hke : k = t.size := by omega
      subst hke
      have HTK := Lib.hid (show t.data.toList.take t.size = t.data.toList from by rw [size_eq, List.take_length])
      rw [HTK.out]
      have hr := wfold_range t.data.toList
      unfold In64 at hr
      have DT := Lib.hid (fun W => DecTextI_spec N HNR.out W)
      by_cases he : t.size = 0
      · have HR := Lib.hid (HB3.out he)
        have hs0 : s.size ≠ 0 := by omega
        obtain ⟨te1, te2, te3⟩ := str_em he
        obtain ⟨te4, te5, te6⟩ := str_ne hs0
        generalize wfold t.data.toList = x at *
        go_wp2_with fail
        go_ret2
        exact ⟨by rw [HR.out]; rfl, rfl⟩
      obtain ⟨te1, te2, te3⟩ := str_ne he
      have hx1 := HX.out
      generalize wfold t.data.toList = x at *
      by_cases hq : itoB N = s
      · have tq : ((itoB N).toList == s.toList) = true := ba_yes hq
        have HR := Lib.hid (HN.out.trans (if_pos hq))
        generalize itoB N = q at *
        go_wp2_with fail
        refine (DT.out _).mono ?_
        rintro e w1 ⟨rfl, rfl⟩
        go_wp2_with fail
        go_ret2
        exact ⟨by rw [HR.out]; rfl, rfl⟩
      · have tq : ((itoB N).toList == s.toList) = false := ba_no hq
        have HR := Lib.hid (HN.out.trans (if_neg hq))
        generalize itoB N = q at *
        go_wp2_with fail
        refine (DT.out _).mono ?_
        rintro e w1 ⟨rfl, rfl⟩
        go_wp2_with fail
        go_ret2
        exact ⟨by rw [HR.out]; rfl, rfl⟩
set_option maxHeartbeats 1000000 in
theorem ReadDecE_spec (s : ByteArray) (h0 : s.size = 0) (w : World) : Calls Tryd.prog 99 #[.string s] w fun e w' => e = .returned (.tuple #[.int .i64 0, .bool false]) ∧ w' = w := by
  have hE : s = ⟨#[]⟩ := ba_empty h0
  subst hE
  have te0 : (⟨#[]⟩ : ByteArray).toList = [] := by rw [ByteArray.toList_eq]
  go_enter Tryd.func99, Tryd.ntmps99
  go_wp2_with fail
  go_loopw [5, 6] (fun x i wr => x = .int .i64 0 ∧ i = .int .i64 0 ∧ wr = w) (fun _ _ _ => 0)
  case atStart => exact ⟨rfl, rfl, rfl⟩
  case round =>
    obtain ⟨rfl, rfl, rfl⟩ := hrel
    go_wp2_with fail
    go_ret2
    exact ⟨rfl, rfl⟩
theorem ReadDec_spec (s : ByteArray) (hs : s.size ≤ 1048576) (w : World) : Calls Tryd.prog 99 #[.string s] w fun e w' => e = .returned (.tuple #[.int .i64 ((rdec s.data.toList).getD 0), .bool (rdec s.data.toList).isSome]) ∧ w' = w := by
  have hN : Hid (rdec s.data.toList = if itoB (numT s.data.toList) = s then some (numT s.data.toList) else none) := Lib.hid (by
    rw [rdec_numT]
    by_cases h : Lib.itoa (numT s.data.toList) = s.data.toList
    · rw [if_pos h, if_pos (itoB_eq.2 h)]
    · rw [if_neg h, if_neg (fun e => h (itoB_eq.1 e))])
  have hbad : ∀ t : ByteArray, t.data.toList = tailT s.data.toList → (∀ k (h : k < t.size), ¬ (48 ≤ (t[k]).toNat ∧ (t[k]).toNat ≤ 57) → rdec s.data.toList = none) ∧ (¬ t.size ≤ 19 → rdec s.data.toList = none) ∧ (t.size = 0 → rdec s.data.toList = none) := by
    intro t ht
    refine ⟨fun k hk hb => rdec_bad (fun h => hb ?_), fun hb => rdec_bad (fun h => hb ?_), fun hb => rdec_bad (fun h => h.2.2 ?_)⟩
    · refine h.1 _ ?_
      rw [← ht]
      exact Array.mem_toList_iff.2 (Array.getElem_mem _)
    · rw [size_eq, ht]; exact h.2.1
    · rw [← ht]; rw [size_eq] at hb; exact List.length_eq_zero_iff.1 hb
  rcases Nat.eq_zero_or_pos s.size with h0 | h0
  · have hE : s = ⟨#[]⟩ := ba_empty h0
    have hR : rdec s.data.toList = none := (hbad s (by rw [hE]; rfl)).2.2 h0
    rw [hR]
    exact ReadDecE_spec s h0 w
  · have hcons : s.data.toList = s[0] :: s.data.toList.drop 1 := by
      have h2 : 0 < s.data.toList.length := by rw [← size_eq]; exact h0
      have h3 := List.getElem_cons_drop h2
      rw [List.drop_zero] at h3
      exact h3.symm
    by_cases h45 : s[0] = 45
    · have hneg : negT s.data.toList = true := by rw [hcons, h45]; rfl
      have ht : (s.extract 1 s.size).data.toList = tailT s.data.toList := by
        unfold tailT
        rw [if_pos hneg, ByteArray.data_extract, Array.toList_extract, List.extract_eq_take_drop, List.take_of_length_le (by rw [List.length_drop, ← size_eq]; omega)]
      obtain ⟨h1, h2, h3⟩ := hbad _ ht
      refine ReadDecM_spec s _ hs (numT s.data.toList) rfl h0 h45 ?_ ?_ _ (Lib.hid (numT_range _)) hN (Lib.hid h1) (Lib.hid h2) (Lib.hid h3) w
      · intro e
        have := congrArg ByteArray.size e
        rw [ByteArray.size_extract] at this
        omega
      · exact Lib.hid (by rw [ht]; unfold numT; rw [if_pos hneg]; unfold wrap64; omega)
    · have hneg : negT s.data.toList = false := by
        rw [hcons]
        unfold negT
        simpa using h45
      have ht : s.data.toList = tailT s.data.toList := by unfold tailT; rw [if_neg (by simp [hneg])]
      obtain ⟨h1, h2, h3⟩ := hbad _ ht
      exact ReadDecN_spec s s hs (numT s.data.toList) rfl h0 h45 (Lib.hid (by unfold numT; rw [if_neg (by simp [hneg])]; exact congrArg wfold ht)) _ (Lib.hid (numT_range _)) hN (Lib.hid h1) (Lib.hid h2) (Lib.hid h3) w
end Go.Proofs.YtaphlemmlmdkiaaDoor
namespace Go.Proofs.YtaphlemmlmdkiaaDoor
set_option linter.unusedSimpArgs false
set_option linter.unusedVariables false
set_option maxRecDepth 100000
open Go.RowKit
instance memBa2 (s : ByteArray) (l : List ByteArray) : Decidable (s ∈ l) := @List.instDecidableMemOfLawfulBEq _ instBEqOfDecidableEq inferInstance s l
theorem RepSs.take {w : World} {a : Option Addr} {n cap : Nat} {l : List ByteArray} (h : RepSs w (.slice a n cap) l) (i : Nat) (hi : i ≤ l.length) : RepSs w (.slice a i cap) (l.take i) := by
  obtain ⟨a', b, off, cap', hv, ha, hc, hm, hcell⟩ := h
  simp only [Value.slice.injEq] at hv
  obtain ⟨rfl, rfl, rfl⟩ := hv
  have hl : (l.take i).length = i := by rw [List.length_take]; omega
  refine ⟨a, b, off, cap, by rw [hl], fun hne => ha (fun e => hne (by rw [e]; simp)), by rw [hl]; omega, hm, fun j hj => ?_⟩
  rw [hl] at hj
  rw [List.getElem_take]
  exact hcell j (by omega)
end Go.Proofs.YtaphlemmlmdkiaaDoor
namespace Go.Proofs.YtaphlemmlmdkiaaDoor
set_option linter.unusedSimpArgs false
set_option linter.unusedVariables false
set_option maxRecDepth 100000
open Go.RowKit
theorem rightsB_at {ts : List V} {d : Int} (h : rightsB ts d = true) (j : Nat) (hj : j < ts.length) : rightB ts[j] d = true := by
  rw [rightsB_all, List.all_eq_true] at h
  exact h _ (List.getElem_mem hj)
theorem right_kids {t : V} {d : Int} (h : rightB t d = true) : rightsB t.kids (d - 1) = true := by
  rw [rightB_eq] at h
  simp only [Bool.and_eq_true] at h
  exact h.2
end Go.Proofs.YtaphlemmlmdkiaaDoor
namespace Go.Proofs.YtaphlemmlmdkiaaDoor
set_option linter.unusedSimpArgs false
set_option linter.unusedVariables false
set_option maxRecDepth 100000
def MZ : V := .mk 0 0 0 ⟨#[]⟩ []
def lkp (s : ByteArray) : List V → Option V
  | k :: x :: r => if k.k = 5 ∧ k.s = s then some x else lkp s r
  | _ => none
def delK (s : ByteArray) : List V → List V
  | k :: x :: r => if k.k = 5 ∧ k.s = s then r else k :: x :: delK s r
  | l => l
def setK (s : ByteArray) (y : V) : List V → List V
  | k :: x :: r => if k.k = 5 ∧ k.s = s then k :: y :: r else k :: x :: setK s y r
  | l => l
def put1 (out : List V) (key x y : V) : List V :=
  if key.k = 5 then (if x.k = 0 then delK key.s out else if lkp key.s out = none then out ++ [key, y] else setK key.s y out) else out
def old1 (out : List V) (key : V) : V := (lkp key.s out).getD MZ
mutual
def mrg : V → V → V
  | v, .mk k n e s ks => if k = 8 then .mk 8 0 0 ⟨#[]⟩ (mgs none (if v.k = 8 then v.kids else []) ks) else .mk k n e s ks
def mgs : Option V → List V → List V → List V
  | _, out, [] => out
  | none, out, t :: ts => mgs (some t) out ts
  | some key, out, t :: ts => mgs none (put1 out key t (mrg (old1 out key) t)) ts
 end
theorem pairs_ind {P : List V → Prop} (h0 : P []) (h2 : ∀ k x r, r.length % 2 = 0 → P r → P (k :: x :: r)) : ∀ l : List V, l.length % 2 = 0 → P l
  | [], _ => h0
  | [_], h => by simp at h
  | k :: x :: r, h => h2 k x r (by simp at h; omega) (pairs_ind h0 h2 r (by simp at h; omega))
def Uq : List V → Prop
  | k :: _ :: r => (k.k = 5 → lkp k.s r = none) ∧ Uq r
  | _ => True
def AllP (P : V → V → Prop) : List V → Prop
  | k :: x :: r => P k x ∧ AllP P r
  | _ => True
theorem AllP.mono {P Q : V → V → Prop} (h : ∀ k x, P k x → Q k x) : ∀ l : List V, l.length % 2 = 0 → AllP P l → AllP Q l :=
  pairs_ind (fun _ => by rw [AllP]; trivial; intro _ _ _ h; cases h) (fun k x r _ ih ha => by rw [AllP] at ha ⊢; exact ⟨h k x ha.1, ih ha.2⟩)
def Qd (y : V) : Prop := y = MZ ∨ ∃ d, rightB y d = true
end Go.Proofs.YtaphlemmlmdkiaaDoor
namespace Go.Proofs.YtaphlemmlmdkiaaDoor
set_option linter.unusedSimpArgs false
set_option linter.unusedVariables false
set_option maxRecDepth 100000
open Go.RowKit
def fk (s : ByteArray) : Nat → List V → Int
  | i, k :: _ :: r => if k.k = 5 ∧ k.s = s then (i : Int) else fk s (i + 2) r
  | _, _ => -1
theorem fk_step (s : ByteArray) (ts : List V) (i : Nat) (hi : i + 1 < ts.length) : fk s i (ts.drop i) = if ts[i].k = 5 ∧ ts[i].s = s then (i : Int) else fk s (i + 2) (ts.drop (i + 2)) := by
  rw [List.drop_eq_getElem_cons (by omega : i < ts.length), List.drop_eq_getElem_cons hi, fk]
theorem fk_stop (s : ByteArray) (ts : List V) (i : Nat) (hi : ¬ i + 1 < ts.length) : fk s i (ts.drop i) = -1 := by
  cases h : ts.drop i with
  | nil => rw [fk]; intro _ _ _ h; cases h
  | cons a r =>
    cases r with
    | nil => rw [fk]; intro _ _ _ h; cases h
    | cons b r =>
      have := congrArg List.length h
      simp at this; omega
set_option maxHeartbeats 1000000 in
theorem l02Key_any (w0 : World) (v : Value) (ts : List V) (h : RepS w0 v ts) (hl : ts.length ≤ 1048576) (s : ByteArray) (w : World) (hw : Below w0.heap.size w0 w) :
    Calls Tryd.prog 64 #[v, .string s] w fun e w' => e = .returned (.int .i64 (fk s 0 ts)) ∧ w = w' := by
  obtain ⟨a, b, off, cap, rfl, ha, hc, hm, sls, hel⟩ := h.opened
  have HA := Lib.hid ha; have HE := Lib.hid hel; have HW := Lib.hid hw
  clear ha hel h hw
  go_enter Tryd.func64, Tryd.ntmps64
  go_wp2_with fail
  go_loop [5] (fun i => ∃ j : Nat, j ≤ ts.length + 1 ∧ i = .int .i64 j ∧ Hid (fk s 0 ts = fk s j (ts.drop j))) (fun i => ts.length + 2 - (intOf i).toNat)
  case atStart => exact ⟨0, by omega, rfl, Lib.hid (by rw [List.drop_zero])⟩
  case round =>
    obtain ⟨j, hj, rfl, HF⟩ := hrel
    by_cases hlt : j + 1 < ts.length
    · have hne : ts ≠ [] := by intro e; rw [e] at hlt; simp at hlt
      obtain ⟨rfl, hbw⟩ := HA.out hne
      have hjl : j < ts.length := by omega
      obtain ⟨c0, c1, c2, c3, c4⟩ := (HE.out j hjl).1.keep (HW.out.block b hbw)
      have HS := Lib.hid (fk_step s ts j hlt)
      by_cases h5 : ts[j].k = 5
      · by_cases hs : ts[j].s = s
        · have HR := Lib.hid (show fk s 0 ts = (j : Int) by rw [HF.out, HS.out, if_pos ⟨h5, hs⟩])
          have t5 : (ts[j].k == 5) = true := by simpa using h5
          have ts2 := ba_yes hs
          clear h5 hs
          generalize ts[j].k = kk at *
          generalize ts[j].s = ss at *
          go_wp2_with fail
          go_ret
          exact ⟨by rw [HR.out]; rfl, rfl⟩
        · have HR := Lib.hid (show fk s 0 ts = fk s (j + 2) (ts.drop (j + 2)) by rw [HF.out, HS.out, if_neg (fun e => hs e.2)])
          have t5 : (ts[j].k == 5) = true := by simpa using h5
          have ts2 := ba_no hs
          clear h5 hs HF
          generalize ts[j].k = kk at *
          generalize ts[j].s = ss at *
          go_wp2_with fail
          go_round
          case rel => exact ⟨j + 2, by omega, by go_num, HR⟩
          case measure => simp [intOf]; omega
      · have HR := Lib.hid (show fk s 0 ts = fk s (j + 2) (ts.drop (j + 2)) by rw [HF.out, HS.out, if_neg (fun e => h5 e.1)])
        have t5 : (ts[j].k == 5) = false := by simpa using h5
        clear h5 HF
        generalize ts[j].k = kk at *
        generalize ts[j].s = ss at *
        go_wp2_with fail
        go_round
        case rel => exact ⟨j + 2, by omega, by go_num, HR⟩
        case measure => simp [intOf]; omega
    · have HR := Lib.hid (show fk s 0 ts = -1 by rw [HF.out]; exact fk_stop s ts j hlt)
      go_wp2_with fail
      go_ret
      exact ⟨by rw [HR.out]; rfl, rfl⟩
set_option maxHeartbeats 1000000 in
theorem find_any (w0 : World) (v : Value) (t : V) (h : Rep w0 v t) (hl : t.kids.length ≤ 1048576) (s : ByteArray) (w : World) (hw : Below w0.heap.size w0 w) :
    Calls Tryd.prog 78 #[v, .string s] w fun e w' => e = .returned (.int .i64 (if t.k = 8 then fk s 0 t.kids else -1)) ∧ Below w.heap.size w w' := by
  obtain ⟨sl, rfl, hwf, hr⟩ := h
  obtain ⟨a, b, off, cap, rfl, ha, hc, hm, sls, hel⟩ := hr.opened
  have HA := Lib.hid ha; have HE := Lib.hid hel; have HW := Lib.hid hw
  have BX := Lib.hid (Box.new w t.k t.n t.e t.s (.slice a t.kids.length cap) 30)
  have HAL := Lib.hid (show Below w.heap.size w (w.alloc (.cells #[.int .i64 t.k, .int .i64 t.n, .int .i64 t.e, .string t.s, .slice a t.kids.length cap] 30)) from (Below.refl _ _).alloc (Nat.le_refl _) _)
  have H8 := Lib.hid (show t.k = 8 ∨ ¬ t.k = 8 from Decidable.em _)
  clear ha hel hr hw hwf
  generalize hQ : (if t.k = 8 then fk s 0 t.kids else -1) = Q at *
  have HQ := Lib.hid hQ
  clear hQ
  unfold V.agg
  generalize t.kids = ts at *
  generalize t.k = k at *
  generalize t.n = n at *
  generalize t.e = ee at *
  generalize t.s = st at *
  go_enter Tryd.func78, Tryd.ntmps78
  go_upto_region 1 with fail
  generalize (w.alloc (.cells #[.int .i64 k, .int .i64 n, .int .i64 ee, .string st, .slice a ts.length cap] 30)) = W at *
  have HWW := Lib.hid (HW.out.trans (HAL.out.mono HW.out.size))
  obtain ⟨z0, z1, z2, z3, z4⟩ := BX.out.cells
  rcases H8.out with h8 | h8
  case inr =>
    have t8 : (k == 8) = false := by simpa using h8
    have HR := Lib.hid (show Q = -1 by rw [← HQ.out, if_neg h8])
    clear h8 H8 HQ
    go_wp2_with fail
    go_loop [5] (fun i => i = .int .i64 0) (fun i => 0)
    case atStart => rfl
    case round =>
      obtain rfl := hrel
      go_wp2_with fail
      go_ret
      exact ⟨by rw [HR.out]; rfl, HAL.out⟩
  have t8 : (k == 8) = true := by simpa using h8
  have HR8 := Lib.hid (show Q = fk s 0 ts by rw [← HQ.out, if_pos h8])
  clear h8 H8 HQ
  go_wp2_with fail
  go_loop [5] (fun i => ∃ j : Nat, j ≤ ts.length + 1 ∧ i = .int .i64 j ∧ Hid (fk s 0 ts = fk s j (ts.drop j))) (fun i => ts.length + 2 - (intOf i).toNat)
  case atStart => exact ⟨0, by omega, rfl, Lib.hid (by rw [List.drop_zero])⟩
  case round =>
    obtain ⟨j, hj, rfl, HF⟩ := hrel
    by_cases hlt : j + 1 < ts.length
    · have hne : ts ≠ [] := by intro e; rw [e] at hlt; simp at hlt
      obtain ⟨rfl, hbw⟩ := HA.out hne
      have hjl : j < ts.length := by omega
      obtain ⟨c0, c1, c2, c3, c4⟩ := (HE.out j hjl).1.keep (HWW.out.block b hbw)
      have HS := Lib.hid (fk_step s ts j hlt)
      by_cases h5 : ts[j].k = 5
      · by_cases hs : ts[j].s = s
        · have HR := Lib.hid (show fk s 0 ts = (j : Int) by rw [HF.out, HS.out, if_pos ⟨h5, hs⟩])
          have t5 : (ts[j].k == 5) = true := by simpa using h5
          have ts2 := ba_yes hs
          clear h5 hs
          generalize ts[j].k = kk at *
          generalize ts[j].s = ss at *
          go_wp2_with fail
          go_ret
          exact ⟨by rw [HR8.out, HR.out]; rfl, HAL.out⟩
        · have HR := Lib.hid (show fk s 0 ts = fk s (j + 2) (ts.drop (j + 2)) by rw [HF.out, HS.out, if_neg (fun e => hs e.2)])
          have t5 : (ts[j].k == 5) = true := by simpa using h5
          have ts2 := ba_no hs
          clear h5 hs HF
          generalize ts[j].k = kk at *
          generalize ts[j].s = ss at *
          go_wp2_with fail
          go_round
          case rel => exact ⟨j + 2, by omega, by go_num, HR⟩
          case measure => simp [intOf]; omega
      · have HR := Lib.hid (show fk s 0 ts = fk s (j + 2) (ts.drop (j + 2)) by rw [HF.out, HS.out, if_neg (fun e => h5 e.1)])
        have t5 : (ts[j].k == 5) = false := by simpa using h5
        clear h5 HF
        generalize ts[j].k = kk at *
        generalize ts[j].s = ss at *
        go_wp2_with fail
        go_round
        case rel => exact ⟨j + 2, by omega, by go_num, HR⟩
        case measure => simp [intOf]; omega
    · have HR := Lib.hid (show fk s 0 ts = -1 by rw [HF.out]; exact fk_stop s ts j hlt)
      go_wp2_with fail
      go_ret
      exact ⟨by rw [HR8.out, HR.out]; rfl, HAL.out⟩
end Go.Proofs.YtaphlemmlmdkiaaDoor
namespace Go.Proofs.YtaphlemmlmdkiaaDoor
set_option linter.unusedSimpArgs false
set_option linter.unusedVariables false
set_option maxRecDepth 100000
open Go.RowKit Go.Shelf
def tagB : ByteArray := ⟨#[116, 97, 103]⟩
theorem tag_list : tagB.toList = [116, 97, 103] := by rw [ByteArray.toList_eq]; rfl
theorem tag_yes {s : ByteArray} (h : s = tagB) : (s.toList == [116, 97, 103]) = true ∧ s.toList = [116, 97, 103] := by rw [← tag_list]; exact ⟨ba_yes h, by rw [h]⟩
theorem tag_no {s : ByteArray} (h : ¬ s = tagB) : (s.toList == [116, 97, 103]) = false ∧ ¬ s.toList = [116, 97, 103] := by
  rw [← tag_list]
  have h2 := ba_no h
  exact ⟨h2, by simpa using h2⟩
def numS (s : ByteArray) : Int := match rdec s.data.toList with | some n => if 0 ≤ n ∧ n ≤ 999999 then n else -1 | none => -1
theorem numS_none {s : ByteArray} (h : rdec s.data.toList = none) : numS s = -1 := by unfold numS; rw [h]
theorem numS_in {s : ByteArray} {n : Int} (h : rdec s.data.toList = some n) (h2 : 0 ≤ n ∧ n ≤ 999999) : numS s = n := by unfold numS; rw [h]; exact if_pos h2
theorem numS_out {s : ByteArray} {n : Int} (h : rdec s.data.toList = some n) (h2 : ¬ (0 ≤ n ∧ n ≤ 999999)) : numS s = -1 := by unfold numS; rw [h]; exact if_neg h2
theorem numS_range (s : ByteArray) : -1 ≤ numS s ∧ numS s ≤ 999999 := by
  unfold numS
  split
  · split <;> omega
  · omega
def kidI (t : V) (s : ByteArray) : Int :=
  if t.k = 7 then (if numS s < t.kids.length then numS s else -1) else if t.k = 8 then (if 0 ≤ fk s 0 t.kids then fk s 0 t.kids + 1 else -1) else if t.k = 9 then (if s = tagB ∧ 0 < t.kids.length then 0 else -1) else -1
theorem fk_range (s : ByteArray) : ∀ (ts : List V) (i : Nat), fk s i ts = -1 ∨ ∃ j : Nat, fk s i ts = ((i + j : Nat) : Int) ∧ j + 1 < ts.length
  | [], i => by left; unfold fk; rfl
  | [x], i => by left; unfold fk; rfl
  | k :: x :: r, i => by
    rw [fk]
    split
    · right; exact ⟨0, by simp, by simp⟩
    · rcases fk_range s r (i + 2) with h | ⟨j, h1, h2⟩
      · left; exact h
      · right; exact ⟨j + 2, by rw [h1]; congr 1; omega, by simp; omega⟩
theorem kidI_range (t : V) (s : ByteArray) : -1 ≤ kidI t s ∧ kidI t s < t.kids.length ∧ (kidI t s < 0 → kidI t s = -1) := by
  have hn := numS_range s
  unfold kidI
  rcases fk_range s t.kids 0 with h | ⟨j, h1, h2⟩
  · repeat' split
    all_goals omega
  · repeat' split
    all_goals omega
set_option maxHeartbeats 1000000 in
theorem indexOf_any (s : ByteArray) (hs : s.size ≤ 1048576) (w : World) (hE : EnvD w) : Calls Tryd.prog 83 #[.string s] w fun e w' => e = .returned (.int .i64 (numS s)) ∧ Below w.heap.size w w' := by
  have RD := Lib.hid (ReadDec_impl s hs w hE)
  unfold RdRet at RD
  clear hE
  cases hr : rdec s.data.toList with
  | none =>
    rw [hr] at RD
    have HR := Lib.hid (numS_none hr)
    clear hr
    generalize numS s = N at *
    simp only [Option.getD_none, Option.isSome_none] at RD
    go_enter Tryd.func83, Tryd.ntmps83
    go_wp2_with fail
    refine RD.out.mono ?_
    rintro e w1 ⟨rfl, hb1⟩
    have HB := Lib.hid hb1
    clear hb1
    go_wp2_with fail
    go_ret
    exact ⟨by rw [HR.out]; rfl, HB.out⟩
  | some n =>
    rw [hr] at RD
    have hb := (rdec_is hr).1
    unfold In64 at hb
    simp only [Option.getD_some, Option.isSome_some] at RD
    by_cases h2 : 0 ≤ n ∧ n ≤ 999999
    · have HR := Lib.hid (numS_in hr h2)
      have IN := Lib.hid (fun W => within_yes n 0 999999 W h2.1 h2.2)
      clear hr
      generalize numS s = N at *
      go_enter Tryd.func83, Tryd.ntmps83
      go_wp2_with fail
      refine RD.out.mono ?_
      rintro e w1 ⟨rfl, hb1⟩
      have HB := Lib.hid hb1
      clear hb1
      go_wp2_with fail
      refine (IN.out _).mono ?_
      rintro e w2 ⟨rfl, rfl⟩
      go_wp2_with fail
      go_ret
      exact ⟨by rw [HR.out]; rfl, HB.out⟩
    · have HR := Lib.hid (numS_out hr h2)
      have IN := Lib.hid (fun W => within_no n 0 999999 W (by omega))
      clear hr
      generalize numS s = N at *
      go_enter Tryd.func83, Tryd.ntmps83
      go_wp2_with fail
      refine RD.out.mono ?_
      rintro e w1 ⟨rfl, hb1⟩
      have HB := Lib.hid hb1
      clear hb1
      go_wp2_with fail
      refine (IN.out _).mono ?_
      rintro e w2 ⟨rfl, rfl⟩
      go_wp2_with fail
      go_ret
      exact ⟨by rw [HR.out]; rfl, HB.out⟩
set_option maxHeartbeats 1000000 in
theorem l08Number_any (s : ByteArray) (hs : s.size ≤ 1048576) (w : World) : Calls Tryd.prog 80 #[.string s] w fun e w' => e = .returned (.int .i64 (numS s)) ∧ w' = w := by
  have RD := Lib.hid (ReadDec_spec s hs w)
  cases hr : rdec s.data.toList with
  | none =>
    rw [hr] at RD
    have HR := Lib.hid (numS_none hr)
    clear hr
    generalize numS s = N at *
    simp only [Option.getD_none, Option.isSome_none] at RD
    go_enter Tryd.func80, Tryd.ntmps80
    go_wp2_with fail
    refine RD.out.mono ?_
    rintro e w1 ⟨rfl, rfl⟩
    go_wp2_with fail
    go_ret
    exact ⟨by rw [HR.out]; rfl, rfl⟩
  | some n =>
    rw [hr] at RD
    have hb := (rdec_is hr).1
    unfold In64 at hb
    simp only [Option.getD_some, Option.isSome_some] at RD
    by_cases h2 : 0 ≤ n ∧ n ≤ 999999
    · have HR := Lib.hid (numS_in hr h2)
      have IN := Lib.hid (fun W => l01In_yes n 0 999999 W h2.1 h2.2)
      clear hr
      generalize numS s = N at *
      go_enter Tryd.func80, Tryd.ntmps80
      go_wp2_with fail
      refine RD.out.mono ?_
      rintro e w1 ⟨rfl, rfl⟩
      go_wp2_with fail
      refine (IN.out _).mono ?_
      rintro e w2 ⟨rfl, rfl⟩
      go_wp2_with fail
      go_ret
      exact ⟨by rw [HR.out]; rfl, rfl⟩
    · have HR := Lib.hid (numS_out hr h2)
      have IN := Lib.hid (fun W => l01In_no n 0 999999 W (by omega))
      clear hr
      generalize numS s = N at *
      go_enter Tryd.func80, Tryd.ntmps80
      go_wp2_with fail
      refine RD.out.mono ?_
      rintro e w1 ⟨rfl, rfl⟩
      go_wp2_with fail
      refine (IN.out _).mono ?_
      rintro e w2 ⟨rfl, rfl⟩
      go_wp2_with fail
      go_ret
      exact ⟨by rw [HR.out]; rfl, rfl⟩
set_option maxHeartbeats 2000000 in
theorem kidAt_any (w0 : World) (sl : Value) (t : V) (hwf : t.wf) (hr : RepS w0 sl t.kids) (hl : t.kids.length ≤ 1048576) (s : ByteArray) (hs : s.size ≤ 1048576) (w : World) (hw : Below w0.heap.size w0 w) (hE : EnvD w) :
    Calls Tryd.prog 58 #[t.agg sl, .string s] w fun e w' => e = .returned (.int .i64 (kidI t s)) ∧ Below w.heap.size w w' := by
  obtain ⟨a, cap, rfl⟩ := hr.slice
  have NU := Lib.hid (fun (W : World) (hW : Below w.heap.size w W) => indexOf_any s hs W (hE.keep hW))
  have FI := Lib.hid (fun (W : World) (hW : Below w0.heap.size w0 W) => find_any w0 _ t ⟨_, rfl, hwf, hr⟩ hl s W hW)
  have hnr := numS_range s
  have hfr := fk_range s t.kids 0
  have H7 := Lib.hid (show t.k = 7 → kidI t s = if numS s < t.kids.length then numS s else -1 from fun h => by unfold kidI; rw [if_pos h])
  have H8 := Lib.hid (show t.k = 8 → kidI t s = if 0 ≤ fk s 0 t.kids then fk s 0 t.kids + 1 else -1 from fun h => by unfold kidI; rw [if_neg (by omega), if_pos h])
  have H9 := Lib.hid (show t.k = 9 → kidI t s = if s = tagB ∧ 0 < t.kids.length then 0 else -1 from fun h => by unfold kidI; rw [if_neg (by omega), if_neg (by omega), if_pos h])
  have H0 := Lib.hid (show ¬ t.k = 7 → ¬ t.k = 8 → ¬ t.k = 9 → kidI t s = -1 from fun h1 h2 h3 => by unfold kidI; rw [if_neg h1, if_neg h2, if_neg h3])
  have BX := Lib.hid (Box.new w t.k t.n t.e t.s (.slice a t.kids.length cap) 30)
  have HAL := Lib.hid (show Below w.heap.size w (w.alloc (.cells #[.int .i64 t.k, .int .i64 t.n, .int .i64 t.e, .string t.s, .slice a t.kids.length cap] 30)) from (Below.refl _ _).alloc (Nat.le_refl _) _)
  have HWW := Lib.hid (hw.trans (HAL.out.mono hw.size))
  clear hr hw hwf hE
  unfold V.agg at *
  generalize kidI t s = Q at *
  generalize fk s 0 t.kids = FK at *
  generalize numS s = NS at *
  generalize t.kids = ts at *
  generalize t.k = k at *
  generalize t.n = n at *
  generalize t.e = ee at *
  generalize t.s = st at *
  go_enter Tryd.func58, Tryd.ntmps58
  go_upto_region 1 with fail
  generalize (w.alloc (.cells #[.int .i64 k, .int .i64 n, .int .i64 ee, .string st, .slice a ts.length cap] 30)) = W at *
  obtain ⟨z0, z1, z2, z3, z4⟩ := BX.out.cells
  by_cases h7 : k = 7
  · subst h7
    have HQ := Lib.hid (H7.out rfl)
    clear H7 H8 H9 H0 FI
    go_wp2_with fail
    refine (NU.out _ HAL.out).mono ?_
    rintro e w1 ⟨rfl, hb1⟩
    have HB1 := Lib.hid (HAL.out.trans (hb1.mono HAL.out.size))
    have hz1 := hb1
    have z4' : w1.cell? ⟨w.heap.size, 4, none⟩ = some (.slice a ts.length cap) := by rw [hb1.cell (p := ⟨w.heap.size, 4, none⟩) BX.out.lt]; exact z4
    clear hb1 hz1
    by_cases hlt : NS < ts.length
    · rw [if_pos hlt] at HQ
      go_wp2_with fail
      go_ret
      exact ⟨by rw [HQ.out]; rfl, HB1.out⟩
    · rw [if_neg hlt] at HQ
      go_wp2_with fail
      go_ret
      exact ⟨by rw [HQ.out]; rfl, HB1.out⟩
  by_cases h8 : k = 8
  · rw [if_pos h8] at FI
    subst h8
    have HQ := Lib.hid (H8.out rfl)
    clear H7 H8 H9 H0 NU
    go_wp2_with fail
    refine (FI.out _ HWW.out).mono ?_
    rintro e w1 ⟨rfl, hb1⟩
    have HB1 := Lib.hid (HAL.out.trans (hb1.mono HAL.out.size))
    clear hb1
    by_cases hlt : 0 ≤ FK
    · rw [if_pos hlt] at HQ
      have hfk : FK + 1 ≤ 1048576 := by omega
      go_wp2_with fail
      go_ret
      exact ⟨by rw [HQ.out]; rfl, HB1.out⟩
    · rw [if_neg hlt] at HQ
      go_wp2_with fail
      go_ret
      exact ⟨by rw [HQ.out]; rfl, HB1.out⟩
  by_cases h9 : k = 9
  · subst h9
    have HQ := Lib.hid (H9.out rfl)
    clear H7 H8 H9 H0 NU FI
    by_cases hs9 : s = tagB
    · obtain ⟨t9, t9b⟩ := tag_yes hs9
      by_cases h0 : 0 < ts.length
      · rw [if_pos ⟨hs9, h0⟩] at HQ
        clear hs9
        go_wp2_with fail
        go_ret
        exact ⟨by rw [HQ.out]; rfl, HAL.out⟩
      · rw [if_neg (fun h => h0 h.2)] at HQ
        clear hs9
        go_wp2_with fail
        go_ret
        exact ⟨by rw [HQ.out]; rfl, HAL.out⟩
    · obtain ⟨t9, t9b⟩ := tag_no hs9
      rw [if_neg (fun h => hs9 h.1)] at HQ
      clear hs9
      go_wp2_with fail
      go_ret
      exact ⟨by rw [HQ.out]; rfl, HAL.out⟩
  have HQ := Lib.hid (H0.out h7 h8 h9)
  clear H7 H8 H9 H0 NU FI
  go_wp2_with fail
  go_ret
  exact ⟨by rw [HQ.out]; rfl, HAL.out⟩
set_option maxHeartbeats 2000000 in
theorem l08Kid_any (w0 : World) (sl : Value) (t : V) (hwf : t.wf) (hr : RepS w0 sl t.kids) (hl : t.kids.length ≤ 1048576) (s : ByteArray) (hs : s.size ≤ 1048576) (w : World) (hw : Below w0.heap.size w0 w) :
    Calls Tryd.prog 53 #[t.agg sl, .string s] w fun e w' => e = .returned (.int .i64 (kidI t s)) ∧ Below w.heap.size w w' := by
  obtain ⟨a, cap, rfl⟩ := hr.slice
  have NU := Lib.hid (fun (W : World) => l08Number_any s hs W)
  have FI := Lib.hid (fun (W : World) (hW : Below w0.heap.size w0 W) => l02Key_any w0 _ t.kids hr hl s W hW)
  have hnr := numS_range s
  have hfr := fk_range s t.kids 0
  have H7 := Lib.hid (show t.k = 7 → kidI t s = if numS s < t.kids.length then numS s else -1 from fun h => by unfold kidI; rw [if_pos h])
  have H8 := Lib.hid (show t.k = 8 → kidI t s = if 0 ≤ fk s 0 t.kids then fk s 0 t.kids + 1 else -1 from fun h => by unfold kidI; rw [if_neg (by omega), if_pos h])
  have H9 := Lib.hid (show t.k = 9 → kidI t s = if s = tagB ∧ 0 < t.kids.length then 0 else -1 from fun h => by unfold kidI; rw [if_neg (by omega), if_neg (by omega), if_pos h])
  have H0 := Lib.hid (show ¬ t.k = 7 → ¬ t.k = 8 → ¬ t.k = 9 → kidI t s = -1 from fun h1 h2 h3 => by unfold kidI; rw [if_neg h1, if_neg h2, if_neg h3])
  have BX := Lib.hid (Box.new w t.k t.n t.e t.s (.slice a t.kids.length cap) 30)
  have HAL := Lib.hid (show Below w.heap.size w (w.alloc (.cells #[.int .i64 t.k, .int .i64 t.n, .int .i64 t.e, .string t.s, .slice a t.kids.length cap] 30)) from (Below.refl _ _).alloc (Nat.le_refl _) _)
  have HWW := Lib.hid (hw.trans (HAL.out.mono hw.size))
  clear hr hw hwf
  unfold V.agg at *
  generalize kidI t s = Q at *
  generalize fk s 0 t.kids = FK at *
  generalize numS s = NS at *
  generalize t.kids = ts at *
  generalize t.k = k at *
  generalize t.n = n at *
  generalize t.e = ee at *
  generalize t.s = st at *
  go_enter Tryd.func53, Tryd.ntmps53
  go_upto_region 1 with fail
  generalize (w.alloc (.cells #[.int .i64 k, .int .i64 n, .int .i64 ee, .string st, .slice a ts.length cap] 30)) = W at *
  obtain ⟨z0, z1, z2, z3, z4⟩ := BX.out.cells
  by_cases h7 : k = 7
  · subst h7
    have HQ := Lib.hid (H7.out rfl)
    clear H7 H8 H9 H0 FI
    go_wp2_with fail
    refine (NU.out _).mono ?_
    rintro e w1 ⟨rfl, rfl⟩
    have HB1 := HAL
    by_cases hlt : NS < ts.length
    · rw [if_pos hlt] at HQ
      go_wp2_with fail
      go_ret
      exact ⟨by rw [HQ.out]; rfl, HB1.out⟩
    · rw [if_neg hlt] at HQ
      go_wp2_with fail
      go_ret
      exact ⟨by rw [HQ.out]; rfl, HB1.out⟩
  by_cases h8 : k = 8
  · skip
    subst h8
    have HQ := Lib.hid (H8.out rfl)
    clear H7 H8 H9 H0 NU
    go_wp2_with fail
    refine (FI.out _ HWW.out).mono ?_
    rintro e w1 ⟨rfl, hww⟩
    subst hww
    have HB1 := HAL
    by_cases hlt : 0 ≤ FK
    · rw [if_pos hlt] at HQ
      have hfk : FK + 1 ≤ 1048576 := by omega
      go_wp2_with fail
      go_ret
      exact ⟨by rw [HQ.out]; rfl, HB1.out⟩
    · rw [if_neg hlt] at HQ
      go_wp2_with fail
      go_ret
      exact ⟨by rw [HQ.out]; rfl, HB1.out⟩
  by_cases h9 : k = 9
  · subst h9
    have HQ := Lib.hid (H9.out rfl)
    clear H7 H8 H9 H0 NU FI
    by_cases hs9 : s = tagB
    · obtain ⟨t9, t9b⟩ := tag_yes hs9
      by_cases h0 : 0 < ts.length
      · rw [if_pos ⟨hs9, h0⟩] at HQ
        clear hs9
        go_wp2_with fail
        go_ret
        exact ⟨by rw [HQ.out]; rfl, HAL.out⟩
      · rw [if_neg (fun h => h0 h.2)] at HQ
        clear hs9
        go_wp2_with fail
        go_ret
        exact ⟨by rw [HQ.out]; rfl, HAL.out⟩
    · obtain ⟨t9, t9b⟩ := tag_no hs9
      rw [if_neg (fun h => hs9 h.1)] at HQ
      clear hs9
      go_wp2_with fail
      go_ret
      exact ⟨by rw [HQ.out]; rfl, HAL.out⟩
  have HQ := Lib.hid (H0.out h7 h8 h9)
  clear H7 H8 H9 H0 NU FI
  go_wp2_with fail
  go_ret
  exact ⟨by rw [HQ.out]; rfl, HAL.out⟩
end Go.Proofs.YtaphlemmlmdkiaaDoor
namespace Go.Proofs.YtaphlemmlmdkiaaDoor
set_option linter.unusedSimpArgs false
set_option linter.unusedVariables false
set_option maxRecDepth 100000
def withK (t : V) (ks : List V) : V := .mk t.k t.n t.e t.s ks
theorem withK_kids (t : V) (ks : List V) : (withK t ks).kids = ks := rfl
def cutV (t : V) (j : Nat) : V := withK t (if t.k = 8 then t.kids.take (j - 1) ++ t.kids.drop (j + 1) else t.kids.take j ++ t.kids.drop (j + 1))
def setV (t : V) (j : Nat) (y : V) : V := withK t (t.kids.set j y)
def rmv : V → List ByteArray → Option V
  | _, [] => none
  | t, [s] => if kidI t s < 0 ∨ t.k = 9 then none else some (cutV t (kidI t s).toNat)
  | t, s :: s2 :: r => if kidI t s < 0 then none else match rmv (t.kids.getD (kidI t s).toNat V0) (s2 :: r) with
    | none => none
    | some y => some (setV t (kidI t s).toNat y)
def lessV : V → List ByteArray → V × Bool
  | t, [] => (t, false)
  | t, [s] => if kidI t s < 0 then (t, false) else (cutV t (kidI t s).toNat, decide (¬ t.k = 9))
  | t, s :: s2 :: r => if kidI t s < 0 then (t, false) else (setV t (kidI t s).toNat (lessV (t.kids.getD (kidI t s).toNat V0) (s2 :: r)).1, (lessV (t.kids.getD (kidI t s).toNat V0) (s2 :: r)).2)
theorem less_rmv : ∀ (st : List ByteArray) (t : V), (lessV t st).2 = (rmv t st).isSome ∧ ∀ y, rmv t st = some y → (lessV t st).1 = y
  | [], t => by rw [lessV, rmv]; exact ⟨rfl, fun y h => by cases h⟩
  | [s], t => by
    rw [lessV, rmv]
    by_cases h : kidI t s < 0
    · rw [if_pos h, if_pos (.inl h)]; exact ⟨rfl, fun y h => by cases h⟩
    · by_cases h9 : t.k = 9
      · rw [if_neg h, if_pos (.inr h9)]; exact ⟨by simp [h9], fun y h => by cases h⟩
      · rw [if_neg h, if_neg (fun e => e.elim h h9)]; exact ⟨by simp [h9], fun y h => by injection h⟩
  | s :: s2 :: r, t => by
    rw [lessV, rmv]
    by_cases h : kidI t s < 0
    · rw [if_pos h, if_pos h]; exact ⟨rfl, fun y h => by cases h⟩
    · rw [if_neg h, if_neg h]
      obtain ⟨h1, h2⟩ := less_rmv (s2 :: r) (t.kids.getD (kidI t s).toNat V0)
      cases hr : rmv (t.kids.getD (kidI t s).toNat V0) (s2 :: r) with
      | none => rw [hr] at h1; exact ⟨h1, fun y h => by cases h⟩
      | some y => rw [hr] at h1; exact ⟨h1, fun z hz => by injection hz with hz; rw [← hz, h2 y hr]⟩
theorem fk_at (s : ByteArray) : ∀ (ts : List V) (i : Nat), fk s i ts = -1 ∨ ∃ (j : Nat) (h : 2 * j + 1 < ts.length), fk s i ts = ((i + 2 * j : Nat) : Int) ∧ ts[2 * j].k = 5 ∧ ts[2 * j].s = s
  | [], i => by left; unfold fk; rfl
  | [x], i => by left; unfold fk; rfl
  | k :: x :: r, i => by
    rw [fk]
    by_cases h : k.k = 5 ∧ k.s = s
    · right; rw [if_pos h]; exact ⟨0, by simp, by simp, h.1, h.2⟩
    · rw [if_neg h]
      rcases fk_at s r (i + 2) with h | ⟨j, h1, h2, h3, h4⟩
      · left; exact h
      · right
        refine ⟨j + 1, by simp; omega, by rw [h2]; congr 1; omega, ?_, ?_⟩
        · exact h3
        · exact h4
theorem evV_set : ∀ (ts : List V) (j : Nat) (y : V), evV (ts.set (2 * j + 1) y) = evV ts
  | [], _, _ => rfl
  | [x], _, _ => rfl
  | a :: b :: r, 0, y => rfl
  | a :: b :: r, j + 1, y => by
    show evV (a :: b :: r.set (2 * j + 1) y) = evV (a :: b :: r)
    rw [evV, evV, evV_set r j y]
theorem evV_cut : ∀ (ts : List V) (j : Nat), (evV (ts.take (2 * j) ++ ts.drop (2 * j + 2))).Sublist (evV ts)
  | [], j => by simp [evV]
  | [x], 0 => by simp [evV]
  | [x], j + 1 => by
    rw [List.take_of_length_le (by simp; omega), List.drop_of_length_le (by simp), List.append_nil]
    exact List.Sublist.refl _
  | a :: b :: r, 0 => by
    show (evV r).Sublist (evV (a :: b :: r))
    rw [evV]; exact List.sublist_cons_self _ _
  | a :: b :: r, j + 1 => by
    show (evV (a :: b :: (r.take (2 * j) ++ r.drop (2 * j + 2)))).Sublist (evV (a :: b :: r))
    rw [evV, evV]
    exact (evV_cut r j).cons_cons a
theorem pairsB_set {ts : List V} (h : pairsB ts = true) (j : Nat) (y : V) : pairsB (ts.set (2 * j + 1) y) = true := by
  unfold pairsB at *
  rw [evV_set, List.length_set]
  exact h
theorem pairsB_cut {ts : List V} (h : pairsB ts = true) (j : Nat) (hj : 2 * j + 1 < ts.length) : pairsB (ts.take (2 * j) ++ ts.drop (2 * j + 2)) = true := by
  unfold pairsB keysB at *
  simp only [Bool.and_eq_true, decide_eq_true_eq, List.all_eq_true] at h ⊢
  have hl : (ts.take (2 * j) ++ ts.drop (2 * j + 2)).length = ts.length - 2 := by rw [List.length_append, List.length_take, List.length_drop]; omega
  have hs := evV_cut ts j
  refine ⟨⟨⟨fun x hx => h.1.1.1 x (hs.subset hx), h.1.1.2.sublist hs⟩, by omega⟩, by omega⟩
theorem rights_set : ∀ {ts : List V} {d : Int} (j : Nat) {y : V}, rightsB ts d = true → rightB y d = true → rightsB (ts.set j y) d = true
  | [], _, _, _, h, _ => h
  | a :: r, d, 0, y, h, hy => by
    rw [rightsB, Bool.and_eq_true] at h
    show rightsB (y :: r) d = true
    rw [rightsB, Bool.and_eq_true]; exact ⟨hy, h.2⟩
  | a :: r, d, j + 1, y, h, hy => by
    rw [rightsB, Bool.and_eq_true] at h
    show rightsB (a :: r.set j y) d = true
    rw [rightsB, Bool.and_eq_true]; exact ⟨h.1, rights_set j h.2 hy⟩
theorem rights_cut {ts : List V} {d : Int} (i j : Nat) (h : rightsB ts d = true) : rightsB (ts.take i ++ ts.drop j) d = true := by
  rw [rightsB_all, List.all_eq_true] at *
  intro x hx
  rw [List.mem_append] at hx
  exact h x (hx.elim List.mem_of_mem_take List.mem_of_mem_drop)
theorem nodess_set : ∀ {ts : List V} (j : Nat) {y : V}, y.nodes ≤ (ts.getD j V0).nodes → nodess (ts.set j y) ≤ nodess ts
  | [], _, _, _ => Nat.le_refl _
  | a :: r, 0, y, h => by
    show nodess (y :: r) ≤ nodess (a :: r)
    rw [nodess, nodess]
    have : y.nodes ≤ a.nodes := h
    omega
  | a :: r, j + 1, y, h => by
    show nodess (a :: r.set j y) ≤ nodess (a :: r)
    rw [nodess, nodess]
    have := nodess_set (ts := r) j (y := y) (by simpa using h)
    omega
theorem nodess_cut (ts : List V) (i j : Nat) (h : i ≤ j) : nodess (ts.take i ++ ts.drop j) ≤ nodess ts := by
  rw [nodess_append]
  have h1 : nodess ts = nodess (ts.take i) + nodess (ts.drop i) := by rw [← nodess_append, List.take_append_drop]
  have h2 : nodess (ts.drop i) = nodess ((ts.drop i).take (j - i)) + nodess ((ts.drop i).drop (j - i)) := by rw [← nodess_append, List.take_append_drop]
  rw [List.drop_drop, show i + (j - i) = j by omega] at h2
  omega
theorem nodeB_withK (t : V) (ks : List V) : nodeB (withK t ks) = nodeB t := by cases t; rfl
theorem kid_step {t : V} {s : ByteArray} {d : Int} (h : rightB t d = true) (hk : ¬ kidI t s < 0) : stepOk s = true ∧ (t.k = 7 ∨ t.k = 9 ∨ t.k = 8 ∧ ∃ j : Nat, kidI t s = ((2 * j + 1 : Nat) : Int) ∧ 2 * j + 1 < t.kids.length) := by
  unfold kidI at hk ⊢
  unfold stepOk
  by_cases h7 : t.k = 7
  · refine ⟨?_, .inl h7⟩
    rw [if_pos h7] at hk
    have hn : 0 ≤ numS s := by
      split at hk
      · omega
      · omega
    unfold numS at hn
    split at hn
    · rename_i n hr
      split at hn
      · rename_i hin
        have hi := (rdec_is hr).2
        obtain ⟨u, rfl⟩ := Int.eq_ofNat_of_zero_le hin.1
        rw [Lib.itoa_nonneg] at hi
        rw [Bool.and_eq_true, decide_eq_true_eq]
        constructor
        · rw [size_eq, ← hi, Lib.decDigits_length]
          have := nDigits_le 19 u (by omega)
          omega
        · unfold txt
          rw [← hi, Lib.validD_ascii (Lib.decDigits u).length _ (fun b hb => by
            have := dd_digit u b (List.mem_of_mem_take hb)
            omega), List.drop_length]
          rfl
      · omega
    · omega
  rw [if_neg h7] at hk ⊢
  by_cases h8 : t.k = 8
  · rw [if_pos h8] at hk ⊢
    rcases fk_at s t.kids 0 with e | ⟨j, hj, e, e5, es⟩
    · rw [e] at hk; simp at hk
    · have hr := rightsB_at (right_kids h) (2 * j) (by omega)
      have hn := (rightB_leaf hr).1
      unfold nodeB at hn
      rw [if_neg (by omega), if_neg (by omega), if_neg (by omega), if_pos e5, es, Bool.and_eq_true, decide_eq_true_eq] at hn
      refine ⟨?_, .inr (.inr ⟨h8, j, ?_, hj⟩)⟩
      · rw [Bool.and_eq_true, decide_eq_true_eq]; exact ⟨hn.1.2.2, hn.2⟩
      · rw [e, if_pos (by omega)]; omega
  rw [if_neg h8] at hk ⊢
  by_cases h9 : t.k = 9
  · rw [if_pos h9] at hk ⊢
    refine ⟨?_, .inr (.inl h9)⟩
    by_cases hs : s = tagB ∧ 0 < t.kids.length
    · rw [hs.1]
      rw [Bool.and_eq_true, decide_eq_true_eq]
      refine ⟨by decide, ?_⟩
      show Lib.validD [116, 97, 103] = true
      rw [Lib.validD_ascii 3 _ (by decide)]
      rfl
    · rw [if_neg hs] at hk; omega
  · rw [if_neg h9] at hk; omega
theorem right_mk {t : V} {d : Int} (h : rightB t d = true) : 0 ≤ d ∧ nodeB t = true ∧ (t.k = 8 → pairsB t.kids = true) ∧ rightsB t.kids (d - 1) = true ∧ (t.k = 9 → t.kids.length = 1) := by
  rw [rightB_eq] at h
  unfold ownB at h
  simp only [Bool.and_eq_true, decide_eq_true_eq] at h
  obtain ⟨⟨h1, h2, h3⟩, h4⟩ := h
  refine ⟨h1, h2, fun e => ?_, h4, fun e => ?_⟩
  · rw [if_neg (by omega), if_neg (by omega), if_pos e] at h3; exact h3
  · rw [if_neg (by omega), if_pos e] at h3; simpa using h3
theorem rmv_right : ∀ (st : List ByteArray) (t y : V) (d : Int), rightB t d = true → rmv t st = some y → rightB y d = true ∧ y.nodes ≤ t.nodes ∧ (st.length : Int) ≤ d ∧ ∀ s ∈ st, stepOk s = true
  | [], t, y, d, h, hr => by rw [rmv] at hr; cases hr
  | [s], t, y, d, h, hr => by
    rw [rmv] at hr
    split at hr
    · cases hr
    rename_i hk
    injection hr with hr
    have hk0 : ¬ kidI t s < 0 := fun e => hk (.inl e)
    have h9 : ¬ t.k = 9 := fun e => hk (.inr e)
    obtain ⟨hs, hc⟩ := kid_step h hk0
    obtain ⟨h1, h2, h3, h4, -⟩ := right_mk h
    have hlt := (kidI_range t s).2.1
    have hj : (kidI t s).toNat < t.kids.length := by omega
    have hkr := rightsB_at h4 _ hj
    have hd1 := (right_mk hkr).1
    refine ⟨?_, ?_, by simp; omega, fun x hx => by rw [List.mem_singleton] at hx; rw [hx]; exact hs⟩
    · rw [← hr, rightB_eq]
      simp only [Bool.and_eq_true, decide_eq_true_eq]
      unfold cutV
      rcases hc with h7 | h9' | ⟨h8, j, hj1, hj2⟩
      · rw [if_neg (by omega)]
        refine ⟨⟨h1, ?_⟩, rights_cut _ _ h4⟩
        unfold ownB
        rw [nodeB_withK, h2, Bool.true_and, if_pos (show (withK t _).k = 7 from h7)]
      · exact absurd h9' h9
      · rw [if_pos h8, hj1]
        have e1 : ((2 * j + 1 : Nat) : Int).toNat - 1 = 2 * j := by omega
        have e2 : ((2 * j + 1 : Nat) : Int).toNat + 1 = 2 * j + 2 := by omega
        rw [e1, e2]
        refine ⟨⟨h1, ?_⟩, rights_cut _ _ h4⟩
        unfold ownB
        have h8' : ∀ ks, (withK t ks).k = 8 := fun ks => h8
        rw [nodeB_withK, h2, Bool.true_and, if_neg (by rw [h8']; omega), if_neg (by rw [h8']; omega), if_pos (h8' _)]
        exact pairsB_cut (h3 h8) j hj2
    · rw [← hr, V.nodes_eq, V.nodes_eq t]
      unfold cutV
      split
      · have := nodess_cut t.kids ((kidI t s).toNat - 1) ((kidI t s).toNat + 1) (by omega)
        rw [withK_kids]; omega
      · have := nodess_cut t.kids ((kidI t s).toNat) ((kidI t s).toNat + 1) (by omega)
        rw [withK_kids]; omega
  | s :: s2 :: r, t, y, d, h, hr => by
    rw [rmv] at hr
    split at hr
    · cases hr
    rename_i hk0
    obtain ⟨hs, hc⟩ := kid_step h hk0
    obtain ⟨h1, h2, h3, h4, h9⟩ := right_mk h
    have hlt := (kidI_range t s).2.1
    have hj : (kidI t s).toNat < t.kids.length := by omega
    have hkr := rightsB_at h4 _ hj
    have hg : t.kids.getD (kidI t s).toNat V0 = t.kids[(kidI t s).toNat] := by rw [List.getD_eq_getElem?_getD, List.getElem?_eq_getElem hj]; rfl
    rw [hg] at hr
    cases hz : rmv t.kids[(kidI t s).toNat] (s2 :: r) with
    | none => rw [hz] at hr; cases hr
    | some z =>
      rw [hz] at hr
      injection hr with hr
      obtain ⟨g1, g2, g3, g4⟩ := rmv_right (s2 :: r) _ z _ hkr hz
      refine ⟨?_, ?_, by simp at g3 ⊢; omega, fun x hx => by
        rcases List.mem_cons.1 hx with e | e
        · rw [e]; exact hs
        · exact g4 x e⟩
      · rw [← hr, rightB_eq]
        simp only [Bool.and_eq_true, decide_eq_true_eq]
        unfold setV
        refine ⟨⟨h1, ?_⟩, rights_set _ h4 g1⟩
        unfold ownB
        rw [nodeB_withK, h2, Bool.true_and]
        rcases hc with h7 | h9' | ⟨h8, j, hj1, hj2⟩
        · rw [if_pos (show (withK t _).k = 7 from h7)]
        · have h9'' : ∀ ks, (withK t ks).k = 9 := fun ks => h9'
          rw [if_neg (by rw [h9'']; omega), if_pos (h9'' _), withK_kids, List.length_set, h9 h9']
          rfl
        · have h8' : ∀ ks, (withK t ks).k = 8 := fun ks => h8
          rw [if_neg (by rw [h8']; omega), if_neg (by rw [h8']; omega), if_pos (h8' _), withK_kids, hj1, Int.toNat_natCast]
          exact pairsB_set (h3 h8) j z
      · rw [← hr, V.nodes_eq, V.nodes_eq t]
        unfold setV
        have := nodess_set (ts := t.kids) (kidI t s).toNat (y := z) (by rw [hg]; exact g2)
        rw [withK_kids]; omega
theorem rmv_ok {t y : V} {st : List ByteArray} (h : okT t = true) (hr : rmv t st = some y) : okT y = true ∧ stepsOk st = true ∧ st ≠ [] := by
  unfold okT at *
  rw [Bool.and_eq_true, decide_eq_true_eq] at *
  obtain ⟨h1, h2, h3, h4⟩ := rmv_right st t y 12 h.1 hr
  refine ⟨⟨h1, by omega⟩, stepsOk_iff.2 ⟨by omega, fun s hs => ?_⟩, fun e => by rw [e, rmv] at hr; cases hr⟩
  have := h4 s hs
  unfold stepOk at this
  rwa [Bool.and_eq_true, decide_eq_true_eq] at this
end Go.Proofs.YtaphlemmlmdkiaaDoor
