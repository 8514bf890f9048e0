/- Lemmas for the statement of the last text of this claim: texts joined. -/
import Derived.Test.YtgbgeocmjdgmoaaDoorCbK01
import Derived.Test.YtgbgeocmjdgmoaaDoorCbK02
import Derived.Test.YtgbgeocmjdgmoaaDoorCbK03
import Derived.Deep.RegionHeld3
import Derived.Deep.RegionWith
import Derived.Lib.Hide
import Derived.OwnWalk
namespace Go.Proofs.YtgbgeocmjdgmoaaDoor
set_option linter.unusedSimpArgs false
set_option linter.unusedVariables false
set_option maxRecDepth 100000
open Go.RowKit
theorem own_nes (n e : Int) (s : ByteArray) : decide (n = 0 ∧ e = 0 ∧ s.size = 0) = ((n == 0) && (e == 0) && s.toList.isEmpty) := by
  rw [Bool.decide_and, Bool.decide_and, Bool.and_assoc]
  congr 1
  congr 1
  by_cases h : s.size = 0
  · rw [ba_empty h, ByteArray.toList_eq]; rfl
  · rw [(str_ne h).2.1, decide_eq_false h]
theorem own_es (e : Int) (s : ByteArray) : decide (e = 0 ∧ s.size = 0) = ((e == 0) && s.toList.isEmpty) := by
  have := own_nes 0 e s
  simpa using this
theorem own_s (s : ByteArray) : decide (s.size = 0) = s.toList.isEmpty := by
  have := own_nes 0 0 s
  simpa using this
theorem own_ne (n e : Int) (P : Prop) [Decidable P] : decide (n = 0 ∧ e = 0 ∧ P) = ((n == 0) && (e == 0) && decide P) := by
  rw [Bool.decide_and, Bool.decide_and, Bool.and_assoc]; rfl
theorem own_len (n : Nat) (q : Nat) : decide (n = q) = ((n : Int) == (q : Int)) := by
  by_cases h : n = q
  · subst h; simp
  · rw [decide_eq_false h]
    symm
    rw [beq_eq_false_iff_ne]
    omega
theorem l01In_any (a lo hi : Int) (w : World) : Calls Tryd.prog 102 #[.int .i64 a, .int .i64 lo, .int .i64 hi] w fun e w' => e = .returned (.bool (decide (lo ≤ a ∧ a ≤ hi))) ∧ w' = w := by
  by_cases h1 : lo ≤ a
  · by_cases h2 : a ≤ hi
    · have t1 : decide (lo ≤ a) = true := decide_eq_true h1
      have t2 : decide (a ≤ hi) = true := decide_eq_true h2
      rw [decide_eq_true ⟨h1, h2⟩]
      go_enter Tryd.func102, Tryd.ntmps102
      go_wp2_with fail
      go_ret
      exact ⟨rfl, rfl⟩
    · have t1 : decide (lo ≤ a) = true := decide_eq_true h1
      have t2 : decide (a ≤ hi) = false := decide_eq_false h2
      rw [decide_eq_false (fun h => h2 h.2)]
      go_enter Tryd.func102, Tryd.ntmps102
      go_wp2_with fail
      go_ret
      exact ⟨rfl, rfl⟩
  · have t1 : decide (lo ≤ a) = false := decide_eq_false h1
    rw [decide_eq_false (fun h => h1 h.1)]
    go_enter Tryd.func102, Tryd.ntmps102
    go_wp2_with fail
    go_ret
    exact ⟨rfl, rfl⟩

set_option maxHeartbeats 1000000 in
theorem own_a (t : V) (h : t.k = 0 ∨ t.k = 1 ∨ t.k = 2) : ownB t = ((t.n == 0) && (t.e == 0) && t.s.toList.isEmpty && ((t.kids.length : Int) == 0)) := by
  have h' := h
  unfold ownB nodeB
  rw [if_pos (by omega), if_neg (by omega), if_neg (by omega), if_neg (by omega), own_nes, own_len]; rfl
set_option maxHeartbeats 1000000 in
theorem own_b (t : V) (h : t.k = 3) : ownB t = ((t.e == 0) && t.s.toList.isEmpty && ((t.kids.length : Int) == 0)) := by
  have h' := h
  unfold ownB nodeB
  rw [if_neg (by omega), if_pos h, if_neg (by omega), if_neg (by omega), if_neg (by omega), own_es, own_len]; rfl
set_option maxHeartbeats 1000000 in
theorem own_c (t : V) (h : t.k = 4) : ownB t = ((t.n.tmod 10 != 0) && (decide (-999999999999999999 ≤ t.n ∧ t.n ≤ 999999999999999999)) && (decide (-20 ≤ t.e ∧ t.e ≤ 20)) && !(t.e == 0) && t.s.toList.isEmpty && ((t.kids.length : Int) == 0) && !(decide (0 < t.e) && (fits10 t.n t.e.toNat).isSome)) := by
  have h' := h
  unfold ownB nodeB
  rw [if_neg (by omega), if_neg (by omega), if_pos h, if_neg (by omega), if_neg (by omega), if_neg (by omega), own_s, own_len, decOk_eq]
  rw [show decide (t.e ≠ 0) = !(t.e == 0) by by_cases h0 : t.e = 0 <;> simp [h0]]
  rw [show decide (t.n.tmod 10 ≠ 0) = (t.n.tmod 10 != 0) by by_cases h0 : t.n.tmod 10 = 0 <;> simp [h0]]
  generalize (t.n.tmod 10 != 0) = a1
  generalize (decide (-999999999999999999 ≤ t.n ∧ t.n ≤ 999999999999999999)) = a2
  generalize decide (-20 ≤ t.e ∧ t.e ≤ 20) = a3
  generalize (t.e == 0) = a4
  generalize (decide (0 < t.e) && (fits10 t.n t.e.toNat).isSome) = a5
  generalize t.s.toList.isEmpty = a6
  show (a1 && a2 && a3 && !a4 && !a5 && a6 && ((t.kids.length : Int) == 0)) = _
  generalize ((t.kids.length : Int) == 0) = a7
  cases a1 <;> cases a2 <;> cases a3 <;> cases a4 <;> cases a5 <;> cases a6 <;> cases a7 <;> rfl
set_option maxHeartbeats 1000000 in
theorem own_d (t : V) (h : t.k = 5) : ownB t = ((t.n == 0) && (t.e == 0) && txt t.s && (decide ((t.s.size : Int) ≤ 2000)) && ((t.kids.length : Int) == 0)) := by
  have h' := h
  unfold ownB nodeB
  rw [if_neg (by omega), if_neg (by omega), if_neg (by omega), if_pos h, if_neg (by omega), if_neg (by omega), if_neg (by omega), own_ne, own_len]
  rw [show decide (t.s.size ≤ 2000) = decide ((t.s.size : Int) ≤ 2000) by rw [decide_eq_decide]; omega]
  generalize decide ((t.s.size : Int) ≤ 2000) = a1
  generalize txt t.s = a2
  generalize (t.n == 0) = a3
  generalize (t.e == 0) = a4
  cases a1 <;> cases a2 <;> cases a3 <;> cases a4 <;> rfl
set_option maxHeartbeats 1000000 in
theorem own_f (t : V) (h : t.k = 6) : ownB t = ((t.n == 0) && (t.e == 0) && (decide ((t.s.size : Int) ≤ 2000)) && ((t.kids.length : Int) == 0)) := by
  have h' := h
  unfold ownB nodeB
  rw [if_neg (by omega), if_neg (by omega), if_neg (by omega), if_neg (by omega), if_pos h, if_neg (by omega), if_neg (by omega), if_neg (by omega), own_ne, own_len]
  rw [show decide (t.s.size ≤ 2000) = decide ((t.s.size : Int) ≤ 2000) by rw [decide_eq_decide]; omega]
  rfl
set_option maxHeartbeats 1000000 in
theorem own_g (t : V) (h : t.k = 7) : ownB t = ((t.n == 0) && (t.e == 0) && t.s.toList.isEmpty) := by
  have h' := h
  unfold ownB nodeB
  rw [if_pos (by omega), if_pos h, own_nes, Bool.and_true]
set_option maxHeartbeats 1000000 in
theorem own_h (t : V) (h : t.k = 8) : ownB t = ((t.n == 0) && (t.e == 0) && t.s.toList.isEmpty && (pairsB t.kids)) := by
  have h' := h
  unfold ownB nodeB
  rw [if_pos (by omega), if_neg (by omega), if_neg (by omega), if_pos h, own_nes]
set_option maxHeartbeats 1000000 in
theorem own_i (t : V) (h : t.k = 9) : ownB t = ((decide (0 ≤ t.n ∧ t.n ≤ 1000000)) && (t.e == 0) && t.s.toList.isEmpty && ((t.kids.length : Int) == 1)) := by
  have h' := h
  unfold ownB nodeB
  rw [if_neg (by omega), if_neg (by omega), if_neg (by omega), if_neg (by omega), if_neg (by omega), if_pos h, if_neg (by omega), if_pos h, own_len]
  rw [show decide (0 ≤ t.n ∧ t.n ≤ 1000000 ∧ t.e = 0 ∧ t.s.size = 0) = (decide (0 ≤ t.n ∧ t.n ≤ 1000000) && (decide (t.e = 0 ∧ t.s.size = 0))) by rw [← Bool.decide_and, decide_eq_decide]; omega, own_es, ← Bool.and_assoc]
  rfl
theorem own_j (t : V) (h : ¬ (0 ≤ t.k ∧ t.k ≤ 9)) : ownB t = false := by
  unfold ownB nodeB
  rw [if_neg (by omega), if_neg (by omega), if_neg (by omega), if_neg (by omega), if_neg (by omega), if_neg (by omega)]; rfl
set_option maxHeartbeats 4000000 in
theorem l02Own_any (w0 : World) (v : Value) (t : V) (h : Rep w0 v t) (hsz : t.sz ≤ 1048576) (w : World) (hw : Below w0.heap.size w0 w) :
    Calls Tryd.prog 153 #[v] w (BoolRet (ownB t) w) := by
  obtain ⟨sl, rfl, hwf, hr⟩ := h
  have hks : t.kids.length ≤ 1048576 := by have := V.sz_eq t; have := szs_length t.kids; omega
  have hss : t.s.size ≤ 1048576 := by have := V.sz_eq t; omega
  obtain ⟨b, hb⟩ : ∃ b : Bool, b = ownB t := ⟨_, rfl⟩
  rw [← hb]
  obtain ⟨a, bb, off, cap, rfl, ha, hc, hm, sls, hel⟩ := hr.opened
  unfold V.agg
  have HB := Lib.hid hb
  have HW := Lib.hid hw
  have HR := Lib.hid hr
  have HWF := Lib.hid hwf
  clear hb ha hc hm hel hw hr hwf
  go_enter Tryd.func153, Tryd.ntmps153
  go_wp2_with fail
  go_quiet (fail)
  have LP := Lib.hid (fun (W : World) (hW : Below w.heap.size w W) => l02Pairs_any w0 _ t.kids HR.out W (HW.out.trans (hW.mono HW.out.size)) hks)
  have TO := Lib.hid (fun (W : World) => textOk_spec t.s W (by omega))
  have WH := Lib.hid (fun (W : World) => l02Whole_any t.n t.e HWF.out.2.1 HWF.out.2.2.1 W)
  have IN1 := Lib.hid (fun (W : World) => l01In_any t.n (-999999999999999999) 999999999999999999 W)
  have IN2 := Lib.hid (fun (W : World) => l01In_any t.e (-20) 20 W)
  have IN3 := Lib.hid (fun (W : World) => l01In_any t.n 0 1000000 W)
  obtain ⟨hwfk, -⟩ := HWF.out
  clear HW HR

  by_cases hk : t.k = 0 ∨ t.k = 1 ∨ t.k = 2
  case' pos =>
    have HB := Lib.hid (show b = ((t.n == 0) && (t.e == 0) && t.s.toList.isEmpty && ((t.kids.length : Int) == 0)) by rw [HB.out, own_a t hk])
    clear HWF LP TO WH IN1 IN2 IN3
    generalize hg0 : (t.n == 0) = g0 at *
    generalize hg1 : (t.e == 0) = g1 at *
    generalize hg2 : t.s.toList.isEmpty = g2 at *
    generalize hg3 : ((t.kids.length : Int) == 0) = g3 at *
    generalize t.k = xk at *
    rcases hk with rfl | rfl | rfl
    all_goals
      cases g0
      case false =>
        go_wp2_with fail
        go_ret
        exact ⟨by rw [HB.out]; simp, (by (repeat' (first | with_reducible exact Below.refl _ _ | with_reducible refine below_alloc ?_ _ ?_ | with_reducible refine Below.setCell ?_ ?_ _ | with_reducible refine Below.drew ?_ | with_reducible refine below_drewN ?_ _ | with_reducible refine below_step ?_ (by assumption) ?_ | with_reducible refine below_mark ?_ (by assumption) ?_)); all_goals (first | omega | (simp; done) | (simp; omega)))⟩
      case true =>
        cases g1
        case false =>
          go_wp2_with fail
          go_ret
          exact ⟨by rw [HB.out]; simp, (by (repeat' (first | with_reducible exact Below.refl _ _ | with_reducible refine below_alloc ?_ _ ?_ | with_reducible refine Below.setCell ?_ ?_ _ | with_reducible refine Below.drew ?_ | with_reducible refine below_drewN ?_ _ | with_reducible refine below_step ?_ (by assumption) ?_ | with_reducible refine below_mark ?_ (by assumption) ?_)); all_goals (first | omega | (simp; done) | (simp; omega)))⟩
        case true =>
          cases g2
          case false =>
            go_wp2_with fail
            go_ret
            exact ⟨by rw [HB.out]; simp, (by (repeat' (first | with_reducible exact Below.refl _ _ | with_reducible refine below_alloc ?_ _ ?_ | with_reducible refine Below.setCell ?_ ?_ _ | with_reducible refine Below.drew ?_ | with_reducible refine below_drewN ?_ _ | with_reducible refine below_step ?_ (by assumption) ?_ | with_reducible refine below_mark ?_ (by assumption) ?_)); all_goals (first | omega | (simp; done) | (simp; omega)))⟩
          case true =>
            cases g3
            case false =>
              go_wp2_with fail
              go_ret
              exact ⟨by rw [HB.out]; simp, (by (repeat' (first | with_reducible exact Below.refl _ _ | with_reducible refine below_alloc ?_ _ ?_ | with_reducible refine Below.setCell ?_ ?_ _ | with_reducible refine Below.drew ?_ | with_reducible refine below_drewN ?_ _ | with_reducible refine below_step ?_ (by assumption) ?_ | with_reducible refine below_mark ?_ (by assumption) ?_)); all_goals (first | omega | (simp; done) | (simp; omega)))⟩
            case true =>
              go_wp2_with fail
              go_ret
              exact ⟨by rw [HB.out]; rfl, (by (repeat' (first | with_reducible exact Below.refl _ _ | with_reducible refine below_alloc ?_ _ ?_ | with_reducible refine Below.setCell ?_ ?_ _ | with_reducible refine Below.drew ?_ | with_reducible refine below_drewN ?_ _ | with_reducible refine below_step ?_ (by assumption) ?_ | with_reducible refine below_mark ?_ (by assumption) ?_)); all_goals (first | omega | (simp; done) | (simp; omega)))⟩
  case' neg =>
    have hka := hk; clear hk
  by_cases hk : t.k = 3
  case' pos =>
    have HB := Lib.hid (show b = ((t.e == 0) && t.s.toList.isEmpty && ((t.kids.length : Int) == 0)) by rw [HB.out, own_b t hk])
    clear HWF LP TO WH IN1 IN2 IN3
    generalize hg0 : (t.e == 0) = g0 at *
    generalize hg1 : t.s.toList.isEmpty = g1 at *
    generalize hg2 : ((t.kids.length : Int) == 0) = g2 at *
    generalize t.k = xk at *
    subst hk
    cases g0
    case false =>
      go_wp2_with fail
      go_ret
      exact ⟨by rw [HB.out]; simp, (by (repeat' (first | with_reducible exact Below.refl _ _ | with_reducible refine below_alloc ?_ _ ?_ | with_reducible refine Below.setCell ?_ ?_ _ | with_reducible refine Below.drew ?_ | with_reducible refine below_drewN ?_ _ | with_reducible refine below_step ?_ (by assumption) ?_ | with_reducible refine below_mark ?_ (by assumption) ?_)); all_goals (first | omega | (simp; done) | (simp; omega)))⟩
    case true =>
      cases g1
      case false =>
        go_wp2_with fail
        go_ret
        exact ⟨by rw [HB.out]; simp, (by (repeat' (first | with_reducible exact Below.refl _ _ | with_reducible refine below_alloc ?_ _ ?_ | with_reducible refine Below.setCell ?_ ?_ _ | with_reducible refine Below.drew ?_ | with_reducible refine below_drewN ?_ _ | with_reducible refine below_step ?_ (by assumption) ?_ | with_reducible refine below_mark ?_ (by assumption) ?_)); all_goals (first | omega | (simp; done) | (simp; omega)))⟩
      case true =>
        cases g2
        case false =>
          go_wp2_with fail
          go_ret
          exact ⟨by rw [HB.out]; simp, (by (repeat' (first | with_reducible exact Below.refl _ _ | with_reducible refine below_alloc ?_ _ ?_ | with_reducible refine Below.setCell ?_ ?_ _ | with_reducible refine Below.drew ?_ | with_reducible refine below_drewN ?_ _ | with_reducible refine below_step ?_ (by assumption) ?_ | with_reducible refine below_mark ?_ (by assumption) ?_)); all_goals (first | omega | (simp; done) | (simp; omega)))⟩
        case true =>
          go_wp2_with fail
          go_ret
          exact ⟨by rw [HB.out]; rfl, (by (repeat' (first | with_reducible exact Below.refl _ _ | with_reducible refine below_alloc ?_ _ ?_ | with_reducible refine Below.setCell ?_ ?_ _ | with_reducible refine Below.drew ?_ | with_reducible refine below_drewN ?_ _ | with_reducible refine below_step ?_ (by assumption) ?_ | with_reducible refine below_mark ?_ (by assumption) ?_)); all_goals (first | omega | (simp; done) | (simp; omega)))⟩
  case' neg =>
    have hkb := hk; clear hk
  by_cases hk : t.k = 4
  case' pos =>
    have HB := Lib.hid (show b = ((t.n.tmod 10 != 0) && (decide (-999999999999999999 ≤ t.n ∧ t.n ≤ 999999999999999999)) && (decide (-20 ≤ t.e ∧ t.e ≤ 20)) && !(t.e == 0) && t.s.toList.isEmpty && ((t.kids.length : Int) == 0) && !(decide (0 < t.e) && (fits10 t.n t.e.toNat).isSome)) by rw [HB.out, own_c t hk])
    clear HWF LP TO IN3
    generalize hg0 : (t.n.tmod 10 != 0) = g0 at *
    obtain ⟨g1, hg1⟩ : ∃ g : Bool, g = ((decide (-999999999999999999 ≤ t.n ∧ t.n ≤ 999999999999999999))) := ⟨_, rfl⟩
    rw [← hg1] at HB IN1
    clear hg1
    obtain ⟨g2, hg2⟩ : ∃ g : Bool, g = ((decide (-20 ≤ t.e ∧ t.e ≤ 20))) := ⟨_, rfl⟩
    rw [← hg2] at HB IN2
    clear hg2
    generalize hg3 : (t.e == 0) = g3 at *
    generalize hg4 : t.s.toList.isEmpty = g4 at *
    generalize hg5 : ((t.kids.length : Int) == 0) = g5 at *
    obtain ⟨g6, hg6⟩ : ∃ g : Bool, g = ((decide (0 < t.e) && (fits10 t.n t.e.toNat).isSome)) := ⟨_, rfl⟩
    rw [← hg6] at HB WH
    clear hg6
    generalize t.k = xk at *
    subst hk
    cases g0
    case false =>
      go_wp2_with fail
      go_ret
      exact ⟨by rw [HB.out]; simp, (by (repeat' (first | with_reducible exact Below.refl _ _ | with_reducible refine below_alloc ?_ _ ?_ | with_reducible refine Below.setCell ?_ ?_ _ | with_reducible refine Below.drew ?_ | with_reducible refine below_drewN ?_ _ | with_reducible refine below_step ?_ (by assumption) ?_ | with_reducible refine below_mark ?_ (by assumption) ?_)); all_goals (first | omega | (simp; done) | (simp; omega)))⟩
    case true =>
      cases g1
      case false =>
        go_wp2_with fail
        refine (IN1.out _).mono ?_
        rintro x wx ⟨rfl, hwx⟩
        subst wx
        go_wp2_with fail
        go_ret
        exact ⟨by rw [HB.out]; simp, (by (repeat' (first | with_reducible exact Below.refl _ _ | with_reducible refine below_alloc ?_ _ ?_ | with_reducible refine Below.setCell ?_ ?_ _ | with_reducible refine Below.drew ?_ | with_reducible refine below_drewN ?_ _ | with_reducible refine below_step ?_ (by assumption) ?_ | with_reducible refine below_mark ?_ (by assumption) ?_)); all_goals (first | omega | (simp; done) | (simp; omega)))⟩
      case true =>
        cases g2
        case false =>
          go_wp2_with fail
          refine (IN1.out _).mono ?_
          rintro x wx ⟨rfl, hwx⟩
          subst wx
          go_wp2_with fail
          refine (IN2.out _).mono ?_
          rintro x wx ⟨rfl, hwx⟩
          subst wx
          go_wp2_with fail
          go_ret
          exact ⟨by rw [HB.out]; simp, (by (repeat' (first | with_reducible exact Below.refl _ _ | with_reducible refine below_alloc ?_ _ ?_ | with_reducible refine Below.setCell ?_ ?_ _ | with_reducible refine Below.drew ?_ | with_reducible refine below_drewN ?_ _ | with_reducible refine below_step ?_ (by assumption) ?_ | with_reducible refine below_mark ?_ (by assumption) ?_)); all_goals (first | omega | (simp; done) | (simp; omega)))⟩
        case true =>
          cases g3
          case true =>
            go_wp2_with fail
            refine (IN1.out _).mono ?_
            rintro x wx ⟨rfl, hwx⟩
            subst wx
            go_wp2_with fail
            refine (IN2.out _).mono ?_
            rintro x wx ⟨rfl, hwx⟩
            subst wx
            go_wp2_with fail
            go_ret
            exact ⟨by rw [HB.out]; simp, (by (repeat' (first | with_reducible exact Below.refl _ _ | with_reducible refine below_alloc ?_ _ ?_ | with_reducible refine Below.setCell ?_ ?_ _ | with_reducible refine Below.drew ?_ | with_reducible refine below_drewN ?_ _ | with_reducible refine below_step ?_ (by assumption) ?_ | with_reducible refine below_mark ?_ (by assumption) ?_)); all_goals (first | omega | (simp; done) | (simp; omega)))⟩
          case false =>
            cases g4
            case false =>
              go_wp2_with fail
              refine (IN1.out _).mono ?_
              rintro x wx ⟨rfl, hwx⟩
              subst wx
              go_wp2_with fail
              refine (IN2.out _).mono ?_
              rintro x wx ⟨rfl, hwx⟩
              subst wx
              go_wp2_with fail
              go_ret
              exact ⟨by rw [HB.out]; simp, (by (repeat' (first | with_reducible exact Below.refl _ _ | with_reducible refine below_alloc ?_ _ ?_ | with_reducible refine Below.setCell ?_ ?_ _ | with_reducible refine Below.drew ?_ | with_reducible refine below_drewN ?_ _ | with_reducible refine below_step ?_ (by assumption) ?_ | with_reducible refine below_mark ?_ (by assumption) ?_)); all_goals (first | omega | (simp; done) | (simp; omega)))⟩
            case true =>
              cases g5
              case false =>
                go_wp2_with fail
                refine (IN1.out _).mono ?_
                rintro x wx ⟨rfl, hwx⟩
                subst wx
                go_wp2_with fail
                refine (IN2.out _).mono ?_
                rintro x wx ⟨rfl, hwx⟩
                subst wx
                go_wp2_with fail
                go_ret
                exact ⟨by rw [HB.out]; simp, (by (repeat' (first | with_reducible exact Below.refl _ _ | with_reducible refine below_alloc ?_ _ ?_ | with_reducible refine Below.setCell ?_ ?_ _ | with_reducible refine Below.drew ?_ | with_reducible refine below_drewN ?_ _ | with_reducible refine below_step ?_ (by assumption) ?_ | with_reducible refine below_mark ?_ (by assumption) ?_)); all_goals (first | omega | (simp; done) | (simp; omega)))⟩
              case true =>
                cases g6
                case true =>
                  go_wp2_with fail
                  refine (IN1.out _).mono ?_
                  rintro x wx ⟨rfl, hwx⟩
                  subst wx
                  go_wp2_with fail
                  refine (IN2.out _).mono ?_
                  rintro x wx ⟨rfl, hwx⟩
                  subst wx
                  go_wp2_with fail
                  refine (WH.out _).mono ?_
                  rintro x wx ⟨rfl, hwx⟩
                  subst wx
                  go_wp2_with fail
                  go_ret
                  exact ⟨by rw [HB.out]; simp, (by (repeat' (first | with_reducible exact Below.refl _ _ | with_reducible refine below_alloc ?_ _ ?_ | with_reducible refine Below.setCell ?_ ?_ _ | with_reducible refine Below.drew ?_ | with_reducible refine below_drewN ?_ _ | with_reducible refine below_step ?_ (by assumption) ?_ | with_reducible refine below_mark ?_ (by assumption) ?_)); all_goals (first | omega | (simp; done) | (simp; omega)))⟩
                case false =>
                  go_wp2_with fail
                  refine (IN1.out _).mono ?_
                  rintro x wx ⟨rfl, hwx⟩
                  subst wx
                  go_wp2_with fail
                  refine (IN2.out _).mono ?_
                  rintro x wx ⟨rfl, hwx⟩
                  subst wx
                  go_wp2_with fail
                  refine (WH.out _).mono ?_
                  rintro x wx ⟨rfl, hwx⟩
                  subst wx
                  go_wp2_with fail
                  go_ret
                  exact ⟨by rw [HB.out]; rfl, (by (repeat' (first | with_reducible exact Below.refl _ _ | with_reducible refine below_alloc ?_ _ ?_ | with_reducible refine Below.setCell ?_ ?_ _ | with_reducible refine Below.drew ?_ | with_reducible refine below_drewN ?_ _ | with_reducible refine below_step ?_ (by assumption) ?_ | with_reducible refine below_mark ?_ (by assumption) ?_)); all_goals (first | omega | (simp; done) | (simp; omega)))⟩
  case' neg =>
    have hkc := hk; clear hk
  by_cases hk : t.k = 5
  case' pos =>
    have HB := Lib.hid (show b = ((t.n == 0) && (t.e == 0) && txt t.s && (decide ((t.s.size : Int) ≤ 2000)) && ((t.kids.length : Int) == 0)) by rw [HB.out, own_d t hk])
    clear HWF LP WH IN1 IN2 IN3
    generalize hg0 : (t.n == 0) = g0 at *
    generalize hg1 : (t.e == 0) = g1 at *
    obtain ⟨g2, hg2⟩ : ∃ g : Bool, g = (txt t.s) := ⟨_, rfl⟩
    rw [← hg2] at HB TO
    clear hg2
    generalize hg3 : (decide ((t.s.size : Int) ≤ 2000)) = g3 at *
    generalize hg4 : ((t.kids.length : Int) == 0) = g4 at *
    generalize t.k = xk at *
    subst hk
    cases g0
    case false =>
      go_wp2_with fail
      go_ret
      exact ⟨by rw [HB.out]; simp, (by (repeat' (first | with_reducible exact Below.refl _ _ | with_reducible refine below_alloc ?_ _ ?_ | with_reducible refine Below.setCell ?_ ?_ _ | with_reducible refine Below.drew ?_ | with_reducible refine below_drewN ?_ _ | with_reducible refine below_step ?_ (by assumption) ?_ | with_reducible refine below_mark ?_ (by assumption) ?_)); all_goals (first | omega | (simp; done) | (simp; omega)))⟩
    case true =>
      cases g1
      case false =>
        go_wp2_with fail
        go_ret
        exact ⟨by rw [HB.out]; simp, (by (repeat' (first | with_reducible exact Below.refl _ _ | with_reducible refine below_alloc ?_ _ ?_ | with_reducible refine Below.setCell ?_ ?_ _ | with_reducible refine Below.drew ?_ | with_reducible refine below_drewN ?_ _ | with_reducible refine below_step ?_ (by assumption) ?_ | with_reducible refine below_mark ?_ (by assumption) ?_)); all_goals (first | omega | (simp; done) | (simp; omega)))⟩
      case true =>
        cases g2
        case false =>
          go_wp2_with fail
          refine (TO.out _).mono ?_
          rintro x wx ⟨rfl, hbx⟩
          obtain ⟨c0, c1, c2, c3, c4⟩ := (show Box wx w.heap.size 5 t.n t.e t.s _ 26 from (hbx.block w.heap.size (by simp; done)).trans (Box.new w 5 t.n t.e t.s _ 26)).cells
          go_wp2_with fail
          go_ret
          exact ⟨by rw [HB.out]; simp, (by (repeat' (first | with_reducible exact Below.refl _ _ | with_reducible refine below_alloc ?_ _ ?_ | with_reducible refine Below.setCell ?_ ?_ _ | with_reducible refine Below.drew ?_ | with_reducible refine below_drewN ?_ _ | with_reducible refine below_step ?_ (by assumption) ?_ | with_reducible refine below_mark ?_ (by assumption) ?_)); all_goals (first | omega | (simp; done) | (simp; omega)))⟩
        case true =>
          cases g3
          case false =>
            go_wp2_with fail
            refine (TO.out _).mono ?_
            rintro x wx ⟨rfl, hbx⟩
            obtain ⟨c0, c1, c2, c3, c4⟩ := (show Box wx w.heap.size 5 t.n t.e t.s _ 26 from (hbx.block w.heap.size (by simp; done)).trans (Box.new w 5 t.n t.e t.s _ 26)).cells
            go_wp2_with fail
            go_ret
            exact ⟨by rw [HB.out]; simp, (by (repeat' (first | with_reducible exact Below.refl _ _ | with_reducible refine below_alloc ?_ _ ?_ | with_reducible refine Below.setCell ?_ ?_ _ | with_reducible refine Below.drew ?_ | with_reducible refine below_drewN ?_ _ | with_reducible refine below_step ?_ (by assumption) ?_ | with_reducible refine below_mark ?_ (by assumption) ?_)); all_goals (first | omega | (simp; done) | (simp; omega)))⟩
          case true =>
            cases g4
            case false =>
              go_wp2_with fail
              refine (TO.out _).mono ?_
              rintro x wx ⟨rfl, hbx⟩
              obtain ⟨c0, c1, c2, c3, c4⟩ := (show Box wx w.heap.size 5 t.n t.e t.s _ 26 from (hbx.block w.heap.size (by simp; done)).trans (Box.new w 5 t.n t.e t.s _ 26)).cells
              go_wp2_with fail
              go_ret
              exact ⟨by rw [HB.out]; simp, (by (repeat' (first | with_reducible exact Below.refl _ _ | with_reducible refine below_alloc ?_ _ ?_ | with_reducible refine Below.setCell ?_ ?_ _ | with_reducible refine Below.drew ?_ | with_reducible refine below_drewN ?_ _ | with_reducible refine below_step ?_ (by assumption) ?_ | with_reducible refine below_mark ?_ (by assumption) ?_)); all_goals (first | omega | (simp; done) | (simp; omega)))⟩
            case true =>
              go_wp2_with fail
              refine (TO.out _).mono ?_
              rintro x wx ⟨rfl, hbx⟩
              obtain ⟨c0, c1, c2, c3, c4⟩ := (show Box wx w.heap.size 5 t.n t.e t.s _ 26 from (hbx.block w.heap.size (by simp; done)).trans (Box.new w 5 t.n t.e t.s _ 26)).cells
              go_wp2_with fail
              go_ret
              exact ⟨by rw [HB.out]; rfl, (by (repeat' (first | with_reducible exact Below.refl _ _ | with_reducible refine below_alloc ?_ _ ?_ | with_reducible refine Below.setCell ?_ ?_ _ | with_reducible refine Below.drew ?_ | with_reducible refine below_drewN ?_ _ | with_reducible refine below_step ?_ (by assumption) ?_ | with_reducible refine below_mark ?_ (by assumption) ?_)); all_goals (first | omega | (simp; done) | (simp; omega)))⟩
  case' neg =>
    have hkd := hk; clear hk
  by_cases hk : t.k = 6
  case' pos =>
    have HB := Lib.hid (show b = ((t.n == 0) && (t.e == 0) && (decide ((t.s.size : Int) ≤ 2000)) && ((t.kids.length : Int) == 0)) by rw [HB.out, own_f t hk])
    clear HWF LP TO WH IN1 IN2 IN3
    generalize hg0 : (t.n == 0) = g0 at *
    generalize hg1 : (t.e == 0) = g1 at *
    generalize hg2 : (decide ((t.s.size : Int) ≤ 2000)) = g2 at *
    generalize hg3 : ((t.kids.length : Int) == 0) = g3 at *
    generalize t.k = xk at *
    subst hk
    cases g0
    case false =>
      go_wp2_with fail
      go_ret
      exact ⟨by rw [HB.out]; simp, (by (repeat' (first | with_reducible exact Below.refl _ _ | with_reducible refine below_alloc ?_ _ ?_ | with_reducible refine Below.setCell ?_ ?_ _ | with_reducible refine Below.drew ?_ | with_reducible refine below_drewN ?_ _ | with_reducible refine below_step ?_ (by assumption) ?_ | with_reducible refine below_mark ?_ (by assumption) ?_)); all_goals (first | omega | (simp; done) | (simp; omega)))⟩
    case true =>
      cases g1
      case false =>
        go_wp2_with fail
        go_ret
        exact ⟨by rw [HB.out]; simp, (by (repeat' (first | with_reducible exact Below.refl _ _ | with_reducible refine below_alloc ?_ _ ?_ | with_reducible refine Below.setCell ?_ ?_ _ | with_reducible refine Below.drew ?_ | with_reducible refine below_drewN ?_ _ | with_reducible refine below_step ?_ (by assumption) ?_ | with_reducible refine below_mark ?_ (by assumption) ?_)); all_goals (first | omega | (simp; done) | (simp; omega)))⟩
      case true =>
        cases g2
        case false =>
          go_wp2_with fail
          go_ret
          exact ⟨by rw [HB.out]; simp, (by (repeat' (first | with_reducible exact Below.refl _ _ | with_reducible refine below_alloc ?_ _ ?_ | with_reducible refine Below.setCell ?_ ?_ _ | with_reducible refine Below.drew ?_ | with_reducible refine below_drewN ?_ _ | with_reducible refine below_step ?_ (by assumption) ?_ | with_reducible refine below_mark ?_ (by assumption) ?_)); all_goals (first | omega | (simp; done) | (simp; omega)))⟩
        case true =>
          cases g3
          case false =>
            go_wp2_with fail
            go_ret
            exact ⟨by rw [HB.out]; simp, (by (repeat' (first | with_reducible exact Below.refl _ _ | with_reducible refine below_alloc ?_ _ ?_ | with_reducible refine Below.setCell ?_ ?_ _ | with_reducible refine Below.drew ?_ | with_reducible refine below_drewN ?_ _ | with_reducible refine below_step ?_ (by assumption) ?_ | with_reducible refine below_mark ?_ (by assumption) ?_)); all_goals (first | omega | (simp; done) | (simp; omega)))⟩
          case true =>
            go_wp2_with fail
            go_ret
            exact ⟨by rw [HB.out]; rfl, (by (repeat' (first | with_reducible exact Below.refl _ _ | with_reducible refine below_alloc ?_ _ ?_ | with_reducible refine Below.setCell ?_ ?_ _ | with_reducible refine Below.drew ?_ | with_reducible refine below_drewN ?_ _ | with_reducible refine below_step ?_ (by assumption) ?_ | with_reducible refine below_mark ?_ (by assumption) ?_)); all_goals (first | omega | (simp; done) | (simp; omega)))⟩
  case' neg =>
    have hkf := hk; clear hk
  by_cases hk : t.k = 7
  case' pos =>
    have HB := Lib.hid (show b = ((t.n == 0) && (t.e == 0) && t.s.toList.isEmpty) by rw [HB.out, own_g t hk])
    clear HWF LP TO WH IN1 IN2 IN3
    generalize hg0 : (t.n == 0) = g0 at *
    generalize hg1 : (t.e == 0) = g1 at *
    generalize hg2 : t.s.toList.isEmpty = g2 at *
    generalize t.k = xk at *
    subst hk
    cases g0
    case false =>
      go_wp2_with fail
      go_ret
      exact ⟨by rw [HB.out]; simp, (by (repeat' (first | with_reducible exact Below.refl _ _ | with_reducible refine below_alloc ?_ _ ?_ | with_reducible refine Below.setCell ?_ ?_ _ | with_reducible refine Below.drew ?_ | with_reducible refine below_drewN ?_ _ | with_reducible refine below_step ?_ (by assumption) ?_ | with_reducible refine below_mark ?_ (by assumption) ?_)); all_goals (first | omega | (simp; done) | (simp; omega)))⟩
    case true =>
      cases g1
      case false =>
        go_wp2_with fail
        go_ret
        exact ⟨by rw [HB.out]; simp, (by (repeat' (first | with_reducible exact Below.refl _ _ | with_reducible refine below_alloc ?_ _ ?_ | with_reducible refine Below.setCell ?_ ?_ _ | with_reducible refine Below.drew ?_ | with_reducible refine below_drewN ?_ _ | with_reducible refine below_step ?_ (by assumption) ?_ | with_reducible refine below_mark ?_ (by assumption) ?_)); all_goals (first | omega | (simp; done) | (simp; omega)))⟩
      case true =>
        cases g2
        case false =>
          go_wp2_with fail
          go_ret
          exact ⟨by rw [HB.out]; simp, (by (repeat' (first | with_reducible exact Below.refl _ _ | with_reducible refine below_alloc ?_ _ ?_ | with_reducible refine Below.setCell ?_ ?_ _ | with_reducible refine Below.drew ?_ | with_reducible refine below_drewN ?_ _ | with_reducible refine below_step ?_ (by assumption) ?_ | with_reducible refine below_mark ?_ (by assumption) ?_)); all_goals (first | omega | (simp; done) | (simp; omega)))⟩
        case true =>
          go_wp2_with fail
          go_ret
          exact ⟨by rw [HB.out]; rfl, (by (repeat' (first | with_reducible exact Below.refl _ _ | with_reducible refine below_alloc ?_ _ ?_ | with_reducible refine Below.setCell ?_ ?_ _ | with_reducible refine Below.drew ?_ | with_reducible refine below_drewN ?_ _ | with_reducible refine below_step ?_ (by assumption) ?_ | with_reducible refine below_mark ?_ (by assumption) ?_)); all_goals (first | omega | (simp; done) | (simp; omega)))⟩
  case' neg =>
    have hkg := hk; clear hk
  by_cases hk : t.k = 8
  case' pos =>
    have HB := Lib.hid (show b = ((t.n == 0) && (t.e == 0) && t.s.toList.isEmpty && (pairsB t.kids)) by rw [HB.out, own_h t hk])
    clear HWF TO WH IN1 IN2 IN3
    generalize hg0 : (t.n == 0) = g0 at *
    generalize hg1 : (t.e == 0) = g1 at *
    generalize hg2 : t.s.toList.isEmpty = g2 at *
    obtain ⟨g3, hg3⟩ : ∃ g : Bool, g = ((pairsB t.kids)) := ⟨_, rfl⟩
    rw [← hg3] at HB LP
    clear hg3
    generalize t.k = xk at *
    subst hk
    cases g0
    case false =>
      go_wp2_with fail
      go_ret
      exact ⟨by rw [HB.out]; simp, (by (repeat' (first | with_reducible exact Below.refl _ _ | with_reducible refine below_alloc ?_ _ ?_ | with_reducible refine Below.setCell ?_ ?_ _ | with_reducible refine Below.drew ?_ | with_reducible refine below_drewN ?_ _ | with_reducible refine below_step ?_ (by assumption) ?_ | with_reducible refine below_mark ?_ (by assumption) ?_)); all_goals (first | omega | (simp; done) | (simp; omega)))⟩
    case true =>
      cases g1
      case false =>
        go_wp2_with fail
        go_ret
        exact ⟨by rw [HB.out]; simp, (by (repeat' (first | with_reducible exact Below.refl _ _ | with_reducible refine below_alloc ?_ _ ?_ | with_reducible refine Below.setCell ?_ ?_ _ | with_reducible refine Below.drew ?_ | with_reducible refine below_drewN ?_ _ | with_reducible refine below_step ?_ (by assumption) ?_ | with_reducible refine below_mark ?_ (by assumption) ?_)); all_goals (first | omega | (simp; done) | (simp; omega)))⟩
      case true =>
        cases g2
        case false =>
          go_wp2_with fail
          go_ret
          exact ⟨by rw [HB.out]; simp, (by (repeat' (first | with_reducible exact Below.refl _ _ | with_reducible refine below_alloc ?_ _ ?_ | with_reducible refine Below.setCell ?_ ?_ _ | with_reducible refine Below.drew ?_ | with_reducible refine below_drewN ?_ _ | with_reducible refine below_step ?_ (by assumption) ?_ | with_reducible refine below_mark ?_ (by assumption) ?_)); all_goals (first | omega | (simp; done) | (simp; omega)))⟩
        case true =>
          cases g3
          case false =>
            go_wp2_with fail
            refine (LP.out _ ((by (repeat' (first | with_reducible exact Below.refl _ _ | with_reducible refine below_alloc ?_ _ ?_ | with_reducible refine Below.setCell ?_ ?_ _ | with_reducible refine Below.drew ?_ | with_reducible refine below_drewN ?_ _ | with_reducible refine below_step ?_ (by assumption) ?_ | with_reducible refine below_mark ?_ (by assumption) ?_)); all_goals (first | omega | (simp; done) | (simp; omega))))).mono ?_
            rintro x wx ⟨rfl, hbx⟩
            go_wp2_with fail
            go_ret
            exact ⟨by rw [HB.out]; simp, (by (repeat' (first | with_reducible exact Below.refl _ _ | with_reducible refine below_alloc ?_ _ ?_ | with_reducible refine Below.setCell ?_ ?_ _ | with_reducible refine Below.drew ?_ | with_reducible refine below_drewN ?_ _ | with_reducible refine below_step ?_ (by assumption) ?_ | with_reducible refine below_mark ?_ (by assumption) ?_)); all_goals (first | omega | (simp; done) | (simp; omega)))⟩
          case true =>
            go_wp2_with fail
            refine (LP.out _ ((by (repeat' (first | with_reducible exact Below.refl _ _ | with_reducible refine below_alloc ?_ _ ?_ | with_reducible refine Below.setCell ?_ ?_ _ | with_reducible refine Below.drew ?_ | with_reducible refine below_drewN ?_ _ | with_reducible refine below_step ?_ (by assumption) ?_ | with_reducible refine below_mark ?_ (by assumption) ?_)); all_goals (first | omega | (simp; done) | (simp; omega))))).mono ?_
            rintro x wx ⟨rfl, hbx⟩
            go_wp2_with fail
            go_ret
            exact ⟨by rw [HB.out]; rfl, (by (repeat' (first | with_reducible exact Below.refl _ _ | with_reducible refine below_alloc ?_ _ ?_ | with_reducible refine Below.setCell ?_ ?_ _ | with_reducible refine Below.drew ?_ | with_reducible refine below_drewN ?_ _ | with_reducible refine below_step ?_ (by assumption) ?_ | with_reducible refine below_mark ?_ (by assumption) ?_)); all_goals (first | omega | (simp; done) | (simp; omega)))⟩
  case' neg =>
    have hkh := hk; clear hk
  by_cases hk : t.k = 9
  case' pos =>
    have HB := Lib.hid (show b = ((decide (0 ≤ t.n ∧ t.n ≤ 1000000)) && (t.e == 0) && t.s.toList.isEmpty && ((t.kids.length : Int) == 1)) by rw [HB.out, own_i t hk])
    clear HWF LP TO WH IN1 IN2
    obtain ⟨g0, hg0⟩ : ∃ g : Bool, g = ((decide (0 ≤ t.n ∧ t.n ≤ 1000000))) := ⟨_, rfl⟩
    rw [← hg0] at HB IN3
    clear hg0
    generalize hg1 : (t.e == 0) = g1 at *
    generalize hg2 : t.s.toList.isEmpty = g2 at *
    generalize hg3 : ((t.kids.length : Int) == 1) = g3 at *
    generalize t.k = xk at *
    subst hk
    cases g0
    case false =>
      go_wp2_with fail
      refine (IN3.out _).mono ?_
      rintro x wx ⟨rfl, hwx⟩
      subst wx
      go_wp2_with fail
      go_ret
      exact ⟨by rw [HB.out]; simp, (by (repeat' (first | with_reducible exact Below.refl _ _ | with_reducible refine below_alloc ?_ _ ?_ | with_reducible refine Below.setCell ?_ ?_ _ | with_reducible refine Below.drew ?_ | with_reducible refine below_drewN ?_ _ | with_reducible refine below_step ?_ (by assumption) ?_ | with_reducible refine below_mark ?_ (by assumption) ?_)); all_goals (first | omega | (simp; done) | (simp; omega)))⟩
    case true =>
      cases g1
      case false =>
        go_wp2_with fail
        refine (IN3.out _).mono ?_
        rintro x wx ⟨rfl, hwx⟩
        subst wx
        go_wp2_with fail
        go_ret
        exact ⟨by rw [HB.out]; simp, (by (repeat' (first | with_reducible exact Below.refl _ _ | with_reducible refine below_alloc ?_ _ ?_ | with_reducible refine Below.setCell ?_ ?_ _ | with_reducible refine Below.drew ?_ | with_reducible refine below_drewN ?_ _ | with_reducible refine below_step ?_ (by assumption) ?_ | with_reducible refine below_mark ?_ (by assumption) ?_)); all_goals (first | omega | (simp; done) | (simp; omega)))⟩
      case true =>
        cases g2
        case false =>
          go_wp2_with fail
          refine (IN3.out _).mono ?_
          rintro x wx ⟨rfl, hwx⟩
          subst wx
          go_wp2_with fail
          go_ret
          exact ⟨by rw [HB.out]; simp, (by (repeat' (first | with_reducible exact Below.refl _ _ | with_reducible refine below_alloc ?_ _ ?_ | with_reducible refine Below.setCell ?_ ?_ _ | with_reducible refine Below.drew ?_ | with_reducible refine below_drewN ?_ _ | with_reducible refine below_step ?_ (by assumption) ?_ | with_reducible refine below_mark ?_ (by assumption) ?_)); all_goals (first | omega | (simp; done) | (simp; omega)))⟩
        case true =>
          cases g3
          case false =>
            go_wp2_with fail
            refine (IN3.out _).mono ?_
            rintro x wx ⟨rfl, hwx⟩
            subst wx
            go_wp2_with fail
            go_ret
            exact ⟨by rw [HB.out]; simp, (by (repeat' (first | with_reducible exact Below.refl _ _ | with_reducible refine below_alloc ?_ _ ?_ | with_reducible refine Below.setCell ?_ ?_ _ | with_reducible refine Below.drew ?_ | with_reducible refine below_drewN ?_ _ | with_reducible refine below_step ?_ (by assumption) ?_ | with_reducible refine below_mark ?_ (by assumption) ?_)); all_goals (first | omega | (simp; done) | (simp; omega)))⟩
          case true =>
            go_wp2_with fail
            refine (IN3.out _).mono ?_
            rintro x wx ⟨rfl, hwx⟩
            subst wx
            go_wp2_with fail
            go_ret
            exact ⟨by rw [HB.out]; rfl, (by (repeat' (first | with_reducible exact Below.refl _ _ | with_reducible refine below_alloc ?_ _ ?_ | with_reducible refine Below.setCell ?_ ?_ _ | with_reducible refine Below.drew ?_ | with_reducible refine below_drewN ?_ _ | with_reducible refine below_step ?_ (by assumption) ?_ | with_reducible refine below_mark ?_ (by assumption) ?_)); all_goals (first | omega | (simp; done) | (simp; omega)))⟩
  case' neg =>
    have hki := hk; clear hk
  have HB := Lib.hid (show b = false by rw [HB.out, own_j t (by omega)])
  clear HWF LP TO WH IN1 IN2 IN3
  generalize t.k = xk at *
  have t0 : (xk == 0) = false := by rw [beq_eq_false_iff_ne]; omega
  have t1 : (xk == 1) = false := by rw [beq_eq_false_iff_ne]; omega
  have t2 : (xk == 2) = false := by rw [beq_eq_false_iff_ne]; omega
  have t3 : (xk == 3) = false := by rw [beq_eq_false_iff_ne]; omega
  have t4 : (xk == 4) = false := by rw [beq_eq_false_iff_ne]; omega
  have t5 : (xk == 5) = false := by rw [beq_eq_false_iff_ne]; omega
  have t6 : (xk == 6) = false := by rw [beq_eq_false_iff_ne]; omega
  have t7 : (xk == 7) = false := by rw [beq_eq_false_iff_ne]; omega
  have t8 : (xk == 8) = false := by rw [beq_eq_false_iff_ne]; omega
  have t9 : (xk == 9) = false := by rw [beq_eq_false_iff_ne]; omega
  clear hka hkb hkc hkd hkf hkg hkh hki
  go_wp2_with fail
  go_ret
  exact ⟨by rw [HB.out]; rfl, (by (repeat' (first | with_reducible exact Below.refl _ _ | with_reducible refine below_alloc ?_ _ ?_ | with_reducible refine Below.setCell ?_ ?_ _ | with_reducible refine Below.drew ?_ | with_reducible refine below_drewN ?_ _ | with_reducible refine below_step ?_ (by assumption) ?_ | with_reducible refine below_mark ?_ (by assumption) ?_)); all_goals (first | omega | (simp; done) | (simp; omega)))⟩
theorem rightsB_take (ts : List V) (d : Int) (j : Nat) (hj : j < ts.length) : rightsB (ts.take (j + 1)) d = (rightsB (ts.take j) d && rightB ts[j] d) := by
  rw [rightsB_all, rightsB_all, List.take_succ_eq_append_getElem hj, List.all_append]
  simp
theorem rightsB_stuck (ts : List V) (d : Int) (j : Nat) (hj : j < ts.length) (h : rightB ts[j] d = false) : rightsB ts d = false := by
  rw [rightsB_all, Bool.eq_false_iff]
  intro hc
  rw [List.all_eq_true] at hc
  rw [hc _ (List.getElem_mem hj)] at h
  exact absurd h (by simp)
set_option maxHeartbeats 1000000 in
theorem l02Right_all (w0 : World) : ∀ (N : Nat) (v : Value) (t : V), t.sz < N → Rep w0 v t → t.sz ≤ 1048576 → ∀ (d : Int), -9223372036854775807 ≤ d → d ≤ 9223372036854775807 → ∀ (w : World), Below w0.heap.size w0 w →
    Calls Tryd.prog 94 #[v, .int .i64 d] w (BoolRet (rightB t d) w) := by
  intro N
  induction N with
  | zero => intro v t h; omega
  | succ N ih =>
    intro v t hN h hsz d hd0 hd1 w hw
    by_cases hd : d < 0
    · have t1 : decide (d < 0) = true := decide_eq_true hd
      rw [show rightB t d = false by rw [rightB_eq, decide_eq_false (show ¬ (0 ≤ d) by omega)]; rfl]
      obtain ⟨sl, rfl, hwf, hr⟩ := h
      unfold V.agg
      clear ih hr
      go_enter Tryd.func94, Tryd.ntmps94
      go_wp2_with fail
      go_ret
      exact ⟨rfl, (by (repeat' (first | with_reducible exact Below.refl _ _ | with_reducible refine below_alloc ?_ _ ?_ | with_reducible refine Below.setCell ?_ ?_ _ | with_reducible refine Below.drew ?_ | with_reducible refine below_drewN ?_ _ | with_reducible refine below_step ?_ (by assumption) ?_ | with_reducible refine below_mark ?_ (by assumption) ?_)); all_goals (first | omega | (simp; done) | (simp; omega)))⟩
    have t1 : decide (d < 0) = false := decide_eq_false hd
    have OW := Lib.hid (fun (W : World) (hW : Below w.heap.size w W) => l02Own_any w0 v t h hsz W (hw.trans (hW.mono hw.size)))
    obtain ⟨sl, rfl, hwf, hr⟩ := h
    have hks : t.kids.length ≤ 1048576 := by have := V.sz_eq t; have := szs_length t.kids; omega
    obtain ⟨b, hb⟩ : ∃ b : Bool, b = rightB t d := ⟨_, rfl⟩
    rw [← hb]
    have HB := Lib.hid (show b = (ownB t && rightsB t.kids (d - 1)) by rw [hb, rightB_eq, decide_eq_true (show 0 ≤ d by omega)]; rfl)
    have HW := Lib.hid hw
    obtain ⟨a, bb, off, cap, rfl, ha, hc, hm, sls, hel⟩ := hr.opened
    have HA := Lib.hid ha
    have IH := Lib.hid (fun (j : Nat) (hj : j < t.kids.length) (W : World) (hW : Below w.heap.size w W) => ih (t.kids[j].agg (sls j)) t.kids[j] (by have := V.sz_eq t; have := szs_mem (List.getElem_mem hj); omega) ⟨sls j, rfl, (hel j hj).2.1, (hel j hj).2.2⟩ (by have := V.sz_eq t; have := szs_mem (List.getElem_mem hj); omega) (d - 1) (by omega) (by omega) W (hw.trans (hW.mono hw.size)))
    have HE := Lib.hid hel
    clear ih hr hel ha hb hw hc hm
    have BX := Lib.hid (Box.new w t.k t.n t.e t.s (.slice a t.kids.length cap) 26)
    unfold V.agg at OW ⊢
    cases ho : ownB t
    case false =>
      have HB := Lib.hid (show b = false by rw [HB.out, ho]; rfl)
      rw [ho] at OW
      clear IH HE
      go_enter Tryd.func94, Tryd.ntmps94
      go_wp2_with fail
      refine (OW.out _ ((by (repeat' (first | with_reducible exact Below.refl _ _ | with_reducible refine below_alloc ?_ _ ?_ | with_reducible refine Below.setCell ?_ ?_ _ | with_reducible refine Below.drew ?_ | with_reducible refine below_drewN ?_ _ | with_reducible refine below_step ?_ (by assumption) ?_ | with_reducible refine below_mark ?_ (by assumption) ?_)); all_goals (first | omega | (simp; done) | (simp; omega))))).mono ?_
      rintro x w1 ⟨rfl, hb1⟩
      go_wp2_with fail
      go_ret
      exact ⟨by rw [HB.out]; rfl, (by (repeat' (first | with_reducible exact Below.refl _ _ | with_reducible refine below_alloc ?_ _ ?_ | with_reducible refine Below.setCell ?_ ?_ _ | with_reducible refine Below.drew ?_ | with_reducible refine below_drewN ?_ _ | with_reducible refine below_step ?_ (by assumption) ?_ | with_reducible refine below_mark ?_ (by assumption) ?_)); all_goals (first | omega | (simp; done) | (simp; omega)))⟩
    rw [ho, Bool.true_and] at HB
    rw [ho] at OW
    clear ho
    go_enter Tryd.func94, Tryd.ntmps94
    go_wp2_with fail
    refine (OW.out _ ((by (repeat' (first | with_reducible exact Below.refl _ _ | with_reducible refine below_alloc ?_ _ ?_ | with_reducible refine Below.setCell ?_ ?_ _ | with_reducible refine Below.drew ?_ | with_reducible refine below_drewN ?_ _ | with_reducible refine below_step ?_ (by assumption) ?_ | with_reducible refine below_mark ?_ (by assumption) ?_)); all_goals (first | omega | (simp; done) | (simp; omega))))).mono ?_
    rintro x w1 ⟨rfl, hb1⟩
    have hz1 := hb1.size
    simp at hz1
    have BX := Lib.hid (BX.out.stay hb1)
    obtain ⟨c0, c1, c2, c3, c4⟩ := BX.out.cells
    clear OW c0 c1 c2 c3
    go_wp2_with fail
    go_loopw [5] (fun i wr => ∃ j : Nat, j ≤ t.kids.length ∧ i = .int .i64 j ∧ Hid (rightsB (t.kids.take j) (d - 1) = true) ∧ Below w1.heap.size w1 wr) (fun i _ => t.kids.length + 1 - (intOf i).toNat)
    case atStart => exact ⟨0, by omega, rfl, Lib.hid rfl, Below.refl _ _⟩
    case round =>
      obtain ⟨j, hj, rfl, HN, hbl⟩ := hrel
      obtain ⟨-, -, -, -, c4⟩ := (BX.out.stay hbl).cells
      by_cases hlt : j < t.kids.length
      · have hne : t.kids ≠ [] := by intro e; rw [e] at hlt; simp at hlt
        obtain ⟨rfl, hbw⟩ := HA.out hne
        have HWR := Lib.hid (show Below w0.heap.size w0 wr from HW.out.trans (Below.mono ((by (repeat' (first | with_reducible exact Below.refl _ _ | with_reducible refine below_alloc ?_ _ ?_ | with_reducible refine Below.setCell ?_ ?_ _ | with_reducible refine Below.drew ?_ | with_reducible refine below_drewN ?_ _ | with_reducible refine below_step ?_ (by assumption) ?_ | with_reducible refine below_mark ?_ (by assumption) ?_)); all_goals (first | omega | (simp; done) | (simp; omega)))) HW.out.size))
        obtain ⟨d0, d1, d2, d3, d4⟩ := (HE.out j hlt).1.keep (HWR.out.block bb hbw)
        have IHJ := Lib.hid (IH.out j hlt)
        obtain ⟨ak, kcap, hks⟩ := (HE.out j hlt).2.2.slice
        rw [hks] at d4 IHJ
        clear hks
        have hdd : IntKind.i64.wrap (d - 1) = d - 1 := IntWalk.i64_in _ (by omega)
        have HT := Lib.hid (rightsB_take t.kids (d - 1) j hlt)
        have HS := Lib.hid (rightsB_stuck t.kids (d - 1) j hlt)
        rw [HN.out, Bool.true_and] at HT
        clear IH
        unfold V.agg at IHJ
        cases hrb : rightB t.kids[j] (d - 1)
        · have HX := Lib.hid (show b = false by rw [HB.out, HS.out hrb])
          rw [hrb] at IHJ
          clear HT HS hrb
          go_wp2_with fail
          refine (IHJ.out _ ((by (repeat' (first | with_reducible exact Below.refl _ _ | with_reducible refine below_alloc ?_ _ ?_ | with_reducible refine Below.setCell ?_ ?_ _ | with_reducible refine Below.drew ?_ | with_reducible refine below_drewN ?_ _ | with_reducible refine below_step ?_ (by assumption) ?_ | with_reducible refine below_mark ?_ (by assumption) ?_)); all_goals (first | omega | (simp; done) | (simp; omega))))).mono ?_
          rintro x wx ⟨rfl, hbx⟩
          go_wp2_with fail
          go_ret
          exact ⟨by rw [HX.out]; rfl, (by (repeat' (first | with_reducible exact Below.refl _ _ | with_reducible refine below_alloc ?_ _ ?_ | with_reducible refine Below.setCell ?_ ?_ _ | with_reducible refine Below.drew ?_ | with_reducible refine below_drewN ?_ _ | with_reducible refine below_step ?_ (by assumption) ?_ | with_reducible refine below_mark ?_ (by assumption) ?_)); all_goals (first | omega | (simp; done) | (simp; omega)))⟩
        · rw [hrb] at IHJ HT
          clear HS hrb
          go_wp2_with fail
          refine (IHJ.out _ ((by (repeat' (first | with_reducible exact Below.refl _ _ | with_reducible refine below_alloc ?_ _ ?_ | with_reducible refine Below.setCell ?_ ?_ _ | with_reducible refine Below.drew ?_ | with_reducible refine below_drewN ?_ _ | with_reducible refine below_step ?_ (by assumption) ?_ | with_reducible refine below_mark ?_ (by assumption) ?_)); all_goals (first | omega | (simp; done) | (simp; omega))))).mono ?_
          rintro x wx ⟨rfl, hbx⟩
          go_wp2_with fail
          go_roundw
          case rel => exact ⟨j + 1, by omega, by go_num, HT, (by (repeat' (first | with_reducible exact Below.refl _ _ | with_reducible refine below_alloc ?_ _ ?_ | with_reducible refine Below.setCell ?_ ?_ _ | with_reducible refine Below.drew ?_ | with_reducible refine below_drewN ?_ _ | with_reducible refine below_step ?_ (by assumption) ?_ | with_reducible refine below_mark ?_ (by assumption) ?_)); all_goals (first | omega | (simp; done) | (simp; omega)))⟩
          case measure => simp [intOf]; omega
      · have HX := Lib.hid (show b = true by
          rw [HB.out]
          have := HN.out
          rwa [show j = t.kids.length by omega, List.take_length] at this)
        clear HN
        go_wp2_with fail
        go_ret
        exact ⟨by rw [HX.out]; rfl, (by (repeat' (first | with_reducible exact Below.refl _ _ | with_reducible refine below_alloc ?_ _ ?_ | with_reducible refine Below.setCell ?_ ?_ _ | with_reducible refine Below.drew ?_ | with_reducible refine below_drewN ?_ _ | with_reducible refine below_step ?_ (by assumption) ?_ | with_reducible refine below_mark ?_ (by assumption) ?_)); all_goals (first | omega | (simp; done) | (simp; omega)))⟩
set_option maxHeartbeats 1000000 in
theorem ValueOk_spec (w0 : World) (v : Value) (t : V) (h : Rep w0 v t) (hsz : t.sz ≤ 1048576) (w : World) (hw : Below w0.heap.size w0 w) : Calls Tryd.prog 18 #[v] w fun e w' => e = .returned (.bool (okT t)) ∧ Below w.heap.size w w' := by
  have RI := Lib.hid (fun (W : World) (hW : Below w.heap.size w W) => l02Right_all w0 _ v t (Nat.lt_succ_self _) h hsz 12 (by omega) (by omega) W (hw.trans (hW.mono hw.size)))
  have HB := Lib.hid (show okT t = (rightB t 12 && decide ((t.nodes : Int) ≤ 300)) by unfold okT; congr 1; rw [decide_eq_decide]; omega)
  have hno : (t.nodes : Int) ≤ 1048577 := by have := nodes_sz t; omega
  obtain ⟨b, hb⟩ : ∃ b : Bool, b = okT t := ⟨_, rfl⟩
  rw [← hb] at HB ⊢
  clear hb
  obtain ⟨sl, rfl, hwf, hr⟩ := h
  have NO := Lib.hid (fun (W : World) (hW : Below w.heap.size w W) => nodes_any w0 _ sl t.kids (Nat.le_refl _) hr (by have := V.sz_eq t; omega) t rfl W (hw.trans (hW.mono hw.size)))
  have BX := Lib.hid (Box.new w t.k t.n t.e t.s sl 26)
  clear hr
  unfold V.agg at *
  cases hrb : rightB t 12
  · rw [hrb] at HB RI
    go_enter Tryd.func18, Tryd.ntmps18
    go_wp2_with fail
    refine (RI.out _ ((by (repeat' (first | with_reducible exact Below.refl _ _ | with_reducible refine below_alloc ?_ _ ?_ | with_reducible refine Below.setCell ?_ ?_ _ | with_reducible refine Below.drew ?_ | with_reducible refine below_drewN ?_ _ | with_reducible refine below_step ?_ (by assumption) ?_ | with_reducible refine below_mark ?_ (by assumption) ?_)); all_goals (first | omega | (simp; done) | (simp; omega))))).mono ?_
    rintro x wx ⟨rfl, hbx⟩
    go_wp2_with fail
    go_ret
    exact ⟨by rw [HB.out]; rfl, (by (repeat' (first | with_reducible exact Below.refl _ _ | with_reducible refine below_alloc ?_ _ ?_ | with_reducible refine Below.setCell ?_ ?_ _ | with_reducible refine Below.drew ?_ | with_reducible refine below_drewN ?_ _ | with_reducible refine below_step ?_ (by assumption) ?_ | with_reducible refine below_mark ?_ (by assumption) ?_)); all_goals (first | omega | (simp; done) | (simp; omega)))⟩
  · rw [hrb, Bool.true_and] at HB
    rw [hrb] at RI
    generalize hg : decide ((t.nodes : Int) ≤ 300) = g at *
    go_enter Tryd.func18, Tryd.ntmps18
    go_wp2_with fail
    refine (RI.out _ ((by (repeat' (first | with_reducible exact Below.refl _ _ | with_reducible refine below_alloc ?_ _ ?_ | with_reducible refine Below.setCell ?_ ?_ _ | with_reducible refine Below.drew ?_ | with_reducible refine below_drewN ?_ _ | with_reducible refine below_step ?_ (by assumption) ?_ | with_reducible refine below_mark ?_ (by assumption) ?_)); all_goals (first | omega | (simp; done) | (simp; omega))))).mono ?_
    rintro x wx ⟨rfl, hbx⟩
    obtain ⟨c0, c1, c2, c3, c4⟩ := (BX.out.stay hbx).cells
    go_wp2_with fail
    refine (NO.out _ ((by (repeat' (first | with_reducible exact Below.refl _ _ | with_reducible refine below_alloc ?_ _ ?_ | with_reducible refine Below.setCell ?_ ?_ _ | with_reducible refine Below.drew ?_ | with_reducible refine below_drewN ?_ _ | with_reducible refine below_step ?_ (by assumption) ?_ | with_reducible refine below_mark ?_ (by assumption) ?_)); all_goals (first | omega | (simp; done) | (simp; omega))))).mono ?_
    rintro x wy ⟨rfl, hby⟩
    cases g
    all_goals go_wp2_with fail
    all_goals go_ret
    all_goals exact ⟨by rw [HB.out]; rfl, (by (repeat' (first | with_reducible exact Below.refl _ _ | with_reducible refine below_alloc ?_ _ ?_ | with_reducible refine Below.setCell ?_ ?_ _ | with_reducible refine Below.drew ?_ | with_reducible refine below_drewN ?_ _ | with_reducible refine below_step ?_ (by assumption) ?_ | with_reducible refine below_mark ?_ (by assumption) ?_)); all_goals (first | omega | (simp; done) | (simp; omega)))⟩
end Go.Proofs.YtgbgeocmjdgmoaaDoor
namespace Go.Proofs.YtgbgeocmjdgmoaaDoor
set_option linter.unusedSimpArgs false
set_option linter.unusedVariables false
set_option maxRecDepth 100000
open Go.RowKit
theorem node_small {t : V} (h : nodeB t = true) : t.s.size ≤ 2000 := by
  unfold nodeB at h
  split at h
  · have := of_decide_eq_true h; omega
  · split at h
    · have := of_decide_eq_true h; omega
    · split at h
      · simp only [Bool.and_eq_true, decide_eq_true_eq] at h; omega
      · split at h
        · simp only [Bool.and_eq_true, decide_eq_true_eq] at h; omega
        · split at h
          · have := of_decide_eq_true h; omega
          · split at h
            · have := of_decide_eq_true h; omega
            · cases h
mutual
def hasT (a b : Int) : V → Bool
  | .mk k n _ _ ks => (decide (k = 9) && (decide (n = a) || decide (n = b))) || hasTs a b ks
def hasTs (a b : Int) : List V → Bool
  | [] => false
  | t :: ts => hasT a b t || hasTs a b ts
 end
theorem hasT_eq (a b : Int) (t : V) : hasT a b t = ((decide (t.k = 9) && (decide (t.n = a) || decide (t.n = b))) || hasTs a b t.kids) := by cases t; rw [hasT]; rfl
theorem hasTs_append (a b : Int) : ∀ (ts us : List V), hasTs a b (ts ++ us) = (hasTs a b ts || hasTs a b us)
  | [], us => by simp [hasTs]
  | t :: ts, us => by rw [List.cons_append, hasTs, hasTs, hasTs_append a b ts us, Bool.or_assoc]
theorem hasTs_take (a b : Int) (ts : List V) (j : Nat) (hj : j < ts.length) : hasTs a b (ts.take (j + 1)) = (hasTs a b (ts.take j) || hasT a b ts[j]) := by
  rw [List.take_succ_eq_append_getElem hj, hasTs_append, hasTs, hasTs, Bool.or_false]
theorem hasTs_stuck (a b : Int) (ts : List V) (j : Nat) (hj : j < ts.length) (h : hasT a b ts[j] = true) : hasTs a b ts = true := by
  rw [← List.take_append_drop j ts, hasTs_append, List.drop_eq_getElem_cons hj, hasTs, h]; simp
mutual
theorem hasT_pre (a b : Int) : ∀ t : V, hasT a b t = t.pre.any fun x => decide (x.k = 9) && (decide (x.n = a) || decide (x.n = b))
  | .mk k n e s ks => by rw [hasT_eq, V.pre_eq, List.any_cons, hasTs_pre a b]
theorem hasTs_pre (a b : Int) : ∀ ts : List V, hasTs a b ts = (pres ts).any fun x => decide (x.k = 9) && (decide (x.n = a) || decide (x.n = b))
  | [] => rfl
  | t :: ts => by rw [hasTs, pres, List.any_append, hasT_pre a b t, hasTs_pre a b ts]
 end
end Go.Proofs.YtgbgeocmjdgmoaaDoor
namespace Go.Proofs.YtgbgeocmjdgmoaaDoor
set_option linter.unusedSimpArgs false
set_option linter.unusedVariables false
set_option maxRecDepth 100000
open Go.RowKit
def numL (n : Int) : List UInt8 := if n < 0 then headL 1 (-1 - n).toNat else headL 0 n.toNat
def ownL (t : V) : List UInt8 :=
  if t.k = 0 then headL 7 22 else if t.k = 1 ∨ t.k = 2 then headL 7 (19 + t.k).toNat else if t.k = 3 then numL t.n
  else if t.k = 4 then headL 6 4 ++ headL 4 2 ++ numL t.e ++ numL t.n
  else if t.k = 5 then headL 3 t.s.size ++ t.s.data.toList else if t.k = 6 then headL 2 t.s.size ++ t.s.data.toList
  else if t.k = 7 then headL 4 t.kids.length else if t.k = 8 then headL 5 (t.kids.length / 2) else headL 6 t.n.toNat
mutual
def cborL : V → List UInt8
  | .mk k n e s ks => ownL (.mk k n e s ks) ++ cborsL ks
def cborsL : List V → List UInt8
  | [] => []
  | t :: ts => cborL t ++ cborsL ts
 end
theorem cborL_eq (t : V) : cborL t = ownL t ++ cborsL t.kids := by cases t; rw [cborL]; rfl
theorem cborsL_append : ∀ a b : List V, cborsL (a ++ b) = cborsL a ++ cborsL b
  | [], b => by simp [cborsL]
  | t :: a, b => by rw [List.cons_append, cborsL, cborsL, cborsL_append a b, List.append_assoc]
theorem cborsL_take (ts : List V) (j : Nat) (hj : j < ts.length) : cborsL (ts.take (j + 1)) = cborsL (ts.take j) ++ cborL ts[j] := by
  rw [List.take_succ_eq_append_getElem hj, cborsL_append, cborsL, cborsL, List.append_nil]
theorem numL_le (n : Int) : (numL n).length ≤ 9 := by unfold numL; split <;> exact headL_le _ _
theorem ownL_le (t : V) (h : t.s.size ≤ 2000) : (ownL t).length ≤ 2050 := by
  have h1 := fun a b => headL_le a b
  have h2 := fun n => numL_le n
  unfold ownL
  have hs : t.s.data.toList.length = t.s.size := Array.length_toList
  repeat' split
  all_goals first
    | (have := headL_le 7 22; omega)
    | (have := headL_le 7 (19 + t.k).toNat; omega)
    | (have := numL_le t.n; omega)
    | (have a := headL_le 6 4; have b := headL_le 4 2; have c := numL_le t.e; have d := numL_le t.n; simp only [List.length_append]; omega)
    | (have := headL_le 3 t.s.size; simp only [List.length_append]; omega)
    | (have := headL_le 2 t.s.size; simp only [List.length_append]; omega)
    | (have := headL_le 4 t.kids.length; omega)
    | (have := headL_le 5 (t.kids.length / 2); omega)
    | (have := headL_le 6 t.n.toNat; omega)
mutual
theorem cbor_le : ∀ (t : V) (d : Int), rightB t d = true → (cborL t).length ≤ 2050 * t.nodes
  | .mk k n e s ks, d, h => by
    have h1 := ownL_le (.mk k n e s ks) (node_small (rightB_leaf h).1)
    have h2 := cbors_le ks (d - 1) (right_kids h)
    rw [cborL_eq, List.length_append, V.nodes_eq]
    show (ownL (.mk k n e s ks)).length + (cborsL ks).length ≤ 2050 * (1 + nodess ks)
    omega
theorem cbors_le : ∀ (ts : List V) (d : Int), rightsB ts d = true → (cborsL ts).length ≤ 2050 * nodess ts
  | [], _, _ => by simp [cborsL]
  | t :: ts, d, h => by
    rw [rightsB, Bool.and_eq_true] at h
    have h1 := cbor_le t d h.1
    have h2 := cbors_le ts d h.2
    rw [cborsL, List.length_append, nodess]; omega
 end
theorem cbors_take_le (ts : List V) (j : Nat) : (cborsL (ts.take j)).length ≤ (cborsL ts).length := by
  have h := cborsL_append (ts.take j) (ts.drop j)
  rw [List.take_append_drop] at h
  rw [h, List.length_append]; omega
theorem plain_kids {t : V} {d : Int} (h : rightB t d = true) (hk : t.k ≠ 7 ∧ t.k ≠ 8 ∧ t.k ≠ 9) : t.kids = [] := by
  rw [rightB_eq] at h
  simp only [Bool.and_eq_true, ownB] at h
  have h2 := h.1.2.2
  rw [if_neg hk.1, if_neg hk.2.2, if_neg hk.2.1] at h2
  exact List.eq_nil_of_length_eq_zero (by simpa using h2)
theorem kind_in {t : V} {d : Int} (h : rightB t d = true) : 0 ≤ t.k ∧ t.k ≤ 9 := by
  have h2 := (rightB_leaf h).1
  unfold nodeB at h2
  by_cases hk : 0 ≤ t.k ∧ t.k ≤ 9
  · exact hk
  · rw [if_neg (by omega), if_neg (by omega), if_neg (by omega), if_neg (by omega), if_neg (by omega), if_neg (by omega)] at h2
    cases h2
theorem tag_n {t : V} {d : Int} (h : rightB t d = true) (hk : t.k = 9) : 0 ≤ t.n ∧ t.n ≤ 1000000 := by
  have h2 := (rightB_leaf h).1
  unfold nodeB at h2
  rw [if_neg (by omega), if_neg (by omega), if_neg (by omega), if_neg (by omega), if_neg (by omega), if_pos hk] at h2
  have := of_decide_eq_true h2
  omega
def cborB (t : V) : List UInt8 := if okT t && !hasT 4 4 t then cborL t else []
theorem cborB_le (t : V) : (cborB t).length ≤ 615000 := by
  unfold cborB
  split
  · rename_i h
    simp only [Bool.and_eq_true, okT, decide_eq_true_eq] at h
    have := cbor_le t 12 h.1.1
    omega
  · simp
end Go.Proofs.YtgbgeocmjdgmoaaDoor
namespace Go.Proofs.YtgbgeocmjdgmoaaDoor
set_option linter.unusedSimpArgs false
set_option linter.unusedVariables false
set_option maxRecDepth 100000
open Go.RowKit
theorem u64w (x : Int) (h0 : 0 ≤ x) (h1 : x < 18446744073709551616) : IntKind.u64.wrap x = x := by
  unfold IntKind.wrap; simp [IntKind.bits, IntKind.signed]; omega
set_option maxHeartbeats 400000 in
theorem l05Num_any (n : Int) (hn : In64 n) (w : World) : Calls Tryd.prog 217 #[.int .i64 n] w (TxtRet w (numL n)) := by
  obtain ⟨h1, h2⟩ := hn
  by_cases h : 0 ≤ n
  · have HR := Lib.hid (show numL n = headL 0 n.toNat by rw [numL, if_neg (by omega)])
    have t1 : decide (0 ≤ n) = true := decide_eq_true h
    have hw := u64w n h (by omega)
    have PH := Lib.hid (fun (W : World) => PutHead_spec 0 n W (by omega) (by omega) h (by omega))
    rw [HR.out]
    go_enter Tryd.func217, Tryd.ntmps217
    go_wp2_with fail
    refine (PH.out _).mono ?_
    rintro x w1 ⟨rfl, hb1⟩
    go_wp2_with fail
    go_ret
    exact ⟨rfl, hb1⟩
  · have HR := Lib.hid (show numL n = headL 1 (-1 - n).toNat by rw [numL, if_pos (by omega)])
    have t1 : decide (0 ≤ n) = false := decide_eq_false h
    have hw0 : wrap64 (-1 - n) = -1 - n := by unfold wrap64; omega
    have hw := u64w (-1 - n) (by omega) (by omega)
    have PH := Lib.hid (fun (W : World) => PutHead_spec 1 (-1 - n) W (by omega) (by omega) (by omega) (by omega))
    rw [HR.out]
    go_enter Tryd.func217, Tryd.ntmps217
    go_wp2_with fail
    refine (PH.out _).mono ?_
    rintro x w1 ⟨rfl, hb1⟩
    go_wp2_with fail
    go_ret
    exact ⟨rfl, hb1⟩
set_option maxHeartbeats 1000000 in
theorem l05Four_any (w0 : World) : ∀ (N : Nat) (v : Value) (t : V), t.sz < N → Rep w0 v t → t.sz ≤ 1048576 → ∀ (w : World), Below w0.heap.size w0 w →
    Calls Tryd.prog 141 #[v] w (BoolRet (hasT 4 4 t) w) := by
  intro N
  induction N with
  | zero => intro v t h; omega
  | succ N ih =>
  intro v t hN h hsz w hw
  obtain ⟨sl, rfl, hwf, hr⟩ := h
  have hts := V.sz_eq t
  have hlen := szs_length t.kids
  obtain ⟨a, b, off, cap, rfl, ha, hc, hm, sls, hel⟩ := hr.opened
  have HA := Lib.hid ha; have HE := Lib.hid hel; have HW := Lib.hid hw
  have V1 := Lib.hid (fun (j : Nat) (hj : j < t.kids.length) (W : World) (hW : Below w0.heap.size w0 W) => ih (t.kids[j].agg (sls j)) t.kids[j] (by have h1 := szs_mem (List.getElem_mem hj); omega) ⟨sls j, rfl, (HE.out j hj).2.1, (HE.out j hj).2.2⟩ (by have h1 := szs_mem (List.getElem_mem hj); omega) W hW)
  have hl : t.kids.length ≤ 1048576 := by omega
  have HT := Lib.hid (show hasT 4 4 t = ((decide (t.k = 9) && decide (t.n = 4)) || hasTs 4 4 t.kids) by rw [hasT_eq, Bool.or_self])
  have HTK := Lib.hid (fun (j : Nat) (hj : j < t.kids.length) => hasTs_take 4 4 t.kids j hj)
  have HST := Lib.hid (fun (j : Nat) (hj : j < t.kids.length) => hasTs_stuck 4 4 t.kids j hj)
  have BX := Lib.hid (Box.new w t.k t.n t.e t.s (.slice a t.kids.length cap) 26)
  clear ih hel ha hc hm hN hr hwf hlen hts hsz
  unfold V.agg
  generalize hasT 4 4 t = R at *
  generalize t.k = k at *
  generalize t.n = n at *
  generalize t.e = e at *
  generalize t.s = s at *
  generalize t.kids = ts at *
  by_cases hu : k = 9 ∧ n = 4
  · have t1 : (k == 9) = true := by simpa using hu.1
    have t2 : (n == 4) = true := by simpa using hu.2
    have HR := Lib.hid (show R = true by rw [HT.out]; simp [hu.1, hu.2])
    clear hu HT
    go_enter Tryd.func141, Tryd.ntmps141
    go_wp2_with fail
    go_ret
    exact ⟨by rw [HR.out]; rfl, (by (repeat' (first | with_reducible exact Below.refl _ _ | with_reducible refine below_alloc ?_ _ ?_ | with_reducible refine Below.setCell ?_ ?_ _ | with_reducible refine Below.drew ?_ | with_reducible refine below_drewN ?_ _ | with_reducible refine below_step ?_ (by assumption) ?_ | with_reducible refine below_mark ?_ (by assumption) ?_)); all_goals (first | omega | (simp; done) | (simp; omega)))⟩
  · have HR := Lib.hid (show R = hasTs 4 4 ts by rw [HT.out]; by_cases h9 : k = 9 <;> by_cases h4 : n = 4 <;> simp [h9, h4] <;> exact absurd ⟨h9, h4⟩ hu)
    have key : (k == 9) = false ∨ ((k == 9) = true ∧ (n == 4) = false) := by
      by_cases h9 : k = 9
      · exact .inr ⟨by simpa using h9, by simpa using fun e => hu ⟨h9, e⟩⟩
      · exact .inl (by simpa using h9)
    clear hu HT
    rcases key with t1 | ⟨t1, t2⟩
    all_goals
      go_enter Tryd.func141, Tryd.ntmps141
      go_wp2_with fail
      go_loopw [3] (fun i wr => ∃ j : Nat, j ≤ ts.length ∧ i = .int .i64 j ∧ hasTs 4 4 (ts.take j) = false ∧ Below (w.alloc (.cells #[.int .i64 k, .int .i64 n, .int .i64 e, .string s, .slice a ts.length cap] 26)).heap.size (w.alloc (.cells #[.int .i64 k, .int .i64 n, .int .i64 e, .string s, .slice a ts.length cap] 26)) wr) (fun i _ => ts.length + 1 - (intOf i).toNat)
      case atStart => exact ⟨0, by omega, rfl, rfl, Below.refl _ _⟩
      case round =>
        obtain ⟨j, hj, rfl, hq, hbl⟩ := hrel
        have HQ := Lib.hid hq; clear hq
        have HBL := Lib.hid (show Below w.heap.size w wr from Below.trans ((by (repeat' (first | with_reducible exact Below.refl _ _ | with_reducible refine below_alloc ?_ _ ?_ | with_reducible refine Below.setCell ?_ ?_ _ | with_reducible refine Below.drew ?_ | with_reducible refine below_drewN ?_ _ | with_reducible refine below_step ?_ (by assumption) ?_ | with_reducible refine below_mark ?_ (by assumption) ?_)); all_goals (first | omega | (simp; done) | (simp; omega)))) (hbl.mono (by simp)))
        obtain ⟨q0, -, -, -, q4⟩ := (BX.out.stay hbl).cells
        by_cases hlt : j < ts.length
        · have hne : ts ≠ [] := by intro e; rw [e] at hlt; simp at hlt
          obtain ⟨rfl, hbw⟩ := HA.out hne
          have HWR := Lib.hid (HW.out.trans (HBL.out.mono HW.out.size))
          obtain ⟨c0, c1, c2, c3, c4⟩ := (HE.out j hlt).1.keep (HWR.out.block b hbw)
          have VJ := Lib.hid (fun (W : World) (hW : Below wr.heap.size wr W) => V1.out j hlt W (below_step HWR.out hW (by have := HWR.out.size; omega)))
          have HTJ := Lib.hid (HTK.out j hlt)
          rw [HQ.out, Bool.false_or] at HTJ
          have HSJ := Lib.hid (HST.out j hlt)
          obtain ⟨a3, cap3, hs3⟩ := (HE.out j hlt).2.2.slice
          rw [hs3] at c4 VJ
          clear hs3 V1
          unfold V.agg at VJ
          generalize hasT 4 4 ts[j] = bj at *
          cases bj with
          | true =>
            have H := Lib.hid (show R = true by rw [HR.out]; exact HSJ.out rfl)
            clear HTJ HSJ
            go_wp2_with fail
            refine (VJ.out _ ((by (repeat' (first | with_reducible exact Below.refl _ _ | with_reducible refine below_alloc ?_ _ ?_ | with_reducible refine Below.setCell ?_ ?_ _ | with_reducible refine Below.drew ?_ | with_reducible refine below_drewN ?_ _ | with_reducible refine below_step ?_ (by assumption) ?_ | with_reducible refine below_mark ?_ (by assumption) ?_)); all_goals (first | omega | (simp; done) | (simp; omega))))).mono ?_
            rintro x w1 ⟨rfl, hb1⟩
            go_wp2_with fail
            go_ret
            exact ⟨by rw [H.out]; rfl, HBL.out.trans (Below.mono ((by (repeat' (first | with_reducible exact Below.refl _ _ | with_reducible refine below_alloc ?_ _ ?_ | with_reducible refine Below.setCell ?_ ?_ _ | with_reducible refine Below.drew ?_ | with_reducible refine below_drewN ?_ _ | with_reducible refine below_step ?_ (by assumption) ?_ | with_reducible refine below_mark ?_ (by assumption) ?_)); all_goals (first | omega | (simp; done) | (simp; omega)))) HBL.out.size)⟩
          | false =>
            clear HSJ
            go_wp2_with fail
            refine (VJ.out _ ((by (repeat' (first | with_reducible exact Below.refl _ _ | with_reducible refine below_alloc ?_ _ ?_ | with_reducible refine Below.setCell ?_ ?_ _ | with_reducible refine Below.drew ?_ | with_reducible refine below_drewN ?_ _ | with_reducible refine below_step ?_ (by assumption) ?_ | with_reducible refine below_mark ?_ (by assumption) ?_)); all_goals (first | omega | (simp; done) | (simp; omega))))).mono ?_
            rintro x w1 ⟨rfl, hb1⟩
            go_wp2_with fail
            go_roundw
            case rel => exact ⟨j + 1, by omega, by go_num, HTJ.out, hbl.trans (Below.mono ((by (repeat' (first | with_reducible exact Below.refl _ _ | with_reducible refine below_alloc ?_ _ ?_ | with_reducible refine Below.setCell ?_ ?_ _ | with_reducible refine Below.drew ?_ | with_reducible refine below_drewN ?_ _ | with_reducible refine below_step ?_ (by assumption) ?_ | with_reducible refine below_mark ?_ (by assumption) ?_)); all_goals (first | omega | (simp; done) | (simp; omega)))) hbl.size)⟩
            case measure => simp [intOf]; omega
        · have H := Lib.hid (show R = false by rw [HR.out]; have := HQ.out; rwa [List.take_of_length_le (by omega)] at this)
          go_wp2_with fail
          go_ret
          exact ⟨by rw [H.out]; rfl, HBL.out⟩
end Go.Proofs.YtgbgeocmjdgmoaaDoor
namespace Go.Proofs.YtgbgeocmjdgmoaaDoor
set_option linter.unusedSimpArgs false
set_option linter.unusedVariables false
set_option maxRecDepth 100000
open Go.RowKit
def bigZ : Nat → Int → List UInt8
  | 0, _ => []
  | i + 1, n => UInt8.ofNat ((n / 256 ^ i) % 256).toNat :: bigZ i n
theorem bigZ_length (i : Nat) (n : Int) : (bigZ i n).length = i := by induction i with | zero => rfl | succ i ih => simp [bigZ, ih]
set_option maxHeartbeats 400000 in
theorem PutWide_any (n m : Int) (w : World) (hm0 : 1 ≤ m) (hm : m ≤ 8) :
    Calls Tryd.prog 44 #[.int .i64 n, .int .i64 m] w (TxtRet w (bigZ m.toNat n)) := by
  go_enter Tryd.func44, Tryd.ntmps44
  go_wp2_with (go_at_call 105; refine (within_yes _ _ _ _ (by omega) (by omega)).mono ?_; rintro e w' ⟨rfl, rfl⟩)
  go_loopw [5, 6] (fun v i wr => ∃ k : Int, ∃ l : List UInt8, -1 ≤ k ∧ k < m ∧ i = .int .i64 k ∧ l.length = (m - 1 - k).toNat ∧ Hid (l ++ bigZ (k + 1).toNat n = bigZ m.toNat n) ∧ BRow wr w'.heap.size v l ∧ Below w'.heap.size w' wr) (fun _ i _ => (intOf i + 1).toNat)
  case atStart => exact ⟨m - 1, [], by omega, by omega, rfl, by simp, Lib.hid (by rw [List.nil_append, show m - 1 + 1 = m by omega]), BRow.made [] (Nat.le_refl _) (by simp), (Below.refl _ _).alloc (Nat.le_refl _) _⟩
  case round =>
    obtain ⟨k, l, hk, hkm, rfl, hl8, HL, hrow, hbl⟩ := hrel
    have hsz := hbl.size
    have HL8 := Lib.hid hl8; clear hl8
    by_cases hlt : 0 ≤ k
    · have R1 := Lib.hid (src_new wr (n / 2 ^ (8 * k).toNat % 256) (by omega) (by omega))
      have R2 := Lib.hid (show BRow (wr.alloc (.cells #[.int .u8 (n / 2 ^ (8 * k).toNat % 256)] 5)) w'.heap.size u5 l from World.ownsRow.alloc hrow _)
      have HB := Lib.hid hrow; clear hrow
      go_wp2_with (at_builtin; refine app_bytes rfl _ _ _ rfl w'.heap.size _ l rfl R2.out _ rfl _ R1.out (by rw [HL8.out]; simp; omega) (by simp; omega) ?_; intro v' w2 hrow' hg' _)
      go_roundw
      case rel =>
        refine ⟨k - 1, _, by omega, by omega, rfl, ?_, Lib.hid ?_, hrow', (hbl.alloc hsz _).grown hg' (by simp; omega) (fun k' hk' => (BRow.lt R2.out k' hk').1)⟩
        · rw [List.length_append, HL8.out]; simp; omega
        · rw [← HL.out, show (k + 1).toNat = (k - 1 + 1).toNat + 1 by omega, bigZ, List.append_assoc, show (k - 1 + 1).toNat = k.toNat by omega, show (8 * k).toNat = 8 * k.toNat by omega, Int.pow_mul]
          rfl
      case measure => simp [intOf]; omega
    · obtain rfl : k = -1 := by omega
      have r := run_str hrow
      have H := Lib.hid (show l = bigZ m.toNat n by have := HL.out; simpa [bigZ] using this)
      clear HL HL8 hrow
      go_wp2
      go_ret
      exact ⟨by rw [← H.out]; rfl, hbl⟩
theorem wrapI64 (x : Int) (h0 : 0 ≤ x) (h1 : x < 18446744073709551616) : IntKind.i64.wrap x = x ∨ IntKind.i64.wrap x = x - 18446744073709551616 := by
  simp [IntKind.wrap, IntKind.signed, IntKind.bits]; omega
theorem big_bigZ (m n : Nat) : big m n = bigZ m n := by
  induction m with
  | zero => rfl
  | succ m ih =>
    rw [big, bigZ, ih]
    congr 1
    have : ((n : Int) / 256 ^ m % 256).toNat = n / 256 ^ m % 256 := by
      have h : ((n : Int) / 256 ^ m % 256) = ((n / 256 ^ m % 256 : Nat) : Int) := by simp
      rw [h]; exact Int.toNat_natCast _
    rw [this]
    simp [← UInt8.toNat_inj]
theorem bigZ_neg (m : Nat) (n : Int) (hm : m ≤ 8) : bigZ m (n - 18446744073709551616) = bigZ m n := by
  induction m with
  | zero => rfl
  | succ m ih =>
    rw [bigZ, bigZ, ih (by omega)]
    congr 3
    have h : (18446744073709551616 : Int) = 256 ^ m * 256 ^ (8 - m) := by
      rw [← Int.pow_add, show m + (8 - m) = 8 by omega]; rfl
    have hp : (256 : Int) ^ m ≠ 0 := Int.ne_of_gt (Int.pow_pos (by decide))
    rw [h, show n - 256 ^ m * 256 ^ (8 - m) = n + 256 ^ m * (-(256 ^ (8 - m))) by rw [Int.mul_neg]; omega, Int.add_mul_ediv_left _ _ hp]
    have h2 : (256 : Int) ^ (8 - m) = 256 * 256 ^ (7 - m) := by
      rw [show 8 - m = (7 - m) + 1 by omega, Int.pow_succ, Int.mul_comm]
    rw [h2]
    omega
theorem PutWide_u64 (x m : Int) (w : World) (h0 : 0 ≤ x) (h1 : x < 18446744073709551616) (hm0 : 1 ≤ m) (hm : m ≤ 8) :
    Calls Tryd.prog 44 #[.int .i64 (IntKind.i64.wrap x), .int .i64 m] w (TxtRet w (big m.toNat x.toNat)) := by
  have h := PutWide_any (IntKind.i64.wrap x) m w hm0 hm
  rw [big_bigZ, show ((x.toNat : Nat) : Int) = x by omega]
  rcases wrapI64 x h0 h1 with e | e
  · rw [e] at h ⊢; exact h
  · rw [e] at h ⊢; rw [bigZ_neg _ _ (by omega)] at h; exact h
end Go.Proofs.YtgbgeocmjdgmoaaDoor
namespace Go.Proofs.YtgbgeocmjdgmoaaDoor
set_option linter.unusedSimpArgs false
set_option linter.unusedVariables false
set_option maxRecDepth 100000
open Go.RowKit
set_option maxRecDepth 100000 in
set_option maxHeartbeats 400000 in
theorem PutHead_impl0 (major n : Int) (w : World) (hm0 : 0 ≤ major) (hm : major ≤ 7) (hn0 : 0 ≤ n) (h1 : n < 24) :
    Calls Tryd.prog 69 #[.int .i64 major, .int .u64 n] w (TxtRet w (headL major.toNat n.toNat)) := by
  have H := Lib.hid (show headL major.toNat n.toNat = [UInt8.ofNat (32 * major + n).toNat] by rw [headL, if_pos (by omega), show (32 * major + n).toNat = 32 * major.toNat + n.toNat by omega])
  have hc := fun (W : World) (b : Nat) => run_str1 W b (32 * major + n)
  go_enter Tryd.func69, Tryd.ntmps69
  go_wp2_with (go_at_call 105; refine (within_yes _ _ _ _ (by omega) (by omega)).mono ?_; rintro e w' ⟨rfl, rfl⟩)
  go_ret
  exact ⟨ret_str (by rw [H.out]), (Below.refl _ _).alloc (Nat.le_refl _) _⟩
set_option maxRecDepth 100000 in
set_option maxHeartbeats 400000 in
theorem PutHead_impl1 (major n : Int) (w : World) (hm0 : 0 ≤ major) (hm : major ≤ 7) (hn0 : 24 ≤ n) (hn : n < 256) :
    Calls Tryd.prog 69 #[.int .i64 major, .int .u64 n] w (TxtRet w (headL major.toNat n.toNat)) := by
  have H := Lib.hid (show headL major.toNat n.toNat = [UInt8.ofNat (32 * major + 24).toNat] ++ big 1 n.toNat by rw [headL, if_neg (by omega), if_pos (by omega), show (32 * major + 24).toNat = 32 * major.toNat + 24 by omega]; rfl)
  go_enter Tryd.func69, Tryd.ntmps69
  go_wp2_with (go_at_call 105; refine (within_yes _ _ _ _ (by omega) (by omega)).mono ?_; rintro e w' ⟨rfl, rfl⟩)
  have hc := fun (W : World) (b : Nat) => run_str1 W b (32 * major + 24)
  have hx : IntKind.u8.wrap (32 * major + 24) = 32 * major + 24 := by simp [IntKind.wrap, IntKind.signed, IntKind.bits]; omega
  go_region_with (go_at_call 44; refine (PutWide_u64 _ _ _ (by omega) (by omega) (by omega) (by omega)).mono ?_; rintro e w1 ⟨rfl, hb⟩; obtain ⟨hb1, hb2⟩ := bcell hb; have hz := hb.size; simp at hz)
  all_goals go_wp2_with fail
  all_goals go_ret
  all_goals exact ⟨ret_str (by rw [H.out]; exact bstr_append _ _), (by (repeat' (first | with_reducible exact Below.refl _ _ | with_reducible refine below_alloc ?_ _ ?_ | with_reducible refine Below.setCell ?_ ?_ _ | with_reducible refine Below.drew ?_ | with_reducible refine below_drewN ?_ _ | with_reducible refine below_step ?_ (by assumption) ?_ | with_reducible refine below_mark ?_ (by assumption) ?_)); all_goals (first | omega | (simp; done) | (simp; omega)))⟩
set_option maxRecDepth 100000 in
set_option maxHeartbeats 400000 in
theorem PutHead_impl2 (major n : Int) (w : World) (hm0 : 0 ≤ major) (hm : major ≤ 7) (hn0 : 256 ≤ n) (hn : n < 65536) :
    Calls Tryd.prog 69 #[.int .i64 major, .int .u64 n] w (TxtRet w (headL major.toNat n.toNat)) := by
  have H := Lib.hid (show headL major.toNat n.toNat = [UInt8.ofNat (32 * major + 25).toNat] ++ big 2 n.toNat by rw [headL, if_neg (by omega), if_neg (by omega), if_pos (by omega), show (32 * major + 25).toNat = 32 * major.toNat + 25 by omega]; rfl)
  go_enter Tryd.func69, Tryd.ntmps69
  go_wp2_with (go_at_call 105; refine (within_yes _ _ _ _ (by omega) (by omega)).mono ?_; rintro e w' ⟨rfl, rfl⟩)
  have hc := fun (W : World) (b : Nat) => run_str1 W b (32 * major + 25)
  have hx : IntKind.u8.wrap (32 * major + 25) = 32 * major + 25 := by simp [IntKind.wrap, IntKind.signed, IntKind.bits]; omega
  go_region_with (go_at_call 44; refine (PutWide_u64 _ _ _ (by omega) (by omega) (by omega) (by omega)).mono ?_; rintro e w1 ⟨rfl, hb⟩; obtain ⟨hb1, hb2⟩ := bcell hb; have hz := hb.size; simp at hz)
  all_goals go_wp2_with fail
  all_goals go_ret
  all_goals exact ⟨ret_str (by rw [H.out]; exact bstr_append _ _), (by (repeat' (first | with_reducible exact Below.refl _ _ | with_reducible refine below_alloc ?_ _ ?_ | with_reducible refine Below.setCell ?_ ?_ _ | with_reducible refine Below.drew ?_ | with_reducible refine below_drewN ?_ _ | with_reducible refine below_step ?_ (by assumption) ?_ | with_reducible refine below_mark ?_ (by assumption) ?_)); all_goals (first | omega | (simp; done) | (simp; omega)))⟩
set_option maxRecDepth 100000 in
set_option maxHeartbeats 400000 in
theorem PutHead_impl4 (major n : Int) (w : World) (hm0 : 0 ≤ major) (hm : major ≤ 7) (hn0 : 65536 ≤ n) (hn : n < 4294967296) :
    Calls Tryd.prog 69 #[.int .i64 major, .int .u64 n] w (TxtRet w (headL major.toNat n.toNat)) := by
  have H := Lib.hid (show headL major.toNat n.toNat = [UInt8.ofNat (32 * major + 26).toNat] ++ big 4 n.toNat by rw [headL, if_neg (by omega), if_neg (by omega), if_neg (by omega), if_pos (by omega), show (32 * major + 26).toNat = 32 * major.toNat + 26 by omega]; rfl)
  go_enter Tryd.func69, Tryd.ntmps69
  go_wp2_with (go_at_call 105; refine (within_yes _ _ _ _ (by omega) (by omega)).mono ?_; rintro e w' ⟨rfl, rfl⟩)
  have hc := fun (W : World) (b : Nat) => run_str1 W b (32 * major + 26)
  have hx : IntKind.u8.wrap (32 * major + 26) = 32 * major + 26 := by simp [IntKind.wrap, IntKind.signed, IntKind.bits]; omega
  go_region_with (go_at_call 44; refine (PutWide_u64 _ _ _ (by omega) (by omega) (by omega) (by omega)).mono ?_; rintro e w1 ⟨rfl, hb⟩; obtain ⟨hb1, hb2⟩ := bcell hb; have hz := hb.size; simp at hz)
  all_goals go_wp2_with fail
  all_goals go_ret
  all_goals exact ⟨ret_str (by rw [H.out]; exact bstr_append _ _), (by (repeat' (first | with_reducible exact Below.refl _ _ | with_reducible refine below_alloc ?_ _ ?_ | with_reducible refine Below.setCell ?_ ?_ _ | with_reducible refine Below.drew ?_ | with_reducible refine below_drewN ?_ _ | with_reducible refine below_step ?_ (by assumption) ?_ | with_reducible refine below_mark ?_ (by assumption) ?_)); all_goals (first | omega | (simp; done) | (simp; omega)))⟩
set_option maxRecDepth 100000 in
set_option maxHeartbeats 400000 in
theorem PutHead_impl8 (major n : Int) (w : World) (hm0 : 0 ≤ major) (hm : major ≤ 7) (hn0 : 4294967296 ≤ n) (hn : n < 18446744073709551616) :
    Calls Tryd.prog 69 #[.int .i64 major, .int .u64 n] w (TxtRet w (headL major.toNat n.toNat)) := by
  have H := Lib.hid (show headL major.toNat n.toNat = [UInt8.ofNat (32 * major + 27).toNat] ++ big 8 n.toNat by rw [headL, if_neg (by omega), if_neg (by omega), if_neg (by omega), if_neg (by omega), show (32 * major + 27).toNat = 32 * major.toNat + 27 by omega]; rfl)
  go_enter Tryd.func69, Tryd.ntmps69
  go_wp2_with (go_at_call 105; refine (within_yes _ _ _ _ (by omega) (by omega)).mono ?_; rintro e w' ⟨rfl, rfl⟩)
  have hc := fun (W : World) (b : Nat) => run_str1 W b (32 * major + 27)
  have hx : IntKind.u8.wrap (32 * major + 27) = 32 * major + 27 := by simp [IntKind.wrap, IntKind.signed, IntKind.bits]; omega
  go_region_with (go_at_call 44; refine (PutWide_u64 _ _ _ (by omega) (by omega) (by omega) (by omega)).mono ?_; rintro e w1 ⟨rfl, hb⟩; obtain ⟨hb1, hb2⟩ := bcell hb; have hz := hb.size; simp at hz)
  all_goals go_wp2_with fail
  all_goals go_ret
  all_goals exact ⟨ret_str (by rw [H.out]; exact bstr_append _ _), (by (repeat' (first | with_reducible exact Below.refl _ _ | with_reducible refine below_alloc ?_ _ ?_ | with_reducible refine Below.setCell ?_ ?_ _ | with_reducible refine Below.drew ?_ | with_reducible refine below_drewN ?_ _ | with_reducible refine below_step ?_ (by assumption) ?_ | with_reducible refine below_mark ?_ (by assumption) ?_)); all_goals (first | omega | (simp; done) | (simp; omega)))⟩
theorem PutHead_impl (major n : Int) (w : World) (hm0 : 0 ≤ major) (hm : major ≤ 7) (hn0 : 0 ≤ n) (hn : n < 18446744073709551616) :
    Calls Tryd.prog 69 #[.int .i64 major, .int .u64 n] w (TxtRet w (headL major.toNat n.toNat)) := by
  by_cases h1 : n < 24
  · exact PutHead_impl0 major n w hm0 hm hn0 h1
  · by_cases h2 : n < 256
    · exact PutHead_impl1 major n w hm0 hm (by omega) h2
    · by_cases h3 : n < 65536
      · exact PutHead_impl2 major n w hm0 hm (by omega) h3
      · by_cases h4 : n < 4294967296
        · exact PutHead_impl4 major n w hm0 hm (by omega) h4
        · exact PutHead_impl8 major n w hm0 hm (by omega) hn
end Go.Proofs.YtgbgeocmjdgmoaaDoor
namespace Go.Proofs.YtgbgeocmjdgmoaaDoor
set_option linter.unusedSimpArgs false
set_option linter.unusedVariables false
set_option maxRecDepth 100000
open Go.RowKit
def wval (l : List UInt8) : Nat := l.foldl (fun n c => 256 * n + c.toNat) 0
theorem wval_snoc (l : List UInt8) (c : UInt8) : wval (l ++ [c]) = 256 * wval l + c.toNat := by simp [wval, List.foldl_append]
def sub (l : List UInt8) (i m : Nat) : List UInt8 := (l.drop i).take m
theorem sub_length (l : List UInt8) (i m : Nat) (h : i + m ≤ l.length) : (sub l i m).length = m := by simp [sub]; omega
theorem sub_succ (s : ByteArray) (i m : Nat) (h : i + m < s.size) : sub s.data.toList i (m + 1) = sub s.data.toList i m ++ [s[i + m]] := by
  have hl : m < (s.data.toList.drop i).length := by simp; omega
  rw [sub, sub, List.take_succ_eq_append_getElem hl]
  congr 2
  simp
  rfl
theorem or_byte (q b : Int) (h0 : 0 ≤ b) (h1 : b < 256) : bits BinOp.or IntKind.i64 (wrap64 (q * 256)) (wrap64 b) = wrap64 (q * 256 + b) := by
  have hb : wrap64 b = b := by unfold wrap64; omega
  rw [hb]
  have hX : (BitVec.ofInt 64 (wrap64 (q * 256))).toNat = ((q * 256) % 18446744073709551616).toNat := by
    rw [BitVec.toNat_ofInt]
    congr 1
    unfold wrap64
    omega
  have hY : (BitVec.ofInt 64 b).toNat = b.toNat := by
    rw [BitVec.toNat_ofInt]
    congr 1
    omega
  obtain ⟨c, hc⟩ : ∃ c : Nat, ((q * 256) % 18446744073709551616).toNat = 2 ^ 8 * c := ⟨((q * 256) % 18446744073709551616).toNat / 256, by omega⟩
  have hor : (BitVec.ofInt 64 (wrap64 (q * 256)) ||| BitVec.ofInt 64 b).toNat = ((q * 256) % 18446744073709551616).toNat + b.toNat := by
    rw [BitVec.toNat_or, hX, hY, hc]
    exact (Nat.two_pow_add_eq_or_of_lt (by omega) c).symm
  show IntKind.i64.wrap ((BitVec.ofInt 64 (wrap64 (q * 256)) ||| BitVec.ofInt 64 b).toNat : Int) = _
  rw [hor]
  simp only [IntKind.wrap, IntKind.signed, IntKind.bits, wrap64]
  simp
  omega
theorem wrap_step (v c : Nat) : wrap64 (wrap64 (v : Int) * 256 + (c : Int)) = wrap64 ((256 * v + c : Nat) : Int) := by
  unfold wrap64; omega
set_option maxHeartbeats 400000 in
theorem GetWide_any (s : ByteArray) (i m : Int) (w : World) (hs : s.size ≤ 9223372036854775807) (hi : 0 ≤ i) (hm0 : 1 ≤ m) (hm : m ≤ 8) (him : i ≤ s.size - m) :
    Calls Tryd.prog 46 #[.string s, .int .i64 i, .int .i64 m] w fun e w' => e = .returned (.tuple #[.int .i64 (wrap64 (wval (sub s.data.toList i.toNat m.toNat))), .bool true]) ∧ w' = w := by
  go_enter Tryd.func46, Tryd.ntmps46
  go_wp2_with (go_at_call 105; refine (within_yes _ _ _ _ (by omega) (by omega)).mono ?_; rintro e w' ⟨rfl, rfl⟩)
  go_loop [8, 26, 9] (fun n k _ => ∃ j : Nat, ∃ q : Int, (j : Int) ≤ m ∧ k = .int .i64 j ∧ n = .int .i64 q ∧ Hid (q = wrap64 (wval (sub s.data.toList i.toNat j)))) (fun _ k _ => (m - intOf k).toNat)
  case atStart => exact ⟨0, 0, by omega, rfl, rfl, Lib.hid (by simp [sub, wval, wrap64])⟩
  case round =>
    obtain ⟨j, q, hj, rfl, rfl, HQ⟩ := hrel
    by_cases hlt : (j : Int) < m
    · have HT := Lib.hid (show bits BinOp.or IntKind.i64 (wrap64 (q * 256)) (wrap64 (s[(i + (j : Int)).toNat].toNat : Int)) = wrap64 (wval (sub s.data.toList i.toNat (j + 1))) by
        rw [or_byte _ _ (by omega) (by have := s[(i + (j : Int)).toNat].toNat_lt; omega), HQ.out, sub_succ s i.toNat j (by omega), wval_snoc, ← wrap_step]
        congr 3
        simp only [show (i + (j : Int)).toNat = i.toNat + j by omega])
      go_wp2_with fail
      go_round
      case rel => exact ⟨j + 1, _, by omega, by go_num, rfl, HT⟩
      case measure => simp [intOf]; omega
    · have H := Lib.hid (show q = wrap64 (wval (sub s.data.toList i.toNat m.toNat)) by rw [HQ.out, show m.toNat = j by omega])
      clear HQ
      go_wp2_with fail
      go_ret2
      exact ⟨by rw [← H.out]; rfl, rfl⟩
set_option maxHeartbeats 400000 in
theorem GetWide_no (s : ByteArray) (i m : Int) (w : World) (hs : s.size ≤ 9223372036854775807) (hm0 : 1 ≤ m) (hm : m ≤ 8) (h : i < 0 ∨ s.size - m < i) :
    Calls Tryd.prog 46 #[.string s, .int .i64 i, .int .i64 m] w fun e w' => e = .returned (.tuple #[.int .i64 0, .bool false]) ∧ w' = w := by
  by_cases h1 : i < 0
  · clear h
    go_enter Tryd.func46, Tryd.ntmps46
    go_wp2_with (go_at_call 105; refine (within_yes _ _ _ _ (by omega) (by omega)).mono ?_; rintro e w' ⟨rfl, rfl⟩)
    go_ret2
    exact ⟨rfl, rfl⟩
  · have h2 : (s.size : Int) - m < i := by omega
    clear h
    go_enter Tryd.func46, Tryd.ntmps46
    go_wp2_with (go_at_call 105; refine (within_yes _ _ _ _ (by omega) (by omega)).mono ?_; rintro e w' ⟨rfl, rfl⟩)
    go_ret2
    exact ⟨rfl, rfl⟩
end Go.Proofs.YtgbgeocmjdgmoaaDoor
