/- Whether a value is right, as the reference asks: spec.l02Own, l02Right, ValueOk. Written by gen_right.py. -/
import Derived.Test.YtiemlefmhleaeaaDoorSpecOk
import Derived.Test.YtiemlefmhleaeaaDoorNode
namespace Go.Proofs.YtiemlefmhleaeaaDoor
set_option linter.unusedVariables false
set_option maxRecDepth 100000
open Go.RowKit
theorem own_nes (n e : Int) (s : ByteArray) : decide (n = 0 ∧ e = 0 ∧ s.size = 0) = ((n == 0) && (e == 0) && s.toList.isEmpty) := by
  rw [Bool.decide_and, Bool.decide_and, Bool.and_assoc]
  congr 1
  congr 1
  by_cases h : s.size = 0
  · rw [ba_empty h, ByteArray.toList_eq]; rfl
  · rw [(str_ne h).2.1, decide_eq_false h]
theorem own_es (e : Int) (s : ByteArray) : decide (e = 0 ∧ s.size = 0) = ((e == 0) && s.toList.isEmpty) := by
  have := own_nes 0 e s
  simpa using this
theorem own_s (s : ByteArray) : decide (s.size = 0) = s.toList.isEmpty := by
  have := own_nes 0 0 s
  simpa using this
theorem own_ne (n e : Int) (P : Prop) [Decidable P] : decide (n = 0 ∧ e = 0 ∧ P) = ((n == 0) && (e == 0) && decide P) := by
  rw [Bool.decide_and, Bool.decide_and, Bool.and_assoc]; rfl
theorem own_len (n : Nat) (q : Nat) : decide (n = q) = ((n : Int) == (q : Int)) := by
  by_cases h : n = q
  · subst h; simp
  · rw [decide_eq_false h]
    symm
    rw [beq_eq_false_iff_ne]
    omega
theorem l01In_any (a lo hi : Int) (w : World) : Calls Tryd.prog 106 #[.int .i64 a, .int .i64 lo, .int .i64 hi] w fun e w' => e = .returned (.bool (decide (lo ≤ a ∧ a ≤ hi))) ∧ w' = w := by
  by_cases h1 : lo ≤ a
  · by_cases h2 : a ≤ hi
    · have t1 : decide (lo ≤ a) = true := decide_eq_true h1
      have t2 : decide (a ≤ hi) = true := decide_eq_true h2
      rw [decide_eq_true ⟨h1, h2⟩]
      go_enter Tryd.func106, Tryd.ntmps106
      go_wp2_with fail
      go_ret
      exact ⟨rfl, rfl⟩
    · have t1 : decide (lo ≤ a) = true := decide_eq_true h1
      have t2 : decide (a ≤ hi) = false := decide_eq_false h2
      rw [decide_eq_false (fun h => h2 h.2)]
      go_enter Tryd.func106, Tryd.ntmps106
      go_wp2_with fail
      go_ret
      exact ⟨rfl, rfl⟩
  · have t1 : decide (lo ≤ a) = false := decide_eq_false h1
    rw [decide_eq_false (fun h => h1 h.1)]
    go_enter Tryd.func106, Tryd.ntmps106
    go_wp2_with fail
    go_ret
    exact ⟨rfl, rfl⟩

set_option maxHeartbeats 1000000 in
theorem own_a (t : V) (h : t.k = 0 ∨ t.k = 1 ∨ t.k = 2) : ownB t = ((t.n == 0) && (t.e == 0) && t.s.toList.isEmpty && ((t.kids.length : Int) == 0)) := by
  have h' := h
  unfold ownB nodeB
  rw [if_pos (by omega), if_neg (by omega), if_neg (by omega), if_neg (by omega), own_nes, own_len]; rfl
set_option maxHeartbeats 1000000 in
theorem own_b (t : V) (h : t.k = 3) : ownB t = ((t.e == 0) && t.s.toList.isEmpty && ((t.kids.length : Int) == 0)) := by
  have h' := h
  unfold ownB nodeB
  rw [if_neg (by omega), if_pos h, if_neg (by omega), if_neg (by omega), if_neg (by omega), own_es, own_len]; rfl
set_option maxHeartbeats 1000000 in
theorem own_c (t : V) (h : t.k = 4) : ownB t = ((t.n.tmod 10 != 0) && (decide (-999999999999999999 ≤ t.n ∧ t.n ≤ 999999999999999999)) && (decide (-20 ≤ t.e ∧ t.e ≤ 20)) && !(t.e == 0) && t.s.toList.isEmpty && ((t.kids.length : Int) == 0) && !(decide (0 < t.e) && (fits10 t.n t.e.toNat).isSome)) := by
  have h' := h
  unfold ownB nodeB
  rw [if_neg (by omega), if_neg (by omega), if_pos h, if_neg (by omega), if_neg (by omega), if_neg (by omega), own_s, own_len, decOk_eq]
  rw [show decide (t.e ≠ 0) = !(t.e == 0) by by_cases h0 : t.e = 0 <;> simp [h0]]
  rw [show decide (t.n.tmod 10 ≠ 0) = (t.n.tmod 10 != 0) by by_cases h0 : t.n.tmod 10 = 0 <;> simp [h0]]
  generalize (t.n.tmod 10 != 0) = a1
  generalize (decide (-999999999999999999 ≤ t.n ∧ t.n ≤ 999999999999999999)) = a2
  generalize decide (-20 ≤ t.e ∧ t.e ≤ 20) = a3
  generalize (t.e == 0) = a4
  generalize (decide (0 < t.e) && (fits10 t.n t.e.toNat).isSome) = a5
  generalize t.s.toList.isEmpty = a6
  show (a1 && a2 && a3 && !a4 && !a5 && a6 && ((t.kids.length : Int) == 0)) = _
  generalize ((t.kids.length : Int) == 0) = a7
  cases a1 <;> cases a2 <;> cases a3 <;> cases a4 <;> cases a5 <;> cases a6 <;> cases a7 <;> rfl
set_option maxHeartbeats 1000000 in
theorem own_d (t : V) (h : t.k = 5) : ownB t = ((t.n == 0) && (t.e == 0) && txt t.s && (decide ((t.s.size : Int) ≤ 2000)) && ((t.kids.length : Int) == 0)) := by
  have h' := h
  unfold ownB nodeB
  rw [if_neg (by omega), if_neg (by omega), if_neg (by omega), if_pos h, if_neg (by omega), if_neg (by omega), if_neg (by omega), own_ne, own_len]
  rw [show decide (t.s.size ≤ 2000) = decide ((t.s.size : Int) ≤ 2000) by rw [decide_eq_decide]; omega]
  generalize decide ((t.s.size : Int) ≤ 2000) = a1
  generalize txt t.s = a2
  generalize (t.n == 0) = a3
  generalize (t.e == 0) = a4
  cases a1 <;> cases a2 <;> cases a3 <;> cases a4 <;> rfl
set_option maxHeartbeats 1000000 in
theorem own_f (t : V) (h : t.k = 6) : ownB t = ((t.n == 0) && (t.e == 0) && (decide ((t.s.size : Int) ≤ 2000)) && ((t.kids.length : Int) == 0)) := by
  have h' := h
  unfold ownB nodeB
  rw [if_neg (by omega), if_neg (by omega), if_neg (by omega), if_neg (by omega), if_pos h, if_neg (by omega), if_neg (by omega), if_neg (by omega), own_ne, own_len]
  rw [show decide (t.s.size ≤ 2000) = decide ((t.s.size : Int) ≤ 2000) by rw [decide_eq_decide]; omega]
  rfl
set_option maxHeartbeats 1000000 in
theorem own_g (t : V) (h : t.k = 7) : ownB t = ((t.n == 0) && (t.e == 0) && t.s.toList.isEmpty) := by
  have h' := h
  unfold ownB nodeB
  rw [if_pos (by omega), if_pos h, own_nes, Bool.and_true]
set_option maxHeartbeats 1000000 in
theorem own_h (t : V) (h : t.k = 8) : ownB t = ((t.n == 0) && (t.e == 0) && t.s.toList.isEmpty && (pairsB t.kids)) := by
  have h' := h
  unfold ownB nodeB
  rw [if_pos (by omega), if_neg (by omega), if_neg (by omega), if_pos h, own_nes]
set_option maxHeartbeats 1000000 in
theorem own_i (t : V) (h : t.k = 9) : ownB t = ((decide (0 ≤ t.n ∧ t.n ≤ 1000000)) && (t.e == 0) && t.s.toList.isEmpty && ((t.kids.length : Int) == 1)) := by
  have h' := h
  unfold ownB nodeB
  rw [if_neg (by omega), if_neg (by omega), if_neg (by omega), if_neg (by omega), if_neg (by omega), if_pos h, if_neg (by omega), if_pos h, own_len]
  rw [show decide (0 ≤ t.n ∧ t.n ≤ 1000000 ∧ t.e = 0 ∧ t.s.size = 0) = (decide (0 ≤ t.n ∧ t.n ≤ 1000000) && (decide (t.e = 0 ∧ t.s.size = 0))) by rw [← Bool.decide_and, decide_eq_decide]; omega, own_es, ← Bool.and_assoc]
  rfl
theorem own_j (t : V) (h : ¬ (0 ≤ t.k ∧ t.k ≤ 9)) : ownB t = false := by
  unfold ownB nodeB
  rw [if_neg (by omega), if_neg (by omega), if_neg (by omega), if_neg (by omega), if_neg (by omega), if_neg (by omega)]; rfl
set_option maxHeartbeats 4000000 in
theorem l02Own_any (w0 : World) (v : Value) (t : V) (h : Rep w0 v t) (hsz : t.sz ≤ 1048576) (w : World) (hw : Below w0.heap.size w0 w) :
    Calls Tryd.prog 172 #[v] w (BoolRet (ownB t) w) := by
  obtain ⟨sl, rfl, hwf, hr⟩ := h
  have hks : t.kids.length ≤ 1048576 := by have := V.sz_eq t; have := szs_length t.kids; omega
  have hss : t.s.size ≤ 1048576 := by have := V.sz_eq t; omega
  obtain ⟨b, hb⟩ : ∃ b : Bool, b = ownB t := ⟨_, rfl⟩
  rw [← hb]
  obtain ⟨a, bb, off, cap, rfl, ha, hc, hm, sls, hel⟩ := hr.opened
  unfold V.agg
  have HB := Lib.hid hb
  have HW := Lib.hid hw
  have HR := Lib.hid hr
  have HWF := Lib.hid hwf
  clear hb ha hc hm hel hw hr hwf
  go_enter Tryd.func172, Tryd.ntmps172
  go_wp2_with fail
  go_quiet (fail)
  have LP := Lib.hid (fun (W : World) (hW : Below w.heap.size w W) => l02Pairs_any w0 _ t.kids HR.out W (HW.out.trans (hW.mono HW.out.size)) hks)
  have TO := Lib.hid (fun (W : World) => textOk_spec t.s W (by omega))
  have WH := Lib.hid (fun (W : World) => l02Whole_any t.n t.e HWF.out.2.1 HWF.out.2.2.1 W)
  have IN1 := Lib.hid (fun (W : World) => l01In_any t.n (-999999999999999999) 999999999999999999 W)
  have IN2 := Lib.hid (fun (W : World) => l01In_any t.e (-20) 20 W)
  have IN3 := Lib.hid (fun (W : World) => l01In_any t.n 0 1000000 W)
  obtain ⟨hwfk, -⟩ := HWF.out
  clear HW HR

  by_cases hk : t.k = 0 ∨ t.k = 1 ∨ t.k = 2
  case' pos =>
    have HB := Lib.hid (show b = ((t.n == 0) && (t.e == 0) && t.s.toList.isEmpty && ((t.kids.length : Int) == 0)) by rw [HB.out, own_a t hk])
    clear HWF LP TO WH IN1 IN2 IN3
    generalize hg0 : (t.n == 0) = g0 at *
    generalize hg1 : (t.e == 0) = g1 at *
    generalize hg2 : t.s.toList.isEmpty = g2 at *
    generalize hg3 : ((t.kids.length : Int) == 0) = g3 at *
    generalize t.k = xk at *
    rcases hk with rfl | rfl | rfl
    all_goals
      cases g0
      case false =>
        go_wp2_with fail
        go_ret
        exact ⟨by rw [HB.out]; simp, (by (repeat' (first | with_reducible exact Below.refl _ _ | with_reducible refine below_alloc ?_ _ ?_ | with_reducible refine Below.setCell ?_ ?_ _ | with_reducible refine Below.drew ?_ | with_reducible refine below_drewN ?_ _ | with_reducible refine below_step ?_ (by assumption) ?_ | with_reducible refine below_mark ?_ (by assumption) ?_)); all_goals (first | omega | (simp; done) | (simp; omega)))⟩
      case true =>
        cases g1
        case false =>
          go_wp2_with fail
          go_ret
          exact ⟨by rw [HB.out]; simp, (by (repeat' (first | with_reducible exact Below.refl _ _ | with_reducible refine below_alloc ?_ _ ?_ | with_reducible refine Below.setCell ?_ ?_ _ | with_reducible refine Below.drew ?_ | with_reducible refine below_drewN ?_ _ | with_reducible refine below_step ?_ (by assumption) ?_ | with_reducible refine below_mark ?_ (by assumption) ?_)); all_goals (first | omega | (simp; done) | (simp; omega)))⟩
        case true =>
          cases g2
          case false =>
            go_wp2_with fail
            go_ret
            exact ⟨by rw [HB.out]; simp, (by (repeat' (first | with_reducible exact Below.refl _ _ | with_reducible refine below_alloc ?_ _ ?_ | with_reducible refine Below.setCell ?_ ?_ _ | with_reducible refine Below.drew ?_ | with_reducible refine below_drewN ?_ _ | with_reducible refine below_step ?_ (by assumption) ?_ | with_reducible refine below_mark ?_ (by assumption) ?_)); all_goals (first | omega | (simp; done) | (simp; omega)))⟩
          case true =>
            cases g3
            case false =>
              go_wp2_with fail
              go_ret
              exact ⟨by rw [HB.out]; simp, (by (repeat' (first | with_reducible exact Below.refl _ _ | with_reducible refine below_alloc ?_ _ ?_ | with_reducible refine Below.setCell ?_ ?_ _ | with_reducible refine Below.drew ?_ | with_reducible refine below_drewN ?_ _ | with_reducible refine below_step ?_ (by assumption) ?_ | with_reducible refine below_mark ?_ (by assumption) ?_)); all_goals (first | omega | (simp; done) | (simp; omega)))⟩
            case true =>
              go_wp2_with fail
              go_ret
              exact ⟨by rw [HB.out]; rfl, (by (repeat' (first | with_reducible exact Below.refl _ _ | with_reducible refine below_alloc ?_ _ ?_ | with_reducible refine Below.setCell ?_ ?_ _ | with_reducible refine Below.drew ?_ | with_reducible refine below_drewN ?_ _ | with_reducible refine below_step ?_ (by assumption) ?_ | with_reducible refine below_mark ?_ (by assumption) ?_)); all_goals (first | omega | (simp; done) | (simp; omega)))⟩
  case' neg =>
    have hka := hk; clear hk
  by_cases hk : t.k = 3
  case' pos =>
    have HB := Lib.hid (show b = ((t.e == 0) && t.s.toList.isEmpty && ((t.kids.length : Int) == 0)) by rw [HB.out, own_b t hk])
    clear HWF LP TO WH IN1 IN2 IN3
    generalize hg0 : (t.e == 0) = g0 at *
    generalize hg1 : t.s.toList.isEmpty = g1 at *
    generalize hg2 : ((t.kids.length : Int) == 0) = g2 at *
    generalize t.k = xk at *
    subst hk
    cases g0
    case false =>
      go_wp2_with fail
      go_ret
      exact ⟨by rw [HB.out]; simp, (by (repeat' (first | with_reducible exact Below.refl _ _ | with_reducible refine below_alloc ?_ _ ?_ | with_reducible refine Below.setCell ?_ ?_ _ | with_reducible refine Below.drew ?_ | with_reducible refine below_drewN ?_ _ | with_reducible refine below_step ?_ (by assumption) ?_ | with_reducible refine below_mark ?_ (by assumption) ?_)); all_goals (first | omega | (simp; done) | (simp; omega)))⟩
    case true =>
      cases g1
      case false =>
        go_wp2_with fail
        go_ret
        exact ⟨by rw [HB.out]; simp, (by (repeat' (first | with_reducible exact Below.refl _ _ | with_reducible refine below_alloc ?_ _ ?_ | with_reducible refine Below.setCell ?_ ?_ _ | with_reducible refine Below.drew ?_ | with_reducible refine below_drewN ?_ _ | with_reducible refine below_step ?_ (by assumption) ?_ | with_reducible refine below_mark ?_ (by assumption) ?_)); all_goals (first | omega | (simp; done) | (simp; omega)))⟩
      case true =>
        cases g2
        case false =>
          go_wp2_with fail
          go_ret
          exact ⟨by rw [HB.out]; simp, (by (repeat' (first | with_reducible exact Below.refl _ _ | with_reducible refine below_alloc ?_ _ ?_ | with_reducible refine Below.setCell ?_ ?_ _ | with_reducible refine Below.drew ?_ | with_reducible refine below_drewN ?_ _ | with_reducible refine below_step ?_ (by assumption) ?_ | with_reducible refine below_mark ?_ (by assumption) ?_)); all_goals (first | omega | (simp; done) | (simp; omega)))⟩
        case true =>
          go_wp2_with fail
          go_ret
          exact ⟨by rw [HB.out]; rfl, (by (repeat' (first | with_reducible exact Below.refl _ _ | with_reducible refine below_alloc ?_ _ ?_ | with_reducible refine Below.setCell ?_ ?_ _ | with_reducible refine Below.drew ?_ | with_reducible refine below_drewN ?_ _ | with_reducible refine below_step ?_ (by assumption) ?_ | with_reducible refine below_mark ?_ (by assumption) ?_)); all_goals (first | omega | (simp; done) | (simp; omega)))⟩
  case' neg =>
    have hkb := hk; clear hk
  by_cases hk : t.k = 4
  case' pos =>
    have HB := Lib.hid (show b = ((t.n.tmod 10 != 0) && (decide (-999999999999999999 ≤ t.n ∧ t.n ≤ 999999999999999999)) && (decide (-20 ≤ t.e ∧ t.e ≤ 20)) && !(t.e == 0) && t.s.toList.isEmpty && ((t.kids.length : Int) == 0) && !(decide (0 < t.e) && (fits10 t.n t.e.toNat).isSome)) by rw [HB.out, own_c t hk])
    clear HWF LP TO IN3
    generalize hg0 : (t.n.tmod 10 != 0) = g0 at *
    obtain ⟨g1, hg1⟩ : ∃ g : Bool, g = ((decide (-999999999999999999 ≤ t.n ∧ t.n ≤ 999999999999999999))) := ⟨_, rfl⟩
    rw [← hg1] at HB IN1
    clear hg1
    obtain ⟨g2, hg2⟩ : ∃ g : Bool, g = ((decide (-20 ≤ t.e ∧ t.e ≤ 20))) := ⟨_, rfl⟩
    rw [← hg2] at HB IN2
    clear hg2
    generalize hg3 : (t.e == 0) = g3 at *
    generalize hg4 : t.s.toList.isEmpty = g4 at *
    generalize hg5 : ((t.kids.length : Int) == 0) = g5 at *
    obtain ⟨g6, hg6⟩ : ∃ g : Bool, g = ((decide (0 < t.e) && (fits10 t.n t.e.toNat).isSome)) := ⟨_, rfl⟩
    rw [← hg6] at HB WH
    clear hg6
    generalize t.k = xk at *
    subst hk
    cases g0
    case false =>
      go_wp2_with fail
      go_ret
      exact ⟨by rw [HB.out]; simp, (by (repeat' (first | with_reducible exact Below.refl _ _ | with_reducible refine below_alloc ?_ _ ?_ | with_reducible refine Below.setCell ?_ ?_ _ | with_reducible refine Below.drew ?_ | with_reducible refine below_drewN ?_ _ | with_reducible refine below_step ?_ (by assumption) ?_ | with_reducible refine below_mark ?_ (by assumption) ?_)); all_goals (first | omega | (simp; done) | (simp; omega)))⟩
    case true =>
      cases g1
      case false =>
        go_wp2_with fail
        refine (IN1.out _).mono ?_
        rintro x wx ⟨rfl, hwx⟩
        subst wx
        go_wp2_with fail
        go_ret
        exact ⟨by rw [HB.out]; simp, (by (repeat' (first | with_reducible exact Below.refl _ _ | with_reducible refine below_alloc ?_ _ ?_ | with_reducible refine Below.setCell ?_ ?_ _ | with_reducible refine Below.drew ?_ | with_reducible refine below_drewN ?_ _ | with_reducible refine below_step ?_ (by assumption) ?_ | with_reducible refine below_mark ?_ (by assumption) ?_)); all_goals (first | omega | (simp; done) | (simp; omega)))⟩
      case true =>
        cases g2
        case false =>
          go_wp2_with fail
          refine (IN1.out _).mono ?_
          rintro x wx ⟨rfl, hwx⟩
          subst wx
          go_wp2_with fail
          refine (IN2.out _).mono ?_
          rintro x wx ⟨rfl, hwx⟩
          subst wx
          go_wp2_with fail
          go_ret
          exact ⟨by rw [HB.out]; simp, (by (repeat' (first | with_reducible exact Below.refl _ _ | with_reducible refine below_alloc ?_ _ ?_ | with_reducible refine Below.setCell ?_ ?_ _ | with_reducible refine Below.drew ?_ | with_reducible refine below_drewN ?_ _ | with_reducible refine below_step ?_ (by assumption) ?_ | with_reducible refine below_mark ?_ (by assumption) ?_)); all_goals (first | omega | (simp; done) | (simp; omega)))⟩
        case true =>
          cases g3
          case true =>
            go_wp2_with fail
            refine (IN1.out _).mono ?_
            rintro x wx ⟨rfl, hwx⟩
            subst wx
            go_wp2_with fail
            refine (IN2.out _).mono ?_
            rintro x wx ⟨rfl, hwx⟩
            subst wx
            go_wp2_with fail
            go_ret
            exact ⟨by rw [HB.out]; simp, (by (repeat' (first | with_reducible exact Below.refl _ _ | with_reducible refine below_alloc ?_ _ ?_ | with_reducible refine Below.setCell ?_ ?_ _ | with_reducible refine Below.drew ?_ | with_reducible refine below_drewN ?_ _ | with_reducible refine below_step ?_ (by assumption) ?_ | with_reducible refine below_mark ?_ (by assumption) ?_)); all_goals (first | omega | (simp; done) | (simp; omega)))⟩
          case false =>
            cases g4
            case false =>
              go_wp2_with fail
              refine (IN1.out _).mono ?_
              rintro x wx ⟨rfl, hwx⟩
              subst wx
              go_wp2_with fail
              refine (IN2.out _).mono ?_
              rintro x wx ⟨rfl, hwx⟩
              subst wx
              go_wp2_with fail
              go_ret
              exact ⟨by rw [HB.out]; simp, (by (repeat' (first | with_reducible exact Below.refl _ _ | with_reducible refine below_alloc ?_ _ ?_ | with_reducible refine Below.setCell ?_ ?_ _ | with_reducible refine Below.drew ?_ | with_reducible refine below_drewN ?_ _ | with_reducible refine below_step ?_ (by assumption) ?_ | with_reducible refine below_mark ?_ (by assumption) ?_)); all_goals (first | omega | (simp; done) | (simp; omega)))⟩
            case true =>
              cases g5
              case false =>
                go_wp2_with fail
                refine (IN1.out _).mono ?_
                rintro x wx ⟨rfl, hwx⟩
                subst wx
                go_wp2_with fail
                refine (IN2.out _).mono ?_
                rintro x wx ⟨rfl, hwx⟩
                subst wx
                go_wp2_with fail
                go_ret
                exact ⟨by rw [HB.out]; simp, (by (repeat' (first | with_reducible exact Below.refl _ _ | with_reducible refine below_alloc ?_ _ ?_ | with_reducible refine Below.setCell ?_ ?_ _ | with_reducible refine Below.drew ?_ | with_reducible refine below_drewN ?_ _ | with_reducible refine below_step ?_ (by assumption) ?_ | with_reducible refine below_mark ?_ (by assumption) ?_)); all_goals (first | omega | (simp; done) | (simp; omega)))⟩
              case true =>
                cases g6
                case true =>
                  go_wp2_with fail
                  refine (IN1.out _).mono ?_
                  rintro x wx ⟨rfl, hwx⟩
                  subst wx
                  go_wp2_with fail
                  refine (IN2.out _).mono ?_
                  rintro x wx ⟨rfl, hwx⟩
                  subst wx
                  go_wp2_with fail
                  refine (WH.out _).mono ?_
                  rintro x wx ⟨rfl, hwx⟩
                  subst wx
                  go_wp2_with fail
                  go_ret
                  exact ⟨by rw [HB.out]; simp, (by (repeat' (first | with_reducible exact Below.refl _ _ | with_reducible refine below_alloc ?_ _ ?_ | with_reducible refine Below.setCell ?_ ?_ _ | with_reducible refine Below.drew ?_ | with_reducible refine below_drewN ?_ _ | with_reducible refine below_step ?_ (by assumption) ?_ | with_reducible refine below_mark ?_ (by assumption) ?_)); all_goals (first | omega | (simp; done) | (simp; omega)))⟩
                case false =>
                  go_wp2_with fail
                  refine (IN1.out _).mono ?_
                  rintro x wx ⟨rfl, hwx⟩
                  subst wx
                  go_wp2_with fail
                  refine (IN2.out _).mono ?_
                  rintro x wx ⟨rfl, hwx⟩
                  subst wx
                  go_wp2_with fail
                  refine (WH.out _).mono ?_
                  rintro x wx ⟨rfl, hwx⟩
                  subst wx
                  go_wp2_with fail
                  go_ret
                  exact ⟨by rw [HB.out]; rfl, (by (repeat' (first | with_reducible exact Below.refl _ _ | with_reducible refine below_alloc ?_ _ ?_ | with_reducible refine Below.setCell ?_ ?_ _ | with_reducible refine Below.drew ?_ | with_reducible refine below_drewN ?_ _ | with_reducible refine below_step ?_ (by assumption) ?_ | with_reducible refine below_mark ?_ (by assumption) ?_)); all_goals (first | omega | (simp; done) | (simp; omega)))⟩
  case' neg =>
    have hkc := hk; clear hk
  by_cases hk : t.k = 5
  case' pos =>
    have HB := Lib.hid (show b = ((t.n == 0) && (t.e == 0) && txt t.s && (decide ((t.s.size : Int) ≤ 2000)) && ((t.kids.length : Int) == 0)) by rw [HB.out, own_d t hk])
    clear HWF LP WH IN1 IN2 IN3
    generalize hg0 : (t.n == 0) = g0 at *
    generalize hg1 : (t.e == 0) = g1 at *
    obtain ⟨g2, hg2⟩ : ∃ g : Bool, g = (txt t.s) := ⟨_, rfl⟩
    rw [← hg2] at HB TO
    clear hg2
    generalize hg3 : (decide ((t.s.size : Int) ≤ 2000)) = g3 at *
    generalize hg4 : ((t.kids.length : Int) == 0) = g4 at *
    generalize t.k = xk at *
    subst hk
    cases g0
    case false =>
      go_wp2_with fail
      go_ret
      exact ⟨by rw [HB.out]; simp, (by (repeat' (first | with_reducible exact Below.refl _ _ | with_reducible refine below_alloc ?_ _ ?_ | with_reducible refine Below.setCell ?_ ?_ _ | with_reducible refine Below.drew ?_ | with_reducible refine below_drewN ?_ _ | with_reducible refine below_step ?_ (by assumption) ?_ | with_reducible refine below_mark ?_ (by assumption) ?_)); all_goals (first | omega | (simp; done) | (simp; omega)))⟩
    case true =>
      cases g1
      case false =>
        go_wp2_with fail
        go_ret
        exact ⟨by rw [HB.out]; simp, (by (repeat' (first | with_reducible exact Below.refl _ _ | with_reducible refine below_alloc ?_ _ ?_ | with_reducible refine Below.setCell ?_ ?_ _ | with_reducible refine Below.drew ?_ | with_reducible refine below_drewN ?_ _ | with_reducible refine below_step ?_ (by assumption) ?_ | with_reducible refine below_mark ?_ (by assumption) ?_)); all_goals (first | omega | (simp; done) | (simp; omega)))⟩
      case true =>
        cases g2
        case false =>
          go_wp2_with fail
          refine (TO.out _).mono ?_
          rintro x wx ⟨rfl, hbx⟩
          obtain ⟨c0, c1, c2, c3, c4⟩ := (show Box wx w.heap.size 5 t.n t.e t.s _ 28 from (hbx.block w.heap.size (by simp; done)).trans (Box.new w 5 t.n t.e t.s _ 28)).cells
          go_wp2_with fail
          go_ret
          exact ⟨by rw [HB.out]; simp, (by (repeat' (first | with_reducible exact Below.refl _ _ | with_reducible refine below_alloc ?_ _ ?_ | with_reducible refine Below.setCell ?_ ?_ _ | with_reducible refine Below.drew ?_ | with_reducible refine below_drewN ?_ _ | with_reducible refine below_step ?_ (by assumption) ?_ | with_reducible refine below_mark ?_ (by assumption) ?_)); all_goals (first | omega | (simp; done) | (simp; omega)))⟩
        case true =>
          cases g3
          case false =>
            go_wp2_with fail
            refine (TO.out _).mono ?_
            rintro x wx ⟨rfl, hbx⟩
            obtain ⟨c0, c1, c2, c3, c4⟩ := (show Box wx w.heap.size 5 t.n t.e t.s _ 28 from (hbx.block w.heap.size (by simp; done)).trans (Box.new w 5 t.n t.e t.s _ 28)).cells
            go_wp2_with fail
            go_ret
            exact ⟨by rw [HB.out]; simp, (by (repeat' (first | with_reducible exact Below.refl _ _ | with_reducible refine below_alloc ?_ _ ?_ | with_reducible refine Below.setCell ?_ ?_ _ | with_reducible refine Below.drew ?_ | with_reducible refine below_drewN ?_ _ | with_reducible refine below_step ?_ (by assumption) ?_ | with_reducible refine below_mark ?_ (by assumption) ?_)); all_goals (first | omega | (simp; done) | (simp; omega)))⟩
          case true =>
            cases g4
            case false =>
              go_wp2_with fail
              refine (TO.out _).mono ?_
              rintro x wx ⟨rfl, hbx⟩
              obtain ⟨c0, c1, c2, c3, c4⟩ := (show Box wx w.heap.size 5 t.n t.e t.s _ 28 from (hbx.block w.heap.size (by simp; done)).trans (Box.new w 5 t.n t.e t.s _ 28)).cells
              go_wp2_with fail
              go_ret
              exact ⟨by rw [HB.out]; simp, (by (repeat' (first | with_reducible exact Below.refl _ _ | with_reducible refine below_alloc ?_ _ ?_ | with_reducible refine Below.setCell ?_ ?_ _ | with_reducible refine Below.drew ?_ | with_reducible refine below_drewN ?_ _ | with_reducible refine below_step ?_ (by assumption) ?_ | with_reducible refine below_mark ?_ (by assumption) ?_)); all_goals (first | omega | (simp; done) | (simp; omega)))⟩
            case true =>
              go_wp2_with fail
              refine (TO.out _).mono ?_
              rintro x wx ⟨rfl, hbx⟩
              obtain ⟨c0, c1, c2, c3, c4⟩ := (show Box wx w.heap.size 5 t.n t.e t.s _ 28 from (hbx.block w.heap.size (by simp; done)).trans (Box.new w 5 t.n t.e t.s _ 28)).cells
              go_wp2_with fail
              go_ret
              exact ⟨by rw [HB.out]; rfl, (by (repeat' (first | with_reducible exact Below.refl _ _ | with_reducible refine below_alloc ?_ _ ?_ | with_reducible refine Below.setCell ?_ ?_ _ | with_reducible refine Below.drew ?_ | with_reducible refine below_drewN ?_ _ | with_reducible refine below_step ?_ (by assumption) ?_ | with_reducible refine below_mark ?_ (by assumption) ?_)); all_goals (first | omega | (simp; done) | (simp; omega)))⟩
  case' neg =>
    have hkd := hk; clear hk
  by_cases hk : t.k = 6
  case' pos =>
    have HB := Lib.hid (show b = ((t.n == 0) && (t.e == 0) && (decide ((t.s.size : Int) ≤ 2000)) && ((t.kids.length : Int) == 0)) by rw [HB.out, own_f t hk])
    clear HWF LP TO WH IN1 IN2 IN3
    generalize hg0 : (t.n == 0) = g0 at *
    generalize hg1 : (t.e == 0) = g1 at *
    generalize hg2 : (decide ((t.s.size : Int) ≤ 2000)) = g2 at *
    generalize hg3 : ((t.kids.length : Int) == 0) = g3 at *
    generalize t.k = xk at *
    subst hk
    cases g0
    case false =>
      go_wp2_with fail
      go_ret
      exact ⟨by rw [HB.out]; simp, (by (repeat' (first | with_reducible exact Below.refl _ _ | with_reducible refine below_alloc ?_ _ ?_ | with_reducible refine Below.setCell ?_ ?_ _ | with_reducible refine Below.drew ?_ | with_reducible refine below_drewN ?_ _ | with_reducible refine below_step ?_ (by assumption) ?_ | with_reducible refine below_mark ?_ (by assumption) ?_)); all_goals (first | omega | (simp; done) | (simp; omega)))⟩
    case true =>
      cases g1
      case false =>
        go_wp2_with fail
        go_ret
        exact ⟨by rw [HB.out]; simp, (by (repeat' (first | with_reducible exact Below.refl _ _ | with_reducible refine below_alloc ?_ _ ?_ | with_reducible refine Below.setCell ?_ ?_ _ | with_reducible refine Below.drew ?_ | with_reducible refine below_drewN ?_ _ | with_reducible refine below_step ?_ (by assumption) ?_ | with_reducible refine below_mark ?_ (by assumption) ?_)); all_goals (first | omega | (simp; done) | (simp; omega)))⟩
      case true =>
        cases g2
        case false =>
          go_wp2_with fail
          go_ret
          exact ⟨by rw [HB.out]; simp, (by (repeat' (first | with_reducible exact Below.refl _ _ | with_reducible refine below_alloc ?_ _ ?_ | with_reducible refine Below.setCell ?_ ?_ _ | with_reducible refine Below.drew ?_ | with_reducible refine below_drewN ?_ _ | with_reducible refine below_step ?_ (by assumption) ?_ | with_reducible refine below_mark ?_ (by assumption) ?_)); all_goals (first | omega | (simp; done) | (simp; omega)))⟩
        case true =>
          cases g3
          case false =>
            go_wp2_with fail
            go_ret
            exact ⟨by rw [HB.out]; simp, (by (repeat' (first | with_reducible exact Below.refl _ _ | with_reducible refine below_alloc ?_ _ ?_ | with_reducible refine Below.setCell ?_ ?_ _ | with_reducible refine Below.drew ?_ | with_reducible refine below_drewN ?_ _ | with_reducible refine below_step ?_ (by assumption) ?_ | with_reducible refine below_mark ?_ (by assumption) ?_)); all_goals (first | omega | (simp; done) | (simp; omega)))⟩
          case true =>
            go_wp2_with fail
            go_ret
            exact ⟨by rw [HB.out]; rfl, (by (repeat' (first | with_reducible exact Below.refl _ _ | with_reducible refine below_alloc ?_ _ ?_ | with_reducible refine Below.setCell ?_ ?_ _ | with_reducible refine Below.drew ?_ | with_reducible refine below_drewN ?_ _ | with_reducible refine below_step ?_ (by assumption) ?_ | with_reducible refine below_mark ?_ (by assumption) ?_)); all_goals (first | omega | (simp; done) | (simp; omega)))⟩
  case' neg =>
    have hkf := hk; clear hk
  by_cases hk : t.k = 7
  case' pos =>
    have HB := Lib.hid (show b = ((t.n == 0) && (t.e == 0) && t.s.toList.isEmpty) by rw [HB.out, own_g t hk])
    clear HWF LP TO WH IN1 IN2 IN3
    generalize hg0 : (t.n == 0) = g0 at *
    generalize hg1 : (t.e == 0) = g1 at *
    generalize hg2 : t.s.toList.isEmpty = g2 at *
    generalize t.k = xk at *
    subst hk
    cases g0
    case false =>
      go_wp2_with fail
      go_ret
      exact ⟨by rw [HB.out]; simp, (by (repeat' (first | with_reducible exact Below.refl _ _ | with_reducible refine below_alloc ?_ _ ?_ | with_reducible refine Below.setCell ?_ ?_ _ | with_reducible refine Below.drew ?_ | with_reducible refine below_drewN ?_ _ | with_reducible refine below_step ?_ (by assumption) ?_ | with_reducible refine below_mark ?_ (by assumption) ?_)); all_goals (first | omega | (simp; done) | (simp; omega)))⟩
    case true =>
      cases g1
      case false =>
        go_wp2_with fail
        go_ret
        exact ⟨by rw [HB.out]; simp, (by (repeat' (first | with_reducible exact Below.refl _ _ | with_reducible refine below_alloc ?_ _ ?_ | with_reducible refine Below.setCell ?_ ?_ _ | with_reducible refine Below.drew ?_ | with_reducible refine below_drewN ?_ _ | with_reducible refine below_step ?_ (by assumption) ?_ | with_reducible refine below_mark ?_ (by assumption) ?_)); all_goals (first | omega | (simp; done) | (simp; omega)))⟩
      case true =>
        cases g2
        case false =>
          go_wp2_with fail
          go_ret
          exact ⟨by rw [HB.out]; simp, (by (repeat' (first | with_reducible exact Below.refl _ _ | with_reducible refine below_alloc ?_ _ ?_ | with_reducible refine Below.setCell ?_ ?_ _ | with_reducible refine Below.drew ?_ | with_reducible refine below_drewN ?_ _ | with_reducible refine below_step ?_ (by assumption) ?_ | with_reducible refine below_mark ?_ (by assumption) ?_)); all_goals (first | omega | (simp; done) | (simp; omega)))⟩
        case true =>
          go_wp2_with fail
          go_ret
          exact ⟨by rw [HB.out]; rfl, (by (repeat' (first | with_reducible exact Below.refl _ _ | with_reducible refine below_alloc ?_ _ ?_ | with_reducible refine Below.setCell ?_ ?_ _ | with_reducible refine Below.drew ?_ | with_reducible refine below_drewN ?_ _ | with_reducible refine below_step ?_ (by assumption) ?_ | with_reducible refine below_mark ?_ (by assumption) ?_)); all_goals (first | omega | (simp; done) | (simp; omega)))⟩
  case' neg =>
    have hkg := hk; clear hk
  by_cases hk : t.k = 8
  case' pos =>
    have HB := Lib.hid (show b = ((t.n == 0) && (t.e == 0) && t.s.toList.isEmpty && (pairsB t.kids)) by rw [HB.out, own_h t hk])
    clear HWF TO WH IN1 IN2 IN3
    generalize hg0 : (t.n == 0) = g0 at *
    generalize hg1 : (t.e == 0) = g1 at *
    generalize hg2 : t.s.toList.isEmpty = g2 at *
    obtain ⟨g3, hg3⟩ : ∃ g : Bool, g = ((pairsB t.kids)) := ⟨_, rfl⟩
    rw [← hg3] at HB LP
    clear hg3
    generalize t.k = xk at *
    subst hk
    cases g0
    case false =>
      go_wp2_with fail
      go_ret
      exact ⟨by rw [HB.out]; simp, (by (repeat' (first | with_reducible exact Below.refl _ _ | with_reducible refine below_alloc ?_ _ ?_ | with_reducible refine Below.setCell ?_ ?_ _ | with_reducible refine Below.drew ?_ | with_reducible refine below_drewN ?_ _ | with_reducible refine below_step ?_ (by assumption) ?_ | with_reducible refine below_mark ?_ (by assumption) ?_)); all_goals (first | omega | (simp; done) | (simp; omega)))⟩
    case true =>
      cases g1
      case false =>
        go_wp2_with fail
        go_ret
        exact ⟨by rw [HB.out]; simp, (by (repeat' (first | with_reducible exact Below.refl _ _ | with_reducible refine below_alloc ?_ _ ?_ | with_reducible refine Below.setCell ?_ ?_ _ | with_reducible refine Below.drew ?_ | with_reducible refine below_drewN ?_ _ | with_reducible refine below_step ?_ (by assumption) ?_ | with_reducible refine below_mark ?_ (by assumption) ?_)); all_goals (first | omega | (simp; done) | (simp; omega)))⟩
      case true =>
        cases g2
        case false =>
          go_wp2_with fail
          go_ret
          exact ⟨by rw [HB.out]; simp, (by (repeat' (first | with_reducible exact Below.refl _ _ | with_reducible refine below_alloc ?_ _ ?_ | with_reducible refine Below.setCell ?_ ?_ _ | with_reducible refine Below.drew ?_ | with_reducible refine below_drewN ?_ _ | with_reducible refine below_step ?_ (by assumption) ?_ | with_reducible refine below_mark ?_ (by assumption) ?_)); all_goals (first | omega | (simp; done) | (simp; omega)))⟩
        case true =>
          cases g3
          case false =>
            go_wp2_with fail
            refine (LP.out _ ((by (repeat' (first | with_reducible exact Below.refl _ _ | with_reducible refine below_alloc ?_ _ ?_ | with_reducible refine Below.setCell ?_ ?_ _ | with_reducible refine Below.drew ?_ | with_reducible refine below_drewN ?_ _ | with_reducible refine below_step ?_ (by assumption) ?_ | with_reducible refine below_mark ?_ (by assumption) ?_)); all_goals (first | omega | (simp; done) | (simp; omega))))).mono ?_
            rintro x wx ⟨rfl, hbx⟩
            go_wp2_with fail
            go_ret
            exact ⟨by rw [HB.out]; simp, (by (repeat' (first | with_reducible exact Below.refl _ _ | with_reducible refine below_alloc ?_ _ ?_ | with_reducible refine Below.setCell ?_ ?_ _ | with_reducible refine Below.drew ?_ | with_reducible refine below_drewN ?_ _ | with_reducible refine below_step ?_ (by assumption) ?_ | with_reducible refine below_mark ?_ (by assumption) ?_)); all_goals (first | omega | (simp; done) | (simp; omega)))⟩
          case true =>
            go_wp2_with fail
            refine (LP.out _ ((by (repeat' (first | with_reducible exact Below.refl _ _ | with_reducible refine below_alloc ?_ _ ?_ | with_reducible refine Below.setCell ?_ ?_ _ | with_reducible refine Below.drew ?_ | with_reducible refine below_drewN ?_ _ | with_reducible refine below_step ?_ (by assumption) ?_ | with_reducible refine below_mark ?_ (by assumption) ?_)); all_goals (first | omega | (simp; done) | (simp; omega))))).mono ?_
            rintro x wx ⟨rfl, hbx⟩
            go_wp2_with fail
            go_ret
            exact ⟨by rw [HB.out]; rfl, (by (repeat' (first | with_reducible exact Below.refl _ _ | with_reducible refine below_alloc ?_ _ ?_ | with_reducible refine Below.setCell ?_ ?_ _ | with_reducible refine Below.drew ?_ | with_reducible refine below_drewN ?_ _ | with_reducible refine below_step ?_ (by assumption) ?_ | with_reducible refine below_mark ?_ (by assumption) ?_)); all_goals (first | omega | (simp; done) | (simp; omega)))⟩
  case' neg =>
    have hkh := hk; clear hk
  by_cases hk : t.k = 9
  case' pos =>
    have HB := Lib.hid (show b = ((decide (0 ≤ t.n ∧ t.n ≤ 1000000)) && (t.e == 0) && t.s.toList.isEmpty && ((t.kids.length : Int) == 1)) by rw [HB.out, own_i t hk])
    clear HWF LP TO WH IN1 IN2
    obtain ⟨g0, hg0⟩ : ∃ g : Bool, g = ((decide (0 ≤ t.n ∧ t.n ≤ 1000000))) := ⟨_, rfl⟩
    rw [← hg0] at HB IN3
    clear hg0
    generalize hg1 : (t.e == 0) = g1 at *
    generalize hg2 : t.s.toList.isEmpty = g2 at *
    generalize hg3 : ((t.kids.length : Int) == 1) = g3 at *
    generalize t.k = xk at *
    subst hk
    cases g0
    case false =>
      go_wp2_with fail
      refine (IN3.out _).mono ?_
      rintro x wx ⟨rfl, hwx⟩
      subst wx
      go_wp2_with fail
      go_ret
      exact ⟨by rw [HB.out]; simp, (by (repeat' (first | with_reducible exact Below.refl _ _ | with_reducible refine below_alloc ?_ _ ?_ | with_reducible refine Below.setCell ?_ ?_ _ | with_reducible refine Below.drew ?_ | with_reducible refine below_drewN ?_ _ | with_reducible refine below_step ?_ (by assumption) ?_ | with_reducible refine below_mark ?_ (by assumption) ?_)); all_goals (first | omega | (simp; done) | (simp; omega)))⟩
    case true =>
      cases g1
      case false =>
        go_wp2_with fail
        refine (IN3.out _).mono ?_
        rintro x wx ⟨rfl, hwx⟩
        subst wx
        go_wp2_with fail
        go_ret
        exact ⟨by rw [HB.out]; simp, (by (repeat' (first | with_reducible exact Below.refl _ _ | with_reducible refine below_alloc ?_ _ ?_ | with_reducible refine Below.setCell ?_ ?_ _ | with_reducible refine Below.drew ?_ | with_reducible refine below_drewN ?_ _ | with_reducible refine below_step ?_ (by assumption) ?_ | with_reducible refine below_mark ?_ (by assumption) ?_)); all_goals (first | omega | (simp; done) | (simp; omega)))⟩
      case true =>
        cases g2
        case false =>
          go_wp2_with fail
          refine (IN3.out _).mono ?_
          rintro x wx ⟨rfl, hwx⟩
          subst wx
          go_wp2_with fail
          go_ret
          exact ⟨by rw [HB.out]; simp, (by (repeat' (first | with_reducible exact Below.refl _ _ | with_reducible refine below_alloc ?_ _ ?_ | with_reducible refine Below.setCell ?_ ?_ _ | with_reducible refine Below.drew ?_ | with_reducible refine below_drewN ?_ _ | with_reducible refine below_step ?_ (by assumption) ?_ | with_reducible refine below_mark ?_ (by assumption) ?_)); all_goals (first | omega | (simp; done) | (simp; omega)))⟩
        case true =>
          cases g3
          case false =>
            go_wp2_with fail
            refine (IN3.out _).mono ?_
            rintro x wx ⟨rfl, hwx⟩
            subst wx
            go_wp2_with fail
            go_ret
            exact ⟨by rw [HB.out]; simp, (by (repeat' (first | with_reducible exact Below.refl _ _ | with_reducible refine below_alloc ?_ _ ?_ | with_reducible refine Below.setCell ?_ ?_ _ | with_reducible refine Below.drew ?_ | with_reducible refine below_drewN ?_ _ | with_reducible refine below_step ?_ (by assumption) ?_ | with_reducible refine below_mark ?_ (by assumption) ?_)); all_goals (first | omega | (simp; done) | (simp; omega)))⟩
          case true =>
            go_wp2_with fail
            refine (IN3.out _).mono ?_
            rintro x wx ⟨rfl, hwx⟩
            subst wx
            go_wp2_with fail
            go_ret
            exact ⟨by rw [HB.out]; rfl, (by (repeat' (first | with_reducible exact Below.refl _ _ | with_reducible refine below_alloc ?_ _ ?_ | with_reducible refine Below.setCell ?_ ?_ _ | with_reducible refine Below.drew ?_ | with_reducible refine below_drewN ?_ _ | with_reducible refine below_step ?_ (by assumption) ?_ | with_reducible refine below_mark ?_ (by assumption) ?_)); all_goals (first | omega | (simp; done) | (simp; omega)))⟩
  case' neg =>
    have hki := hk; clear hk
  have HB := Lib.hid (show b = false by rw [HB.out, own_j t (by omega)])
  clear HWF LP TO WH IN1 IN2 IN3
  generalize t.k = xk at *
  have t0 : (xk == 0) = false := by rw [beq_eq_false_iff_ne]; omega
  have t1 : (xk == 1) = false := by rw [beq_eq_false_iff_ne]; omega
  have t2 : (xk == 2) = false := by rw [beq_eq_false_iff_ne]; omega
  have t3 : (xk == 3) = false := by rw [beq_eq_false_iff_ne]; omega
  have t4 : (xk == 4) = false := by rw [beq_eq_false_iff_ne]; omega
  have t5 : (xk == 5) = false := by rw [beq_eq_false_iff_ne]; omega
  have t6 : (xk == 6) = false := by rw [beq_eq_false_iff_ne]; omega
  have t7 : (xk == 7) = false := by rw [beq_eq_false_iff_ne]; omega
  have t8 : (xk == 8) = false := by rw [beq_eq_false_iff_ne]; omega
  have t9 : (xk == 9) = false := by rw [beq_eq_false_iff_ne]; omega
  clear hka hkb hkc hkd hkf hkg hkh hki
  go_wp2_with fail
  go_ret
  exact ⟨by rw [HB.out]; rfl, (by (repeat' (first | with_reducible exact Below.refl _ _ | with_reducible refine below_alloc ?_ _ ?_ | with_reducible refine Below.setCell ?_ ?_ _ | with_reducible refine Below.drew ?_ | with_reducible refine below_drewN ?_ _ | with_reducible refine below_step ?_ (by assumption) ?_ | with_reducible refine below_mark ?_ (by assumption) ?_)); all_goals (first | omega | (simp; done) | (simp; omega)))⟩
theorem rightsB_take (ts : List V) (d : Int) (j : Nat) (hj : j < ts.length) : rightsB (ts.take (j + 1)) d = (rightsB (ts.take j) d && rightB ts[j] d) := by
  rw [rightsB_all, rightsB_all, List.take_succ_eq_append_getElem hj, List.all_append]
  simp
theorem rightsB_stuck (ts : List V) (d : Int) (j : Nat) (hj : j < ts.length) (h : rightB ts[j] d = false) : rightsB ts d = false := by
  rw [rightsB_all, Bool.eq_false_iff]
  intro hc
  rw [List.all_eq_true] at hc
  rw [hc _ (List.getElem_mem hj)] at h
  exact absurd h (by simp)
set_option maxHeartbeats 1000000 in
theorem l02Right_all (w0 : World) : ∀ (N : Nat) (v : Value) (t : V), t.sz < N → Rep w0 v t → t.sz ≤ 1048576 → ∀ (d : Int), -9223372036854775807 ≤ d → d ≤ 9223372036854775807 → ∀ (w : World), Below w0.heap.size w0 w →
    Calls Tryd.prog 109 #[v, .int .i64 d] w (BoolRet (rightB t d) w) := by
  intro N
  induction N with
  | zero => intro v t h; omega
  | succ N ih =>
    intro v t hN h hsz d hd0 hd1 w hw
    by_cases hd : d < 0
    · have t1 : decide (d < 0) = true := decide_eq_true hd
      rw [show rightB t d = false by rw [rightB_eq, decide_eq_false (show ¬ (0 ≤ d) by omega)]; rfl]
      obtain ⟨sl, rfl, hwf, hr⟩ := h
      unfold V.agg
      clear ih hr
      go_enter Tryd.func109, Tryd.ntmps109
      go_wp2_with fail
      go_ret
      exact ⟨rfl, (by (repeat' (first | with_reducible exact Below.refl _ _ | with_reducible refine below_alloc ?_ _ ?_ | with_reducible refine Below.setCell ?_ ?_ _ | with_reducible refine Below.drew ?_ | with_reducible refine below_drewN ?_ _ | with_reducible refine below_step ?_ (by assumption) ?_ | with_reducible refine below_mark ?_ (by assumption) ?_)); all_goals (first | omega | (simp; done) | (simp; omega)))⟩
    have t1 : decide (d < 0) = false := decide_eq_false hd
    have OW := Lib.hid (fun (W : World) (hW : Below w.heap.size w W) => l02Own_any w0 v t h hsz W (hw.trans (hW.mono hw.size)))
    obtain ⟨sl, rfl, hwf, hr⟩ := h
    have hks : t.kids.length ≤ 1048576 := by have := V.sz_eq t; have := szs_length t.kids; omega
    obtain ⟨b, hb⟩ : ∃ b : Bool, b = rightB t d := ⟨_, rfl⟩
    rw [← hb]
    have HB := Lib.hid (show b = (ownB t && rightsB t.kids (d - 1)) by rw [hb, rightB_eq, decide_eq_true (show 0 ≤ d by omega)]; rfl)
    have HW := Lib.hid hw
    obtain ⟨a, bb, off, cap, rfl, ha, hc, hm, sls, hel⟩ := hr.opened
    have HA := Lib.hid ha
    have IH := Lib.hid (fun (j : Nat) (hj : j < t.kids.length) (W : World) (hW : Below w.heap.size w W) => ih (t.kids[j].agg (sls j)) t.kids[j] (by have := V.sz_eq t; have := szs_mem (List.getElem_mem hj); omega) ⟨sls j, rfl, (hel j hj).2.1, (hel j hj).2.2⟩ (by have := V.sz_eq t; have := szs_mem (List.getElem_mem hj); omega) (d - 1) (by omega) (by omega) W (hw.trans (hW.mono hw.size)))
    have HE := Lib.hid hel
    clear ih hr hel ha hb hw hc hm
    have BX := Lib.hid (Box.new w t.k t.n t.e t.s (.slice a t.kids.length cap) 28)
    unfold V.agg at OW ⊢
    cases ho : ownB t
    case false =>
      have HB := Lib.hid (show b = false by rw [HB.out, ho]; rfl)
      rw [ho] at OW
      clear IH HE
      go_enter Tryd.func109, Tryd.ntmps109
      go_wp2_with fail
      refine (OW.out _ ((by (repeat' (first | with_reducible exact Below.refl _ _ | with_reducible refine below_alloc ?_ _ ?_ | with_reducible refine Below.setCell ?_ ?_ _ | with_reducible refine Below.drew ?_ | with_reducible refine below_drewN ?_ _ | with_reducible refine below_step ?_ (by assumption) ?_ | with_reducible refine below_mark ?_ (by assumption) ?_)); all_goals (first | omega | (simp; done) | (simp; omega))))).mono ?_
      rintro x w1 ⟨rfl, hb1⟩
      go_wp2_with fail
      go_ret
      exact ⟨by rw [HB.out]; rfl, (by (repeat' (first | with_reducible exact Below.refl _ _ | with_reducible refine below_alloc ?_ _ ?_ | with_reducible refine Below.setCell ?_ ?_ _ | with_reducible refine Below.drew ?_ | with_reducible refine below_drewN ?_ _ | with_reducible refine below_step ?_ (by assumption) ?_ | with_reducible refine below_mark ?_ (by assumption) ?_)); all_goals (first | omega | (simp; done) | (simp; omega)))⟩
    rw [ho, Bool.true_and] at HB
    rw [ho] at OW
    clear ho
    go_enter Tryd.func109, Tryd.ntmps109
    go_wp2_with fail
    refine (OW.out _ ((by (repeat' (first | with_reducible exact Below.refl _ _ | with_reducible refine below_alloc ?_ _ ?_ | with_reducible refine Below.setCell ?_ ?_ _ | with_reducible refine Below.drew ?_ | with_reducible refine below_drewN ?_ _ | with_reducible refine below_step ?_ (by assumption) ?_ | with_reducible refine below_mark ?_ (by assumption) ?_)); all_goals (first | omega | (simp; done) | (simp; omega))))).mono ?_
    rintro x w1 ⟨rfl, hb1⟩
    have hz1 := hb1.size
    simp at hz1
    have BX := Lib.hid (BX.out.stay hb1)
    obtain ⟨c0, c1, c2, c3, c4⟩ := BX.out.cells
    clear OW c0 c1 c2 c3
    go_wp2_with fail
    go_loopw [5] (fun i wr => ∃ j : Nat, j ≤ t.kids.length ∧ i = .int .i64 j ∧ Hid (rightsB (t.kids.take j) (d - 1) = true) ∧ Below w1.heap.size w1 wr) (fun i _ => t.kids.length + 1 - (intOf i).toNat)
    case atStart => exact ⟨0, by omega, rfl, Lib.hid rfl, Below.refl _ _⟩
    case round =>
      obtain ⟨j, hj, rfl, HN, hbl⟩ := hrel
      obtain ⟨-, -, -, -, c4⟩ := (BX.out.stay hbl).cells
      by_cases hlt : j < t.kids.length
      · have hne : t.kids ≠ [] := by intro e; rw [e] at hlt; simp at hlt
        obtain ⟨rfl, hbw⟩ := HA.out hne
        have HWR := Lib.hid (show Below w0.heap.size w0 wr from HW.out.trans (Below.mono ((by (repeat' (first | with_reducible exact Below.refl _ _ | with_reducible refine below_alloc ?_ _ ?_ | with_reducible refine Below.setCell ?_ ?_ _ | with_reducible refine Below.drew ?_ | with_reducible refine below_drewN ?_ _ | with_reducible refine below_step ?_ (by assumption) ?_ | with_reducible refine below_mark ?_ (by assumption) ?_)); all_goals (first | omega | (simp; done) | (simp; omega)))) HW.out.size))
        obtain ⟨d0, d1, d2, d3, d4⟩ := (HE.out j hlt).1.keep (HWR.out.block bb hbw)
        have IHJ := Lib.hid (IH.out j hlt)
        obtain ⟨ak, kcap, hks⟩ := (HE.out j hlt).2.2.slice
        rw [hks] at d4 IHJ
        clear hks
        have hdd : IntKind.i64.wrap (d - 1) = d - 1 := IntWalk.i64_in _ (by omega)
        have HT := Lib.hid (rightsB_take t.kids (d - 1) j hlt)
        have HS := Lib.hid (rightsB_stuck t.kids (d - 1) j hlt)
        rw [HN.out, Bool.true_and] at HT
        clear IH
        unfold V.agg at IHJ
        cases hrb : rightB t.kids[j] (d - 1)
        · have HX := Lib.hid (show b = false by rw [HB.out, HS.out hrb])
          rw [hrb] at IHJ
          clear HT HS hrb
          go_wp2_with fail
          refine (IHJ.out _ ((by (repeat' (first | with_reducible exact Below.refl _ _ | with_reducible refine below_alloc ?_ _ ?_ | with_reducible refine Below.setCell ?_ ?_ _ | with_reducible refine Below.drew ?_ | with_reducible refine below_drewN ?_ _ | with_reducible refine below_step ?_ (by assumption) ?_ | with_reducible refine below_mark ?_ (by assumption) ?_)); all_goals (first | omega | (simp; done) | (simp; omega))))).mono ?_
          rintro x wx ⟨rfl, hbx⟩
          go_wp2_with fail
          go_ret
          exact ⟨by rw [HX.out]; rfl, (by (repeat' (first | with_reducible exact Below.refl _ _ | with_reducible refine below_alloc ?_ _ ?_ | with_reducible refine Below.setCell ?_ ?_ _ | with_reducible refine Below.drew ?_ | with_reducible refine below_drewN ?_ _ | with_reducible refine below_step ?_ (by assumption) ?_ | with_reducible refine below_mark ?_ (by assumption) ?_)); all_goals (first | omega | (simp; done) | (simp; omega)))⟩
        · rw [hrb] at IHJ HT
          clear HS hrb
          go_wp2_with fail
          refine (IHJ.out _ ((by (repeat' (first | with_reducible exact Below.refl _ _ | with_reducible refine below_alloc ?_ _ ?_ | with_reducible refine Below.setCell ?_ ?_ _ | with_reducible refine Below.drew ?_ | with_reducible refine below_drewN ?_ _ | with_reducible refine below_step ?_ (by assumption) ?_ | with_reducible refine below_mark ?_ (by assumption) ?_)); all_goals (first | omega | (simp; done) | (simp; omega))))).mono ?_
          rintro x wx ⟨rfl, hbx⟩
          go_wp2_with fail
          go_roundw
          case rel => exact ⟨j + 1, by omega, by go_num, HT, (by (repeat' (first | with_reducible exact Below.refl _ _ | with_reducible refine below_alloc ?_ _ ?_ | with_reducible refine Below.setCell ?_ ?_ _ | with_reducible refine Below.drew ?_ | with_reducible refine below_drewN ?_ _ | with_reducible refine below_step ?_ (by assumption) ?_ | with_reducible refine below_mark ?_ (by assumption) ?_)); all_goals (first | omega | (simp; done) | (simp; omega)))⟩
          case measure => simp [intOf]; omega
      · have HX := Lib.hid (show b = true by
          rw [HB.out]
          have := HN.out
          rwa [show j = t.kids.length by omega, List.take_length] at this)
        clear HN
        go_wp2_with fail
        go_ret
        exact ⟨by rw [HX.out]; rfl, (by (repeat' (first | with_reducible exact Below.refl _ _ | with_reducible refine below_alloc ?_ _ ?_ | with_reducible refine Below.setCell ?_ ?_ _ | with_reducible refine Below.drew ?_ | with_reducible refine below_drewN ?_ _ | with_reducible refine below_step ?_ (by assumption) ?_ | with_reducible refine below_mark ?_ (by assumption) ?_)); all_goals (first | omega | (simp; done) | (simp; omega)))⟩
set_option maxHeartbeats 1000000 in
theorem ValueOk_spec (w0 : World) (v : Value) (t : V) (h : Rep w0 v t) (hsz : t.sz ≤ 1048576) (w : World) (hw : Below w0.heap.size w0 w) : Calls Tryd.prog 51 #[v] w fun e w' => e = .returned (.bool (okT t)) ∧ Below w.heap.size w w' := by
  have RI := Lib.hid (fun (W : World) (hW : Below w.heap.size w W) => l02Right_all w0 _ v t (Nat.lt_succ_self _) h hsz 12 (by omega) (by omega) W (hw.trans (hW.mono hw.size)))
  have HB := Lib.hid (show okT t = (rightB t 12 && decide ((t.nodes : Int) ≤ 300)) by unfold okT; congr 1; rw [decide_eq_decide]; omega)
  have hno : (t.nodes : Int) ≤ 1048577 := by have := nodes_sz t; omega
  obtain ⟨b, hb⟩ : ∃ b : Bool, b = okT t := ⟨_, rfl⟩
  rw [← hb] at HB ⊢
  clear hb
  obtain ⟨sl, rfl, hwf, hr⟩ := h
  have NO := Lib.hid (fun (W : World) (hW : Below w.heap.size w W) => nodes_any w0 _ sl t.kids (Nat.le_refl _) hr (by have := V.sz_eq t; omega) t rfl W (hw.trans (hW.mono hw.size)))
  have BX := Lib.hid (Box.new w t.k t.n t.e t.s sl 28)
  clear hr
  unfold V.agg at *
  cases hrb : rightB t 12
  · rw [hrb] at HB RI
    go_enter Tryd.func51, Tryd.ntmps51
    go_wp2_with fail
    refine (RI.out _ ((by (repeat' (first | with_reducible exact Below.refl _ _ | with_reducible refine below_alloc ?_ _ ?_ | with_reducible refine Below.setCell ?_ ?_ _ | with_reducible refine Below.drew ?_ | with_reducible refine below_drewN ?_ _ | with_reducible refine below_step ?_ (by assumption) ?_ | with_reducible refine below_mark ?_ (by assumption) ?_)); all_goals (first | omega | (simp; done) | (simp; omega))))).mono ?_
    rintro x wx ⟨rfl, hbx⟩
    go_wp2_with fail
    go_ret
    exact ⟨by rw [HB.out]; rfl, (by (repeat' (first | with_reducible exact Below.refl _ _ | with_reducible refine below_alloc ?_ _ ?_ | with_reducible refine Below.setCell ?_ ?_ _ | with_reducible refine Below.drew ?_ | with_reducible refine below_drewN ?_ _ | with_reducible refine below_step ?_ (by assumption) ?_ | with_reducible refine below_mark ?_ (by assumption) ?_)); all_goals (first | omega | (simp; done) | (simp; omega)))⟩
  · rw [hrb, Bool.true_and] at HB
    rw [hrb] at RI
    generalize hg : decide ((t.nodes : Int) ≤ 300) = g at *
    go_enter Tryd.func51, Tryd.ntmps51
    go_wp2_with fail
    refine (RI.out _ ((by (repeat' (first | with_reducible exact Below.refl _ _ | with_reducible refine below_alloc ?_ _ ?_ | with_reducible refine Below.setCell ?_ ?_ _ | with_reducible refine Below.drew ?_ | with_reducible refine below_drewN ?_ _ | with_reducible refine below_step ?_ (by assumption) ?_ | with_reducible refine below_mark ?_ (by assumption) ?_)); all_goals (first | omega | (simp; done) | (simp; omega))))).mono ?_
    rintro x wx ⟨rfl, hbx⟩
    obtain ⟨c0, c1, c2, c3, c4⟩ := (BX.out.stay hbx).cells
    go_wp2_with fail
    refine (NO.out _ ((by (repeat' (first | with_reducible exact Below.refl _ _ | with_reducible refine below_alloc ?_ _ ?_ | with_reducible refine Below.setCell ?_ ?_ _ | with_reducible refine Below.drew ?_ | with_reducible refine below_drewN ?_ _ | with_reducible refine below_step ?_ (by assumption) ?_ | with_reducible refine below_mark ?_ (by assumption) ?_)); all_goals (first | omega | (simp; done) | (simp; omega))))).mono ?_
    rintro x wy ⟨rfl, hby⟩
    cases g
    all_goals go_wp2_with fail
    all_goals go_ret
    all_goals exact ⟨by rw [HB.out]; rfl, (by (repeat' (first | with_reducible exact Below.refl _ _ | with_reducible refine below_alloc ?_ _ ?_ | with_reducible refine Below.setCell ?_ ?_ _ | with_reducible refine Below.drew ?_ | with_reducible refine below_drewN ?_ _ | with_reducible refine below_step ?_ (by assumption) ?_ | with_reducible refine below_mark ?_ (by assumption) ?_)); all_goals (first | omega | (simp; done) | (simp; omega)))⟩
end Go.Proofs.YtiemlefmhleaeaaDoor
