/- For every value, two places, list of numbers and number the program's CheckBranch and the reference's return the same, and leave the arguments as they were: the law returns true. -/
import Derived.Test.YtfjehhdahpbbgaaDoorSo11
import Derived.Test.YtfjehhdahpbbgaaDoorLawCheckBranchK01
import Derived.Deep.RegionWith
import Derived.Deep.DeepCutAuto
namespace Go.Proofs.YtfjehhdahpbbgaaDoor
set_option linter.unusedSimpArgs false
set_option linter.unusedVariables false
set_option maxRecDepth 100000
open Go.RowKit
def climbO (x : Int) (bs : List Bool) (l : List Int) : Int × List Int × Bool := if bs.length ≤ l.length then (climbI x bs (l.take bs.length), l.drop bs.length, true) else (0, [], false)
theorem climbO_nil (x : Int) (l : List Int) : climbO x [] l = (x, l, true) := by
  unfold climbO
  rw [if_pos (by simp)]
  simp [climbI]
theorem climbO_range {x : Int} (bs : List Bool) (l : List Int) (h : 0 ≤ x ∧ x < 4294967296) : 0 ≤ (climbO x bs l).1 ∧ (climbO x bs l).1 < 4294967296 := by
  unfold climbO
  split
  · exact climbI_range _ _ _ h
  · simp
theorem climbO_short {x : Int} {bs : List Bool} {l : List Int} (b : Bool) (h : (climbO x bs l).2.2 = false) : climbO x (bs ++ [b]) l = (0, [], false) := by
  unfold climbO at *
  split at h
  · simp at h
  · rw [if_neg (by rw [List.length_append, List.length_singleton]; omega)]
theorem climbO_end {x : Int} {bs : List Bool} {l : List Int} (b : Bool) (h : (climbO x bs l).2.2 = true) (h2 : (climbO x bs l).2.1 = []) : climbO x (bs ++ [b]) l = (0, [], false) := by
  unfold climbO at *
  split at h2
  · have := congrArg List.length h2
    simp at this
    rw [if_neg (by rw [List.length_append, List.length_singleton]; omega)]
  · rename_i hn
    rw [if_neg hn] at h; simp at h
theorem climbO_more {x s : Int} {bs : List Bool} {l r : List Int} (b : Bool) (h : (climbO x bs l).2.2 = true) (h2 : (climbO x bs l).2.1 = s :: r) : climbO x (bs ++ [b]) l = (upI (climbO x bs l).1 b s, r, true) := by
  unfold climbO at *
  split at h2
  · rename_i hle
    rw [if_pos hle] at h ⊢
    have h3 : l.drop bs.length = s :: r := h2
    have hlt : bs.length < l.length := by
      have := congrArg List.length h3
      simp at this; omega
    rw [List.drop_eq_getElem_cons hlt] at h3
    injection h3 with h3 h4
    rw [if_pos (by rw [List.length_append, List.length_singleton]; omega), List.length_append, List.length_singleton, List.take_succ_eq_append_getElem hlt, climbI_snoc _ _ _ _ _ (by rw [List.length_take]; omega), h3, h4]
  · simp at h2
theorem check_true {t : V} {i n : Int} {l : List Int} {r : Int} (hn : 1 ≤ n ∧ n ≤ 1000) (hi : 0 ≤ i ∧ i ≤ n - 1) : checkB t i n l r = decide ((turn n.toNat i).length = l.length ∧ climbI (sumV t) (turn n.toNat i) l = r) := by
  unfold checkB
  rw [if_pos ⟨hn.1, hn.2, hi.1, hi.2⟩]
theorem check_out {t : V} {i n : Int} {l : List Int} {r : Int} (h : ¬ (1 ≤ n ∧ n ≤ 1000 ∧ 0 ≤ i ∧ i ≤ n - 1)) : checkB t i n l r = false := by
  unfold checkB
  rw [if_neg h]
theorem check_climb {t : V} {i n : Int} {l : List Int} {r : Int} (hn : 1 ≤ n ∧ n ≤ 1000) (hi : 0 ≤ i ∧ i ≤ n - 1) : checkB t i n l r = ((climbO (sumV t) (turn n.toNat i) l).2.2 && (decide ((climbO (sumV t) (turn n.toNat i) l).2.1.length = 0) && decide ((climbO (sumV t) (turn n.toNat i) l).1 = r))) := by
  rw [check_true hn hi]
  unfold climbO
  split
  · rename_i h
    by_cases e : (turn n.toNat i).length = l.length
    · have e2 : l.take (turn n.toNat i).length = l := List.take_of_length_le (by omega)
      rw [e2]
      simp [e]
    · have e3 : ¬ l.length - (turn n.toNat i).length = 0 := by omega
      simp [e, List.length_drop, e3]
  · rename_i h
    have : ¬ (turn n.toNat i).length = l.length := by omega
    simp [this]
theorem URep.drop1 {w : World} {a : Option Addr} {n cap : Nat} {s : Int} {r : List Int} (h : URep w (.slice a n cap) (s :: r)) : URep w (.slice (if cap = 1 then a else Option.map (fun x => x.add 1) a) (n - 1) (cap - 1)) r := by
  obtain ⟨a2, b, off, cap2, e, ha, hc, hm, hcell⟩ := h
  injection e with e1 e2 e3
  subst e1 e2 e3
  obtain ⟨rfl, hb⟩ := ha (by simp)
  simp only [List.length_cons] at hc ⊢
  refine ⟨_, b, off + 1, cap - 1, by rw [Nat.add_sub_cancel], fun hne => ⟨?_, hb⟩, by omega, by omega, fun i hi => ?_⟩
  · have : r.length ≠ 0 := fun e => hne (List.eq_nil_of_length_eq_zero e)
    rw [if_neg (by omega)]
    simp [addr_add]
  · have := hcell (i + 1) (by simp; omega)
    rw [show off + 1 + i = off + (i + 1) by omega]
    simpa using this
theorem URep.drop2 {w : World} {b off n cap : Nat} {s : Int} {r : List Int} (h : URep w (.slice (some ⟨b, off, none⟩) n cap) (s :: r)) : URep w (.slice (if cap = 1 then some ⟨b, off, none⟩ else some ⟨b, off + 1, none⟩) (n - 1) (cap - 1)) r := by
  have := h.drop1
  simpa [addr_add] using this
theorem URep.head {w : World} {a : Option Addr} {n cap : Nat} {s : Int} {r : List Int} (h : URep w (.slice a n cap) (s :: r)) : ∃ b off, a = some ⟨b, off, none⟩ ∧ b < w.heap.size ∧ w.cell? ⟨b, off, none⟩ = some (.int .u32 s) ∧ n = r.length + 1 ∧ n ≤ cap ∧ cap ≤ 9223372036854775807 := by
  obtain ⟨a2, b, off, cap2, e, ha, hc, hm, hcell⟩ := h
  injection e with e1 e2 e3
  subst e1 e2 e3
  obtain ⟨rfl, hb⟩ := ha (by simp)
  have := hcell 0 (by simp)
  exact ⟨b, off, rfl, hb, by simpa using this, by simp, hc, hm⟩
def ClimbRet (w0 w : World) (o : Int × List Int × Bool) (e : Ending) (w' : World) : Prop := ∃ v, e = .returned (.tuple #[.int .u32 o.1, v, .bool o.2.2]) ∧ URep w0 v o.2.1 ∧ Below w.heap.size w w'
set_option maxHeartbeats 4000000 in
theorem climb_any (w0 : World) (x : Int) (hx : 0 ≤ x ∧ x < 4294967296) (v : Value) (l : List Int) (hv : URep w0 v l) (hl : URange l) : ∀ (N n : Nat) (i : Int), n ≤ N → 1 ≤ n → n ≤ 1000 → 0 ≤ i → i < n → ∀ (w : World), Below w0.heap.size w0 w → Calls Tryd.prog 58 #[.int .u32 x, .int .i64 i, .int .i64 n, v] w (ClimbRet w0 w (climbO x (turn n i) l)) := by
  intro N
  induction N with
  | zero => intro n i h1 h2; omega
  | succ N ih =>
  intro n i hN h1 h1000 hi0 hi w hw
  by_cases hn1 : n = 1
  · subst hn1
    rw [turn_one i (by omega), climbO_nil]
    obtain ⟨va, vc, rfl⟩ := hv.slice
    have HV := Lib.hid hv
    clear hv ih hl
    go_enter Tryd.func58, Tryd.ntmps58
    go_wp2_with fail
    go_ret3
    exact ⟨_, rfl, HV.out, Below.refl _ _⟩
  obtain ⟨h2, hh2⟩ : ∃ h2, h2 = (n + 1) / 2 := ⟨_, rfl⟩
  have hlt : h2 < n ∧ 1 ≤ h2 := by omega
  obtain ⟨hlt, hh1⟩ := hlt
  have hn2 : 2 ≤ n := by omega
  obtain ⟨va0, vc0, rfl⟩ := hv.slice
  by_cases hf : i < (h2 : Int)
  · have HT := Lib.hid (turn_first (n := n) (i := i) (by omega) (by rw [← hh2]; exact hf))
    rw [← hh2] at HT
    have HI := Lib.hid (fun (W : World) (hW : Below w.heap.size w W) => ih h2 i (by omega) (by omega) (by omega) (by omega) (by omega) W (hw.trans (hW.mono hw.size)))
    have hra := climbO_range (turn h2 i) l hx
    have S1 := Lib.hid (fun p1 => climbO_short (x := x) (bs := turn h2 i) (l := l) true p1)
    have S2 := Lib.hid (fun p1 p2 => climbO_end (x := x) (bs := turn h2 i) (l := l) true p1 p2)
    have S3 := Lib.hid (fun s r p1 p2 => climbO_more (x := x) (s := s) (r := r) (bs := turn h2 i) (l := l) true p1 p2)
    have HSUB : ∀ s ∈ (climbO x (turn h2 i) l).2.1, 0 ≤ s ∧ s < 4294967296 := by
      intro s hs
      unfold climbO at hs
      split at hs
      · exact hl s (List.mem_of_mem_drop hs)
      · simp at hs
    have HSUB := Lib.hid HSUB
    rw [HT.out]
    have HH := Lib.hid hh2
    generalize climbO x (turn h2 i ++ [true]) l = O at *
    generalize climbO x (turn h2 i) l = o at *
    obtain ⟨r, rest, ok⟩ := o
    dsimp only at hra S1 S2 S3 HSUB
    have HW := Lib.hid hw
    clear ih hv hl hN hh2 HT hw
    generalize l.length = ln at *
    go_enter Tryd.func58, Tryd.ntmps58
    go_upto_region 3 with fail
    go_cut [11] (fun s wx => s = .int .i64 h2 ∧ wx = w)
    case first =>
      go_wp2_with fail
      go_meet
      exact ⟨by rw [HH.out]; go_num, rfl⟩
    case rest =>
      obtain ⟨rfl, rfl⟩ := hcut
      go_wp2_with fail
      refine (HI.out _ (Below.refl _ _)).mono ?_
      rintro e1 w1 ⟨v1, rfl, hrep, hb1⟩
      obtain ⟨a1, c1, hv1⟩ := hrep.slice
      obtain ⟨ln1, hln1⟩ : ∃ k, k = rest.length := ⟨_, rfl⟩
      dsimp only at hv1
      rw [← hln1] at hv1
      subst hv1
      have HR1 := Lib.hid hrep
      have HB1 := Lib.hid hb1
      dsimp only at *
      clear hrep hb1 HI
      cases ok
      case false =>
        have HO := Lib.hid (S1.out rfl)
        go_wp2_with fail
        go_ret3
        rw [HO.out]
        exact ⟨_, rfl, ⟨none, 0, 0, 0, rfl, by simp, by simp, by omega, by simp⟩, HB1.out⟩
      case true =>
        cases rest with
        | nil =>
          have HO := Lib.hid (S2.out rfl rfl)
          obtain rfl : ln1 = 0 := by simpa using hln1
          clear hln1
          go_wp2_with fail
          go_ret3
          rw [HO.out]
          exact ⟨_, rfl, ⟨none, 0, 0, 0, rfl, by simp, by simp, by omega, by simp⟩, HB1.out⟩
        | cons s rest =>
          have hO := S3.out s rest rfl rfl
          obtain ⟨b, off, rfl, hbs, hcell, hnl, hnc, hcm⟩ := HR1.out.head
          obtain ⟨A1, hA1⟩ : ∃ A1 : Option Addr, A1 = if c1 = 1 then some ⟨b, off, none⟩ else some ⟨b, off + 1, none⟩ := ⟨_, rfl⟩
          have HD1 := Lib.hid (show URep w0 (.slice A1 (ln1 - 1) (c1 - 1)) rest from by rw [hA1]; exact HR1.out.drop2)
          have HA1 := Lib.hid hA1
          clear hA1
          have hs := HSUB.out s (by simp)
          have BO := Lib.hid (fun W => both_impl r s W hra.1 hra.2 hs.1 hs.2)
          have TC := Lib.hid (fun (W : World) (hW : Below w1.heap.size w1 W) => show W.cell? ⟨b, off, none⟩ = some (.int .u32 s) from by
            rw [World.cell?_of_block (a := ⟨b, off, none⟩) ((hW.block b (Nat.lt_of_lt_of_le hbs (Nat.le_trans HW.out.size HB1.out.size))).trans ((HB1.out.block b (Nat.lt_of_lt_of_le hbs HW.out.size)).trans (HW.out.block b hbs)))]; exact hcell)
          have HU := Lib.hid (show upI r true s = bothI r s from rfl)
          rw [HU.out] at hO
          have HO := Lib.hid hO
          generalize bothI r s = z at *
          have hln2 : 1 ≤ ln1 := by omega
          clear HR1 hcell S1 S2 S3 HSUB HU hbs hO hln1 hnl
          go_upto_region 11 with fail
          have HB2 := Lib.hid (show Below w1.heap.size w1 w1.drew from (Below.refl _ _).drew)
          refine wp_region_held_drew (S := fun W => W.cell? ⟨b, off, none⟩ = some (.int .u32 s)) (by kernel_rfl) (TC.out _ HB2.out) (fun hHeld => ?_)
          refine wpAnyH_take (i := 0) (v := ?_) rfl (by kernel_rfl) (by kernel_rfl) (by kernel_rfl) (fun _ _ _ h => h) (Or.inl ⟨by rfl, ?_⟩) hHeld ?_
          rotate_left
          · (intro w hSw; (try dsimp only at hSw); (try simp only [List.getElem_toArray, List.getElem_cons_succ, List.getElem_cons_zero]); go_simp <;> with_reducible rfl)
          try simp only [List.getElem_toArray, List.getElem_cons_succ, List.getElem_cons_zero, Act.put, List.setIfInBounds_toArray, List.set_cons_zero, List.set_cons_succ]
          refine wpAnyH_take (i := 1) (v := ?_) rfl (by kernel_rfl) (by kernel_rfl) (by kernel_rfl) (fun _ _ _ h => h) (Or.inl ⟨by rfl, ?_⟩) hHeld ?_
          rotate_left
          · (intro w hSw; (try dsimp only at hSw); (try simp only [List.getElem_toArray, List.getElem_cons_succ, List.getElem_cons_zero]); go_simp <;> with_reducible rfl)
          try simp only [List.getElem_toArray, List.getElem_cons_succ, List.getElem_cons_zero, Act.put, List.setIfInBounds_toArray, List.set_cons_zero, List.set_cons_succ]
          refine wpAnyH_take (i := 2) (v := .pointer (some ⟨b, off, none⟩)) rfl (by kernel_rfl) (by kernel_rfl) (by kernel_rfl) (fun _ _ _ h => h) (Or.inl ⟨by rfl, ?_⟩) hHeld ?_
          · (intro w hSw; (try dsimp only at hSw); (try simp only [List.getElem_toArray, List.getElem_cons_succ, List.getElem_cons_zero]); first | (go_simp; done) | (go_simp; omega) | (go_simp; intro hc; exfalso; omega))
          try simp only [List.getElem_toArray, List.getElem_cons_succ, List.getElem_cons_zero, Act.put, List.setIfInBounds_toArray, List.set_cons_zero, List.set_cons_succ]
          refine wpAnyH_take (i := 3) (v := ?_) rfl (by kernel_rfl) (by kernel_rfl) (by kernel_rfl) (fun _ _ _ h => h) (Or.inl ⟨by rfl, ?_⟩) hHeld ?_
          rotate_left
          · (intro w hSw; (try dsimp only at hSw); (try simp only [List.getElem_toArray, List.getElem_cons_succ, List.getElem_cons_zero]); go_simp <;> with_reducible rfl)
          try simp only [List.getElem_toArray, List.getElem_cons_succ, List.getElem_cons_zero, Act.put, List.setIfInBounds_toArray, List.set_cons_zero, List.set_cons_succ]
          refine wpAnyH_take (i := 5) (v := ?_) rfl (by kernel_rfl) (by kernel_rfl) (by kernel_rfl) (fun _ _ _ h => h) (Or.inl ⟨by rfl, ?_⟩) hHeld ?_
          rotate_left
          · (intro w hSw; (try dsimp only at hSw); (try simp only [List.getElem_toArray, List.getElem_cons_succ, List.getElem_cons_zero]); go_simp <;> with_reducible rfl)
          try simp only [List.getElem_toArray, List.getElem_cons_succ, List.getElem_cons_zero, Act.put, List.setIfInBounds_toArray, List.set_cons_zero, List.set_cons_succ]
          refine wpAnyH_take (i := 6) (v := .slice A1 (ln1 - 1) (c1 - 1)) rfl (by kernel_rfl) (by kernel_rfl) (by kernel_rfl) (fun _ _ _ h => h) (Or.inl ⟨by rfl, ?_⟩) hHeld ?_
          · (intro w hSw; (try dsimp only at hSw); (try simp only [List.getElem_toArray, List.getElem_cons_succ, List.getElem_cons_zero]); rw [HA1.out]; go_simp; intro hc; exfalso; omega)
          try simp only [List.getElem_toArray, List.getElem_cons_succ, List.getElem_cons_zero, Act.put, List.setIfInBounds_toArray, List.set_cons_zero, List.set_cons_succ]
          refine wpAnyH_ready (rs := [4]) (by kernel_rfl) (by simp) ?_
          refine AllReadyH.cons rfl (fun K hK => ?_) ?_
          · go_simp
            refine (BO.out _).mono ?_
            rintro e11 w11 ⟨rfl, hb11⟩
            have HB11 := Lib.hid (HB2.out.trans (hb11.mono HB2.out.size))
            clear hb11
            refine hK.out _ _ ?_ (fun hHeld => ?_)
            · exact TC.out _ HB11.out
            clear hK K
            try simp only [List.getElem_toArray, List.getElem_cons_succ, List.getElem_cons_zero, Act.put, List.setIfInBounds_toArray, List.set_cons_zero, List.set_cons_succ]
            refine wpAnyH_take (i := 7) (v := ?_) rfl (by kernel_rfl) (by kernel_rfl) (by kernel_rfl) (fun _ _ _ h => h) (Or.inl ⟨by rfl, ?_⟩) hHeld ?_
            rotate_left
            · (intro w hSw; (try dsimp only at hSw); (try simp only [List.getElem_toArray, List.getElem_cons_succ, List.getElem_cons_zero]); go_simp <;> with_reducible rfl)
            try simp only [List.getElem_toArray, List.getElem_cons_succ, List.getElem_cons_zero, Act.put, List.setIfInBounds_toArray, List.set_cons_zero, List.set_cons_succ]
            refine wpAnyH_take (i := 8) (v := ?_) rfl (by kernel_rfl) (by kernel_rfl) (by kernel_rfl) (fun _ _ _ h => h) (Or.inl ⟨by rfl, ?_⟩) hHeld ?_
            rotate_left
            · (intro w hSw; (try dsimp only at hSw); (try simp only [List.getElem_toArray, List.getElem_cons_succ, List.getElem_cons_zero]); go_simp <;> with_reducible rfl)
            try simp only [List.getElem_toArray, List.getElem_cons_succ, List.getElem_cons_zero, Act.put, List.setIfInBounds_toArray, List.set_cons_zero, List.set_cons_succ]
            refine wpAnyH_take (i := 9) (v := ?_) rfl (by kernel_rfl) (by kernel_rfl) (by kernel_rfl) (fun _ _ _ h => h) (Or.inl ⟨by rfl, ?_⟩) hHeld ?_
            rotate_left
            · (intro w hSw; (try dsimp only at hSw); (try simp only [List.getElem_toArray, List.getElem_cons_succ, List.getElem_cons_zero]); go_simp <;> with_reducible rfl)
            try simp only [List.getElem_toArray, List.getElem_cons_succ, List.getElem_cons_zero, Act.put, List.setIfInBounds_toArray, List.set_cons_zero, List.set_cons_succ]
            refine wpAnyH_done (by kernel_rfl) ?_ _
            go_wp2_with fail
            go_ret3
            rw [HO.out]
            exact ⟨_, rfl, HD1.out, HB1.out.trans (HB11.out.mono HB1.out.size)⟩
          exact AllReadyH.nil
  · have HT := Lib.hid (turn_later (n := n) (i := i) (by omega) (by rw [← hh2]; exact hf))
    rw [← hh2] at HT
    have HI := Lib.hid (fun (W : World) (hW : Below w.heap.size w W) => ih (n - h2) (i - (h2 : Int)) (by omega) (by omega) (by omega) (by omega) (by omega) W (hw.trans (hW.mono hw.size)))
    have hra := climbO_range (turn (n - h2) (i - (h2 : Int))) l hx
    have S1 := Lib.hid (fun p1 => climbO_short (x := x) (bs := turn (n - h2) (i - (h2 : Int))) (l := l) false p1)
    have S2 := Lib.hid (fun p1 p2 => climbO_end (x := x) (bs := turn (n - h2) (i - (h2 : Int))) (l := l) false p1 p2)
    have S3 := Lib.hid (fun s r p1 p2 => climbO_more (x := x) (s := s) (r := r) (bs := turn (n - h2) (i - (h2 : Int))) (l := l) false p1 p2)
    have HSUB : ∀ s ∈ (climbO x (turn (n - h2) (i - (h2 : Int))) l).2.1, 0 ≤ s ∧ s < 4294967296 := by
      intro s hs
      unfold climbO at hs
      split at hs
      · exact hl s (List.mem_of_mem_drop hs)
      · simp at hs
    have HSUB := Lib.hid HSUB
    rw [HT.out]
    have HH := Lib.hid hh2
    generalize climbO x (turn (n - h2) (i - (h2 : Int)) ++ [false]) l = O at *
    generalize climbO x (turn (n - h2) (i - (h2 : Int))) l = o at *
    obtain ⟨r, rest, ok⟩ := o
    dsimp only at hra S1 S2 S3 HSUB
    have hsub : ((n - h2 : Nat) : Int) = (n : Int) - h2 := by omega
    rw [hsub] at HI
    clear hsub
    have HW := Lib.hid hw
    clear ih hv hl hN hh2 HT hw
    generalize l.length = ln at *
    go_enter Tryd.func58, Tryd.ntmps58
    go_upto_region 3 with fail
    go_cut [11] (fun s wx => s = .int .i64 h2 ∧ wx = w)
    case first =>
      go_wp2_with fail
      go_meet
      exact ⟨by rw [HH.out]; go_num, rfl⟩
    case rest =>
      obtain ⟨rfl, rfl⟩ := hcut
      go_wp2_with fail
      refine (HI.out _ (Below.refl _ _)).mono ?_
      rintro e1 w1 ⟨v1, rfl, hrep, hb1⟩
      obtain ⟨a1, c1, hv1⟩ := hrep.slice
      obtain ⟨ln1, hln1⟩ : ∃ k, k = rest.length := ⟨_, rfl⟩
      dsimp only at hv1
      rw [← hln1] at hv1
      subst hv1
      have HR1 := Lib.hid hrep
      have HB1 := Lib.hid hb1
      dsimp only at *
      clear hrep hb1 HI
      cases ok
      case false =>
        have HO := Lib.hid (S1.out rfl)
        go_wp2_with fail
        go_ret3
        rw [HO.out]
        exact ⟨_, rfl, ⟨none, 0, 0, 0, rfl, by simp, by simp, by omega, by simp⟩, HB1.out⟩
      case true =>
        cases rest with
        | nil =>
          have HO := Lib.hid (S2.out rfl rfl)
          obtain rfl : ln1 = 0 := by simpa using hln1
          clear hln1
          go_wp2_with fail
          go_ret3
          rw [HO.out]
          exact ⟨_, rfl, ⟨none, 0, 0, 0, rfl, by simp, by simp, by omega, by simp⟩, HB1.out⟩
        | cons s rest =>
          have hO := S3.out s rest rfl rfl
          obtain ⟨b, off, rfl, hbs, hcell, hnl, hnc, hcm⟩ := HR1.out.head
          obtain ⟨A1, hA1⟩ : ∃ A1 : Option Addr, A1 = if c1 = 1 then some ⟨b, off, none⟩ else some ⟨b, off + 1, none⟩ := ⟨_, rfl⟩
          have HD1 := Lib.hid (show URep w0 (.slice A1 (ln1 - 1) (c1 - 1)) rest from by rw [hA1]; exact HR1.out.drop2)
          have HA1 := Lib.hid hA1
          clear hA1
          have hs := HSUB.out s (by simp)
          have BO := Lib.hid (fun W => both_impl s r W hs.1 hs.2 hra.1 hra.2)
          have TC := Lib.hid (fun (W : World) (hW : Below w1.heap.size w1 W) => show W.cell? ⟨b, off, none⟩ = some (.int .u32 s) from by
            rw [World.cell?_of_block (a := ⟨b, off, none⟩) ((hW.block b (Nat.lt_of_lt_of_le hbs (Nat.le_trans HW.out.size HB1.out.size))).trans ((HB1.out.block b (Nat.lt_of_lt_of_le hbs HW.out.size)).trans (HW.out.block b hbs)))]; exact hcell)
          have HU := Lib.hid (show upI r false s = bothI s r from rfl)
          rw [HU.out] at hO
          have HO := Lib.hid hO
          generalize bothI s r = z at *
          have hln2 : 1 ≤ ln1 := by omega
          clear HR1 hcell S1 S2 S3 HSUB HU hbs hO hln1 hnl
          go_upto_region 12 with fail
          have HB2 := Lib.hid (show Below w1.heap.size w1 w1.drew from (Below.refl _ _).drew)
          refine wp_region_held_drew (S := fun W => W.cell? ⟨b, off, none⟩ = some (.int .u32 s)) (by kernel_rfl) (TC.out _ HB2.out) (fun hHeld => ?_)
          refine wpAnyH_take (i := 0) (v := ?_) rfl (by kernel_rfl) (by kernel_rfl) (by kernel_rfl) (fun _ _ _ h => h) (Or.inl ⟨by rfl, ?_⟩) hHeld ?_
          rotate_left
          · (intro w hSw; (try dsimp only at hSw); (try simp only [List.getElem_toArray, List.getElem_cons_succ, List.getElem_cons_zero]); go_simp <;> with_reducible rfl)
          try simp only [List.getElem_toArray, List.getElem_cons_succ, List.getElem_cons_zero, Act.put, List.setIfInBounds_toArray, List.set_cons_zero, List.set_cons_succ]
          refine wpAnyH_take (i := 1) (v := .pointer (some ⟨b, off, none⟩)) rfl (by kernel_rfl) (by kernel_rfl) (by kernel_rfl) (fun _ _ _ h => h) (Or.inl ⟨by rfl, ?_⟩) hHeld ?_
          · (intro w hSw; (try dsimp only at hSw); (try simp only [List.getElem_toArray, List.getElem_cons_succ, List.getElem_cons_zero]); first | (go_simp; done) | (go_simp; omega) | (go_simp; intro hc; exfalso; omega))
          try simp only [List.getElem_toArray, List.getElem_cons_succ, List.getElem_cons_zero, Act.put, List.setIfInBounds_toArray, List.set_cons_zero, List.set_cons_succ]
          refine wpAnyH_take (i := 2) (v := ?_) rfl (by kernel_rfl) (by kernel_rfl) (by kernel_rfl) (fun _ _ _ h => h) (Or.inl ⟨by rfl, ?_⟩) hHeld ?_
          rotate_left
          · (intro w hSw; (try dsimp only at hSw); (try simp only [List.getElem_toArray, List.getElem_cons_succ, List.getElem_cons_zero]); go_simp <;> with_reducible rfl)
          try simp only [List.getElem_toArray, List.getElem_cons_succ, List.getElem_cons_zero, Act.put, List.setIfInBounds_toArray, List.set_cons_zero, List.set_cons_succ]
          refine wpAnyH_take (i := 3) (v := ?_) rfl (by kernel_rfl) (by kernel_rfl) (by kernel_rfl) (fun _ _ _ h => h) (Or.inl ⟨by rfl, ?_⟩) hHeld ?_
          rotate_left
          · (intro w hSw; (try dsimp only at hSw); (try simp only [List.getElem_toArray, List.getElem_cons_succ, List.getElem_cons_zero]); go_simp <;> with_reducible rfl)
          try simp only [List.getElem_toArray, List.getElem_cons_succ, List.getElem_cons_zero, Act.put, List.setIfInBounds_toArray, List.set_cons_zero, List.set_cons_succ]
          refine wpAnyH_take (i := 5) (v := ?_) rfl (by kernel_rfl) (by kernel_rfl) (by kernel_rfl) (fun _ _ _ h => h) (Or.inl ⟨by rfl, ?_⟩) hHeld ?_
          rotate_left
          · (intro w hSw; (try dsimp only at hSw); (try simp only [List.getElem_toArray, List.getElem_cons_succ, List.getElem_cons_zero]); go_simp <;> with_reducible rfl)
          try simp only [List.getElem_toArray, List.getElem_cons_succ, List.getElem_cons_zero, Act.put, List.setIfInBounds_toArray, List.set_cons_zero, List.set_cons_succ]
          refine wpAnyH_take (i := 6) (v := .slice A1 (ln1 - 1) (c1 - 1)) rfl (by kernel_rfl) (by kernel_rfl) (by kernel_rfl) (fun _ _ _ h => h) (Or.inl ⟨by rfl, ?_⟩) hHeld ?_
          · (intro w hSw; (try dsimp only at hSw); (try simp only [List.getElem_toArray, List.getElem_cons_succ, List.getElem_cons_zero]); rw [HA1.out]; go_simp; intro hc; exfalso; omega)
          try simp only [List.getElem_toArray, List.getElem_cons_succ, List.getElem_cons_zero, Act.put, List.setIfInBounds_toArray, List.set_cons_zero, List.set_cons_succ]
          refine wpAnyH_ready (rs := [4]) (by kernel_rfl) (by simp) ?_
          refine AllReadyH.cons rfl (fun K hK => ?_) ?_
          · go_simp
            refine (BO.out _).mono ?_
            rintro e12 w12 ⟨rfl, hb12⟩
            have HB12 := Lib.hid (HB2.out.trans (hb12.mono HB2.out.size))
            clear hb12
            refine hK.out _ _ ?_ (fun hHeld => ?_)
            · exact TC.out _ HB12.out
            clear hK K
            try simp only [List.getElem_toArray, List.getElem_cons_succ, List.getElem_cons_zero, Act.put, List.setIfInBounds_toArray, List.set_cons_zero, List.set_cons_succ]
            refine wpAnyH_take (i := 7) (v := ?_) rfl (by kernel_rfl) (by kernel_rfl) (by kernel_rfl) (fun _ _ _ h => h) (Or.inl ⟨by rfl, ?_⟩) hHeld ?_
            rotate_left
            · (intro w hSw; (try dsimp only at hSw); (try simp only [List.getElem_toArray, List.getElem_cons_succ, List.getElem_cons_zero]); go_simp <;> with_reducible rfl)
            try simp only [List.getElem_toArray, List.getElem_cons_succ, List.getElem_cons_zero, Act.put, List.setIfInBounds_toArray, List.set_cons_zero, List.set_cons_succ]
            refine wpAnyH_take (i := 8) (v := ?_) rfl (by kernel_rfl) (by kernel_rfl) (by kernel_rfl) (fun _ _ _ h => h) (Or.inl ⟨by rfl, ?_⟩) hHeld ?_
            rotate_left
            · (intro w hSw; (try dsimp only at hSw); (try simp only [List.getElem_toArray, List.getElem_cons_succ, List.getElem_cons_zero]); go_simp <;> with_reducible rfl)
            try simp only [List.getElem_toArray, List.getElem_cons_succ, List.getElem_cons_zero, Act.put, List.setIfInBounds_toArray, List.set_cons_zero, List.set_cons_succ]
            refine wpAnyH_take (i := 9) (v := ?_) rfl (by kernel_rfl) (by kernel_rfl) (by kernel_rfl) (fun _ _ _ h => h) (Or.inl ⟨by rfl, ?_⟩) hHeld ?_
            rotate_left
            · (intro w hSw; (try dsimp only at hSw); (try simp only [List.getElem_toArray, List.getElem_cons_succ, List.getElem_cons_zero]); go_simp <;> with_reducible rfl)
            try simp only [List.getElem_toArray, List.getElem_cons_succ, List.getElem_cons_zero, Act.put, List.setIfInBounds_toArray, List.set_cons_zero, List.set_cons_succ]
            refine wpAnyH_done (by kernel_rfl) ?_ _
            go_wp2_with fail
            go_ret3
            rw [HO.out]
            exact ⟨_, rfl, HD1.out, HB1.out.trans (HB12.out.mono HB1.out.size)⟩
          exact AllReadyH.nil
set_option maxHeartbeats 2000000 in
theorem turns_any : ∀ (N n : Nat) (i : Int), n ≤ N → n ≤ 1000 → 0 ≤ i → i < 1000 → ∀ (w : World), Calls Tryd.prog 56 #[.int .i64 i, .int .i64 n] w (BoolsRet w (turn n i)) := by
  intro N
  induction N with
  | zero =>
    intro n i hN h1000 hi0 hi w
    rw [turn_one i (by omega)]
    obtain rfl : n = 0 := by omega
    go_enter Tryd.func56, Tryd.ntmps56
    go_wp2_with fail
    go_ret
    exact ⟨_, rfl, ORow.made0 (Nat.le_refl _), (by (with_reducible (repeat' (first | exact Below.refl _ _ | refine below_alloc ?_ _ ?_ | refine Below.setCell ?_ ?_ _ | refine Below.drew ?_ | refine below_drewN ?_ _ | refine below_step ?_ (by assumption) ?_ | refine below_mark ?_ (by assumption) ?_))); all_goals (first | omega | (simp; done) | (simp; omega)))⟩
  | succ N ih =>
    intro n i hN h1000 hi0 hi w
    by_cases hn1 : n ≤ 1
    · rw [turn_one i hn1]
      clear ih
      go_enter Tryd.func56, Tryd.ntmps56
      go_wp2_with fail
      go_ret
      exact ⟨_, rfl, ORow.made0 (Nat.le_refl _), (by (with_reducible (repeat' (first | exact Below.refl _ _ | refine below_alloc ?_ _ ?_ | refine Below.setCell ?_ ?_ _ | refine Below.drew ?_ | refine below_drewN ?_ _ | refine below_step ?_ (by assumption) ?_ | refine below_mark ?_ (by assumption) ?_))); all_goals (first | omega | (simp; done) | (simp; omega)))⟩
    obtain ⟨h2, hh2⟩ : ∃ h2, h2 = (n + 1) / 2 := ⟨_, rfl⟩
    have hlt : h2 < n ∧ 1 ≤ h2 := by omega
    obtain ⟨hlt, hh1⟩ := hlt
    by_cases hf : i < (h2 : Int)
    · have HT := Lib.hid (turn_first (n := n) (i := i) (by omega) (by rw [← hh2]; exact hf))
      rw [← hh2] at HT
      have HI := Lib.hid (fun (W : World) => ih h2 i (by omega) (by omega) (by omega) (by omega) W)
      have hlen : (turn h2 i).length ≤ 1000 := by have := turn_len h2 i; omega
      have HH := Lib.hid hh2
      generalize turn h2 i = tl at *
      generalize turn n i = R at *
      clear ih hN hh2
      go_enter Tryd.func56, Tryd.ntmps56
      go_upto_region 3 with fail
      go_cut [5] (fun s wx => s = .int .i64 h2 ∧ wx = w)
      case first =>
        go_wp2_with fail
        go_meet
        exact ⟨by rw [HH.out]; go_num, rfl⟩
      case rest =>
        obtain ⟨rfl, rfl⟩ := hcut
        go_wp2_with fail
        refine (HI.out _).mono ?_
        rintro e1 w1 ⟨v1, rfl, hrow, hb1⟩
        obtain ⟨a1, n1, c1, rfl⟩ := hrow.slice3
        have R1 := Lib.hid (show ORow (w1.alloc (.cells #[.bool true] 4)) wc.heap.size (.slice a1 n1 c1) tl from (hrow.stay2 ((Below.refl _ _).alloc (Nat.le_refl _) _)))
        have S1 := Lib.hid (src_bool1 w1 true)
        have HB1 := Lib.hid hb1
        have hz1 := hb1.size
        have HL := Lib.hid hrow.lt
        clear hrow hb1
        go_wp2_with (at_builtin; refine app_bools rfl _ _ _ rfl wc.heap.size _ _ rfl R1.out _ rfl _ S1.out (by simp; omega) (by simp; omega) ?_; intro v2 w2 hrow2 hg2 hfr2; obtain ⟨a2, n2, c2, rfl⟩ := hrow2.slice3; have R2 := Lib.hid hrow2; have G2 := Lib.hid hg2; clear hrow2 hg2 hfr2)
        go_ret
        exact ⟨_, rfl, by rw [HT.out]; exact R2.out, (HB1.out.alloc hz1 _).grown G2.out (by simp; omega) (fun k hk => (HL.out k hk).1)⟩
    · have HT := Lib.hid (turn_later (n := n) (i := i) (by omega) (by rw [← hh2]; exact hf))
      rw [← hh2] at HT
      have HI := Lib.hid (fun (W : World) => ih (n - h2) (i - (h2 : Int)) (by omega) (by omega) (by omega) (by omega) W)
      have hlen : (turn (n - h2) (i - (h2 : Int))).length ≤ 1000 := by have := turn_len (n - h2) (i - (h2 : Int)); omega
      have HH := Lib.hid hh2
      have hsub : ((n - h2 : Nat) : Int) = (n : Int) - h2 := by omega
      rw [hsub] at HI
      clear hsub
      generalize turn (n - h2) (i - (h2 : Int)) = tl at *
      generalize turn n i = R at *
      clear ih hN hh2
      go_enter Tryd.func56, Tryd.ntmps56
      go_upto_region 3 with fail
      go_cut [5] (fun s wx => s = .int .i64 h2 ∧ wx = w)
      case first =>
        go_wp2_with fail
        go_meet
        exact ⟨by rw [HH.out]; go_num, rfl⟩
      case rest =>
        obtain ⟨rfl, rfl⟩ := hcut
        go_wp2_with fail
        refine (HI.out _).mono ?_
        rintro e1 w1 ⟨v1, rfl, hrow, hb1⟩
        obtain ⟨a1, n1, c1, rfl⟩ := hrow.slice3
        have R1 := Lib.hid (show ORow (w1.alloc (.cells #[.bool false] 4)) wc.heap.size (.slice a1 n1 c1) tl from (hrow.stay2 ((Below.refl _ _).alloc (Nat.le_refl _) _)))
        have S1 := Lib.hid (src_bool1 w1 false)
        have HB1 := Lib.hid hb1
        have hz1 := hb1.size
        have HL := Lib.hid hrow.lt
        clear hrow hb1
        go_wp2_with (at_builtin; refine app_bools rfl _ _ _ rfl wc.heap.size _ _ rfl R1.out _ rfl _ S1.out (by simp; omega) (by simp; omega) ?_; intro v2 w2 hrow2 hg2 hfr2; obtain ⟨a2, n2, c2, rfl⟩ := hrow2.slice3; have R2 := Lib.hid hrow2; have G2 := Lib.hid hg2; clear hrow2 hg2 hfr2)
        go_ret
        exact ⟨_, rfl, by rw [HT.out]; exact R2.out, (HB1.out.alloc hz1 _).grown G2.out (by simp; omega) (fun k hk => (HL.out k hk).1)⟩
end Go.Proofs.YtfjehhdahpbbgaaDoor
namespace Go.Proofs.YtfjehhdahpbbgaaDoor
set_option linter.unusedSimpArgs false
set_option linter.unusedVariables false
set_option maxRecDepth 100000
open Go.RowKit
set_option maxHeartbeats 4000000 in
theorem CheckBranch_impl0 (w0 : World) (hE : Env w0) (v : Value) (t : V) (h : Rep w0 v t) (hsz : t.sz ≤ 1048576) (i n : Int) (hi : In64 i) (hn : In64 n) (u : Value) (l : List Int) (hu : URep w0 u l) (hl : URange l) (hln : l.length ≤ 1048576) (r : Int) (hr : 0 ≤ r ∧ r < 4294967296) (w : World) (hw : Below w0.heap.size w0 w) :
    Calls Tryd.prog 24 #[v, .int .i64 i, .int .i64 n, u, .int .u32 r] w (BoolRet (checkB t i n l r) w) := by
  have SO := Lib.hid (fun (W : World) (hW : Below w.heap.size w W) => SumOf_impl0 w0 hE v t h hsz W (hw.trans (hW.mono hw.size)))
  obtain ⟨sl, rfl, hwf, hrp⟩ := h
  obtain ⟨sa, sc, rfl⟩ := hrp.slice
  have HU := Lib.hid hu
  obtain ⟨ua, uc, rfl⟩ := hu.slice
  clear hrp hwf hu
  have BX := Lib.hid (Box.new w t.k t.n t.e t.s (.slice sa t.kids.length sc) 29)
  unfold V.agg at SO ⊢
  unfold In64 at hi hn
  have hsr := sumV_range t
  by_cases hin : 1 ≤ n ∧ n ≤ 1000
  case neg =>
    have HC := Lib.hid (check_out (t := t) (i := i) (n := n) (l := l) (r := r) (fun h => hin ⟨h.1, h.2.1⟩))
    generalize checkB t i n l r = R at *
    generalize l.length = ln at *
    clear SO HU hl
    go_enter Tryd.func24, Tryd.ntmps24
    go_wp2_with fail
    refine (within_no _ _ _ _ (by omega)).mono ?_
    rintro e w' ⟨rfl, rfl⟩
    go_wp2_with fail
    go_ret
    exact ⟨by rw [HC.out]; rfl, (by (with_reducible (repeat' (first | exact Below.refl _ _ | refine below_alloc ?_ _ ?_ | refine Below.setCell ?_ ?_ _ | refine Below.drew ?_ | refine below_drewN ?_ _ | refine below_step ?_ (by assumption) ?_ | refine below_mark ?_ (by assumption) ?_))); all_goals (first | omega | (simp; done) | (simp; omega)))⟩
  obtain ⟨hn1, hn2⟩ := hin
  by_cases hii : 0 ≤ i ∧ i ≤ n - 1
  case neg =>
    have HC := Lib.hid (check_out (t := t) (i := i) (n := n) (l := l) (r := r) (fun h => hii h.2.2))
    generalize checkB t i n l r = R at *
    generalize l.length = ln at *
    clear SO HU hl
    go_enter Tryd.func24, Tryd.ntmps24
    go_wp2_with fail
    refine (within_yes _ _ _ _ (by omega) (by omega)).mono ?_
    rintro e w' ⟨rfl, rfl⟩
    go_wp2_with fail
    refine (within_no _ _ _ _ (by omega)).mono ?_
    rintro e w' ⟨rfl, rfl⟩
    go_wp2_with fail
    go_ret
    exact ⟨by rw [HC.out]; rfl, (by (with_reducible (repeat' (first | exact Below.refl _ _ | refine below_alloc ?_ _ ?_ | refine Below.setCell ?_ ?_ _ | refine Below.drew ?_ | refine below_drewN ?_ _ | refine below_step ?_ (by assumption) ?_ | refine below_mark ?_ (by assumption) ?_))); all_goals (first | omega | (simp; done) | (simp; omega)))⟩
  obtain ⟨hi0, hi1⟩ := hii
  obtain ⟨N, rfl⟩ := Int.eq_ofNat_of_zero_le (show 0 ≤ n by omega)
  have HC := Lib.hid (check_climb (t := t) (i := i) (n := (N : Int)) (l := l) (r := r) ⟨hn1, hn2⟩ ⟨hi0, hi1⟩)
  rw [Int.toNat_natCast] at HC
  have CB := Lib.hid (fun (W : World) (hW : Below w.heap.size w W) => climb_any w0 (sumV t) hsr _ l HU.out hl N N i (Nat.le_refl _) (by omega) (by omega) (by omega) (by omega) W (hw.trans (hW.mono hw.size)))
  have HGR := climbO_range (turn N i) l hsr
  generalize checkB t i N l r = R at *
  generalize climbO (sumV t) (turn N i) l = o at *
  generalize sumV t = sv at *
  clear HU hl
  generalize l.length = ln at *
  obtain ⟨g, rest, ok⟩ := o
  dsimp only at HC HGR
  go_enter Tryd.func24, Tryd.ntmps24
  go_wp2_with fail
  refine (within_yes _ _ _ _ (by omega) (by omega)).mono ?_
  rintro e w' ⟨rfl, hww⟩
  subst hww
  go_wp2_with fail
  refine (within_yes _ _ _ _ (by omega) (by omega)).mono ?_
  rintro e w' ⟨rfl, hww⟩
  subst hww
  obtain ⟨p0, p1, p2, p3, p4⟩ := BX.out.cells
  go_wp2_with fail
  refine (SO.out _ ((by (with_reducible (repeat' (first | exact Below.refl _ _ | refine below_alloc ?_ _ ?_ | refine Below.setCell ?_ ?_ _ | refine Below.drew ?_ | refine below_drewN ?_ _ | refine below_step ?_ (by assumption) ?_ | refine below_mark ?_ (by assumption) ?_))); all_goals (first | omega | (simp; done) | (simp; omega))))).mono ?_
  rintro e w1 ⟨rfl, hb1⟩
  have HB1 := Lib.hid (show Below w.heap.size w w1 from (by (with_reducible (repeat' (first | exact Below.refl _ _ | refine below_alloc ?_ _ ?_ | refine Below.setCell ?_ ?_ _ | refine Below.drew ?_ | refine below_drewN ?_ _ | refine below_step ?_ (by assumption) ?_ | refine below_mark ?_ (by assumption) ?_))); all_goals (first | omega | (simp; done) | (simp; omega))))
  clear hb1 p0 p1 p2 p3 p4
  go_wp2_with fail
  refine (CB.out _ HB1.out).mono ?_
  rintro e w2 ⟨v1, rfl, hrep, hb2⟩
  obtain ⟨a1, c1, hv1⟩ := hrep.slice
  dsimp only at hv1
  have HB2 := Lib.hid (HB1.out.trans (hb2.mono HB1.out.size))
  obtain ⟨rn, hrn⟩ : ∃ k, k = rest.length := ⟨_, rfl⟩
  rw [← hrn] at hv1 HC
  subst hv1
  clear hrep hb2 hrn CB SO
  dsimp only
  cases ok
  · go_wp2_with fail
    go_ret
    exact ⟨by rw [HC.out]; rfl, HB2.out⟩
  · by_cases hr0 : rn = 0
    · subst hr0
      by_cases hg : g = r
      · subst hg
        have tg : ((g : Int) == g) = true := by simp
        go_wp2_with fail
        go_ret
        exact ⟨by rw [HC.out]; simp; try rfl, HB2.out⟩
      · have tg : ((g : Int) == r) = false := by simpa using hg
        have HGN := Lib.hid hg
        clear hg
        go_wp2_with fail
        go_ret
        exact ⟨by rw [HC.out]; have := HGN.out; simp [this]; try rfl, HB2.out⟩
    · have HRN := Lib.hid hr0
      go_wp2_with fail
      go_ret
      exact ⟨by rw [HC.out]; have := HRN.out; simp [this]; try rfl, HB2.out⟩
set_option maxHeartbeats 4000000 in
theorem CheckBranch_spec0 (w0 : World) (v : Value) (t : V) (h : Rep w0 v t) (hsz : t.sz ≤ 1048576) (i n : Int) (hi : In64 i) (hn : In64 n) (u : Value) (l : List Int) (hu : URep w0 u l) (hl : URange l) (hln : l.length ≤ 1048576) (r : Int) (hr : 0 ≤ r ∧ r < 4294967296) (w : World) (hw : Below w0.heap.size w0 w) :
    Calls Tryd.prog 22 #[v, .int .i64 i, .int .i64 n, u, .int .u32 r] w (BoolRet (checkB t i n l r) w) := by
  have SO := Lib.hid (fun (W : World) (hW : Below w.heap.size w W) => SumOf_spec0 w0 v t h hsz W (hw.trans (hW.mono hw.size)))
  obtain ⟨sl, rfl, hwf, hrp⟩ := h
  obtain ⟨sa, sc, rfl⟩ := hrp.slice
  have HU := Lib.hid hu
  obtain ⟨ua, uc, rfl⟩ := hu.slice
  clear hrp hwf hu
  have BX := Lib.hid (Box.new w t.k t.n t.e t.s (.slice sa t.kids.length sc) 29)
  unfold V.agg at SO ⊢
  unfold In64 at hi hn
  have hsr := sumV_range t
  by_cases hin : 1 ≤ n ∧ n ≤ 1000
  case neg =>
    have HC := Lib.hid (check_out (t := t) (i := i) (n := n) (l := l) (r := r) (fun h => hin ⟨h.1, h.2.1⟩))
    generalize checkB t i n l r = R at *
    generalize l.length = ln at *
    clear SO HU hl
    go_enter Tryd.func22, Tryd.ntmps22
    go_wp2_with fail
    refine (l01In_no _ _ _ _ (by omega)).mono ?_
    rintro e w' ⟨rfl, rfl⟩
    go_wp2_with fail
    go_ret
    exact ⟨by rw [HC.out]; rfl, (by (with_reducible (repeat' (first | exact Below.refl _ _ | refine below_alloc ?_ _ ?_ | refine Below.setCell ?_ ?_ _ | refine Below.drew ?_ | refine below_drewN ?_ _ | refine below_step ?_ (by assumption) ?_ | refine below_mark ?_ (by assumption) ?_))); all_goals (first | omega | (simp; done) | (simp; omega)))⟩
  obtain ⟨hn1, hn2⟩ := hin
  by_cases hii : 0 ≤ i ∧ i ≤ n - 1
  case neg =>
    have HC := Lib.hid (check_out (t := t) (i := i) (n := n) (l := l) (r := r) (fun h => hii h.2.2))
    generalize checkB t i n l r = R at *
    generalize l.length = ln at *
    clear SO HU hl
    go_enter Tryd.func22, Tryd.ntmps22
    go_wp2_with fail
    refine (l01In_yes _ _ _ _ (by omega) (by omega)).mono ?_
    rintro e w' ⟨rfl, rfl⟩
    go_wp2_with fail
    refine (l01In_no _ _ _ _ (by omega)).mono ?_
    rintro e w' ⟨rfl, rfl⟩
    go_wp2_with fail
    go_ret
    exact ⟨by rw [HC.out]; rfl, (by (with_reducible (repeat' (first | exact Below.refl _ _ | refine below_alloc ?_ _ ?_ | refine Below.setCell ?_ ?_ _ | refine Below.drew ?_ | refine below_drewN ?_ _ | refine below_step ?_ (by assumption) ?_ | refine below_mark ?_ (by assumption) ?_))); all_goals (first | omega | (simp; done) | (simp; omega)))⟩
  obtain ⟨hi0, hi1⟩ := hii
  obtain ⟨N, rfl⟩ := Int.eq_ofNat_of_zero_le (show 0 ≤ n by omega)
  have HC := Lib.hid (check_true (t := t) (i := i) (n := (N : Int)) (l := l) (r := r) ⟨hn1, hn2⟩ ⟨hi0, hi1⟩)
  rw [Int.toNat_natCast] at HC
  have TB := Lib.hid (fun (W : World) => turns_any N N i (Nat.le_refl _) (by omega) (by omega) (by omega) W)
  have hTL : (turn N i).length ≤ 1000 := by have := turn_len N i; omega
  have HST := Lib.hid (fun k h1 h2 => climbI_step (sumV t) (turn N i) l k h1 h2)
  have HRG := Lib.hid (fun k => climbI_range ((turn N i).take k) (l.take k) (sumV t) hsr)
  generalize checkB t i N l r = R at *
  generalize turn N i = tl at *
  go_enter Tryd.func22, Tryd.ntmps22
  go_wp2_with fail
  refine (l01In_yes _ _ _ _ (by omega) (by omega)).mono ?_
  rintro e w' ⟨rfl, hww⟩
  subst hww
  go_wp2_with fail
  refine (l01In_yes _ _ _ _ (by omega) (by omega)).mono ?_
  rintro e w' ⟨rfl, hww⟩
  subst hww
  go_wp2_with fail
  refine (TB.out _).mono ?_
  rintro e w1 ⟨v1, rfl, hrow, hb1⟩
  have HB1 := Lib.hid (show Below w.heap.size w w1 from (by (with_reducible (repeat' (first | exact Below.refl _ _ | refine below_alloc ?_ _ ?_ | refine Below.setCell ?_ ?_ _ | refine Below.drew ?_ | refine below_drewN ?_ _ | refine below_step ?_ (by assumption) ?_ | refine below_mark ?_ (by assumption) ?_))); all_goals (first | omega | (simp; done) | (simp; omega))))
  have HRW := Lib.hid hrow
  obtain ⟨a1, c1, rfl⟩ := hrow.slice
  obtain ⟨p0, p1, p2, p3, p4⟩ := (BX.out.stay hb1).cells
  clear hrow hb1 TB
  by_cases hne : tl.length = l.length
  case neg =>
    have hne2 : ¬ ((tl.length : Int) = l.length) := by omega
    have HNE := Lib.hid hne
    clear hne HRW HU hl HST HRG
    generalize tl.length = m at *
    generalize l.length = ln at *
    go_wp2_with fail
    go_ret
    exact ⟨by rw [HC.out]; have := HNE.out; simp [this]; try rfl, HB1.out⟩
  have HNE := Lib.hid hne
  rw [← hne]
  obtain ⟨m, hm⟩ : ∃ m, m = tl.length := ⟨_, rfl⟩
  rw [← hm] at hTL hne ⊢
  go_wp2_with fail
  refine (SO.out _ HB1.out).mono ?_
  rintro e w2 ⟨rfl, hb2⟩
  have HB2 := Lib.hid (HB1.out.trans (hb2.mono HB1.out.size))
  have HR2 := Lib.hid (HRW.out.stay2 hb2)
  have HU2 := Lib.hid (HU.out.keep (hw.trans (HB2.out.mono hw.size)))
  have X0 := Lib.hid (show sumV t = climbI (sumV t) (tl.take 0) (l.take 0) from by rw [List.take_zero, List.take_zero, climbI]; intro _ _ _ _ h; cases h)
  clear p0 p1 p2 p3 p4 hb2 HRW HU SO
  generalize sumV t = sv at *
  go_wp2_with fail
  go_loopw [12, 13] (fun x kk wr => ∃ k : Nat, x = .int .u32 (climbI sv (tl.take k) (l.take k)) ∧ kk = .int .i64 k ∧ k ≤ m ∧ Hid (Below w2.heap.size w2 wr)) (fun _ kk _ => m - (intOf kk).toNat)
  case atStart => exact ⟨0, by rw [← X0.out], rfl, by omega, Lib.hid (Below.refl _ _)⟩
  case round =>
    obtain ⟨k, rfl, rfl, hk, HBR⟩ := hrel
    by_cases hlt : k < m
    · have hk1 : k < tl.length := by omega
      have hk2 : k < l.length := by omega
      have hst := HST.out k hk1 hk2
      have hrg := HRG.out k
      have hls := hl l[k] (List.getElem_mem hk2)
      obtain ⟨gb, hga, hgl⟩ : ∃ g, a1 = some ⟨g, 0, none⟩ ∧ g < w2.heap.size := by
        obtain ⟨a', cap', e, h1, h2, h3⟩ := HR2.out.form
        injection e with e1 e2 e3
        obtain ⟨g, rfl, _⟩ := h3 (by intro e; rw [e] at hk1; simp at hk1)
        exact ⟨g, e1, (HR2.out.lt g (by rw [e1]; rfl)).2⟩
      subst hga
      have hct := (HR2.out.cells (i := k) hk1).1
      obtain ⟨a2, b, off, cap2, e, ha, hc2, hm2, hcell⟩ := HU2.out
      injection e with e1 e2 e3
      obtain ⟨rfl, hbl⟩ := ha (by intro e; rw [e] at hk2; simp at hk2)
      subst e1 e3
      have hcl := hcell k hk2
      have HST1 := Lib.hid hst
      have d0 : wr.cell? ⟨gb, k, none⟩ = some (.bool tl[k]) := by rw [HBR.out.cell (p := ⟨gb, k, none⟩) hgl]; exact hct
      have d1 : wr.cell? ⟨b, off + k, none⟩ = some (.int .u32 l[k]) := by rw [HBR.out.cell (p := ⟨b, off + k, none⟩) hbl]; exact hcl
      clear hct hcl hcell hst e2 ha
      generalize climbI sv (tl.take k) (l.take k) = xk at *
      generalize tl[k] = bk at *
      generalize l[k] = lk at *
      have B1 := Lib.hid (fun W => both_spec xk lk W hrg.1 hrg.2 hls.1 hls.2)
      have B2 := Lib.hid (fun W => both_spec lk xk W hls.1 hls.2 hrg.1 hrg.2)
      cases bk
      · go_wp2_with fail
        refine (B2.out _).mono ?_
        rintro e w3 ⟨rfl, hb3⟩
        have HB3 := Lib.hid (HBR.out.trans (hb3.mono HBR.out.size))
        clear hb3
        go_wp2_with fail
        go_roundw
        case rel =>
          exact ⟨k + 1, by rw [HST1.out]; rfl, by go_num, by omega, HB3⟩
        case measure => simp [intOf]; omega
      · go_wp2_with fail
        refine (B1.out _).mono ?_
        rintro e w3 ⟨rfl, hb3⟩
        have HB3 := Lib.hid (HBR.out.trans (hb3.mono HBR.out.size))
        clear hb3
        go_wp2_with fail
        go_roundw
        case rel =>
          exact ⟨k + 1, by rw [HST1.out]; rfl, by go_num, by omega, HB3⟩
        case measure => simp [intOf]; omega
    · have hkm : k = m := by omega
      subst hkm
      have h1 : tl.take k = tl := List.take_of_length_le (by omega)
      have h2 : l.take k = l := List.take_of_length_le (by omega)
      rw [h1, h2]
      have HF := Lib.hid (show R = decide (climbI sv tl l = r) from by rw [HC.out]; have := HNE.out; simp [this])
      have HBF := Lib.hid (HB2.out.trans (HBR.out.mono HB2.out.size))
      generalize climbI sv tl l = z at *
      by_cases hz : z = r
      · subst hz
        have tg : ((z : Int) == z) = true := by simp
        go_wp2_with fail
        go_ret
        exact ⟨by rw [HF.out]; simp; try rfl, HBF.out⟩
      · have tg : ((z : Int) == r) = false := by simpa using hz
        have HGN := Lib.hid hz
        clear hz
        go_wp2_with fail
        go_ret
        exact ⟨by rw [HF.out]; have := HGN.out; simp [this]; try rfl, HBF.out⟩
end Go.Proofs.YtfjehhdahpbbgaaDoor
namespace Go.Proofs.YtfjehhdahpbbgaaDoor
set_option linter.unusedSimpArgs false
set_option linter.unusedVariables false
set_option maxRecDepth 100000
open Go.ChangeShapes Go.WideShapes Go.ChangeAt Go.RowKit Go.Lib
open Go.ChangeMaps (open_string shut_string)
theorem CheckBranch_spec (w0 : World) (v : Value) (t : V) (h : Rep w0 v t) (hz : t.sz ≤ 1048576) (i : Int) (hi : In64 i) (n : Int) (hn : In64 n) (u : Value) (l : List Int) (hu : URep w0 u l) (hln : l.length ≤ 1048576) (hl : URange l) (r : Int) (hr : 0 ≤ r ∧ r < 4294967296) (w : World) (hw : Below w0.heap.size w0 w) :
    Calls Tryd.prog 22 #[v, .int .i64 i, .int .i64 n, u, .int .u32 r] w (BoolRet (checkB t i n l r) w) := CheckBranch_spec0 w0 v t h hz i n hi hn u l hu hl hln r hr w hw
theorem CheckBranch_impl (w0 : World) (v : Value) (t : V) (h : Rep w0 v t) (hz : t.sz ≤ 1048576) (i : Int) (hi : In64 i) (n : Int) (hn : In64 n) (u : Value) (l : List Int) (hu : URep w0 u l) (hln : l.length ≤ 1048576) (hl : URange l) (r : Int) (hr : 0 ≤ r ∧ r < 4294967296) (w : World) (hw : Below w0.heap.size w0 w) (hE : Env w0) :
    Calls Tryd.prog 24 #[v, .int .i64 i, .int .i64 n, u, .int .u32 r] w (BoolRet (checkB t i n l r) w) := CheckBranch_impl0 w0 hE v t h hz i n hi hn u l hu hl hln r hr w hw
set_option maxHeartbeats 8000000 in
theorem walkS_FnExactCheckBranch {w00 : World} (v0 : Value) (t0 : V) (hv0 : Rep w00 v0 t0) (t1 : Int) (hv10 : (Lit.int .i64 t1).wf = true) (t2 : Int) (hv20 : (Lit.int .i64 t2).wf = true) (v3 : Value) (t3 : List Int) (hv3 : URep w00 v3 t3 ∧ URange t3) (hz3 : t3.length ≤ 1048576) (t4 : Int) (hv40 : (Lit.int .u32 t4).wf = true) (w : World) (hww : w = w00) (hE : Env w) : Calls Tryd.prog 6 #[v0, .int .i64 t1, .int .i64 t2, v3, .int .u32 t4] w (LawRet w) := by
  subst hww
  have hv1 : In64 t1 := in64_of_wf hv10
  have hv2 : In64 t2 := in64_of_wf hv20
  have tz3 : decide ((1048576 : Int) < (t3.length : Int)) = false := decide_eq_false (by omega)
  have HRA3 := Lib.hid hv3.2
  have hv4 : 0 ≤ t4 ∧ t4 < 4294967296 := u32_of_wf hv40
  have SZ0 := Lib.hid (fun w' (hh : Below w.heap.size w w') (m : Int) (h0 : 0 ≤ m) (h1 : m ≤ 1048576) => sz_any w v0 t0 hv0 w' hh m h0 h1)
  have TO0 := Lib.hid (fun w' (hh : Below w.heap.size w w') (hz : t0.sz ≤ 1048576) => to_any w v0 t0 hv0 hz w' hh)
  have EQ0 := Lib.hid (fun w1 x y (h1 : Rep w1 x t0) (h2 : Rep w1 y t0) => eq_any w1 x y t0 h1 h2 w1 (Below.refl _ _))
  have TO3 := Lib.hid (fun w' (hh : Below w.heap.size w w') (hz : t3.length ≤ 1048576) => to_u32s w v3 t3 hv3.1 hz w' hh)
  have EQ3 := Lib.hid (fun w1 x y (h1 : URep w1 x t3) (h2 : URep w1 y t3) => eqUint32S_any w1 x y t3 h1 h2 w1 (Below.refl _ _))
  have KS := Lib.hid (fun w1 x0 (h0 : Rep w1 x0 t0) (z0 : t0.sz ≤ 1048576) x3 (h3 : URep w1 x3 t3) (z3 : t3.length ≤ 1048576) => CheckBranch_spec w1 x0 t0 h0 z0 t1 hv1 t2 hv2 x3 t3 h3 z3 hv3.2 t4 hv4 w1 (Below.refl _ _))
  have KI := Lib.hid (fun w1 x0 (h0 : Rep w1 x0 t0) (z0 : t0.sz ≤ 1048576) x3 (h3 : URep w1 x3 t3) (z3 : t3.length ≤ 1048576) (hh : Below w.heap.size w w1) => CheckBranch_impl w1 x0 t0 h0 z0 t1 hv1 t2 hv2 x3 t3 h3 z3 hv3.2 t4 hv4 w1 (Below.refl _ _) (Env.keep hE hh))
  clear hE
  have HCN0 := Lib.hid (fun (h : t0.sz ≤ 1048576) => cnts_kids_le h)
  obtain ⟨sl0, rfl, _, _⟩ := hv0
  obtain ⟨va3, vc3, rfl⟩ := hv3.1.slice
  clear hv3
  unfold V.agg at SZ0 TO0 ⊢
  generalize checkB t0 t1 t2 t3 t4 = r0 at *
  go_enter Tryd.func6, Tryd.ntmps6
  go_wp2_with fail
  have BA0_0 := Lib.hid (Box.new (w) t0.k t0.n t0.e t0.s sl0 24)
  have HOK0 := Lib.hid (fun (h : ¬ szr (1048576) (t0.sz) < 0) => szr_ok h)
  have hlo0 := szr_lo (1048576) (t0.sz)
  refine (SZ0.out _ (by (repeat' (first | with_reducible exact Below.refl _ _ | with_reducible refine below_alloc ?_ _ ?_ | with_reducible refine Below.setCell ?_ ?_ _ | with_reducible refine Below.drew ?_ | with_reducible refine below_drewN ?_ _ | with_reducible refine below_step ?_ (by assumption) ?_ | with_reducible refine below_mark ?_ (by assumption) ?_)); all_goals (first | omega | (simp; done) | (simp; omega))) _ (by omega) (by omega)).mono ?_
  rintro e1 w1 ⟨rfl, hb1⟩
  have hz1 := hb1.size; try simp at hz1
  generalize szr (1048576) (t0.sz) = m0 at *
  have BA0_1 := Lib.hid (Box.stay BA0_0.out (w' := w1) (by (repeat' (first | with_reducible exact Below.refl _ _ | with_reducible refine below_alloc ?_ _ ?_ | with_reducible refine Below.setCell ?_ ?_ _ | with_reducible refine Below.drew ?_ | with_reducible refine below_drewN ?_ _ | with_reducible refine below_step ?_ (by assumption) ?_ | with_reducible refine below_mark ?_ (by assumption) ?_)); all_goals (first | omega | (simp; done) | (simp; omega))))
  obtain ⟨cBA01_0, cBA01_1, cBA01_2, cBA01_3, cBA01_4⟩ := BA0_1.out.cells
  by_cases hm0 : m0 < 0
  · go_wp2_with fail
    go_ret
    exact ⟨rfl, (by (repeat' (first | with_reducible exact Below.refl _ _ | with_reducible refine below_alloc ?_ _ ?_ | with_reducible refine Below.setCell ?_ ?_ _ | with_reducible refine Below.drew ?_ | with_reducible refine below_drewN ?_ _ | with_reducible refine below_step ?_ (by assumption) ?_ | with_reducible refine below_mark ?_ (by assumption) ?_)); all_goals (first | omega | (simp; done) | (simp; omega)))⟩
  obtain ⟨hq0, hr0⟩ := HOK0.out hm0
  have hm0' : ¬ m0 < 0 := hm0
  have hs0 := HCN0.out (by omega)
  go_wp2_with fail
  clear cBA01_0 cBA01_1 cBA01_2 cBA01_3 cBA01_4
  refine (TO0.out _ (by (repeat' (first | with_reducible exact Below.refl _ _ | with_reducible refine below_alloc ?_ _ ?_ | with_reducible refine Below.setCell ?_ ?_ _ | with_reducible refine Below.drew ?_ | with_reducible refine below_drewN ?_ _ | with_reducible refine below_step ?_ (by assumption) ?_ | with_reducible refine below_mark ?_ (by assumption) ?_)); all_goals (first | omega | (simp; done) | (simp; omega))) (by omega)).mono ?_
  rintro e2 w2 ⟨ps0, rfl, pf0, po0, hb2⟩
  have hz2 := hb2.size; try simp at hz2
  obtain ⟨pa0, pc0, rfl⟩ := po0.slice
  have pO0 := Lib.hid po0
  have pR0 := Lib.hid (po0.repV pf0)
  clear po0
  unfold V.agg at pR0 ⊢
  go_wp2_with fail
  refine (TO3.out _ (by (repeat' (first | with_reducible exact Below.refl _ _ | with_reducible refine below_alloc ?_ _ ?_ | with_reducible refine Below.setCell ?_ ?_ _ | with_reducible refine Below.drew ?_ | with_reducible refine below_drewN ?_ _ | with_reducible refine below_step ?_ (by assumption) ?_ | with_reducible refine below_mark ?_ (by assumption) ?_)); all_goals (first | omega | (simp; done) | (simp; omega))) (by omega)).mono ?_
  rintro e3 w3 ⟨_, rfl, po3, hb3⟩
  have hz3 := hb3.size; try simp at hz3
  obtain ⟨pa3, pc3, rfl⟩ := po3.slice
  have pO3 := Lib.hid po3
  have pR3 := Lib.hid po3.rep
  clear po3
  go_wp2_with fail
  refine (KS.out _ _ (pR0.out.keep (by (repeat' (first | with_reducible exact Below.refl _ _ | with_reducible refine below_alloc ?_ _ ?_ | with_reducible refine Below.setCell ?_ ?_ _ | with_reducible refine Below.drew ?_ | with_reducible refine below_drewN ?_ _ | with_reducible refine below_step ?_ (by assumption) ?_ | with_reducible refine below_mark ?_ (by assumption) ?_)); all_goals (first | omega | (simp; done) | (simp; omega)))) (by omega) _ (pR3.out.keep (by (repeat' (first | with_reducible exact Below.refl _ _ | with_reducible refine below_alloc ?_ _ ?_ | with_reducible refine Below.setCell ?_ ?_ _ | with_reducible refine Below.drew ?_ | with_reducible refine below_drewN ?_ _ | with_reducible refine below_step ?_ (by assumption) ?_ | with_reducible refine below_mark ?_ (by assumption) ?_)); all_goals (first | omega | (simp; done) | (simp; omega)))) (by omega)).mono ?_
  rintro e4 w4 ⟨rfl, hb4⟩
  have hz4 := hb4.size; try simp at hz4
  have BA0_4 := Lib.hid (Box.stay BA0_1.out (w' := w4) (by (repeat' (first | with_reducible exact Below.refl _ _ | with_reducible refine below_alloc ?_ _ ?_ | with_reducible refine Below.setCell ?_ ?_ _ | with_reducible refine Below.drew ?_ | with_reducible refine below_drewN ?_ _ | with_reducible refine below_step ?_ (by assumption) ?_ | with_reducible refine below_mark ?_ (by assumption) ?_)); all_goals (first | omega | (simp; done) | (simp; omega))))
  obtain ⟨cBA04_0, cBA04_1, cBA04_2, cBA04_3, cBA04_4⟩ := BA0_4.out.cells
  go_wp2_with fail
  clear cBA04_0 cBA04_1 cBA04_2 cBA04_3 cBA04_4
  refine (TO0.out _ (by (repeat' (first | with_reducible exact Below.refl _ _ | with_reducible refine below_alloc ?_ _ ?_ | with_reducible refine Below.setCell ?_ ?_ _ | with_reducible refine Below.drew ?_ | with_reducible refine below_drewN ?_ _ | with_reducible refine below_step ?_ (by assumption) ?_ | with_reducible refine below_mark ?_ (by assumption) ?_)); all_goals (first | omega | (simp; done) | (simp; omega))) (by omega)).mono ?_
  rintro e5 w5 ⟨xs0, rfl, xf0, xo0, hb5⟩
  have hz5 := hb5.size; try simp at hz5
  obtain ⟨xa0, xc0, rfl⟩ := xo0.slice
  have xO0 := Lib.hid xo0.bound
  have xR0 := Lib.hid (xo0.repV xf0)
  clear xo0
  unfold V.agg at xR0 ⊢
  have BX0_n := Lib.hid (Box.new w5 t0.k t0.n t0.e t0.s (.slice xa0 t0.kids.length xc0) 29)
  go_wp2_with fail
  refine (TO3.out _ (by (repeat' (first | with_reducible exact Below.refl _ _ | with_reducible refine below_alloc ?_ _ ?_ | with_reducible refine Below.setCell ?_ ?_ _ | with_reducible refine Below.drew ?_ | with_reducible refine below_drewN ?_ _ | with_reducible refine below_step ?_ (by assumption) ?_ | with_reducible refine below_mark ?_ (by assumption) ?_)); all_goals (first | omega | (simp; done) | (simp; omega))) (by omega)).mono ?_
  rintro e6 w6 ⟨_, rfl, xo3, hb6⟩
  have hz6 := hb6.size; try simp at hz6
  obtain ⟨xa3, xc3, rfl⟩ := xo3.slice
  have xO3 := Lib.hid xo3
  have xR3 := Lib.hid xo3.rep
  have XL3 := Lib.hid (fun x hx => xO3.out.lt x hx)
  clear xo3
  have BX0_6 := Lib.hid (Box.stay BX0_n.out (w' := w6) (by (repeat' (first | with_reducible exact Below.refl _ _ | with_reducible refine below_alloc ?_ _ ?_ | with_reducible refine Below.setCell ?_ ?_ _ | with_reducible refine Below.drew ?_ | with_reducible refine below_drewN ?_ _ | with_reducible refine below_step ?_ (by assumption) ?_ | with_reducible refine below_mark ?_ (by assumption) ?_)); all_goals (first | omega | (simp; done) | (simp; omega))))
  obtain ⟨cBX06_0, cBX06_1, cBX06_2, cBX06_3, cBX06_4⟩ := BX0_6.out.cells
  have hxl0 : w5.heap.size < w6.heap.size := by omega
  have hxn0 : w5.heap.size ≠ w6.heap.size := by omega
  have hxm0 : w6.heap.size ≠ w5.heap.size := by omega
  go_wp2_with fail
  clear cBX06_0 cBX06_1 cBX06_2 cBX06_3 cBX06_4
  refine (KI.out _ _ (xR0.out.keep (by (repeat' (first | with_reducible exact Below.refl _ _ | with_reducible refine below_alloc ?_ _ ?_ | with_reducible refine Below.setCell ?_ ?_ _ | with_reducible refine Below.drew ?_ | with_reducible refine below_drewN ?_ _ | with_reducible refine below_step ?_ (by assumption) ?_ | with_reducible refine below_mark ?_ (by assumption) ?_)); all_goals (first | omega | (simp; done) | (simp; omega)))) (by omega) _ (xR3.out.keep (by (repeat' (first | with_reducible exact Below.refl _ _ | with_reducible refine below_alloc ?_ _ ?_ | with_reducible refine Below.setCell ?_ ?_ _ | with_reducible refine Below.drew ?_ | with_reducible refine below_drewN ?_ _ | with_reducible refine below_step ?_ (by assumption) ?_ | with_reducible refine below_mark ?_ (by assumption) ?_)); all_goals (first | omega | (simp; done) | (simp; omega)))) (by omega) (by (repeat' (first | with_reducible exact Below.refl _ _ | with_reducible refine below_alloc ?_ _ ?_ | with_reducible refine Below.setCell ?_ ?_ _ | with_reducible refine Below.drew ?_ | with_reducible refine below_drewN ?_ _ | with_reducible refine below_step ?_ (by assumption) ?_ | with_reducible refine below_mark ?_ (by assumption) ?_)); all_goals (first | omega | (simp; done) | (simp; omega)))).mono ?_
  rintro e7 w7 ⟨rfl, hb7⟩
  have hz7 := hb7.size; try simp at hz7
  have tn0 : (r0 != r0) = false := by simp
  have BX0_7 := Lib.hid (Box.stay BX0_6.out (w' := w7) (by (repeat' (first | with_reducible exact Below.refl _ _ | with_reducible refine below_alloc ?_ _ ?_ | with_reducible refine Below.setCell ?_ ?_ _ | with_reducible refine Below.drew ?_ | with_reducible refine below_drewN ?_ _ | with_reducible refine below_step ?_ (by assumption) ?_ | with_reducible refine below_mark ?_ (by assumption) ?_)); all_goals (first | omega | (simp; done) | (simp; omega))))
  obtain ⟨cBX07_0, cBX07_1, cBX07_2, cBX07_3, cBX07_4⟩ := BX0_7.out.cells
  have BA0_7 := Lib.hid (Box.stay BA0_4.out (w' := w7) (by (repeat' (first | with_reducible exact Below.refl _ _ | with_reducible refine below_alloc ?_ _ ?_ | with_reducible refine Below.setCell ?_ ?_ _ | with_reducible refine Below.drew ?_ | with_reducible refine below_drewN ?_ _ | with_reducible refine below_step ?_ (by assumption) ?_ | with_reducible refine below_mark ?_ (by assumption) ?_)); all_goals (first | omega | (simp; done) | (simp; omega))))
  obtain ⟨cBA07_0, cBA07_1, cBA07_2, cBA07_3, cBA07_4⟩ := BA0_7.out.cells
  go_upto_region 13 with fail
  go_cut [49] (fun s wx => s = .bool false ∧ Below w7.heap.size w7 wx)
  case first =>
    go_region_with (first | (go_at_call 12; refine (TO0.out _ (by (repeat' (first | with_reducible exact Below.refl _ _ | with_reducible refine below_alloc ?_ _ ?_ | with_reducible refine Below.setCell ?_ ?_ _ | with_reducible refine Below.drew ?_ | with_reducible refine below_drewN ?_ _ | with_reducible refine below_step ?_ (by assumption) ?_ | with_reducible refine below_mark ?_ (by assumption) ?_)); all_goals (first | omega | (simp; done) | (simp; omega))) (by omega)).mono ?_; rintro e0 wa0 ⟨ys0, rfl, yf0, yo0, yb0⟩; have yR0 := Lib.hid (yo0.repV yf0); obtain ⟨y0, y1, y2, y3, y4⟩ := (Box.keep BX0_7.out (Below.trans (Below.drew (Below.refl _ _)) yb0) (Nat.le_refl _)).cells; clear yo0) | (go_at_call 14; refine (EQ0.out _ _ _ (xR0.out.keep (by (repeat' (first | with_reducible exact Below.refl _ _ | with_reducible refine below_alloc ?_ _ ?_ | with_reducible refine Below.setCell ?_ ?_ _ | with_reducible refine Below.drew ?_ | with_reducible refine below_drewN ?_ _ | with_reducible refine below_step ?_ (by assumption) ?_ | with_reducible refine below_mark ?_ (by assumption) ?_)); all_goals (first | omega | (simp; done) | (simp; omega)))) yR0.out).mono ?_; rintro e0 wb0 ⟨rfl, zb0⟩))
    all_goals (go_wp2_with fail; go_meet; exact ⟨rfl, (by (repeat' (first | with_reducible exact Below.refl _ _ | with_reducible refine below_alloc ?_ _ ?_ | with_reducible refine Below.setCell ?_ ?_ _ | with_reducible refine Below.drew ?_ | with_reducible refine below_drewN ?_ _ | with_reducible refine below_step ?_ (by assumption) ?_ | with_reducible refine below_mark ?_ (by assumption) ?_)); all_goals (first | omega | (simp; done) | (simp; omega)))⟩)
  case rest =>
    obtain ⟨rfl, hb8⟩ := hcut
    obtain ⟨w8, rfl⟩ : ∃ W : World, W = wc := ⟨_, rfl⟩
    have hz8 := hb8.size; try simp at hz8
    clear cBX07_0 cBX07_1 cBX07_2 cBX07_3 cBX07_4 cBA07_0 cBA07_1 cBA07_2 cBA07_3 cBA07_4
    go_wp2_with fail
    refine (TO3.out _ (by (repeat' (first | with_reducible exact Below.refl _ _ | with_reducible refine below_alloc ?_ _ ?_ | with_reducible refine Below.setCell ?_ ?_ _ | with_reducible refine Below.drew ?_ | with_reducible refine below_drewN ?_ _ | with_reducible refine below_step ?_ (by assumption) ?_ | with_reducible refine below_mark ?_ (by assumption) ?_)); all_goals (first | omega | (simp; done) | (simp; omega))) (by omega)).mono ?_
    rintro e9 w9 ⟨_, rfl, yo3, hb9⟩
    have hz9 := hb9.size; try simp at hz9
    have yR3 := Lib.hid yo3.rep
    clear yo3
    go_wp2_with fail
    refine (EQ3.out _ _ _ (xR3.out.keep (by (repeat' (first | with_reducible exact Below.refl _ _ | with_reducible refine below_alloc ?_ _ ?_ | with_reducible refine Below.setCell ?_ ?_ _ | with_reducible refine Below.drew ?_ | with_reducible refine below_drewN ?_ _ | with_reducible refine below_step ?_ (by assumption) ?_ | with_reducible refine below_mark ?_ (by assumption) ?_)); all_goals (first | omega | (simp; done) | (simp; omega)))) yR3.out).mono ?_
    rintro e10 w10 ⟨rfl, hb10⟩
    have hz10 := hb10.size; try simp at hz10
    go_wp2_with fail
    go_ret
    exact ⟨rfl, (by (repeat' (first | with_reducible exact Below.refl _ _ | with_reducible refine below_alloc ?_ _ ?_ | with_reducible refine Below.setCell ?_ ?_ _ | with_reducible refine Below.drew ?_ | with_reducible refine below_drewN ?_ _ | with_reducible refine below_step ?_ (by assumption) ?_ | with_reducible refine below_mark ?_ (by assumption) ?_)); all_goals (first | omega | (simp; done) | (simp; omega)))⟩
theorem walk_FnExactCheckBranch {w00 : World} (v0 : Value) (t0 : V) (hv0 : Rep w00 v0 t0) (t1 : Int) (hv10 : (Lit.int .i64 t1).wf = true) (t2 : Int) (hv20 : (Lit.int .i64 t2).wf = true) (v3 : Value) (t3 : List Int) (hv3 : URep w00 v3 t3 ∧ URange t3) (t4 : Int) (hv40 : (Lit.int .u32 t4).wf = true) (w : World) (hww : w = w00) (hE : Env w) : Calls Tryd.prog 6 #[v0, .int .i64 t1, .int .i64 t2, v3, .int .u32 t4] w (LawRet w) := by
  by_cases hb3 : t3.length ≤ 1048576
  · exact walkS_FnExactCheckBranch v0 t0 hv0 t1 hv10 t2 hv20 v3 t3 hv3 hb3 t4 hv40 w hww hE
  · subst hww
    obtain ⟨sl0, rfl, _, _⟩ := hv0
    unfold V.agg
    obtain ⟨ua, ub, uo, uc, rfl, h1, h2, h3, h4⟩ := hv3.1
    have tz : decide ((1048576 : Int) < (t3.length : Int)) = true := decide_eq_true (by omega)
    clear h1 h4 hv3
    go_enter Tryd.func6, Tryd.ntmps6
    go_wp2_with fail
    go_ret
    exact ⟨rfl, (by (with_reducible (repeat' (first | exact Below.refl _ _ | refine below_alloc ?_ _ ?_ | refine Below.setCell ?_ ?_ _ | refine Below.drew ?_ | refine below_drewN ?_ _ | refine below_step ?_ (by assumption) ?_ | refine below_mark ?_ (by assumption) ?_))); all_goals (first | omega | (simp; done) | (simp; omega)))⟩
set_option maxRecDepth 100000 in
set_option maxHeartbeats 2000000 in
theorem lifted_FnExactCheckBranch (os : Os) (started : os.Started) (H : Type) (enc : TypeId × Value → H) :
    ReturnsInHanded {} Tryd.checked os 6 .any (fun w args => (Rows.fnExactCheckBranchSpec.pre enc Tryd.prog Tryd.f6 [] false w args ∧ laidMetH Tryd.prog Rows.fnExactCheckBranchRow.laid w) ∧ sizedMet enc Tryd.prog Tryd.f6 (OpenSpec.ofChange Rows.fnExactCheckBranchSpec) false w args)
      (Rows.fnExactCheckBranchSpec.post enc Tryd.prog Tryd.f6 false true false false) := by
  refine returnsInHanded_of_change_and (C := Tryd.checked) (X := fun w _ => laidMetH Tryd.prog Rows.fnExactCheckBranchRow.laid w) (fun _ _ _ hh h => h.of_heap hh) lawOwn started (by kernel_rfl) Tryd.func6
    (ChangeSpec.witness_shaped (enc := enc) (C := Tryd.checked) (os := os) (X := fun w _ => laidMetH Tryd.prog Rows.fnExactCheckBranchRow.laid w) false (World.laidAll Tryd.prog os Rows.fnExactCheckBranchRow.laid) #[.agg #[.int .i64 0, .int .i64 0, .int .i64 0, .string ByteArray.empty, .slice none 0 0], .int .i64 0, .int .i64 0, .slice none 0 0, .int .u32 0] 8 (World.laidAll_os _ _ _)
      (World.shaped_of_ZipB (by kernel_rfl) (by kernel_rfl)) (by kernel_rfl) (by kernel_rfl) (by kernel_rfl)
      (by rw [MakeChecks.laidMetH_plain _ _ _ (by kernel_rfl)]; exact laidMet_laidAll _ (by kernel_rfl) (by kernel_rfl))) ?_
  intro W base args ds gs before hval0 hW _ _ hL _
  have hval : ∀ (j : Nat) t v, Tryd.f6.params[j]? = some t → args[j]? = some v → Value.okWide Tryd.prog W .any base t v := hval0
  have hW' := hW
  obtain ⟨p, q, hA0, hV, hpq, hfz, hnd⟩ := hW
  have hA : DataW.TrodAll enc Tryd.prog W 0 (fun _ => true) true Tryd.f6.params.toList args.toList ds p := hA0
  rw [Tryd.params6] at hA hval
  rw [MakeChecks.laidMetH_plain _ _ _ (by kernel_rfl)] at hL
  have hE : Env W := env_of (Lib.laidMet.reads hL (.tail _ (.head _))) (Lib.laidMet.reads hL (.head _))
  obtain ⟨v0, vs0, d0, ds0, p0, q0, hargs, rfl, hp, h0, r0⟩ := trodAll_cons hA
  obtain ⟨v1, vs1, d1, ds1, p1, q1, rfl, rfl, rfl, h1, r1⟩ := trodAll_cons r0
  obtain ⟨v2, vs2, d2, ds2, p2, q2, rfl, rfl, rfl, h2, r2⟩ := trodAll_cons r1
  obtain ⟨v3, vs3, d3, ds3, p3, q3, rfl, rfl, rfl, h3, r3⟩ := trodAll_cons r2
  obtain ⟨v4, vs4, d4, ds4, p4, q4, rfl, rfl, rfl, h4, r4⟩ := trodAll_cons r3
  obtain ⟨rfl, rfl, rfl⟩ := trodAll_nil r4
  obtain rfl : args = #[v0, v1, v2, v3, v4] := by cases args; simp_all
  obtain ⟨a0, w0⟩ := open_V (okV (hval 0 24 v0 rfl rfl)) h0
  obtain ⟨a1, rfl, rfl, rfl, w1⟩ := open_int Tryd.underlying3 (hval 1 3 v1 rfl rfl) h1
  obtain ⟨a2, rfl, rfl, rfl, w2⟩ := open_int Tryd.underlying3 (hval 2 3 v2 rfl rfl) h2
  obtain ⟨a3, w3⟩ := open_u32s (okWide_slice Tryd.underlying40 (hval 3 40 v3 rfl rfl)) h3
  obtain ⟨a4, rfl, rfl, rfl, w4⟩ := open_int Tryd.underlying32 (hval 4 32 v4 rfl rfl) h4
  refine (walk_FnExactCheckBranch v0 a0 w0 a1 w1 a2 w2 v3 a3 w3 a4 w4 W rfl hE).mono fun e W' ⟨he, hb⟩ => ?_
  subst he
  refine ⟨_, rfl, law_post rfl rfl rfl ?_ hW' hb⟩
  rw [Tryd.params6]
  intro t ht
  simp only [List.mem_cons, List.not_mem_nil, or_false] at ht
  rcases ht with rfl | rfl | rfl | rfl | rfl
  all_goals exact ⟨by kernel_rfl, of_decide_eq_true (by kernel_rfl)⟩
set_option maxHeartbeats 4000000 in
theorem row_FnExactCheckBranch : Rows.FnExactCheckBranchSaid :=
  OpenClaim.holds_of_wide 6 Tryd.f6 rfl rfl rfl rfl rfl rfl rfl ⟨rfl, rfl, rfl, rfl, rfl⟩ rfl rfl rfl rfl rfl (by as_aux_lemma => kernel_rfl) Tryd.func6 (by as_aux_lemma => kernel_rfl)
    (of_decide_eq_true (by as_aux_lemma => kernel_rfl)) (by unfold Func.isWrapper; first | (rw [if_pos (by decide +kernel)]; kernel_rfl) | (rw [if_neg (by decide +kernel)]; exact ⟨rfl, rfl⟩))
    (fun os started H enc _ => lifted_FnExactCheckBranch os started H enc)
set_option maxHeartbeats 4000000 in
theorem holds_FnExactCheckBranchCard : Rows.FnExactCheckBranchCardSaid :=
  Claim7.holds_tied_plain_at .later [] [.data, .pinned] true (true, "c7085f3e2e44c065c9c42405b29ce271b32a0d9a161dc24b364064584e701bba") true row_FnExactCheckBranch (fun _ h => by cases h) (by as_aux_lemma => kernel_rfl) (fun _ h => by cases h) fnExactCheckBranch_row_tie rfl ⟨rfl, rfl⟩ (by as_aux_lemma => kernel_rfl) rfl
    (fun f fn hf hfn => by
      obtain rfl : f = 6 := Option.some.inj ((show Tryd.prog.funcNamed "loop.example/g00421/laws.FnExactCheckBranch" = some 6 by as_aux_lemma => kernel_rfl).symm.trans hf) |>.symm
      obtain rfl : fn = Tryd.f6 := (Option.some.inj (Tryd.func6.symm.trans hfn)).symm
      exact ⟨by as_aux_lemma => kernel_rfl, fun j t ht => by
        have hm : t ∈ Tryd.f6.params.toList := by simpa using Array.mem_of_getElem? ht
        have hall : (Tryd.f6.params.toList.all fun u => !Tryd.prog.wantsStandIn u) = true := by as_aux_lemma => kernel_rfl
        exact (show Tryd.prog.wantsStandIn t = false by simpa using List.all_eq_true.1 hall t hm)⟩)
    (by as_aux_lemma => kernel_rfl)
#print axioms holds_FnExactCheckBranchCard
end Go.Proofs.YtfjehhdahpbbgaaDoor
