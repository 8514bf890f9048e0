/- Lemmas for the statement of the last text of this claim: texts joined. -/
import Derived.Test.YtfjehhdahpbbgaaDoorSo01
import Derived.Test.YtfjehhdahpbbgaaDoorSo03
import Derived.Test.YtfjehhdahpbbgaaDoorSo04
import Derived.Test.YtfjehhdahpbbgaaDoorSo05
import Derived.Test.YtfjehhdahpbbgaaDoorSo06
import Derived.Deep.DeepCutAuto
import Derived.Deep.RegionLaw
import Derived.WalkSpells
import Derived.Lib.Hide
import Derived.Lib.SliceRun
namespace Go.Proofs.YtfjehhdahpbbgaaDoor
set_option linter.unusedSimpArgs false
set_option linter.unusedVariables false
set_option maxRecDepth 100000
open Go.Shelf Go.RowKit Go.Lib
variable {P : Program} {k : Nat} {α : Type} [Inhabited α]
def Mrgd (enc : α → List Value) (k : Nat) (w0 : World) (blk off : Nat) (lt : α → α → Bool) (d : Array α) (a b : Nat) (e : Ending) (w' : World) : Prop := e = .returned (.tuple #[]) ∧ ∃ d' : Array α, d'.size = d.size ∧ Mix (vw d) (vw d') a b ∧ Srtd lt (vw d') a b ∧ SWK enc k w0 blk off d' w'
set_option maxHeartbeats 8000000 in
set_option maxRecDepth 1000000 in
theorem sym1_any (L : SP P k) (enc : α → List Value) (cf : α → α → Int) (ho : Ordr (ltOf cf)) (g : Nat) (cb : Array Value) (blk off cap : Nat) (d0 : Array α) (w0 : World)
    (eg : ∀ args w, (callFunc g args).run P w = .ok (.enter g args) w) (hC : CmpLays P g cb enc k cf blk off d0.size w0) (R : RowK enc k w0 blk off d0) (hsz : d0.size < 2305843009213693952) (a m b : Nat) (d : Array α) (w : World) (ham : a < m) (hmb : m < b) (hb : b ≤ d.size) (hs : d0.size = d.size) (S : SWK enc k w0 blk off d w) (s1 : Srtd (ltOf cf) (vw d) a m) (s2 : Srtd (ltOf cf) (vw d) m b) (hc1 : m = a + 1) :
    Calls P 137 #[.slice (some ⟨blk, off, none⟩) d.size cap, .int .i64 a, .int .i64 m, .int .i64 b, .func (.func g) #[] cb] w (Mrgd enc k w0 blk off (ltOf cf) d a b) := by
  have mixed := L.mixed; have t0 := L.t0; have a0 := L.a0; have z0 := L.z0; have v0 := L.v0; have t3 := L.t3; have a3 := L.a3; have z3 := L.z3; have v3 := L.v3; have t4 := L.t4; have a4 := L.a4; have z4 := L.z4; have v4 := L.v4; have t9 := L.t9; have a9 := L.a9; have z9 := L.z9; have v9 := L.v9; have t7 := L.t7; have a7 := L.a7; have z7 := L.z7; have v7 := L.v7; have tf := L.tf; have af := L.af; have zf := L.zf; have vf := L.vf; have aE := L.aE; have zE := L.zE
  have u3 := run_underlying L.t3; have u9 := run_underlying L.t9; have u4 := run_underlying L.t4
  have FG := L.fm
  have HC : Aside (CmpLays P g cb enc k cf blk off d0.size w0) := hC
  clear hC
  have S0 : Aside (SWK enc k w0 blk off d w) := S
  have H1 : Hid (Srtd (ltOf cf) (vw d) a m) := s1
  have H2 : Hid (Srtd (ltOf cf) (vw d) m b) := s2
  have HO : Hid (Ordr (ltOf cf)) := ho
  clear S s1 s2
  have hma : (m : Int) - (a : Int) = 1 := by omega
  have HM1 : Hid (m = a + 1) := hc1
  clear hc1
  go_enter FG, Tryd.ntmps137
  go_wp2
  go_loopg [10, 11] (b - m) (fun kx s10 s11 wr => ∃ (i j : Nat), s10 = .int .i64 i ∧ s11 = .int .i64 j ∧ m ≤ i ∧ i ≤ j ∧ j ≤ b ∧ j - i ≤ kx ∧ Aside (SWK enc k w0 blk off d wr) ∧ Hid (∀ x, m ≤ x → x < i → ltOf cf d[x]! d[a]! = true) ∧ Hid (∀ x, j ≤ x → x < b → ltOf cf d[x]! d[a]! = false))
  case atStart => exact ⟨m, b, rfl, rfl, Nat.le_refl _, by omega, Nat.le_refl _, Nat.le_refl _, S0, fun x h1 h2 => by omega, fun x h1 h2 => by omega⟩
  case round =>
    clear S0
    obtain ⟨i, j, rfl, rfl, hmi, hij, hjb, hkx, S1, I1, I2⟩ := hrel
    by_cases hlt : i < j
    · have hltz : (i : Int) < (j : Int) := by omega
      cases hL : ltOf cf d[(i + j) / 2]! d[a]! with
      | true =>
        have eaa : (((i : Int) + (j : Int)) / 2).toNat = (i + j) / 2 := by omega
        have paa : (0 : Int) ≤ ((i : Int) + (j : Int)) / 2 := by omega
        have baa : ((i : Int) + (j : Int)) / 2 < (d.size : Int) := by omega
        have raa : IntKind.i64.wrap (((i : Int) + (j : Int)) / 2) = ((i : Int) + (j : Int)) / 2 := by rw [IntKind.wrap_i64]; omega
        have ecc : ((a : Int)).toNat = a := by omega
        have pcc : (0 : Int) ≤ (a : Int) := by omega
        have bcc : (a : Int) < (d.size : Int) := by omega
        have rcc : IntKind.i64.wrap ((a : Int)) = (a : Int) := by rw [IntKind.wrap_i64]; omega
        obtain ⟨x24, hx24⟩ : ∃ x, x = d[(i + j) / 2]! := ⟨_, rfl⟩
        obtain ⟨y24, hy24⟩ : ∃ x, x = d[a]! := ⟨_, rfl⟩
        have l24a := S1.out.ld R (by omega) P ((i + j) / 2) (by omega)
        have l24b := S1.out.ld R (by omega) P (a) (by omega)
        rw [← hx24] at l24a
        rw [← hy24] at l24b
        have hc24 := S1.out.cmp HC.out (by omega) x24 y24
        have hv24 : cf x24 y24 < 0 := by rw [hx24, hy24]; exact of_decide_eq_true hL
        have hd24 : decide (cf x24 y24 < 0) = true := decide_eq_true hv24
        clear hx24 hy24
        go_wp2_with fail
        go_quiet_grown (first | (go_at_fn g; refine Calls.grown_of (hc24 _ _)))
        have S2 : Aside (SWK enc k w0 blk off d (Go.Sort.grow (wr.drewN nq) osq)) := S1.out.grown nq osq
        clear l24a l24b hc24 S1
        generalize Go.Sort.grow (wr.drewN nq) osq = w2 at S2 ⊢
        clear nq osq
        go_wp2
        go_roundg (j - ((i + j) / 2 + 1))
        case measure => omega
        case rel => exact ⟨(i + j) / 2 + 1, j, by rw [show ((i : Int) + (j : Int)) / 2 + 1 = (((i + j) / 2 + 1 : Nat) : Int) by omega], rfl, by omega, by omega, hjb, Nat.le_refl _, S2, (show Hid _ from fun x h1 h2 => HO.out.le_lt (H2.out.le HO.out h1 (by omega : x ≤ (i + j) / 2) (by omega)) hL), I2⟩
      | false =>
        have eaa : (((i : Int) + (j : Int)) / 2).toNat = (i + j) / 2 := by omega
        have paa : (0 : Int) ≤ ((i : Int) + (j : Int)) / 2 := by omega
        have baa : ((i : Int) + (j : Int)) / 2 < (d.size : Int) := by omega
        have raa : IntKind.i64.wrap (((i : Int) + (j : Int)) / 2) = ((i : Int) + (j : Int)) / 2 := by rw [IntKind.wrap_i64]; omega
        have ecc : ((a : Int)).toNat = a := by omega
        have pcc : (0 : Int) ≤ (a : Int) := by omega
        have bcc : (a : Int) < (d.size : Int) := by omega
        have rcc : IntKind.i64.wrap ((a : Int)) = (a : Int) := by rw [IntKind.wrap_i64]; omega
        obtain ⟨x24, hx24⟩ : ∃ x, x = d[(i + j) / 2]! := ⟨_, rfl⟩
        obtain ⟨y24, hy24⟩ : ∃ x, x = d[a]! := ⟨_, rfl⟩
        have l24a := S1.out.ld R (by omega) P ((i + j) / 2) (by omega)
        have l24b := S1.out.ld R (by omega) P (a) (by omega)
        rw [← hx24] at l24a
        rw [← hy24] at l24b
        have hc24 := S1.out.cmp HC.out (by omega) x24 y24
        have hv24 : ¬ cf x24 y24 < 0 := by rw [hx24, hy24]; exact of_decide_eq_false hL
        have hd24 : decide (cf x24 y24 < 0) = false := decide_eq_false hv24
        clear hx24 hy24
        go_wp2_with fail
        go_quiet_grown (first | (go_at_fn g; refine Calls.grown_of (hc24 _ _)))
        have S2 : Aside (SWK enc k w0 blk off d (Go.Sort.grow (wr.drewN nq) osq)) := S1.out.grown nq osq
        clear l24a l24b hc24 S1
        generalize Go.Sort.grow (wr.drewN nq) osq = w2 at S2 ⊢
        clear nq osq
        go_wp2
        go_roundg ((i + j) / 2 - i)
        case measure => omega
        case rel => exact ⟨i, (i + j) / 2, rfl, by rw [show ((i : Int) + (j : Int)) / 2 = (((i + j) / 2 : Nat) : Int) by omega], hmi, by omega, by omega, Nat.le_refl _, S2, I1, (show Hid _ from fun x h1 h2 => HO.out.tr _ _ _ hL (H2.out.le HO.out (by omega) h1 h2))⟩
    · obtain rfl : j = i := by omega
      have hltz : ¬ (j : Int) < (j : Int) := by omega
      clear hkx hij hlt
      go_wp2
      go_loopg [13] (j - 1 - a) (fun kx s13 wr => ∃ (q : Nat) (dk : Array α), s13 = .int .i64 q ∧ a ≤ q ∧ q + 1 ≤ j ∧ j - 1 - q ≤ kx ∧ dk.size = d.size ∧ Aside (SWK enc k w0 blk off dk wr) ∧ Hid (vw dk = mvUp (vw d) a q))
      case atStart => exact ⟨a, d, rfl, Nat.le_refl _, by omega, Nat.le_refl _, rfl, S1, by show _ = _; rw [mvUp_0]⟩
      case round =>
        clear S1
        obtain ⟨q, dk, rfl, haq, hqi, hkx2, hds, S1, heq⟩ := hrel
        by_cases hlt2 : q + 1 < j
        · have hltz2 : (q : Int) < (j : Int) - 1 := by omega
          have eaa : ((q : Int)).toNat = q := by omega
          have paa : (0 : Int) ≤ (q : Int) := by omega
          have baa : (q : Int) < (d.size : Int) := by omega
          have raa : IntKind.i64.wrap ((q : Int)) = (q : Int) := by rw [IntKind.wrap_i64]; omega
          have ecc : ((q : Int) + 1).toNat = q + 1 := by omega
          have pcc : (0 : Int) ≤ (q : Int) + 1 := by omega
          have bcc : (q : Int) + 1 < (d.size : Int) := by omega
          have rcc : IntKind.i64.wrap ((q : Int) + 1) = (q : Int) + 1 := by rw [IntKind.wrap_i64]; omega
          have S2 : Aside (SWK enc k w0 blk off (Go.Sort.swp dk (q) (q + 1)) ((wr.drew.setCells blk (off + (q) * k) (enc dk[q + 1]!)).setCells blk (off + (q + 1) * k) (enc dk[q]!))) := S1.out.swapped R (q) (q + 1) (by omega) (by omega)
          have l44a := S1.out.ld1 R (by omega) P (q) (by omega)
          have l44b := S1.out.ld1 R (by omega) P (q + 1) (by omega)
          have s44a := S1.out.st1 R (by omega) P (q) (by omega) dk[q + 1]!
          have s44b := S1.out.st2 R (by omega) P (q) (q + 1) (by omega) (by omega) dk[q + 1]! dk[q]!
          have n44a : (enc dk[q]!).length = k := R.hk _
          have n44b : (enc dk[q + 1]!).length = k := R.hk _
          have HQ : Hid (vw (Go.Sort.swp dk q (q + 1)) = mvUp (vw d) a (q + 1)) := by
            show _ = _
            rw [vw_swp dk (by omega) (by omega), heq.out, mvUp_succ _ haq]
          generalize enc dk[q]! = cI44 at S2 l44a s44b n44a
          generalize enc dk[q + 1]! = cJ44 at S2 l44b s44a s44b n44b
          clear S1
          go_wp2_with fail
          go_big_region_o
          clear l44a l44b s44a s44b
          generalize (wr.drew.setCells blk (off + (q) * k) cJ44).setCells blk (off + (q + 1) * k) cI44 = w2 at S2 ⊢
          go_wp2
          go_roundg (j - 1 - (q + 1))
          case measure => omega
          case rel => exact ⟨q + 1, Go.Sort.swp dk q (q + 1), by go_num, by omega, by omega, Nat.le_refl _, by rw [Go.Sort.swp_size]; exact hds, S2, HQ⟩
        · have hltz2 : ¬ (q : Int) < (j : Int) - 1 := by omega
          obtain ⟨q1, hq1⟩ : ∃ q1, q1 = q := ⟨_, rfl⟩
          go_wp2
          go_end0
          have hqj : q = j - 1 := by omega
          have hm1 := HM1.out
          refine ⟨rfl, dk, hds, ?_, ?_, S1.out⟩
          · rw [heq.out]; exact Mix.mvUp _ q haq (by omega)
          · rw [heq.out, hqj]
            exact Srtd.mvUp HO.out (by rw [← hm1]; exact H2.out) (by omega) hjb (fun x h1 h2 => I1.out x (by omega) h2) (fun x h1 h2 => I2.out x h1 h2)
set_option maxHeartbeats 8000000 in
set_option maxRecDepth 1000000 in
theorem sym2_any (L : SP P k) (enc : α → List Value) (cf : α → α → Int) (ho : Ordr (ltOf cf)) (g : Nat) (cb : Array Value) (blk off cap : Nat) (d0 : Array α) (w0 : World)
    (eg : ∀ args w, (callFunc g args).run P w = .ok (.enter g args) w) (hC : CmpLays P g cb enc k cf blk off d0.size w0) (R : RowK enc k w0 blk off d0) (hsz : d0.size < 2305843009213693952) (a m b : Nat) (d : Array α) (w : World) (ham : a < m) (hmb : m < b) (hb : b ≤ d.size) (hs : d0.size = d.size) (S : SWK enc k w0 blk off d w) (s1 : Srtd (ltOf cf) (vw d) a m) (s2 : Srtd (ltOf cf) (vw d) m b) (hc1 : ¬ m = a + 1) (hc2 : b = m + 1) :
    Calls P 137 #[.slice (some ⟨blk, off, none⟩) d.size cap, .int .i64 a, .int .i64 m, .int .i64 b, .func (.func g) #[] cb] w (Mrgd enc k w0 blk off (ltOf cf) d a b) := by
  have mixed := L.mixed; have t0 := L.t0; have a0 := L.a0; have z0 := L.z0; have v0 := L.v0; have t3 := L.t3; have a3 := L.a3; have z3 := L.z3; have v3 := L.v3; have t4 := L.t4; have a4 := L.a4; have z4 := L.z4; have v4 := L.v4; have t9 := L.t9; have a9 := L.a9; have z9 := L.z9; have v9 := L.v9; have t7 := L.t7; have a7 := L.a7; have z7 := L.z7; have v7 := L.v7; have tf := L.tf; have af := L.af; have zf := L.zf; have vf := L.vf; have aE := L.aE; have zE := L.zE
  have u3 := run_underlying L.t3; have u9 := run_underlying L.t9; have u4 := run_underlying L.t4
  have FG := L.fm
  have HC : Aside (CmpLays P g cb enc k cf blk off d0.size w0) := hC
  clear hC
  have S0 : Aside (SWK enc k w0 blk off d w) := S
  have H1 : Hid (Srtd (ltOf cf) (vw d) a m) := s1
  have H2 : Hid (Srtd (ltOf cf) (vw d) m b) := s2
  have HO : Hid (Ordr (ltOf cf)) := ho
  clear S s1 s2
  have hma : ((m : Int) - (a : Int) == 1) = false := by simp; omega
  have hbm : (b : Int) - (m : Int) = 1 := by omega
  have HM1 : Hid (b = m + 1) := hc2
  clear hc2 hc1
  go_enter FG, Tryd.ntmps137
  go_wp2
  go_loopg [14, 15] (m - a) (fun kx s10 s11 wr => ∃ (i j : Nat), s10 = .int .i64 i ∧ s11 = .int .i64 j ∧ a ≤ i ∧ i ≤ j ∧ j ≤ m ∧ j - i ≤ kx ∧ Aside (SWK enc k w0 blk off d wr) ∧ Hid (∀ x, a ≤ x → x < i → ltOf cf d[m]! d[x]! = false) ∧ Hid (∀ x, j ≤ x → x < m → ltOf cf d[m]! d[x]! = true))
  case atStart => exact ⟨a, m, rfl, rfl, Nat.le_refl _, by omega, Nat.le_refl _, Nat.le_refl _, S0, fun x h1 h2 => by omega, fun x h1 h2 => by omega⟩
  case round =>
    clear S0
    obtain ⟨i, j, rfl, rfl, hai, hij, hjm, hkx, S1, I1, I2⟩ := hrel
    by_cases hlt : i < j
    · have hltz : (i : Int) < (j : Int) := by omega
      cases hL : ltOf cf d[m]! d[(i + j) / 2]! with
      | false =>
        have eaa : ((m : Int)).toNat = m := by omega
        have paa : (0 : Int) ≤ (m : Int) := by omega
        have baa : (m : Int) < (d.size : Int) := by omega
        have raa : IntKind.i64.wrap ((m : Int)) = (m : Int) := by rw [IntKind.wrap_i64]; omega
        have ecc : (((i : Int) + (j : Int)) / 2).toNat = (i + j) / 2 := by omega
        have pcc : (0 : Int) ≤ ((i : Int) + (j : Int)) / 2 := by omega
        have bcc : ((i : Int) + (j : Int)) / 2 < (d.size : Int) := by omega
        have rcc : IntKind.i64.wrap (((i : Int) + (j : Int)) / 2) = ((i : Int) + (j : Int)) / 2 := by rw [IntKind.wrap_i64]; omega
        obtain ⟨x24, hx24⟩ : ∃ x, x = d[m]! := ⟨_, rfl⟩
        obtain ⟨y24, hy24⟩ : ∃ x, x = d[(i + j) / 2]! := ⟨_, rfl⟩
        have l24a := S1.out.ld R (by omega) P (m) (by omega)
        have l24b := S1.out.ld R (by omega) P ((i + j) / 2) (by omega)
        rw [← hx24] at l24a
        rw [← hy24] at l24b
        have hc24 := S1.out.cmp HC.out (by omega) x24 y24
        have hv24 : ¬ cf x24 y24 < 0 := by rw [hx24, hy24]; exact of_decide_eq_false hL
        have hd24 : decide (cf x24 y24 < 0) = false := decide_eq_false hv24
        clear hx24 hy24
        go_wp2_with fail
        go_quiet_grown (first | (go_at_fn g; refine Calls.grown_of (hc24 _ _)))
        have S2 : Aside (SWK enc k w0 blk off d (Go.Sort.grow (wr.drewN nq) osq)) := S1.out.grown nq osq
        clear l24a l24b hc24 S1
        generalize Go.Sort.grow (wr.drewN nq) osq = w2 at S2 ⊢
        clear nq osq
        go_wp2
        go_roundg (j - ((i + j) / 2 + 1))
        case measure => omega
        case rel => exact ⟨(i + j) / 2 + 1, j, by rw [show ((i : Int) + (j : Int)) / 2 + 1 = (((i + j) / 2 + 1 : Nat) : Int) by omega], rfl, by omega, by omega, hjm, Nat.le_refl _, S2, (show Hid _ from fun x h1 h2 => HO.out.tr _ _ _ (H1.out.le HO.out h1 (by omega : x ≤ (i + j) / 2) (by omega)) hL), I2⟩
      | true =>
        have eaa : ((m : Int)).toNat = m := by omega
        have paa : (0 : Int) ≤ (m : Int) := by omega
        have baa : (m : Int) < (d.size : Int) := by omega
        have raa : IntKind.i64.wrap ((m : Int)) = (m : Int) := by rw [IntKind.wrap_i64]; omega
        have ecc : (((i : Int) + (j : Int)) / 2).toNat = (i + j) / 2 := by omega
        have pcc : (0 : Int) ≤ ((i : Int) + (j : Int)) / 2 := by omega
        have bcc : ((i : Int) + (j : Int)) / 2 < (d.size : Int) := by omega
        have rcc : IntKind.i64.wrap (((i : Int) + (j : Int)) / 2) = ((i : Int) + (j : Int)) / 2 := by rw [IntKind.wrap_i64]; omega
        obtain ⟨x24, hx24⟩ : ∃ x, x = d[m]! := ⟨_, rfl⟩
        obtain ⟨y24, hy24⟩ : ∃ x, x = d[(i + j) / 2]! := ⟨_, rfl⟩
        have l24a := S1.out.ld R (by omega) P (m) (by omega)
        have l24b := S1.out.ld R (by omega) P ((i + j) / 2) (by omega)
        rw [← hx24] at l24a
        rw [← hy24] at l24b
        have hc24 := S1.out.cmp HC.out (by omega) x24 y24
        have hv24 : cf x24 y24 < 0 := by rw [hx24, hy24]; exact of_decide_eq_true hL
        have hd24 : decide (cf x24 y24 < 0) = true := decide_eq_true hv24
        clear hx24 hy24
        go_wp2_with fail
        go_quiet_grown (first | (go_at_fn g; refine Calls.grown_of (hc24 _ _)))
        have S2 : Aside (SWK enc k w0 blk off d (Go.Sort.grow (wr.drewN nq) osq)) := S1.out.grown nq osq
        clear l24a l24b hc24 S1
        generalize Go.Sort.grow (wr.drewN nq) osq = w2 at S2 ⊢
        clear nq osq
        go_wp2
        go_roundg ((i + j) / 2 - i)
        case measure => omega
        case rel => exact ⟨i, (i + j) / 2, rfl, by rw [show ((i : Int) + (j : Int)) / 2 = (((i + j) / 2 : Nat) : Int) by omega], hai, by omega, by omega, Nat.le_refl _, S2, I1, (show Hid _ from fun x h1 h2 => HO.out.lt_le hL (H1.out.le HO.out (by omega) h1 h2))⟩
    · obtain rfl : j = i := by omega
      have hltz : ¬ (j : Int) < (j : Int) := by omega
      clear hkx hij hlt
      go_wp2
      go_loopg [17] (m - j) (fun kx s13 wr => ∃ (q : Nat) (dk : Array α), s13 = .int .i64 q ∧ j ≤ q ∧ q ≤ m ∧ q - j ≤ kx ∧ dk.size = d.size ∧ Aside (SWK enc k w0 blk off dk wr) ∧ Hid (vw dk = mvDn (vw d) q m))
      case atStart => exact ⟨m, d, rfl, hjm, Nat.le_refl _, Nat.le_refl _, rfl, S1, by show _ = _; rw [mvDn_0]⟩
      case round =>
        clear S1
        obtain ⟨q0, dk, rfl, hjq, hqm, hkx2, hds, S1, heq⟩ := hrel
        by_cases hlt2 : j < q0
        · obtain ⟨q, rfl⟩ : ∃ q, q0 = q + 1 := ⟨q0 - 1, by omega⟩
          have hltz2 : (j : Int) < (q : Int) + 1 := by omega
          have hltz3 : (j : Int) < ((q + 1 : Nat) : Int) := by omega
          have eaa : ((q : Int) + 1).toNat = q + 1 := by omega
          have paa : (0 : Int) ≤ (q : Int) + 1 := by omega
          have baa : (q : Int) + 1 < (d.size : Int) := by omega
          have raa : IntKind.i64.wrap ((q : Int) + 1) = (q : Int) + 1 := by rw [IntKind.wrap_i64]; omega
          have ecc : ((q : Int)).toNat = q := by omega
          have pcc : (0 : Int) ≤ (q : Int) := by omega
          have bcc : (q : Int) < (d.size : Int) := by omega
          have rcc : IntKind.i64.wrap ((q : Int)) = (q : Int) := by rw [IntKind.wrap_i64]; omega
          have S2 : Aside (SWK enc k w0 blk off (Go.Sort.swp dk (q + 1) (q)) ((wr.drew.setCells blk (off + (q + 1) * k) (enc dk[q]!)).setCells blk (off + (q) * k) (enc dk[q + 1]!))) := S1.out.swapped R (q + 1) (q) (by omega) (by omega)
          have l44a := S1.out.ld1 R (by omega) P (q + 1) (by omega)
          have l44b := S1.out.ld1 R (by omega) P (q) (by omega)
          have s44a := S1.out.st1 R (by omega) P (q + 1) (by omega) dk[q]!
          have s44b := S1.out.st2 R (by omega) P (q + 1) (q) (by omega) (by omega) dk[q]! dk[q + 1]!
          have n44a : (enc dk[q + 1]!).length = k := R.hk _
          have n44b : (enc dk[q]!).length = k := R.hk _
          have HQ : Hid (vw (Go.Sort.swp dk (q + 1) q) = mvDn (vw d) q m) := by
            show _ = _
            rw [vw_swp dk (by omega) (by omega), heq.out, mvDn_succ _ hqm]
          generalize enc dk[q + 1]! = cI44 at S2 l44a s44b n44a
          generalize enc dk[q]! = cJ44 at S2 l44b s44a s44b n44b
          clear S1
          go_wp2_with fail
          go_big_region_o
          clear l44a l44b s44a s44b
          generalize (wr.drew.setCells blk (off + (q + 1) * k) cJ44).setCells blk (off + (q) * k) cI44 = w2 at S2 ⊢
          go_wp2
          go_roundg (q - j)
          case measure => omega
          case rel => exact ⟨q, Go.Sort.swp dk (q + 1) q, by first | rfl | go_num | (congr 1; omega), by omega, by omega, Nat.le_refl _, by rw [Go.Sort.swp_size]; exact hds, S2, HQ⟩
        · have hltz2 : ¬ (j : Int) < (q0 : Int) := by omega
          go_wp2
          go_end0
          have hqj : q0 = j := by omega
          have hb1 := HM1.out
          refine ⟨rfl, dk, hds, ?_, ?_, S1.out⟩
          · rw [heq.out]; exact Mix.mvDn _ (by omega) (m - q0) q0 (by omega) (by omega)
          · rw [heq.out, hqj, hb1]
            exact Srtd.mvDn HO.out H1.out hai hjm (fun x h1 h2 => I1.out x h1 h2) (fun x h1 h2 => I2.out x h1 h2)
set_option maxHeartbeats 8000000 in
set_option maxRecDepth 1000000 in
theorem sym3_any (L : SP P k) (enc : α → List Value) (cf : α → α → Int) (ho : Ordr (ltOf cf)) (g : Nat) (cb : Array Value) (blk off cap : Nat) (d0 : Array α) (w0 : World)
    (eg : ∀ args w, (callFunc g args).run P w = .ok (.enter g args) w) (hC : CmpLays P g cb enc k cf blk off d0.size w0) (R : RowK enc k w0 blk off d0) (hsz : d0.size < 2305843009213693952) (N : Nat) (a m b : Nat) (d : Array α) (w : World) (ham : a < m) (hmb : m < b) (hb : b ≤ d.size) (hs : d0.size = d.size) (S : SWK enc k w0 blk off d w) (s1 : Srtd (ltOf cf) (vw d) a m) (s2 : Srtd (ltOf cf) (vw d) m b) (hN : b - a ≤ N + 1) (hc1 : ¬ m = a + 1) (hc2 : ¬ b = m + 1) (IH : Hid (∀ (p q r : Nat) (dk : Array α) (W : World), dk.size = d.size → SWK enc k w0 blk off dk W → p < q → q < r → r ≤ d.size → r - p ≤ N → Srtd (ltOf cf) (vw dk) p q → Srtd (ltOf cf) (vw dk) q r → Calls P 137 #[.slice (some ⟨blk, off, none⟩) d.size cap, .int .i64 p, .int .i64 q, .int .i64 r, .func (.func g) #[] cb] W fun e w' => e = .returned (.tuple #[]) ∧ ∃ d' : Array α, d'.size = d.size ∧ Mix (vw dk) (vw d') p r ∧ Srtd (ltOf cf) (vw d') p r ∧ SWK enc k w0 blk off d' w')) :
    Calls P 137 #[.slice (some ⟨blk, off, none⟩) d.size cap, .int .i64 a, .int .i64 m, .int .i64 b, .func (.func g) #[] cb] w (Mrgd enc k w0 blk off (ltOf cf) d a b) := by
  have mixed := L.mixed; have t0 := L.t0; have a0 := L.a0; have z0 := L.z0; have v0 := L.v0; have t3 := L.t3; have a3 := L.a3; have z3 := L.z3; have v3 := L.v3; have t4 := L.t4; have a4 := L.a4; have z4 := L.z4; have v4 := L.v4; have t9 := L.t9; have a9 := L.a9; have z9 := L.z9; have v9 := L.v9; have t7 := L.t7; have a7 := L.a7; have z7 := L.z7; have v7 := L.v7; have tf := L.tf; have af := L.af; have zf := L.zf; have vf := L.vf; have aE := L.aE; have zE := L.zE
  have u3 := run_underlying L.t3; have u9 := run_underlying L.t9; have u4 := run_underlying L.t4
  have FG := L.fm
  have HC : Aside (CmpLays P g cb enc k cf blk off d0.size w0) := hC
  clear hC
  have er : ∀ args w, (callFunc 148 args).run P w = .ok (.enter 148 args) w := enters_of L.fr (by kernel_rfl) rfl
  have em : ∀ args w, (callFunc 137 args).run P w = .ok (.enter 137 args) w := enters_of L.fm (by kernel_rfl) rfl
  have RT : Hid (∀ (p q r : Nat) (dk : Array α) (W : World), dk.size = d.size → SWK enc k w0 blk off dk W → p < q → q < r → r ≤ d.size → Calls P 148 #[.slice (some ⟨blk, off, none⟩) d.size cap, .int .i64 p, .int .i64 q, .int .i64 r, .func (.func g) #[] cb] W fun e w' => e = .returned (.tuple #[]) ∧ ∃ d' : Array α, d'.size = d.size ∧ vw d' = rot (vw dk) p q r ∧ SWK enc k w0 blk off d' w') := fun p q r dk W h1 h2 h3 h4 h5 => by
    have := rotate_any L enc g cb blk off cap p q r d0 dk w0 W R (by omega) h2 h3 h4 (by omega) (by omega)
    rw [h1] at this
    exact this
  have S0 : Aside (SWK enc k w0 blk off d w) := S
  have H1 : Hid (Srtd (ltOf cf) (vw d) a m) := s1
  have H2 : Hid (Srtd (ltOf cf) (vw d) m b) := s2
  have HO : Hid (Ordr (ltOf cf)) := ho
  clear S s1 s2
  have hma : ((m : Int) - (a : Int) == 1) = false := by simp; omega
  have hbm : ((b : Int) - (m : Int) == 1) = false := by simp; omega
  obtain ⟨mid, hmid⟩ : ∃ mid, mid = (a + b) / 2 := ⟨_, rfl⟩
  have hme : ((a : Int) + (b : Int)) / 2 = (mid : Int) := by omega
  have hm1 : 2 * mid ≤ a + b := by omega
  have hm2 : a + b ≤ 2 * mid + 1 := by omega
  obtain ⟨lo, hi, hlo1, hlo2⟩ : ∃ lo hi : Nat, (mid < m → lo + b = mid + m ∧ hi = mid) ∧ (¬ mid < m → lo = a ∧ hi = m) := by
    by_cases h : mid < m
    · exact ⟨mid + m - b, mid, fun _ => ⟨by omega, rfl⟩, fun h2 => absurd h h2⟩
    · exact ⟨a, m, fun h2 => absurd h2 h, fun _ => ⟨rfl, rfl⟩⟩
  have HLO1 : Hid (mid < m → lo + b = mid + m ∧ hi = mid) := hlo1
  have HLO2 : Hid (¬ mid < m → lo = a ∧ hi = m) := hlo2
  have hla : a ≤ lo := by
    by_cases h : mid < m
    · have := hlo1 h; omega
    · have := hlo2 h; omega
  have hlh : lo ≤ hi := by
    by_cases h : mid < m
    · have := hlo1 h; omega
    · have := hlo2 h; omega
  have him : hi ≤ m := by
    by_cases h : mid < m
    · have := hlo1 h; omega
    · have := hlo2 h; omega
  have himd : hi ≤ mid := by
    by_cases h : mid < m
    · have := hlo1 h; omega
    · have := hlo2 h; omega
  have hlb : mid + m ≤ b + lo := by
    by_cases h : mid < m
    · have := hlo1 h; omega
    · have := hlo2 h; omega
  have HLA : Hid ((lo = a ∨ lo + b = mid + m) ∧ (hi = m ∨ hi = mid)) := by
    by_cases h : mid < m
    · have := hlo1 h; exact ⟨.inr this.1, .inr this.2⟩
    · have := hlo2 h; exact ⟨.inl this.1, .inl this.2⟩
  clear hmid hlo1 hlo2
  go_enter FG, Tryd.ntmps137
  go_upto_if 140 with fail
  go_cut [20, 21] from 141 to 146 (fun s t wx => s = .int .i64 lo ∧ t = .int .i64 hi ∧ wx = w)
  case first =>
    go_wp2
    · go_meet
      case rel =>
        have h : mid < m := by first | omega | (simp_all; omega)
        exact ⟨by have := (HLO1.out h).1; congr 1; omega, by rw [(HLO1.out h).2], rfl⟩
    · go_meet
      case rel =>
        have h : ¬ mid < m := by first | omega | (simp_all; omega)
        exact ⟨by rw [(HLO2.out h).1], by rw [(HLO2.out h).2], rfl⟩
  case rest =>
    obtain ⟨rfl, rfl, rfl⟩ := hcut
    obtain ⟨pp, hpp0⟩ : ∃ pp, pp + 1 = mid + m := ⟨mid + m - 1, by omega⟩
    have hpp : (mid : Int) + (m : Int) - 1 = (pp : Int) := by omega
    go_wp2
    go_loopg [20, 21] (hi - lo) (fun kx s10 s11 wr => ∃ (i j : Nat), s10 = .int .i64 i ∧ s11 = .int .i64 j ∧ lo ≤ i ∧ i ≤ j ∧ j ≤ hi ∧ j - i ≤ kx ∧ Aside (SWK enc k w0 blk off d wr) ∧ Hid (∀ x, lo ≤ x → x < i → ltOf cf d[pp - x]! d[x]! = false) ∧ Hid (∀ x, j ≤ x → x < hi → ltOf cf d[pp - x]! d[x]! = true))
    case atStart => exact ⟨lo, hi, rfl, rfl, Nat.le_refl _, hlh, Nat.le_refl _, Nat.le_refl _, S0, fun x h1 h2 => by omega, fun x h1 h2 => by omega⟩
    case round =>
      clear S0
      obtain ⟨i, j, rfl, rfl, hli, hij, hjh, hkx, S1, I1, I2⟩ := hrel
      by_cases hlt : i < j
      · have hltz : (i : Int) < (j : Int) := by omega
        obtain ⟨v, hv0⟩ : ∃ v, v + (i + j) / 2 = pp := ⟨pp - (i + j) / 2, by omega⟩
        have hve : (pp : Int) - ((i : Int) + (j : Int)) / 2 = (v : Int) := by omega
        have HV : Hid (v + (i + j) / 2 = pp) := hv0
        have hvb : m ≤ v ∧ v < b := by omega
        clear hv0
        cases hL : ltOf cf d[v]! d[(i + j) / 2]! with
        | false =>
            have eaa : ((v : Int)).toNat = v := by omega
            have paa : (0 : Int) ≤ (v : Int) := by omega
            have baa : (v : Int) < (d.size : Int) := by omega
            have raa : IntKind.i64.wrap ((v : Int)) = (v : Int) := by rw [IntKind.wrap_i64]; omega
            have ecc : (((i : Int) + (j : Int)) / 2).toNat = (i + j) / 2 := by omega
            have pcc : (0 : Int) ≤ ((i : Int) + (j : Int)) / 2 := by omega
            have bcc : ((i : Int) + (j : Int)) / 2 < (d.size : Int) := by omega
            have rcc : IntKind.i64.wrap (((i : Int) + (j : Int)) / 2) = ((i : Int) + (j : Int)) / 2 := by rw [IntKind.wrap_i64]; omega
            obtain ⟨x24, hx24⟩ : ∃ x, x = d[v]! := ⟨_, rfl⟩
            obtain ⟨y24, hy24⟩ : ∃ x, x = d[(i + j) / 2]! := ⟨_, rfl⟩
            have l24a := S1.out.ld R (by omega) P (v) (by omega)
            have l24b := S1.out.ld R (by omega) P ((i + j) / 2) (by omega)
            rw [← hx24] at l24a
            rw [← hy24] at l24b
            have hc24 := S1.out.cmp HC.out (by omega) x24 y24
            have hv24 : ¬ cf x24 y24 < 0 := by rw [hx24, hy24]; exact of_decide_eq_false hL
            have hd24 : decide (cf x24 y24 < 0) = false := decide_eq_false hv24
            clear hx24 hy24
            go_wp2_with fail
            go_quiet_grown (first | (go_at_fn g; refine Calls.grown_of (hc24 _ _)))
            have S2 : Aside (SWK enc k w0 blk off d (Go.Sort.grow (wr.drewN nq) osq)) := S1.out.grown nq osq
            clear l24a l24b hc24 S1
            generalize Go.Sort.grow (wr.drewN nq) osq = w2 at S2 ⊢
            clear nq osq
            go_wp2
            go_roundg (j - ((i + j) / 2 + 1))
            case measure => omega
            case rel => exact ⟨(i + j) / 2 + 1, j, by rw [show ((i : Int) + (j : Int)) / 2 + 1 = (((i + j) / 2 + 1 : Nat) : Int) by omega], rfl, by omega, by omega, hjh, Nat.le_refl _, S2, (show Hid _ from fun x h1 h2 => HO.out.tr _ _ _ (H1.out.le HO.out (by omega) (by omega : x ≤ (i + j) / 2) (by omega)) (HO.out.tr _ _ _ hL (H2.out.le HO.out (by omega : m ≤ v) (by have := HV.out; omega : v ≤ pp - x) (by omega)))), I2⟩
          | true =>
            have eaa : ((v : Int)).toNat = v := by omega
            have paa : (0 : Int) ≤ (v : Int) := by omega
            have baa : (v : Int) < (d.size : Int) := by omega
            have raa : IntKind.i64.wrap ((v : Int)) = (v : Int) := by rw [IntKind.wrap_i64]; omega
            have ecc : (((i : Int) + (j : Int)) / 2).toNat = (i + j) / 2 := by omega
            have pcc : (0 : Int) ≤ ((i : Int) + (j : Int)) / 2 := by omega
            have bcc : ((i : Int) + (j : Int)) / 2 < (d.size : Int) := by omega
            have rcc : IntKind.i64.wrap (((i : Int) + (j : Int)) / 2) = ((i : Int) + (j : Int)) / 2 := by rw [IntKind.wrap_i64]; omega
            obtain ⟨x24, hx24⟩ : ∃ x, x = d[v]! := ⟨_, rfl⟩
            obtain ⟨y24, hy24⟩ : ∃ x, x = d[(i + j) / 2]! := ⟨_, rfl⟩
            have l24a := S1.out.ld R (by omega) P (v) (by omega)
            have l24b := S1.out.ld R (by omega) P ((i + j) / 2) (by omega)
            rw [← hx24] at l24a
            rw [← hy24] at l24b
            have hc24 := S1.out.cmp HC.out (by omega) x24 y24
            have hv24 : cf x24 y24 < 0 := by rw [hx24, hy24]; exact of_decide_eq_true hL
            have hd24 : decide (cf x24 y24 < 0) = true := decide_eq_true hv24
            clear hx24 hy24
            go_wp2_with fail
            go_quiet_grown (first | (go_at_fn g; refine Calls.grown_of (hc24 _ _)))
            have S2 : Aside (SWK enc k w0 blk off d (Go.Sort.grow (wr.drewN nq) osq)) := S1.out.grown nq osq
            clear l24a l24b hc24 S1
            generalize Go.Sort.grow (wr.drewN nq) osq = w2 at S2 ⊢
            clear nq osq
            go_wp2
            go_roundg ((i + j) / 2 - i)
            case measure => omega
            case rel => exact ⟨i, (i + j) / 2, rfl, by rw [show ((i : Int) + (j : Int)) / 2 = (((i + j) / 2 : Nat) : Int) by omega], hli, by omega, by omega, Nat.le_refl _, S2, I1, (show Hid _ from fun x h1 h2 => HO.out.le_lt (H2.out.le HO.out (by omega : m ≤ pp - x) (by have := HV.out; omega : pp - x ≤ v) (by omega)) (HO.out.lt_le hL (H1.out.le HO.out (by omega : a ≤ (i + j) / 2) h1 (by omega))))⟩
      · obtain rfl : j = i := by omega
        have hltz : ¬ (j : Int) < (j : Int) := by omega
        obtain ⟨en, hen0⟩ : ∃ en, en + j = mid + m := ⟨mid + m - j, by omega⟩
        have hen : (mid : Int) + (m : Int) - (j : Int) = (en : Int) := by omega
        have hla2 := HLA.out
        have HX := cross HO.out H1.out H2.out ⟨by omega, by omega⟩ (by omega : j ≤ mid) (by omega : mid + m - j ≤ b) (by omega : m ≤ mid + m - j) (fun h1 h2 => by
          have := I1.out (j - 1) (by omega) (by omega)
          rw [show pp - (j - 1) = mid + m - j by omega] at this
          exact this) (fun h1 h2 => by
          have := I2.out j (Nat.le_refl _) (by omega)
          rw [show pp - j = mid + m - j - 1 by omega] at this
          exact this)
        have HA := rot_ahead H1.out H2.out (st := j) (mid := mid) ⟨by omega, by omega⟩ (by omega) (by omega : mid + m - j ≤ b) (by omega : m ≤ mid + m - j)
        have HMX := (Mix.rot (vw d) (show j ≤ m by omega) (show m ≤ mid + m - j by omega)).mono (show a ≤ j by omega) (show mid + m - j ≤ b by omega)
        rw [show mid + m - j = en by omega] at HX HA HMX
        have hmj : mid ≤ en := by omega
        have hme2 : m ≤ en := by omega
        have heb : en ≤ b := by omega
        have hj0 : a ≤ j := by omega
        have hjm : j ≤ m := by omega
        have hjmid : j ≤ mid := by omega
        have hmab : a ≤ mid ∧ mid ≤ b := by omega
        have hNN : mid - a ≤ N ∧ b - mid ≤ N := by omega
        have HEN : Hid (en + j = mid + m) := hen0
        have HXX : Hid _ := HX; have HAA : Hid _ := HA; have HMM : Hid _ := HMX
        clear I1 I2 HX HA HMX hkx hij hlt hla2 HLA HLO1 HLO2 hlb him himd hlh hla hm1 hm2 hli hjh hen0
        by_cases q1 : j < m
        all_goals by_cases q2 : j < mid
        all_goals by_cases q3 : a < j
        all_goals by_cases q4 : en < b
        all_goals have z1 : ((j : Int) < (m : Int)) ↔ (j < m) := by omega
        all_goals have z2 : ((m : Int) < (en : Int)) ↔ (j < mid) := by have := HEN.out; omega
        all_goals have z3 : ((a : Int) < (j : Int)) ↔ (a < j) := by omega
        all_goals have z4 : ((j : Int) < (mid : Int)) ↔ (j < mid) := by omega
        all_goals have z5 : ((mid : Int) < (en : Int)) ↔ (j < m) := by have := HEN.out; omega
        all_goals have z6 : ((en : Int) < (b : Int)) ↔ (en < b) := by omega
        all_goals simp only [q1, q2, q3, q4, iff_true, iff_false] at z1 z2 z3 z4 z5 z6
        · clear hltz
          have hr := RT.out j m en d wr rfl S1.out q1 (by have := HEN.out; omega) (by omega)
          go_upto_region 41 with (go_at_fn 148; refine hr.mono ?_; rintro e w2 ⟨rfl, d2, hd2, hv2, S2⟩)
          have A2 := HAA.out; have X2 := HXX.out; have M2 := HMM.out
          rw [← hv2] at A2 X2 M2
          have AA2 : Hid _ := A2; have XX2 : Hid _ := X2; have MM2 : Hid _ := M2
          clear A2 X2 M2 hv2
          have h3 := IH.out a j mid d2 w2 hd2 S2 q3 q2 (by omega) hNN.1 AA2.out.1 AA2.out.2.1
          go_upto_region 43 with (go_at_fn 137; refine h3.mono ?_; rintro e w3 ⟨rfl, d3, hd3, hm3, hs3, S3⟩)
          have MM3 : Hid _ := hm3; have SS3 : Hid _ := hs3; clear hm3 hs3
          have h4 := IH.out mid en b d3 w3 hd3 S3 (by have := HEN.out; omega) q4 (by omega) hNN.2 (AA2.out.2.2.1.cong (fun x h1 h2 => Mix.out MM3.out (.inr h1))) (AA2.out.2.2.2.cong (fun x h1 h2 => Mix.out MM3.out (.inr (by omega))))
          go_wp2_with (go_at_fn 137; refine h4.mono ?_; rintro e w4 ⟨rfl, d4, hd4, hm4, hs4, S4⟩)
          have J := join hmab XX2.out MM3.out SS3.out hm4 hs4
          have FIN : Hid (Mix (vw d) (vw d4) a b ∧ Srtd (ltOf cf) (vw d4) a b) := ⟨Mix.trans MM2.out J.1, J.2⟩
          have S5 : Aside _ := S4
          clear J hm4 hs4 S4
          all_goals (go_end0; exact ⟨rfl, d4, hd4, FIN.out.1, FIN.out.2, S5.out⟩)
        · clear hltz
          have hr := RT.out j m en d wr rfl S1.out q1 (by have := HEN.out; omega) (by omega)
          go_upto_region 41 with (go_at_fn 148; refine hr.mono ?_; rintro e w2 ⟨rfl, d2, hd2, hv2, S2⟩)
          have A2 := HAA.out; have X2 := HXX.out; have M2 := HMM.out
          rw [← hv2] at A2 X2 M2
          have AA2 : Hid _ := A2; have XX2 : Hid _ := X2; have MM2 : Hid _ := M2
          clear A2 X2 M2 hv2
          have h3 := IH.out a j mid d2 w2 hd2 S2 q3 q2 (by omega) hNN.1 AA2.out.1 AA2.out.2.1
          go_upto_region 43 with (go_at_fn 137; refine h3.mono ?_; rintro e w3 ⟨rfl, d3, hd3, hm3, hs3, S3⟩)
          have MM3 : Hid _ := hm3; have SS3 : Hid _ := hs3; clear hm3 hs3
          obtain ⟨d4, hd4, hm4, hs4, S4⟩ : ∃ d4 : Array α, d4.size = d.size ∧ Mix (vw d3) (vw d4) mid b ∧ Srtd (ltOf cf) (vw d4) mid b ∧ SWK enc k w0 blk off d4 w3 := ⟨d3, hd3, Mix.refl _ _ _, by have h := AA2.out.2.2.1; rw [show en = b by omega] at h; exact h.cong (fun x h1 h2 => Mix.out MM3.out (.inr h1)), S3⟩
          have J := join hmab XX2.out MM3.out SS3.out hm4 hs4
          have FIN : Hid (Mix (vw d) (vw d4) a b ∧ Srtd (ltOf cf) (vw d4) a b) := ⟨Mix.trans MM2.out J.1, J.2⟩
          have S5 : Aside _ := S4
          clear J hm4 hs4 S4
          go_wp2
          all_goals (go_end0; exact ⟨rfl, d4, hd4, FIN.out.1, FIN.out.2, S5.out⟩)
        · clear hltz
          have hr := RT.out j m en d wr rfl S1.out q1 (by have := HEN.out; omega) (by omega)
          go_upto_region 41 with (go_at_fn 148; refine hr.mono ?_; rintro e w2 ⟨rfl, d2, hd2, hv2, S2⟩)
          have A2 := HAA.out; have X2 := HXX.out; have M2 := HMM.out
          rw [← hv2] at A2 X2 M2
          have AA2 : Hid _ := A2; have XX2 : Hid _ := X2; have MM2 : Hid _ := M2
          clear A2 X2 M2 hv2
          obtain ⟨d3, hd3, hm3, hs3, S3⟩ : ∃ d3 : Array α, d3.size = d.size ∧ Mix (vw d2) (vw d3) a mid ∧ Srtd (ltOf cf) (vw d3) a mid ∧ SWK enc k w0 blk off d3 w2 := ⟨d2, hd2, Mix.refl _ _ _, by have h := AA2.out.2.1; rw [show j = a by omega] at h; exact h, S2⟩
          have MM3 : Hid _ := hm3; have SS3 : Hid _ := hs3; clear hm3 hs3
          have h4 := IH.out mid en b d3 w2 hd3 S3 (by have := HEN.out; omega) q4 (by omega) hNN.2 (AA2.out.2.2.1.cong (fun x h1 h2 => Mix.out MM3.out (.inr h1))) (AA2.out.2.2.2.cong (fun x h1 h2 => Mix.out MM3.out (.inr (by omega))))
          go_wp2_with (go_at_fn 137; refine h4.mono ?_; rintro e w4 ⟨rfl, d4, hd4, hm4, hs4, S4⟩)
          have J := join hmab XX2.out MM3.out SS3.out hm4 hs4
          have FIN : Hid (Mix (vw d) (vw d4) a b ∧ Srtd (ltOf cf) (vw d4) a b) := ⟨Mix.trans MM2.out J.1, J.2⟩
          have S5 : Aside _ := S4
          clear J hm4 hs4 S4
          all_goals (go_end0; exact ⟨rfl, d4, hd4, FIN.out.1, FIN.out.2, S5.out⟩)
        · clear hltz
          have hr := RT.out j m en d wr rfl S1.out q1 (by have := HEN.out; omega) (by omega)
          go_upto_region 41 with (go_at_fn 148; refine hr.mono ?_; rintro e w2 ⟨rfl, d2, hd2, hv2, S2⟩)
          have A2 := HAA.out; have X2 := HXX.out; have M2 := HMM.out
          rw [← hv2] at A2 X2 M2
          have AA2 : Hid _ := A2; have XX2 : Hid _ := X2; have MM2 : Hid _ := M2
          clear A2 X2 M2 hv2
          obtain ⟨d3, hd3, hm3, hs3, S3⟩ : ∃ d3 : Array α, d3.size = d.size ∧ Mix (vw d2) (vw d3) a mid ∧ Srtd (ltOf cf) (vw d3) a mid ∧ SWK enc k w0 blk off d3 w2 := ⟨d2, hd2, Mix.refl _ _ _, by have h := AA2.out.2.1; rw [show j = a by omega] at h; exact h, S2⟩
          have MM3 : Hid _ := hm3; have SS3 : Hid _ := hs3; clear hm3 hs3
          obtain ⟨d4, hd4, hm4, hs4, S4⟩ : ∃ d4 : Array α, d4.size = d.size ∧ Mix (vw d3) (vw d4) mid b ∧ Srtd (ltOf cf) (vw d4) mid b ∧ SWK enc k w0 blk off d4 w2 := ⟨d3, hd3, Mix.refl _ _ _, by have h := AA2.out.2.2.1; rw [show en = b by omega] at h; exact h.cong (fun x h1 h2 => Mix.out MM3.out (.inr h1)), S3⟩
          have J := join hmab XX2.out MM3.out SS3.out hm4 hs4
          have FIN : Hid (Mix (vw d) (vw d4) a b ∧ Srtd (ltOf cf) (vw d4) a b) := ⟨Mix.trans MM2.out J.1, J.2⟩
          have S5 : Aside _ := S4
          clear J hm4 hs4 S4
          go_wp2
          all_goals (go_end0; exact ⟨rfl, d4, hd4, FIN.out.1, FIN.out.2, S5.out⟩)
        · clear hltz
          obtain ⟨d2, hd2, hv2, S2⟩ : ∃ d2 : Array α, d2.size = d.size ∧ vw d2 = rot (vw d) j m en ∧ SWK enc k w0 blk off d2 wr := ⟨d, rfl, by rw [show en = m by have := HEN.out; omega, rot_r], S1.out⟩
          have A2 := HAA.out; have X2 := HXX.out; have M2 := HMM.out
          rw [← hv2] at A2 X2 M2
          have AA2 : Hid _ := A2; have XX2 : Hid _ := X2; have MM2 : Hid _ := M2
          clear A2 X2 M2 hv2
          obtain ⟨d3, hd3, hm3, hs3, S3⟩ : ∃ d3 : Array α, d3.size = d.size ∧ Mix (vw d2) (vw d3) a mid ∧ Srtd (ltOf cf) (vw d3) a mid ∧ SWK enc k w0 blk off d3 wr := ⟨d2, hd2, Mix.refl _ _ _, by have h := AA2.out.1; rw [show j = mid by omega] at h; exact h, S2⟩
          have MM3 : Hid _ := hm3; have SS3 : Hid _ := hs3; clear hm3 hs3
          have h4 := IH.out mid en b d3 wr hd3 S3 (by have := HEN.out; omega) q4 (by omega) hNN.2 (AA2.out.2.2.1.cong (fun x h1 h2 => Mix.out MM3.out (.inr h1))) (AA2.out.2.2.2.cong (fun x h1 h2 => Mix.out MM3.out (.inr (by omega))))
          go_wp2_with (go_at_fn 137; refine h4.mono ?_; rintro e w4 ⟨rfl, d4, hd4, hm4, hs4, S4⟩)
          have J := join hmab XX2.out MM3.out SS3.out hm4 hs4
          have FIN : Hid (Mix (vw d) (vw d4) a b ∧ Srtd (ltOf cf) (vw d4) a b) := ⟨Mix.trans MM2.out J.1, J.2⟩
          have S5 : Aside _ := S4
          clear J hm4 hs4 S4
          all_goals (go_end0; exact ⟨rfl, d4, hd4, FIN.out.1, FIN.out.2, S5.out⟩)
        · clear hltz
          obtain ⟨d2, hd2, hv2, S2⟩ : ∃ d2 : Array α, d2.size = d.size ∧ vw d2 = rot (vw d) j m en ∧ SWK enc k w0 blk off d2 wr := ⟨d, rfl, by rw [show en = m by have := HEN.out; omega, rot_r], S1.out⟩
          have A2 := HAA.out; have X2 := HXX.out; have M2 := HMM.out
          rw [← hv2] at A2 X2 M2
          have AA2 : Hid _ := A2; have XX2 : Hid _ := X2; have MM2 : Hid _ := M2
          clear A2 X2 M2 hv2
          obtain ⟨d3, hd3, hm3, hs3, S3⟩ : ∃ d3 : Array α, d3.size = d.size ∧ Mix (vw d2) (vw d3) a mid ∧ Srtd (ltOf cf) (vw d3) a mid ∧ SWK enc k w0 blk off d3 wr := ⟨d2, hd2, Mix.refl _ _ _, by have h := AA2.out.1; rw [show j = mid by omega] at h; exact h, S2⟩
          have MM3 : Hid _ := hm3; have SS3 : Hid _ := hs3; clear hm3 hs3
          obtain ⟨d4, hd4, hm4, hs4, S4⟩ : ∃ d4 : Array α, d4.size = d.size ∧ Mix (vw d3) (vw d4) mid b ∧ Srtd (ltOf cf) (vw d4) mid b ∧ SWK enc k w0 blk off d4 wr := ⟨d3, hd3, Mix.refl _ _ _, by have h := AA2.out.2.2.1; rw [show en = b by omega] at h; exact h.cong (fun x h1 h2 => Mix.out MM3.out (.inr h1)), S3⟩
          have J := join hmab XX2.out MM3.out SS3.out hm4 hs4
          have FIN : Hid (Mix (vw d) (vw d4) a b ∧ Srtd (ltOf cf) (vw d4) a b) := ⟨Mix.trans MM2.out J.1, J.2⟩
          have S5 : Aside _ := S4
          clear J hm4 hs4 S4
          go_wp2
          all_goals (go_end0; exact ⟨rfl, d4, hd4, FIN.out.1, FIN.out.2, S5.out⟩)
        · clear hltz
          obtain ⟨d2, hd2, hv2, S2⟩ : ∃ d2 : Array α, d2.size = d.size ∧ vw d2 = rot (vw d) j m en ∧ SWK enc k w0 blk off d2 wr := ⟨d, rfl, by rw [show en = m by have := HEN.out; omega, rot_r], S1.out⟩
          have A2 := HAA.out; have X2 := HXX.out; have M2 := HMM.out
          rw [← hv2] at A2 X2 M2
          have AA2 : Hid _ := A2; have XX2 : Hid _ := X2; have MM2 : Hid _ := M2
          clear A2 X2 M2 hv2
          obtain ⟨d3, hd3, hm3, hs3, S3⟩ : ∃ d3 : Array α, d3.size = d.size ∧ Mix (vw d2) (vw d3) a mid ∧ Srtd (ltOf cf) (vw d3) a mid ∧ SWK enc k w0 blk off d3 wr := ⟨d2, hd2, Mix.refl _ _ _, by have h := AA2.out.1; rw [show j = mid by omega] at h; exact h, S2⟩
          have MM3 : Hid _ := hm3; have SS3 : Hid _ := hs3; clear hm3 hs3
          have h4 := IH.out mid en b d3 wr hd3 S3 (by have := HEN.out; omega) q4 (by omega) hNN.2 (AA2.out.2.2.1.cong (fun x h1 h2 => Mix.out MM3.out (.inr h1))) (AA2.out.2.2.2.cong (fun x h1 h2 => Mix.out MM3.out (.inr (by omega))))
          go_wp2_with (go_at_fn 137; refine h4.mono ?_; rintro e w4 ⟨rfl, d4, hd4, hm4, hs4, S4⟩)
          have J := join hmab XX2.out MM3.out SS3.out hm4 hs4
          have FIN : Hid (Mix (vw d) (vw d4) a b ∧ Srtd (ltOf cf) (vw d4) a b) := ⟨Mix.trans MM2.out J.1, J.2⟩
          have S5 : Aside _ := S4
          clear J hm4 hs4 S4
          all_goals (go_end0; exact ⟨rfl, d4, hd4, FIN.out.1, FIN.out.2, S5.out⟩)
        · clear hltz
          obtain ⟨d2, hd2, hv2, S2⟩ : ∃ d2 : Array α, d2.size = d.size ∧ vw d2 = rot (vw d) j m en ∧ SWK enc k w0 blk off d2 wr := ⟨d, rfl, by rw [show en = m by have := HEN.out; omega, rot_r], S1.out⟩
          have A2 := HAA.out; have X2 := HXX.out; have M2 := HMM.out
          rw [← hv2] at A2 X2 M2
          have AA2 : Hid _ := A2; have XX2 : Hid _ := X2; have MM2 : Hid _ := M2
          clear A2 X2 M2 hv2
          obtain ⟨d3, hd3, hm3, hs3, S3⟩ : ∃ d3 : Array α, d3.size = d.size ∧ Mix (vw d2) (vw d3) a mid ∧ Srtd (ltOf cf) (vw d3) a mid ∧ SWK enc k w0 blk off d3 wr := ⟨d2, hd2, Mix.refl _ _ _, by have h := AA2.out.1; rw [show j = mid by omega] at h; exact h, S2⟩
          have MM3 : Hid _ := hm3; have SS3 : Hid _ := hs3; clear hm3 hs3
          obtain ⟨d4, hd4, hm4, hs4, S4⟩ : ∃ d4 : Array α, d4.size = d.size ∧ Mix (vw d3) (vw d4) mid b ∧ Srtd (ltOf cf) (vw d4) mid b ∧ SWK enc k w0 blk off d4 wr := ⟨d3, hd3, Mix.refl _ _ _, by have h := AA2.out.2.2.1; rw [show en = b by omega] at h; exact h.cong (fun x h1 h2 => Mix.out MM3.out (.inr h1)), S3⟩
          have J := join hmab XX2.out MM3.out SS3.out hm4 hs4
          have FIN : Hid (Mix (vw d) (vw d4) a b ∧ Srtd (ltOf cf) (vw d4) a b) := ⟨Mix.trans MM2.out J.1, J.2⟩
          have S5 : Aside _ := S4
          clear J hm4 hs4 S4
          go_wp2
          all_goals (go_end0; exact ⟨rfl, d4, hd4, FIN.out.1, FIN.out.2, S5.out⟩)
        · clear hltz
          obtain ⟨d2, hd2, hv2, S2⟩ : ∃ d2 : Array α, d2.size = d.size ∧ vw d2 = rot (vw d) j m en ∧ SWK enc k w0 blk off d2 wr := ⟨d, rfl, by rw [show j = m by omega, rot_l], S1.out⟩
          have A2 := HAA.out; have X2 := HXX.out; have M2 := HMM.out
          rw [← hv2] at A2 X2 M2
          have AA2 : Hid _ := A2; have XX2 : Hid _ := X2; have MM2 : Hid _ := M2
          clear A2 X2 M2 hv2
          have h3 := IH.out a j mid d2 wr hd2 S2 q3 q2 (by omega) hNN.1 AA2.out.1 AA2.out.2.1
          go_upto_region 43 with (go_at_fn 137; refine h3.mono ?_; rintro e w3 ⟨rfl, d3, hd3, hm3, hs3, S3⟩)
          have MM3 : Hid _ := hm3; have SS3 : Hid _ := hs3; clear hm3 hs3
          obtain ⟨d4, hd4, hm4, hs4, S4⟩ : ∃ d4 : Array α, d4.size = d.size ∧ Mix (vw d3) (vw d4) mid b ∧ Srtd (ltOf cf) (vw d4) mid b ∧ SWK enc k w0 blk off d4 w3 := ⟨d3, hd3, Mix.refl _ _ _, by have h := AA2.out.2.2.2; rw [show en = mid by have := HEN.out; omega] at h; exact h.cong (fun x h1 h2 => Mix.out MM3.out (.inr h1)), S3⟩
          have J := join hmab XX2.out MM3.out SS3.out hm4 hs4
          have FIN : Hid (Mix (vw d) (vw d4) a b ∧ Srtd (ltOf cf) (vw d4) a b) := ⟨Mix.trans MM2.out J.1, J.2⟩
          have S5 : Aside _ := S4
          clear J hm4 hs4 S4
          go_wp2
          all_goals (go_end0; exact ⟨rfl, d4, hd4, FIN.out.1, FIN.out.2, S5.out⟩)
        · clear hltz
          obtain ⟨d2, hd2, hv2, S2⟩ : ∃ d2 : Array α, d2.size = d.size ∧ vw d2 = rot (vw d) j m en ∧ SWK enc k w0 blk off d2 wr := ⟨d, rfl, by rw [show j = m by omega, rot_l], S1.out⟩
          have A2 := HAA.out; have X2 := HXX.out; have M2 := HMM.out
          rw [← hv2] at A2 X2 M2
          have AA2 : Hid _ := A2; have XX2 : Hid _ := X2; have MM2 : Hid _ := M2
          clear A2 X2 M2 hv2
          have h3 := IH.out a j mid d2 wr hd2 S2 q3 q2 (by omega) hNN.1 AA2.out.1 AA2.out.2.1
          go_upto_region 43 with (go_at_fn 137; refine h3.mono ?_; rintro e w3 ⟨rfl, d3, hd3, hm3, hs3, S3⟩)
          have MM3 : Hid _ := hm3; have SS3 : Hid _ := hs3; clear hm3 hs3
          obtain ⟨d4, hd4, hm4, hs4, S4⟩ : ∃ d4 : Array α, d4.size = d.size ∧ Mix (vw d3) (vw d4) mid b ∧ Srtd (ltOf cf) (vw d4) mid b ∧ SWK enc k w0 blk off d4 w3 := ⟨d3, hd3, Mix.refl _ _ _, by have h := AA2.out.2.2.2; rw [show en = mid by have := HEN.out; omega] at h; exact h.cong (fun x h1 h2 => Mix.out MM3.out (.inr h1)), S3⟩
          have J := join hmab XX2.out MM3.out SS3.out hm4 hs4
          have FIN : Hid (Mix (vw d) (vw d4) a b ∧ Srtd (ltOf cf) (vw d4) a b) := ⟨Mix.trans MM2.out J.1, J.2⟩
          have S5 : Aside _ := S4
          clear J hm4 hs4 S4
          go_wp2
          all_goals (go_end0; exact ⟨rfl, d4, hd4, FIN.out.1, FIN.out.2, S5.out⟩)
        · clear hltz
          obtain ⟨d2, hd2, hv2, S2⟩ : ∃ d2 : Array α, d2.size = d.size ∧ vw d2 = rot (vw d) j m en ∧ SWK enc k w0 blk off d2 wr := ⟨d, rfl, by rw [show j = m by omega, rot_l], S1.out⟩
          have A2 := HAA.out; have X2 := HXX.out; have M2 := HMM.out
          rw [← hv2] at A2 X2 M2
          have AA2 : Hid _ := A2; have XX2 : Hid _ := X2; have MM2 : Hid _ := M2
          clear A2 X2 M2 hv2
          obtain ⟨d3, hd3, hm3, hs3, S3⟩ : ∃ d3 : Array α, d3.size = d.size ∧ Mix (vw d2) (vw d3) a mid ∧ Srtd (ltOf cf) (vw d3) a mid ∧ SWK enc k w0 blk off d3 wr := ⟨d2, hd2, Mix.refl _ _ _, by have h := AA2.out.2.1; rw [show j = a by omega] at h; exact h, S2⟩
          have MM3 : Hid _ := hm3; have SS3 : Hid _ := hs3; clear hm3 hs3
          obtain ⟨d4, hd4, hm4, hs4, S4⟩ : ∃ d4 : Array α, d4.size = d.size ∧ Mix (vw d3) (vw d4) mid b ∧ Srtd (ltOf cf) (vw d4) mid b ∧ SWK enc k w0 blk off d4 wr := ⟨d3, hd3, Mix.refl _ _ _, by have h := AA2.out.2.2.2; rw [show en = mid by have := HEN.out; omega] at h; exact h.cong (fun x h1 h2 => Mix.out MM3.out (.inr h1)), S3⟩
          have J := join hmab XX2.out MM3.out SS3.out hm4 hs4
          have FIN : Hid (Mix (vw d) (vw d4) a b ∧ Srtd (ltOf cf) (vw d4) a b) := ⟨Mix.trans MM2.out J.1, J.2⟩
          have S5 : Aside _ := S4
          clear J hm4 hs4 S4
          go_wp2
          all_goals (go_end0; exact ⟨rfl, d4, hd4, FIN.out.1, FIN.out.2, S5.out⟩)
        · clear hltz
          obtain ⟨d2, hd2, hv2, S2⟩ : ∃ d2 : Array α, d2.size = d.size ∧ vw d2 = rot (vw d) j m en ∧ SWK enc k w0 blk off d2 wr := ⟨d, rfl, by rw [show j = m by omega, rot_l], S1.out⟩
          have A2 := HAA.out; have X2 := HXX.out; have M2 := HMM.out
          rw [← hv2] at A2 X2 M2
          have AA2 : Hid _ := A2; have XX2 : Hid _ := X2; have MM2 : Hid _ := M2
          clear A2 X2 M2 hv2
          obtain ⟨d3, hd3, hm3, hs3, S3⟩ : ∃ d3 : Array α, d3.size = d.size ∧ Mix (vw d2) (vw d3) a mid ∧ Srtd (ltOf cf) (vw d3) a mid ∧ SWK enc k w0 blk off d3 wr := ⟨d2, hd2, Mix.refl _ _ _, by have h := AA2.out.2.1; rw [show j = a by omega] at h; exact h, S2⟩
          have MM3 : Hid _ := hm3; have SS3 : Hid _ := hs3; clear hm3 hs3
          obtain ⟨d4, hd4, hm4, hs4, S4⟩ : ∃ d4 : Array α, d4.size = d.size ∧ Mix (vw d3) (vw d4) mid b ∧ Srtd (ltOf cf) (vw d4) mid b ∧ SWK enc k w0 blk off d4 wr := ⟨d3, hd3, Mix.refl _ _ _, by have h := AA2.out.2.2.2; rw [show en = mid by have := HEN.out; omega] at h; exact h.cong (fun x h1 h2 => Mix.out MM3.out (.inr h1)), S3⟩
          have J := join hmab XX2.out MM3.out SS3.out hm4 hs4
          have FIN : Hid (Mix (vw d) (vw d4) a b ∧ Srtd (ltOf cf) (vw d4) a b) := ⟨Mix.trans MM2.out J.1, J.2⟩
          have S5 : Aside _ := S4
          clear J hm4 hs4 S4
          go_wp2
          all_goals (go_end0; exact ⟨rfl, d4, hd4, FIN.out.1, FIN.out.2, S5.out⟩)
        · clear hltz
          obtain ⟨d2, hd2, hv2, S2⟩ : ∃ d2 : Array α, d2.size = d.size ∧ vw d2 = rot (vw d) j m en ∧ SWK enc k w0 blk off d2 wr := ⟨d, rfl, by rw [show j = m by omega, rot_l], S1.out⟩
          have A2 := HAA.out; have X2 := HXX.out; have M2 := HMM.out
          rw [← hv2] at A2 X2 M2
          have AA2 : Hid _ := A2; have XX2 : Hid _ := X2; have MM2 : Hid _ := M2
          clear A2 X2 M2 hv2
          obtain ⟨d3, hd3, hm3, hs3, S3⟩ : ∃ d3 : Array α, d3.size = d.size ∧ Mix (vw d2) (vw d3) a mid ∧ Srtd (ltOf cf) (vw d3) a mid ∧ SWK enc k w0 blk off d3 wr := ⟨d2, hd2, Mix.refl _ _ _, by have h := AA2.out.1; rw [show j = mid by omega] at h; exact h, S2⟩
          have MM3 : Hid _ := hm3; have SS3 : Hid _ := hs3; clear hm3 hs3
          obtain ⟨d4, hd4, hm4, hs4, S4⟩ : ∃ d4 : Array α, d4.size = d.size ∧ Mix (vw d3) (vw d4) mid b ∧ Srtd (ltOf cf) (vw d4) mid b ∧ SWK enc k w0 blk off d4 wr := ⟨d3, hd3, Mix.refl _ _ _, by have h := AA2.out.2.2.2; rw [show en = mid by have := HEN.out; omega] at h; exact h.cong (fun x h1 h2 => Mix.out MM3.out (.inr h1)), S3⟩
          have J := join hmab XX2.out MM3.out SS3.out hm4 hs4
          have FIN : Hid (Mix (vw d) (vw d4) a b ∧ Srtd (ltOf cf) (vw d4) a b) := ⟨Mix.trans MM2.out J.1, J.2⟩
          have S5 : Aside _ := S4
          clear J hm4 hs4 S4
          go_wp2
          all_goals (go_end0; exact ⟨rfl, d4, hd4, FIN.out.1, FIN.out.2, S5.out⟩)
        · clear hltz
          obtain ⟨d2, hd2, hv2, S2⟩ : ∃ d2 : Array α, d2.size = d.size ∧ vw d2 = rot (vw d) j m en ∧ SWK enc k w0 blk off d2 wr := ⟨d, rfl, by rw [show j = m by omega, rot_l], S1.out⟩
          have A2 := HAA.out; have X2 := HXX.out; have M2 := HMM.out
          rw [← hv2] at A2 X2 M2
          have AA2 : Hid _ := A2; have XX2 : Hid _ := X2; have MM2 : Hid _ := M2
          clear A2 X2 M2 hv2
          obtain ⟨d3, hd3, hm3, hs3, S3⟩ : ∃ d3 : Array α, d3.size = d.size ∧ Mix (vw d2) (vw d3) a mid ∧ Srtd (ltOf cf) (vw d3) a mid ∧ SWK enc k w0 blk off d3 wr := ⟨d2, hd2, Mix.refl _ _ _, by have h := AA2.out.1; rw [show j = mid by omega] at h; exact h, S2⟩
          have MM3 : Hid _ := hm3; have SS3 : Hid _ := hs3; clear hm3 hs3
          obtain ⟨d4, hd4, hm4, hs4, S4⟩ : ∃ d4 : Array α, d4.size = d.size ∧ Mix (vw d3) (vw d4) mid b ∧ Srtd (ltOf cf) (vw d4) mid b ∧ SWK enc k w0 blk off d4 wr := ⟨d3, hd3, Mix.refl _ _ _, by have h := AA2.out.2.2.2; rw [show en = mid by have := HEN.out; omega] at h; exact h.cong (fun x h1 h2 => Mix.out MM3.out (.inr h1)), S3⟩
          have J := join hmab XX2.out MM3.out SS3.out hm4 hs4
          have FIN : Hid (Mix (vw d) (vw d4) a b ∧ Srtd (ltOf cf) (vw d4) a b) := ⟨Mix.trans MM2.out J.1, J.2⟩
          have S5 : Aside _ := S4
          clear J hm4 hs4 S4
          go_wp2
          all_goals (go_end0; exact ⟨rfl, d4, hd4, FIN.out.1, FIN.out.2, S5.out⟩)
        · clear hltz
          obtain ⟨d2, hd2, hv2, S2⟩ : ∃ d2 : Array α, d2.size = d.size ∧ vw d2 = rot (vw d) j m en ∧ SWK enc k w0 blk off d2 wr := ⟨d, rfl, by rw [show j = m by omega, rot_l], S1.out⟩
          have A2 := HAA.out; have X2 := HXX.out; have M2 := HMM.out
          rw [← hv2] at A2 X2 M2
          have AA2 : Hid _ := A2; have XX2 : Hid _ := X2; have MM2 : Hid _ := M2
          clear A2 X2 M2 hv2
          obtain ⟨d3, hd3, hm3, hs3, S3⟩ : ∃ d3 : Array α, d3.size = d.size ∧ Mix (vw d2) (vw d3) a mid ∧ Srtd (ltOf cf) (vw d3) a mid ∧ SWK enc k w0 blk off d3 wr := ⟨d2, hd2, Mix.refl _ _ _, by have h := AA2.out.1; rw [show j = mid by omega] at h; exact h, S2⟩
          have MM3 : Hid _ := hm3; have SS3 : Hid _ := hs3; clear hm3 hs3
          obtain ⟨d4, hd4, hm4, hs4, S4⟩ : ∃ d4 : Array α, d4.size = d.size ∧ Mix (vw d3) (vw d4) mid b ∧ Srtd (ltOf cf) (vw d4) mid b ∧ SWK enc k w0 blk off d4 wr := ⟨d3, hd3, Mix.refl _ _ _, by have h := AA2.out.2.2.2; rw [show en = mid by have := HEN.out; omega] at h; exact h.cong (fun x h1 h2 => Mix.out MM3.out (.inr h1)), S3⟩
          have J := join hmab XX2.out MM3.out SS3.out hm4 hs4
          have FIN : Hid (Mix (vw d) (vw d4) a b ∧ Srtd (ltOf cf) (vw d4) a b) := ⟨Mix.trans MM2.out J.1, J.2⟩
          have S5 : Aside _ := S4
          clear J hm4 hs4 S4
          go_wp2
          all_goals (go_end0; exact ⟨rfl, d4, hd4, FIN.out.1, FIN.out.2, S5.out⟩)
        · clear hltz
          obtain ⟨d2, hd2, hv2, S2⟩ : ∃ d2 : Array α, d2.size = d.size ∧ vw d2 = rot (vw d) j m en ∧ SWK enc k w0 blk off d2 wr := ⟨d, rfl, by rw [show j = m by omega, rot_l], S1.out⟩
          have A2 := HAA.out; have X2 := HXX.out; have M2 := HMM.out
          rw [← hv2] at A2 X2 M2
          have AA2 : Hid _ := A2; have XX2 : Hid _ := X2; have MM2 : Hid _ := M2
          clear A2 X2 M2 hv2
          obtain ⟨d3, hd3, hm3, hs3, S3⟩ : ∃ d3 : Array α, d3.size = d.size ∧ Mix (vw d2) (vw d3) a mid ∧ Srtd (ltOf cf) (vw d3) a mid ∧ SWK enc k w0 blk off d3 wr := ⟨d2, hd2, Mix.refl _ _ _, by have h := AA2.out.1; rw [show j = mid by omega] at h; exact h, S2⟩
          have MM3 : Hid _ := hm3; have SS3 : Hid _ := hs3; clear hm3 hs3
          obtain ⟨d4, hd4, hm4, hs4, S4⟩ : ∃ d4 : Array α, d4.size = d.size ∧ Mix (vw d3) (vw d4) mid b ∧ Srtd (ltOf cf) (vw d4) mid b ∧ SWK enc k w0 blk off d4 wr := ⟨d3, hd3, Mix.refl _ _ _, by have h := AA2.out.2.2.2; rw [show en = mid by have := HEN.out; omega] at h; exact h.cong (fun x h1 h2 => Mix.out MM3.out (.inr h1)), S3⟩
          have J := join hmab XX2.out MM3.out SS3.out hm4 hs4
          have FIN : Hid (Mix (vw d) (vw d4) a b ∧ Srtd (ltOf cf) (vw d4) a b) := ⟨Mix.trans MM2.out J.1, J.2⟩
          have S5 : Aside _ := S4
          clear J hm4 hs4 S4
          go_wp2
          all_goals (go_end0; exact ⟨rfl, d4, hd4, FIN.out.1, FIN.out.2, S5.out⟩)
theorem symMerge_any (L : SP P k) (enc : α → List Value) (cf : α → α → Int) (ho : Ordr (ltOf cf)) (g : Nat) (cb : Array Value) (blk off cap : Nat) (d0 : Array α) (w0 : World)
    (eg : ∀ args w, (callFunc g args).run P w = .ok (.enter g args) w) (hC : CmpLays P g cb enc k cf blk off d0.size w0) (R : RowK enc k w0 blk off d0) (hsz : d0.size < 2305843009213693952) : ∀ (N a m b : Nat) (d : Array α) (w : World),
    b - a ≤ N → a < m → m < b → b ≤ d.size → d0.size = d.size → SWK enc k w0 blk off d w → Srtd (ltOf cf) (vw d) a m → Srtd (ltOf cf) (vw d) m b →
    Calls P 137 #[.slice (some ⟨blk, off, none⟩) d.size cap, .int .i64 a, .int .i64 m, .int .i64 b, .func (.func g) #[] cb] w (Mrgd enc k w0 blk off (ltOf cf) d a b) := by
  intro N
  induction N with
  | zero => intro a m b d w h1 h2 h3; omega
  | succ N ih =>
  intro a m b d w hN ham hmb hb hs S s1 s2
  by_cases hc1 : m = a + 1
  · exact sym1_any L enc cf ho g cb blk off cap d0 w0 eg hC R hsz a m b d w ham hmb hb hs S s1 s2 hc1
  · by_cases hc2 : b = m + 1
    · exact sym2_any L enc cf ho g cb blk off cap d0 w0 eg hC R hsz a m b d w ham hmb hb hs S s1 s2 hc1 hc2
    · refine sym3_any L enc cf ho g cb blk off cap d0 w0 eg hC R hsz N a m b d w ham hmb hb hs S s1 s2 hN hc1 hc2 (fun p q r dk W h1 h2 h3 h4 h5 h6 h7 h8 => ?_)
      have := ih p q r dk W h6 h3 h4 (by omega) (by omega) h2 h7 h8
      unfold Mrgd at this
      rw [h1] at this
      exact this
end Go.Proofs.YtfjehhdahpbbgaaDoor
namespace Go.Proofs.YtfjehhdahpbbgaaDoor
set_option linter.unusedSimpArgs false
set_option linter.unusedVariables false
set_option maxRecDepth 100000
open Go.Shelf Go.RowKit Go.Lib
variable {P : Program} {k : Nat} {α : Type} [Inhabited α]
structure SQ (P : Program) (k : Nat) : Prop extends SP P k where
  fi : P.funcs[136]? = some Tryd.f136
  ft : P.funcs[115]? = some Tryd.f115
set_option maxHeartbeats 8000000 in
set_option maxRecDepth 1000000 in
theorem insSort_any (L : SQ P k) (enc : α → List Value) (cf : α → α → Int) (ho : Ordr (ltOf cf)) (g : Nat) (cb : Array Value) (blk off cap : Nat) (d0 : Array α) (w0 : World)
    (eg : ∀ args w, (callFunc g args).run P w = .ok (.enter g args) w) (hC : CmpLays P g cb enc k cf blk off d0.size w0) (R : RowK enc k w0 blk off d0) (hsz : d0.size < 2305843009213693952) (a b : Nat) (d : Array α) (w : World) (hab : a ≤ b) (hb : b ≤ d.size) (hs : d0.size = d.size) (S : SWK enc k w0 blk off d w) :
    Calls P 136 #[.slice (some ⟨blk, off, none⟩) d.size cap, .int .i64 a, .int .i64 b, .func (.func g) #[] cb] w fun e w' => e = .returned (.tuple #[]) ∧ SWK enc k w0 blk off (Go.Sort.insertionSort (ltOf cf) d a b) w' := by
  have mixed := L.mixed; have t0 := L.t0; have a0 := L.a0; have z0 := L.z0; have v0 := L.v0; have t3 := L.t3; have a3 := L.a3; have z3 := L.z3; have v3 := L.v3; have t4 := L.t4; have a4 := L.a4; have z4 := L.z4; have v4 := L.v4; have t9 := L.t9; have a9 := L.a9; have z9 := L.z9; have v9 := L.v9; have t7 := L.t7; have a7 := L.a7; have z7 := L.z7; have v7 := L.v7; have tf := L.tf; have af := L.af; have zf := L.zf; have vf := L.vf; have aE := L.aE; have zE := L.zE
  have u3 := run_underlying L.t3; have u9 := run_underlying L.t9; have u4 := run_underlying L.t4
  have HC : Aside (CmpLays P g cb enc k cf blk off d0.size w0) := hC
  clear hC
  have FG := L.fi
  have S0 : Aside (SWK enc k w0 blk off d w) := S
  clear S
  go_enter FG, Tryd.ntmps136
  go_wp2
  go_loopg [8] (b - a) (fun g1 vi wr => ∃ (i : Nat) (dk : Array α), vi = .int .i64 i ∧ a < i ∧ i ≤ b + 1 ∧ b + 1 - i ≤ g1 + 1 ∧ dk.size = d.size ∧ Aside (SWK enc k w0 blk off dk wr) ∧ Hid (Go.Sort.insOuter (ltOf cf) a b i dk = Go.Sort.insOuter (ltOf cf) a b (a + 1) d))
  case atStart => exact ⟨a + 1, d, by go_num, by omega, by omega, by omega, rfl, S0, rfl⟩
  case round =>
    clear S0
    obtain ⟨i, dk, rfl, hai, hib, hg1, hsk, S1, HO⟩ := hrel
    by_cases hlt : i < b
    · have hltz : (i : Int) < (b : Int) := by omega
      go_wp2
      go_loopg [9] i (fun g2 vj wr => ∃ (j : Nat) (dj : Array α), vj = .int .i64 j ∧ a ≤ j ∧ j ≤ i ∧ j ≤ g2 ∧ dj.size = d.size ∧ Aside (SWK enc k w0 blk off dj wr) ∧ Hid (Go.Sort.insInner (ltOf cf) a j dj = Go.Sort.insInner (ltOf cf) a i dk))
      case atStart => exact ⟨i, dk, rfl, by omega, Nat.le_refl _, Nat.le_refl _, hsk, S1, rfl⟩
      case round =>
        clear S1
        obtain ⟨j, dj, rfl, haj, hji, hg2, hsj, S1, HI⟩ := hrel
        have OUT : Aside ((j ≤ a ∨ ltOf cf dj[j]! dj[j - 1]! = false) → Hid (Go.Sort.insOuter (ltOf cf) a b (i + 1) dj = Go.Sort.insOuter (ltOf cf) a b (a + 1) d)) := fun hs => by
          show _ = _
          rw [← HO.out, insOuter_go _ _ _ _ _ hlt, ← HI.out, insInner_stop _ _ _ _ hs]
        by_cases hja : a < j
        · obtain ⟨q, rfl⟩ : ∃ q, j = q + 1 := ⟨j - 1, by omega⟩
          have hjaz : (a : Int) < (q : Int) + 1 := by omega
          cases hL : ltOf cf dj[q + 1]! dj[q]! with
          | true =>
            have eaa : ((q : Int) + 1).toNat = q + 1 := by omega
            have paa : (0 : Int) ≤ (q : Int) + 1 := by omega
            have baa : (q : Int) + 1 < (d.size : Int) := by omega
            have raa : IntKind.i64.wrap ((q : Int) + 1) = (q : Int) + 1 := by rw [IntKind.wrap_i64]; omega
            have ecc : ((q : Int)).toNat = q := by omega
            have pcc : (0 : Int) ≤ (q : Int) := by omega
            have bcc : (q : Int) < (d.size : Int) := by omega
            have rcc : IntKind.i64.wrap ((q : Int)) = (q : Int) := by rw [IntKind.wrap_i64]; omega
            obtain ⟨x24, hx24⟩ : ∃ x, x = dj[q + 1]! := ⟨_, rfl⟩
            obtain ⟨y24, hy24⟩ : ∃ x, x = dj[q]! := ⟨_, rfl⟩
            have l24a := S1.out.ld R (by omega) P (q + 1) (by omega)
            have l24b := S1.out.ld R (by omega) P (q) (by omega)
            rw [← hx24] at l24a
            rw [← hy24] at l24b
            have hc24 := S1.out.cmp HC.out (by omega) x24 y24
            have hv24 : cf x24 y24 < 0 := by rw [hx24, hy24]; exact of_decide_eq_true hL
            have hd24 : decide (cf x24 y24 < 0) = true := decide_eq_true hv24
            clear hx24 hy24
            go_wp2_with fail
            go_quiet_grown (first | (go_at_fn g; refine Calls.grown_of (hc24 _ _)))
            have S2 : Aside (SWK enc k w0 blk off dj (Go.Sort.grow (wr.drewN nq) osq)) := S1.out.grown nq osq
            clear l24a l24b hc24 S1
            generalize Go.Sort.grow (wr.drewN nq) osq = w2 at S2 ⊢
            clear nq osq
            go_wp2_with fail
            have S3 := S2
            have eaa : ((q : Int) + 1).toNat = q + 1 := by omega
            have paa : (0 : Int) ≤ (q : Int) + 1 := by omega
            have baa : (q : Int) + 1 < (d.size : Int) := by omega
            have raa : IntKind.i64.wrap ((q : Int) + 1) = (q : Int) + 1 := by rw [IntKind.wrap_i64]; omega
            have ecc : ((q : Int)).toNat = q := by omega
            have pcc : (0 : Int) ≤ (q : Int) := by omega
            have bcc : (q : Int) < (d.size : Int) := by omega
            have rcc : IntKind.i64.wrap ((q : Int)) = (q : Int) := by rw [IntKind.wrap_i64]; omega
            have S4 : Aside (SWK enc k w0 blk off (Go.Sort.swp dj (q + 1) (q)) ((w2.drew.setCells blk (off + (q + 1) * k) (enc dj[q]!)).setCells blk (off + (q) * k) (enc dj[q + 1]!))) := S2.out.swapped R (q + 1) (q) (by omega) (by omega)
            have l44a := S2.out.ld1 R (by omega) P (q + 1) (by omega)
            have l44b := S2.out.ld1 R (by omega) P (q) (by omega)
            have s44a := S2.out.st1 R (by omega) P (q + 1) (by omega) dj[q]!
            have s44b := S2.out.st2 R (by omega) P (q + 1) (q) (by omega) (by omega) dj[q]! dj[q + 1]!
            have n44a : (enc dj[q + 1]!).length = k := R.hk _
            have n44b : (enc dj[q]!).length = k := R.hk _
            have HQ : Hid (Go.Sort.insInner (ltOf cf) a q (Go.Sort.swp dj (q + 1) q) = Go.Sort.insInner (ltOf cf) a i dk) := by
              show _ = _
              have h := insInner_go (ltOf cf) a (q + 1) dj hja hL
              rw [← HI.out, h]; rfl
            generalize enc dj[q + 1]! = cI44 at S4 l44a s44b n44a
            generalize enc dj[q]! = cJ44 at S4 l44b s44a s44b n44b
            clear S2
            go_wp2_with fail
            go_big_region_o
            clear l44a l44b s44a s44b
            generalize (w2.drew.setCells blk (off + (q + 1) * k) cJ44).setCells blk (off + (q) * k) cI44 = w3 at S4 ⊢
            go_wp2
            go_roundg q
            case measure => omega
            case rel => exact ⟨q, Go.Sort.swp dj (q + 1) q, by first | rfl | go_num | (congr 1; omega), by omega, by omega, Nat.le_refl _, by rw [Go.Sort.swp_size]; exact hsj, S4, HQ⟩
          | false =>
            have eaa : ((q : Int) + 1).toNat = q + 1 := by omega
            have paa : (0 : Int) ≤ (q : Int) + 1 := by omega
            have baa : (q : Int) + 1 < (d.size : Int) := by omega
            have raa : IntKind.i64.wrap ((q : Int) + 1) = (q : Int) + 1 := by rw [IntKind.wrap_i64]; omega
            have ecc : ((q : Int)).toNat = q := by omega
            have pcc : (0 : Int) ≤ (q : Int) := by omega
            have bcc : (q : Int) < (d.size : Int) := by omega
            have rcc : IntKind.i64.wrap ((q : Int)) = (q : Int) := by rw [IntKind.wrap_i64]; omega
            obtain ⟨x24, hx24⟩ : ∃ x, x = dj[q + 1]! := ⟨_, rfl⟩
            obtain ⟨y24, hy24⟩ : ∃ x, x = dj[q]! := ⟨_, rfl⟩
            have l24a := S1.out.ld R (by omega) P (q + 1) (by omega)
            have l24b := S1.out.ld R (by omega) P (q) (by omega)
            rw [← hx24] at l24a
            rw [← hy24] at l24b
            have hc24 := S1.out.cmp HC.out (by omega) x24 y24
            have hv24 : ¬ cf x24 y24 < 0 := by rw [hx24, hy24]; exact of_decide_eq_false hL
            have hd24 : decide (cf x24 y24 < 0) = false := decide_eq_false hv24
            clear hx24 hy24
            go_wp2_with fail
            go_quiet_grown (first | (go_at_fn g; refine Calls.grown_of (hc24 _ _)))
            have S2 : Aside (SWK enc k w0 blk off dj (Go.Sort.grow (wr.drewN nq) osq)) := S1.out.grown nq osq
            clear l24a l24b hc24 S1
            generalize Go.Sort.grow (wr.drewN nq) osq = w2 at S2 ⊢
            clear nq osq
            go_wp2
            go_roundg (b - (i + 1))
            case measure => omega
            case rel => exact ⟨i + 1, dj, by go_num, by omega, by omega, by omega, hsj, S2, OUT.out (Or.inr hL)⟩
        · have hjaz : decide ((j : Int) > (a : Int)) = false := decide_eq_false (by omega)
          have hjaz' : ¬ (a : Int) < (j : Int) := by omega
          have S2 : Aside (SWK enc k w0 blk off dj wr.drew) := S1.out.drew
          go_wp2_with fail
          go_big_region_o
          all_goals go_wp2
          go_roundg (b - (i + 1))
          case measure => omega
          case rel => exact ⟨i + 1, dj, by go_num, by omega, by omega, by omega, hsj, S2, OUT.out (Or.inl (by omega))⟩
    · have hltz : ¬ (i : Int) < (b : Int) := by omega
      go_wp2
      go_end0
      have h := HO.out
      rw [insOuter_stop _ _ _ _ _ hlt] at h
      refine ⟨rfl, ?_⟩
      have h2 := S1.out
      rw [h] at h2
      exact h2
end Go.Proofs.YtfjehhdahpbbgaaDoor
namespace Go.Proofs.YtfjehhdahpbbgaaDoor
set_option linter.unusedSimpArgs false
set_option linter.unusedVariables false
set_option maxRecDepth 100000
open Go.Shelf Go.RowKit Go.Lib
def Blk {α : Type} (lt : α → α → Bool) (f : Nat → α) (bs n : Nat) : Prop := ∀ p, bs ∣ p → p < n → Srtd lt f p (min (p + bs) n)
theorem dvd_eq {D p a : Nat} (h1 : D ∣ p) (h2 : D ∣ a) (h3 : p ≤ a) (h4 : a < p + D) : p = a := by
  obtain ⟨u, rfl⟩ := h1
  obtain ⟨v, rfl⟩ := h2
  rcases Nat.eq_zero_or_pos D with h0 | h0
  · subst h0; simp
  · have h5 : u ≤ v := Nat.le_of_mul_le_mul_left h3 h0
    have h6 : D * v < D * (u + 1) := by rw [Nat.mul_add, Nat.mul_one]; exact h4
    have h7 : v < u + 1 := Nat.lt_of_mul_lt_mul_left h6
    obtain rfl : u = v := by omega
    rfl
theorem blk_step {α : Type} {lt : α → α → Bool} {f g : Nat → α} {D a : Nat} (hD : 0 < D) (ha : D ∣ a) (h : ∀ p, D ∣ p → p + D ≤ a → Srtd lt f p (p + D)) (hm : Mix f g a (a + D)) (hs : Srtd lt g a (a + D)) : ∀ p, D ∣ p → p + D ≤ a + D → Srtd lt g p (p + D) := by
  intro p hp hpa
  by_cases c : p + D ≤ a
  · exact (h p hp c).cong (fun x h1 h2 => hm.out (.inl (by omega)))
  · obtain rfl : p = a := dvd_eq hp ha (by omega) (by omega)
    exact hs
theorem blk_fin {α : Type} {lt : α → α → Bool} {f g : Nat → α} {D a n : Nat} (hD : 0 < D) (ha : D ∣ a) (han : a ≤ n) (hna : ¬ a + D ≤ n) (h : ∀ p, D ∣ p → p + D ≤ a → Srtd lt f p (p + D)) (hm : Mix f g a n) (hs : Srtd lt g a n) : Blk lt g D n := by
  intro p hp hpn
  by_cases c : p + D ≤ a
  · rw [Nat.min_eq_left (by omega)]
    exact (h p hp c).cong (fun x h1 h2 => hm.out (.inl (by omega)))
  · by_cases c2 : p ≤ a
    · obtain rfl : p = a := dvd_eq hp ha c2 (by omega)
      rw [Nat.min_eq_right (by omega)]
      exact hs
    · have := dvd_eq ha hp (by omega) (by omega)
      omega
variable {P : Program} {k : Nat} {α : Type} [Inhabited α]
set_option maxHeartbeats 8000000 in
set_option maxRecDepth 1000000 in
theorem stable_any (L : SQ P k) (enc : α → List Value) (cf : α → α → Int) (ho : Ordr (ltOf cf)) (g : Nat) (cb : Array Value) (blk off cap : Nat) (d : Array α) (w : World)
    (eg : ∀ args w, (callFunc g args).run P w = .ok (.enter g args) w) (hC : CmpLays P g cb enc k cf blk off d.size w) (R : RowK enc k w blk off d) (hsz : d.size < 1152921504606846976) :
    Calls P 115 #[.slice (some ⟨blk, off, none⟩) d.size cap, .int .i64 d.size, .func (.func g) #[] cb] w fun e w' => e = .returned (.tuple #[]) ∧ ∃ d' : Array α, d'.size = d.size ∧ Mix (vw d) (vw d') 0 d.size ∧ Srtd (ltOf cf) (vw d') 0 d.size ∧ SWK enc k w blk off d' w' := by
  have mixed := L.mixed; have t0 := L.t0; have a0 := L.a0; have z0 := L.z0; have v0 := L.v0; have t3 := L.t3; have a3 := L.a3; have z3 := L.z3; have v3 := L.v3; have t4 := L.t4; have a4 := L.a4; have z4 := L.z4; have v4 := L.v4; have t7 := L.t7; have a7 := L.a7; have z7 := L.z7; have v7 := L.v7; have tf := L.tf; have af := L.af; have zf := L.zf; have vf := L.vf; have aE := L.aE; have zE := L.zE
  have FG := L.ft
  have ei : ∀ args w, (callFunc 136 args).run P w = .ok (.enter 136 args) w := enters_of L.fi (by kernel_rfl) rfl
  have em : ∀ args w, (callFunc 137 args).run P w = .ok (.enter 137 args) w := enters_of L.fm (by kernel_rfl) rfl
  have IS : Hid (∀ (p q : Nat) (dk : Array α) (W : World), dk.size = d.size → SWK enc k w blk off dk W → p ≤ q → q ≤ d.size → Calls P 136 #[.slice (some ⟨blk, off, none⟩) d.size cap, .int .i64 p, .int .i64 q, .func (.func g) #[] cb] W fun e w' => e = .returned (.tuple #[]) ∧ ∃ d' : Array α, d'.size = d.size ∧ Mix (vw dk) (vw d') p q ∧ Srtd (ltOf cf) (vw d') p q ∧ SWK enc k w blk off d' w') := fun p q dk W h1 h2 h3 h4 => by
    have h := insSort_any L enc cf ho g cb blk off cap d w eg hC R (by omega) p q dk W h3 (by omega) h1.symm h2
    rw [h1] at h
    refine h.mono ?_
    rintro e w' ⟨rfl, h5⟩
    obtain ⟨i1, i2, i3⟩ := ins_holds ho dk h3 (by omega)
    exact ⟨rfl, _, by omega, i2, i3, h5⟩
  have SM : Hid (∀ (p q r : Nat) (dk : Array α) (W : World), dk.size = d.size → SWK enc k w blk off dk W → p < q → q < r → r ≤ d.size → Srtd (ltOf cf) (vw dk) p q → Srtd (ltOf cf) (vw dk) q r → Calls P 137 #[.slice (some ⟨blk, off, none⟩) d.size cap, .int .i64 p, .int .i64 q, .int .i64 r, .func (.func g) #[] cb] W fun e w' => e = .returned (.tuple #[]) ∧ ∃ d' : Array α, d'.size = d.size ∧ Mix (vw dk) (vw d') p r ∧ Srtd (ltOf cf) (vw d') p r ∧ SWK enc k w blk off d' w') := fun p q r dk W h1 h2 h3 h4 h5 h6 h7 => by
    have h := symMerge_any L.toSP enc cf ho g cb blk off cap d w eg hC R (by omega) (r - p) p q r dk W (Nat.le_refl _) h3 h4 (by omega) h1.symm h2 h6 h7
    unfold Mrgd at h
    rw [h1] at h
    exact h
  have S0 : Aside (SWK enc k w blk off d w) := SWK.start R.hH
  clear hC
  generalize hn : d.size = n at *
  have HN : Hid (d.size = n) := hn
  clear hn R
  go_enter FG, Tryd.ntmps115
  go_wp2
  go_loopg [7, 8] n (fun kx s7 s8 wr => ∃ (a b : Nat) (dk : Array α), s7 = .int .i64 a ∧ s8 = .int .i64 b ∧ Hid (b = a + 20) ∧ b ≤ n + 20 ∧ Hid (20 ∣ a) ∧ n - a ≤ kx ∧ dk.size = n ∧ Aside (SWK enc k w blk off dk wr) ∧ Hid (Mix (vw d) (vw dk) 0 n ∧ ∀ p, 20 ∣ p → p + 20 ≤ a → Srtd (ltOf cf) (vw dk) p (p + 20)))
  case atStart => exact ⟨0, 20, d, rfl, rfl, rfl, by omega, (show 20 ∣ 0 from ⟨0, rfl⟩), Nat.le_refl _, HN.out, S0, ⟨Mix.refl _ _ _, fun p h1 h2 => by omega⟩⟩
  case round =>
    clear S0
    obtain ⟨a, b, dk, rfl, rfl, HBA, hbn, HDA, hkx, hdk, S1, HI⟩ := hrel
    by_cases hlt : b ≤ n
    · have hltz : (b : Int) ≤ (n : Int) := by omega
      have hc := IS.out a b dk wr hdk S1.out (by have := HBA.out; omega) hlt
      go_wp2_with (go_at_fn 136; refine hc.mono ?_; rintro e w2 ⟨rfl, d2, hd2, hm2, hs2, S2⟩)
      have HQ : Hid (Mix (vw d) (vw d2) 0 n ∧ ∀ p, 20 ∣ p → p + 20 ≤ b → Srtd (ltOf cf) (vw d2) p (p + 20)) := by
        have e := HBA.out
        rw [e] at hm2 hs2 ⊢
        exact ⟨HI.out.1.trans (hm2.mono (Nat.zero_le _) (by omega)), blk_step (by omega) HDA.out HI.out.2 hm2 hs2⟩
      have HD2 : Hid (20 ∣ b) := by
        obtain ⟨u, hu⟩ := HDA.out
        have e := HBA.out
        exact ⟨u + 1, by omega⟩
      go_roundg (n - b)
      case measure => have := HBA.out; omega
      case rel => exact ⟨b, b + 20, d2, rfl, by go_num, (show Hid _ from rfl), by omega, HD2, Nat.le_refl _, hd2, S2, HQ⟩
    · have hltz : ¬ (b : Int) ≤ (n : Int) := by omega
      have han : a ≤ n := by have := HBA.out; omega
      have hc := IS.out a n dk wr hdk S1.out han (Nat.le_refl _)
      go_wp2_with (go_at_fn 136; refine hc.mono ?_; rintro e w2 ⟨rfl, d2, hd2, hm2, hs2, S2⟩)
      have HQ : Hid (Mix (vw d) (vw d2) 0 n ∧ Blk (ltOf cf) (vw d2) 20 n) := ⟨HI.out.1.trans (hm2.mono (Nat.zero_le _) (Nat.le_refl _)), blk_fin (by omega) HDA.out han (by have := HBA.out; omega) HI.out.2 hm2 hs2⟩
      have S3 : Aside _ := S2
      clear hm2 hs2 S2 HI S1 IS
      go_loopg [6] n (fun kx s6 wr => ∃ (bs : Nat) (dk : Array α), s6 = .int .i64 bs ∧ 0 < bs ∧ bs ≤ 2 * n + 20 ∧ n - bs ≤ kx ∧ dk.size = n ∧ Aside (SWK enc k w blk off dk wr) ∧ Hid (Mix (vw d) (vw dk) 0 n ∧ Blk (ltOf cf) (vw dk) bs n))
      case atStart => exact ⟨20, d2, rfl, by omega, by omega, by omega, hd2, S3, HQ⟩
      case round =>
        clear S3 HQ
        obtain ⟨bs, dk, rfl, hbs, hbs2, hkx2, hdk, S1, HI⟩ := hrel
        by_cases hlt2 : bs < n
        · have hltz2 : (bs : Int) < (n : Int) := by omega
          go_wp2
          go_loopg [7, 8] n (fun kx s7 s8 wr => ∃ (a b : Nat) (dj : Array α), s7 = .int .i64 a ∧ s8 = .int .i64 b ∧ Hid (b = a + 2 * bs) ∧ b ≤ n + 2 * bs ∧ Hid (2 * bs ∣ a) ∧ n - a ≤ kx ∧ dj.size = n ∧ Aside (SWK enc k w blk off dj wr) ∧ Hid (Mix (vw d) (vw dj) 0 n ∧ (∀ p, 2 * bs ∣ p → p + 2 * bs ≤ a → Srtd (ltOf cf) (vw dj) p (p + 2 * bs)) ∧ ∀ p, bs ∣ p → a ≤ p → p < n → Srtd (ltOf cf) (vw dj) p (min (p + bs) n)))
          case atStart => exact ⟨0, 2 * bs, dk, rfl, by rw [show (2 : Int) * (bs : Int) = ((2 * bs : Nat) : Int) by omega], (show 2 * bs = 0 + 2 * bs by omega), by omega, (show 2 * bs ∣ 0 from ⟨0, rfl⟩), Nat.le_refl _, hdk, S1, ⟨HI.out.1, fun p h1 h2 => by omega, fun p h1 h2 h3 => HI.out.2 p h1 h3⟩⟩
          case round =>
            clear S1 HI
            obtain ⟨a, b, dj, rfl, rfl, HBA, hbn, HDA, hkx3, hdj, S1, HI⟩ := hrel
            have hdd : bs ∣ a := by
              obtain ⟨u, hu⟩ := HDA.out
              exact ⟨2 * u, by rw [hu, Nat.mul_comm 2 bs, Nat.mul_assoc]⟩
            have HDD : Hid (bs ∣ a) := hdd
            clear hdd
            by_cases hlt : b ≤ n
            · have hltz : (b : Int) ≤ (n : Int) := by omega
              have han : a ≤ n := by have := HBA.out; omega
              have hc := SM.out a (a + bs) b dj wr hdj S1.out (by omega) (by have := HBA.out; omega) hlt (by
                have h := HI.out.2.2 a HDD.out (Nat.le_refl _) (by have := HBA.out; omega)
                rw [Nat.min_eq_left (by have := HBA.out; omega)] at h
                exact h) (by
                have h := HI.out.2.2 (a + bs) (Nat.dvd_add HDD.out (Nat.dvd_refl _)) (by omega) (by have := HBA.out; omega)
                rw [Nat.min_eq_left (by have := HBA.out; omega), show a + bs + bs = b by have := HBA.out; omega] at h
                exact h)
              rw [show ((a + bs : Nat) : Int) = (a : Int) + (bs : Int) by omega] at hc
              go_wp2_with (go_at_fn 137; refine hc.mono ?_; rintro e w2 ⟨rfl, d2, hd2, hm2, hs2, S2⟩)
              have HQ : Hid (Mix (vw d) (vw d2) 0 n ∧ (∀ p, 2 * bs ∣ p → p + 2 * bs ≤ b → Srtd (ltOf cf) (vw d2) p (p + 2 * bs)) ∧ ∀ p, bs ∣ p → b ≤ p → p < n → Srtd (ltOf cf) (vw d2) p (min (p + bs) n)) := by
                have e := HBA.out
                refine ⟨HI.out.1.trans (hm2.mono (Nat.zero_le _) hlt), ?_, fun p h1 h2 h3 => (HI.out.2.2 p h1 (by omega) h3).cong (fun x h4 h5 => hm2.out (.inr (by omega)))⟩
                rw [e] at hm2 hs2 ⊢
                exact blk_step (by omega) HDA.out HI.out.2.1 hm2 hs2
              have HD2 : Hid (2 * bs ∣ b) := by
                have e := HBA.out
                show 2 * bs ∣ b
                rw [e]
                exact Nat.dvd_add HDA.out (Nat.dvd_refl _)
              go_roundg (n - b)
              case measure => have := HBA.out; omega
              case rel => exact ⟨b, b + 2 * bs, d2, rfl, by rw [show (b : Int) + 2 * (bs : Int) = ((b + 2 * bs : Nat) : Int) by omega], (show Hid _ from rfl), by omega, HD2, Nat.le_refl _, hd2, S2, HQ⟩
            · have hltz : ¬ (b : Int) ≤ (n : Int) := by omega
              have han : a ≤ n := by have := HBA.out; omega
              by_cases hlm : a + bs < n
              · have hlmz : (a : Int) + (bs : Int) < (n : Int) := by omega
                have hc := SM.out a (a + bs) n dj wr hdj S1.out (by omega) hlm (Nat.le_refl _) (by
                  have h := HI.out.2.2 a HDD.out (Nat.le_refl _) (by omega)
                  rw [Nat.min_eq_left (by omega)] at h
                  exact h) (by
                  have h := HI.out.2.2 (a + bs) (Nat.dvd_add HDD.out (Nat.dvd_refl _)) (by omega) hlm
                  rw [Nat.min_eq_right (by have := HBA.out; omega)] at h
                  exact h)
                rw [show ((a + bs : Nat) : Int) = (a : Int) + (bs : Int) by omega] at hc
                go_wp2_with (go_at_fn 137; refine hc.mono ?_; rintro e w2 ⟨rfl, d2, hd2, hm2, hs2, S2⟩)
                have HQ : Hid (Mix (vw d) (vw d2) 0 n ∧ Blk (ltOf cf) (vw d2) (2 * bs) n) := ⟨HI.out.1.trans (hm2.mono (Nat.zero_le _) (Nat.le_refl _)), blk_fin (by omega) HDA.out han (by have := HBA.out; omega) HI.out.2.1 hm2 hs2⟩
                go_roundg (n - 2 * bs)
                case measure => omega
                case rel => exact ⟨2 * bs, d2, by rw [show (bs : Int) * 2 = ((2 * bs : Nat) : Int) by omega], by omega, by omega, Nat.le_refl _, hd2, S2, HQ⟩
              · have hlmz : ¬ (a : Int) + (bs : Int) < (n : Int) := by omega
                have HQ : Hid (Mix (vw d) (vw dj) 0 n ∧ Blk (ltOf cf) (vw dj) (2 * bs) n) := by
                  refine ⟨HI.out.1, blk_fin (by omega) HDA.out han (by have := HBA.out; omega) HI.out.2.1 (Mix.refl _ _ _) ?_⟩
                  by_cases h : a < n
                  · have h2 := HI.out.2.2 a HDD.out (Nat.le_refl _) h
                    rw [Nat.min_eq_right (by omega)] at h2
                    exact h2
                  · exact Srtd.one _ (by omega)
                go_wp2
                go_roundg (n - 2 * bs)
                case measure => omega
                case rel => exact ⟨2 * bs, dj, by rw [show (bs : Int) * 2 = ((2 * bs : Nat) : Int) by omega], by omega, by omega, Nat.le_refl _, hdj, S1, HQ⟩
        · have hltz2 : ¬ (bs : Int) < (n : Int) := by omega
          go_wp2
          go_end0
          refine ⟨rfl, dk, hdk, HI.out.1, ?_, S1.out⟩
          by_cases h : 0 < n
          · have h2 := HI.out.2 0 ⟨0, rfl⟩ h
            rw [Nat.min_eq_right (by omega)] at h2
            exact h2
          · exact Srtd.one _ (by omega)
end Go.Proofs.YtfjehhdahpbbgaaDoor
namespace Go.Proofs.YtfjehhdahpbbgaaDoor
set_option linter.unusedSimpArgs false
set_option linter.unusedVariables false
set_option maxRecDepth 100000
open Go.RowKit
theorem info_pair : (Tryd.prog.info? 92).map (fun i => (i.zero, i.size, i.bytes)) = some (some (.agg #[.int .i64 0, .int .i64 0, .int .i64 0, .string ⟨#[]⟩, .slice none 0 0, .int .i64 0, .int .i64 0, .int .i64 0, .string ⟨#[]⟩, .slice none 0 0]), 10, 128) := by kernel_rfl
theorem owns_keep {w w' : World} {base k n : Nat} {E : TypeId} {v : Value} {xs : List Value} (h : w.ownsRow base E k v n xs) (hk : ∀ x, v.ownBlock = some x → x < w.heap.size → w'.heap[x]? = w.heap[x]?) : w'.ownsRow base E k v n xs := by
  refine ⟨h.1, ?_⟩
  rcases h.2 with h2 | ⟨g, cap, cur, rfl, hbg, hg, r⟩
  · exact .inl h2
  · exact .inr ⟨g, cap, cur, rfl, hbg, by rw [hk g rfl (lt_of_heap hg)]; exact hg, r⟩
theorem owns_slice3 {w : World} {base k n : Nat} {E : TypeId} {v : Value} {xs : List Value} (h : w.ownsRow base E k v n xs) : ∃ a c, v = .slice a n c := by
  rcases h.2 with ⟨rfl, hn⟩ | ⟨g, cap, cur, rfl, _⟩
  · exact ⟨none, 0, by rw [hn]⟩
  · exact ⟨_, _, rfl⟩
structure PPair (w : World) (base : Nat) (G : Nat → Prop) (v : Value) (n : Nat) (ts : List V) (sls : List Value) : Prop where
  row : w.ownsRow base 92 10 v n (flat ts sls)
  len2 : ts.length = 2 * n
  len : sls.length = ts.length
  wfs : ∀ i (h : i < ts.length), ts[i].wf
  kids : ∀ i (h : i < ts.length), RepF w G (sls.getD i undef) ts[i].kids
  inG : ∀ x, G x → x < w.heap.size
theorem PPair.keep {w w' : World} {base n : Nat} {G : Nat → Prop} {v : Value} {ts : List V} {sls : List Value} (h : PPair w base G v n ts sls) (hz : w.heap.size ≤ w'.heap.size) (hk : ∀ x, (G x ∨ v.ownBlock = some x) → x < w.heap.size → w'.heap[x]? = w.heap[x]?) : PPair w' base G v n ts sls :=
  ⟨owns_keep h.row (fun x hx => hk x (.inr hx)), h.len2, h.len, h.wfs, fun i hi => (h.kids i hi).keep hz (fun x hx hs => hk x (.inl hx) hs), fun x hx => Nat.lt_of_lt_of_le (h.inG x hx) hz⟩
theorem RepF.opened {w : World} {G : Nat → Prop} {v : Value} {ts : List V} (h : RepF w G v ts) : ∃ a b off cap, v = .slice a ts.length cap ∧ (ts ≠ [] → a = some ⟨b, off, none⟩ ∧ b < w.heap.size ∧ G b) ∧ ts.length ≤ cap ∧ cap ≤ 9223372036854775807 ∧
    ∃ sls : Nat → Value, ∀ i (h : i < ts.length), Cells5 w b (off + i * 5) ts[i] (sls i) ∧ ts[i].wf ∧ RepF w G (sls i) ts[i].kids := by
  cases h with
  | mk a b off cap ts0 sls ha hc hm hb cells wfs kids => exact ⟨a, b, off, cap, rfl, fun hne => ⟨ha hne, hb hne⟩, hc, hm, sls, fun i hi => ⟨cells i hi, wfs i hi, kids i hi⟩⟩
theorem src_pair (w : World) (t u : V) (a1 a2 : Option Addr) (n1 n2 c1 c2 : Nat) :
    Src Tryd.prog 10 88 (.slice (some ⟨w.heap.size, 0, none⟩) 1 1) 1 (flat [t, u] [.slice a1 n1 c1, .slice a2 n2 c2]) (w.alloc (.cells #[.int .i64 t.k, .int .i64 t.n, .int .i64 t.e, .string t.s, .slice a1 n1 c1, .int .i64 u.k, .int .i64 u.n, .int .i64 u.e, .string u.s, .slice a2 n2 c2] 92)) := by
  refine Src.ofSlice _ Tryd.underlying88 _ _ _ _ (by simp [flat]) ?_ (flat_one [t, u] [.slice a1 n1 c1, .slice a2 n2 c2] ?_)
  · intro j v hv
    rw [addr_add _ _ rfl, Nat.zero_add]
    have hh := heap_alloc_new w (.cells #[.int .i64 t.k, .int .i64 t.n, .int .i64 t.e, .string t.s, .slice a1 n1 c1, .int .i64 u.k, .int .i64 u.n, .int .i64 u.e, .string u.s, .slice a2 n2 c2] 92)
    rw [cell_of_row _ _ _ _ _ (0, 0) hh]
    simpa [flat] using hv
  · intro s hs
    simp only [List.mem_cons, List.not_mem_nil, or_false] at hs
    rcases hs with rfl | rfl
    · exact ⟨_, _, _, rfl⟩
    · exact ⟨_, _, _, rfl⟩
theorem step_pair {w : World} {ops : Array Oper} {o : Oper} {a : Act} {K : Act → World → Prop} {Q : Exit → Act → World → Prop} {X : Prop} (hgd : o.guard = none) (s x : Operand)
    (ho : o.op = .call { callee := .builtin .append, args := #[s, x], argTypes := #[88, 88] })
    (base : Nat) (v : Value) (n : Nat) (xs news : List Value) (hs : a.eval s = v) (hown : w.ownsRow base 92 10 v n xs) (xv : Value) (hx : a.eval x = xv) (hsrc : Src Tryd.prog 10 88 xv 1 news w)
    (h63 : n + 1 ≤ 1099511627776) (hbase : base ≤ w.heap.size)
    (h : ∀ v' w', w'.ownsRow base 92 10 v' (n + 1) (xs ++ news) → w.grownBy w' v.ownBlock → FreshOr w v v' → K (a.put o.dst v') w') : if Region.wanted o (yielded ops a.tmps) = true then Oper.wp Tryd.prog o a w K Q else X := by
  obtain ⟨i0, hi, hz0, hz1, hz2⟩ := info_parts info_pair
  exact step_app hgd s x 88 88 ho base 92 i0 _ 10 128 Tryd.underlying88 hi hz0 hz1 hz2 rfl (by decide) v n xs hs hown xv hx 1 news hsrc h63 hbase (fun v' w' h1 h2 h3 _ => h v' w' h1 h2 h3)
theorem flat_take2 (ts : List V) (L : List Value) (hl : L.length = ts.length) (m : Nat) (hm : m + 1 < ts.length) : flat (ts.take (m + 2)) (L.take (m + 2)) = flat (ts.take m) (L.take m) ++ flat [ts[m], ts[m + 1]] [L[m]'(by omega), L[m + 1]'(by omega)] := by
  have e1 : ts.take (m + 2) = ts.take m ++ [ts[m], ts[m + 1]] := by
    rw [List.take_succ_eq_append_getElem (show m + 1 < ts.length from hm), List.take_succ_eq_append_getElem (by omega : m < ts.length), List.append_assoc]; rfl
  have e2 : L.take (m + 2) = L.take m ++ [L[m]'(by omega), L[m + 1]'(by omega)] := by
    rw [List.take_succ_eq_append_getElem (by omega : m + 1 < L.length), List.take_succ_eq_append_getElem (by omega : m < L.length), List.append_assoc]; rfl
  rw [e1, e2, flat_append _ _ _ _ (by rw [List.length_take, List.length_take, hl])]
def PairsRet (F : Nat → Prop) (w : World) (ts : List V) (e : Ending) (w' : World) : Prop := ∃ v' sls, e = .returned v' ∧ PPair w' w.heap.size (fun x => F x ∧ x < w.heap.size) v' (ts.length / 2) ts sls ∧ Below w.heap.size w w'
set_option maxHeartbeats 4000000 in
theorem pairsOf_any (F : Nat → Prop) (t : V) (sl : Value) (w : World) (h : RepF w F sl t.kids) (hev : t.kids.length % 2 = 0) (hl : t.kids.length ≤ 1048576) :
    Calls Tryd.prog 79 #[t.agg sl] w (PairsRet F w t.kids) := by
  have hB := h.bound
  obtain ⟨a, b, off, cap, rfl, ha, hc, hm, sls, hel⟩ := hB.opened
  have HA := Lib.hid ha; have HE := Lib.hid hel
  clear ha hel h hB
  unfold V.agg
  generalize t.k = k at *
  generalize t.n = n at *
  generalize t.e = ee at *
  generalize t.s = st at *
  generalize t.kids = ts at *
  obtain ⟨L, hL⟩ : ∃ L, L = (List.range ts.length).map sls := ⟨_, rfl⟩
  have hLl : L.length = ts.length := by rw [hL]; simp
  have hLg : ∀ i (h : i < ts.length), L[i]'(by omega) = sls i := by intro i h; subst hL; simp
  have HLG := Lib.hid hLg
  clear hL hLg
  have BX := Lib.hid ((Box.new w k n ee st (.slice a ts.length cap) 29).alloc (.cells #[] 92))
  obtain ⟨W0, hW0⟩ : ∃ W0, W0 = (w.alloc (.cells #[.int .i64 k, .int .i64 n, .int .i64 ee, .string st, .slice a ts.length cap] 29)).alloc (.cells #[] 92) := ⟨_, rfl⟩
  have hz0 : W0.heap.size = w.heap.size + 2 := by rw [hW0]; simp
  have HB0 := Lib.hid (show Below w.heap.size w W0 from by rw [hW0]; exact (by (with_reducible (repeat' (first | exact Below.refl _ _ | refine below_alloc ?_ _ ?_ | refine Below.setCell ?_ ?_ _ | refine Below.drew ?_ | refine below_drewN ?_ _ | refine below_step ?_ (by assumption) ?_ | refine below_mark ?_ (by assumption) ?_))); all_goals (first | omega | (simp; done) | (simp; omega))))
  have hz1 : (w.alloc (.cells #[.int .i64 k, .int .i64 n, .int .i64 ee, .string st, .slice a ts.length cap] 29)).heap.size = w.heap.size + 1 := by simp
  have R0 := Lib.hid (show W0.ownsRow (w.heap.size + 1) 92 10 (.slice (some ⟨w.heap.size + 1, 0, none⟩) 0 0) 0 [] from by
    have := World.ownsRow_lit (w := w.alloc (.cells #[.int .i64 k, .int .i64 n, .int .i64 ee, .string st, .slice a ts.length cap] 29)) (base := w.heap.size + 1) (e := 92) (size := 10) #[] 0 (by omega) (by simp [maxLen]) rfl
    rw [hz1] at this
    rw [hW0]; exact this)
  rw [← hW0] at BX
  go_enter Tryd.func79, Tryd.ntmps79
  go_wp2_with fail
  rw [← hW0]
  clear hW0 hz1
  go_loopw [3, 4] (fun o ii wr => ∃ j m : Nat, m = 2 * j ∧ ii = .int .i64 m ∧ m ≤ ts.length ∧ wr.ownsRow (w.heap.size + 1) 92 10 o j (flat (ts.take m) (L.take m)) ∧ Below (w.heap.size + 1) W0 wr) (fun _ ii _ => ts.length + 2 - (intOf ii).toNat)
  case atStart => exact ⟨0, 0, rfl, rfl, by omega, by rw [List.take_zero, List.take_zero]; exact R0.out, Below.refl _ _⟩
  case round =>
    obtain ⟨j, m, hmj, rfl, hmt, hrow, hbl⟩ := hrel
    have hzr := hbl.size
    have HB := Lib.hid (HB0.out.trans (hbl.mono (by omega)))
    have HROW := Lib.hid hrow
    have HBL := Lib.hid hbl
    obtain ⟨d0, d1, d2, d3, d4⟩ := (show Box wr w.heap.size k n ee st (.slice a ts.length cap) 29 from (hbl.block w.heap.size (by omega)).trans BX.out).cells
    have HMJ := Lib.hid hmj
    clear hrow hbl d0 d1 d2 d3 hmj
    by_cases hlt : m + 1 < ts.length
    · have hne : ts ≠ [] := by intro e; rw [e] at hlt; simp at hlt
      obtain ⟨rfl, hbw, -⟩ := HA.out hne
      obtain ⟨c0, c1, c2, c3, c4⟩ := (HE.out m (by omega)).1.keep (HB.out.block b hbw)
      obtain ⟨e0, e1, e2, e3, e4⟩ := (HE.out (m + 1) hlt).1.keep (HB.out.block b hbw)
      have HT := Lib.hid (flat_take2 ts L hLl m hlt)
      rw [HLG.out m (by omega), HLG.out (m + 1) hlt] at HT
      obtain ⟨sa, sc, hs1⟩ := (HE.out m (by omega)).2.2.slice
      obtain ⟨sa2, sc2, hs2⟩ := (HE.out (m + 1) hlt).2.2.slice
      rw [hs1] at c4 HT
      rw [hs2] at e4 HT
      clear hs1 hs2
      obtain ⟨t1, ht1⟩ : ∃ t1, t1 = ts[m] := ⟨_, rfl⟩
      obtain ⟨t2, ht2⟩ : ∃ t2, t2 = ts[m + 1] := ⟨_, rfl⟩
      rw [← ht1] at c0 c1 c2 c3 c4 HT
      rw [← ht2] at e0 e1 e2 e3 e4 HT
      clear ht1 ht2
      obtain ⟨oa, oc, rfl⟩ := owns_slice3 HROW.out
      have S1 := Lib.hid (src_pair wr.drew t1 t2 sa sa2 t1.kids.length t2.kids.length sc sc2)
      have hdr : wr.drew.heap.size = wr.heap.size := rfl
      have R1 := Lib.hid (owns_keep HROW.out (w' := wr.drew.alloc (.cells #[.int .i64 t1.k, .int .i64 t1.n, .int .i64 t1.e, .string t1.s, .slice sa t1.kids.length sc, .int .i64 t2.k, .int .i64 t2.n, .int .i64 t2.e, .string t2.s, .slice sa2 t2.kids.length sc2] 92)) (fun x _ hs => Below.heap_alloc wr.drew _ _ hs))
      have hlt' : (m : Int) + 1 < (ts.length : Int) := by omega
      have hlt0 : m < ts.length := by omega
      have hj1 : j ≤ 1048576 := by have := HMJ.out; omega
      have hw1 : IntKind.i64.wrap ((m : Int) + 1) = (m : Int) + 1 := by rw [IntKind.wrap_i64]; omega
      have hp1 : (0 : Int) ≤ (m : Int) + 1 := by omega
      have ht1 : ((m : Int) + 1).toNat = m + 1 := by omega
      have hzq : w.heap.size + 1 ≤ wr.drew.heap.size := by have h0 := HBL.out.size; rw [hdr]; omega
      go_wp2_with fail
      go_region_law (refine step_pair rfl _ _ rfl (w.heap.size + 1) _ j _ _ rfl R1.out _ rfl S1.out (by omega) (by simp; omega) ?_; intro v2 w2 hrow2 hg2 hfr2; obtain ⟨va, vc, rfl⟩ := owns_slice3 hrow2; have HG2 := Lib.hid hg2; have HR2 := Lib.hid hrow2; clear hrow2 hg2 hfr2)
      all_goals
        go_wp2_with fail
        go_roundw
        case rel => exact ⟨j + 1, m + 2, by have := HMJ.out; omega, by go_num, by omega, by rw [HT.out]; exact HR2.out, Below.grown (HBL.out.trans ((Below.refl _ _).drew.alloc hzq _)) HG2.out (by rw [show (wr.drew.alloc _).heap.size = wr.heap.size + 1 by simp]; omega) (fun x hx => (World.ownsRow.lt HROW.out x hx).1)⟩
        case measure => simp [intOf]; omega
    · have hlt' : ¬ (m : Int) + 1 < (ts.length : Int) := by omega
      have hme : m = ts.length := by have := HMJ.out; omega
      obtain ⟨oa, oc, rfl⟩ := owns_slice3 HROW.out
      have HP := Lib.hid (show PairsRet F w ts (.returned (.slice oa j oc)) wr from by
        have hr := HROW.out
        rw [hme, List.take_length, ← hLl, List.take_length] at hr
        have hmj := HMJ.out
        refine ⟨_, L, rfl, ⟨?_, by omega, hLl, fun i hi => (HE.out i hi).2.1, fun i hi => ?_, fun x hx => Nat.lt_of_lt_of_le hx.2 HB.out.size⟩, HB.out⟩
        · rw [show ts.length / 2 = j by omega]
          refine ⟨hr.1, ?_⟩
          rcases hr.2 with h2 | ⟨g, cap, cur, hv, hbg, r⟩
          · exact .inl h2
          · exact .inr ⟨g, cap, cur, hv, by omega, r⟩
        · have e := HLG.out i hi
          rw [List.getD_eq_getElem?_getD, List.getElem?_eq_getElem (by have := hLl; omega), Option.getD_some, e]
          exact (HE.out i hi).2.2.stay HB.out)
      go_wp2_with fail
      go_ret
      exact HP.out
end Go.Proofs.YtfjehhdahpbbgaaDoor
namespace Go.Proofs.YtfjehhdahpbbgaaDoor
set_option linter.unusedSimpArgs false
set_option linter.unusedVariables false
set_option maxRecDepth 100000
open Go.RowKit
theorem sq_try : SQ Tryd.prog 10 where
  mixed := by kernel_rfl
  fs := Tryd.func156
  fr := Tryd.func148
  fm := Tryd.func137
  fi := Tryd.func136
  ft := Tryd.func115
  t0 := Tryd.underlying0
  a0 := Tryd.isAgg0
  z0 := Tryd.sizeOf0
  v0 := Tryd.zeroValue0
  t3 := Tryd.underlying3
  a3 := Tryd.isAgg3
  z3 := Tryd.sizeOf3
  v3 := Tryd.zeroValue3
  t4 := Tryd.underlying4
  a4 := Tryd.isAgg4
  z4 := Tryd.sizeOf4
  v4 := Tryd.zeroValue4
  t9 := Tryd.underlying79
  a9 := Tryd.isAgg79
  z9 := Tryd.sizeOf79
  v9 := Tryd.zeroValue79
  t7 := Tryd.underlying88
  a7 := Tryd.isAgg88
  z7 := Tryd.sizeOf88
  v7 := Tryd.zeroValue88
  tf := Tryd.underlying93
  af := Tryd.isAgg93
  zf := Tryd.sizeOf93
  vf := Tryd.zeroValue93
  aE := Tryd.isAgg92
  zE := Tryd.sizeOf92
structure PE where
  key : V
  val : V
  ka : Option Addr
  kc : Nat
  va : Option Addr
  vn : Nat
  vc : Nat
instance : Inhabited PE := ⟨⟨V0, V0, none, 0, none, 0, 0⟩⟩
def PE.enc (x : PE) : List Value := [.int .i64 x.key.k, .int .i64 x.key.n, .int .i64 x.key.e, .string x.key.s, .slice x.ka 0 x.kc, .int .i64 x.val.k, .int .i64 x.val.n, .int .i64 x.val.e, .string x.val.s, .slice x.va x.vn x.vc]
def cfE (x y : PE) : Int := fullC x.key y.key
theorem fnz_eq (a : Int) (l : List Int) : fnz (a :: l) = if a ≠ 0 then a else fnz l := by
  rw [fnz]; by_cases h : a = 0 <;> simp [h]
theorem fullC_cmp : Cmp fullC := by
  have h := Cmp.both cmpI_cmp (Cmp.both cmpI_cmp (Cmp.both cmpI_cmp cmpT_cmp (fun x : V => x.e) (fun x => x.s)) (fun x : V => x.n) id) (fun x : V => x.k) id
  have e : fullC = fun x y : V => if cmpI x.k y.k ≠ 0 then cmpI x.k y.k else if cmpI x.n y.n ≠ 0 then cmpI x.n y.n else if cmpI x.e y.e ≠ 0 then cmpI x.e y.e else cmpT x.s y.s := by
    funext x y
    unfold fullC
    rw [fnz_eq, fnz_eq, fnz_eq, fnz_eq, fnz_eq]
    have : cmpI 0 0 = 0 := cmpI_zero.2 rfl
    rw [this]
    simp only [ne_eq, not_true_eq_false, if_false, fnz]
    by_cases h : cmpT x.s y.s = 0
    · simp [h]
    · simp [h]
  rw [e]
  exact h
theorem full_key {x y : V} (h : x.e = y.e) : fullC x y = cmpK x y := by
  unfold fullC cmpK
  rw [fnz_eq, fnz_eq, fnz_eq, fnz_eq, fnz_eq, cmpI_zero.2 h]
  have : cmpI 0 0 = 0 := cmpI_zero.2 rfl
  rw [this]
  simp only [ne_eq, not_true_eq_false, if_false, fnz]
  by_cases h : cmpT x.s y.s = 0
  · simp [h]
  · simp [h]
theorem cfE_ord : Ordr (ltOf cfE) := by
  refine ⟨fun a b h => ?_, fun a b c h1 h2 => ?_⟩
  · have := fullC_cmp.anti a.key b.key
    have h1 : fullC a.key b.key < 0 := of_decide_eq_true h
    show decide (fullC b.key a.key < 0) = false
    exact decide_eq_false (by omega)
  · have h1 : ¬ fullC b.key a.key < 0 := of_decide_eq_false h1
    have h2 : ¬ fullC c.key b.key < 0 := of_decide_eq_false h2
    show decide (fullC c.key a.key < 0) = false
    refine decide_eq_false ?_
    have a1 := fullC_cmp.anti a.key b.key; have a2 := fullC_cmp.anti b.key c.key; have a3 := fullC_cmp.anti a.key c.key
    have := fullC_cmp.tr a.key b.key c.key
    omega
theorem grow2 (w : World) (o1 o2 : Obj) (q : Nat) (os : Array Obj) : Go.Sort.grow (((w.alloc o1).alloc o2).drewN q) os = Go.Sort.grow (w.drewN q) ((#[o1] ++ #[o2]) ++ os) := by
  rw [Go.Sort.alloc_eq_grow, Go.Sort.alloc_eq_grow, Go.Sort.grow_grow]
  exact Go.Sort.grow_grow (w.drewN q) _ os
set_option maxHeartbeats 4000000 in
theorem sd1_any (x y : PE) (w : World) : Calls Tryd.prog 81 #[.agg x.enc.toArray, .agg y.enc.toArray] w fun e w' => e = .returned (.int .i64 (cfE x y)) ∧ ∃ q os, w' = Go.Sort.grow (w.drewN q) os := by
  obtain ⟨x, xv, xa, xc, x1, x2, x3⟩ := x
  obtain ⟨y, yv, ya, yc, y1, y2, y3⟩ := y
  unfold PE.enc cfE
  dsimp only
  have CK := Lib.hid (fun W => compare_key x y xa ya xc yc W)
  obtain ⟨F, hF⟩ : ∃ F, F = fullC x y := ⟨_, rfl⟩
  rw [← hF] at CK ⊢
  clear hF
  generalize x.k = xk at *
  generalize x.n = xn at *
  generalize x.e = xe at *
  generalize x.s = xs at *
  generalize y.k = yk at *
  generalize y.n = yn at *
  generalize y.e = ye at *
  generalize y.s = ys at *
  go_enter Tryd.func81, Tryd.ntmps81
  go_wp2_with fail
  refine (CK.out _).mono ?_
  rintro e w1 ⟨rfl, q, os, rfl⟩
  go_wp2_with fail
  go_ret
  exact ⟨rfl, q, _, grow2 w _ _ q os⟩
theorem lays_any (blk off size : Nat) (w : World) : CmpLays Tryd.prog 81 #[] PE.enc 10 cfE blk off size w := fun m os dk _ x y => sd1_any x y _
theorem sd1_enters : ∀ args w, (callFunc 81 args).run Tryd.prog w = .ok (.enter 81 args) w := enters_of Tryd.func81 (by kernel_rfl) rfl
def SortedRow (w : World) (blk off : Nat) (d : Array PE) (e : Ending) (w' : World) : Prop := e = .returned (.tuple #[]) ∧ ∃ d' : Array PE, d'.size = d.size ∧ Mix (vw d) (vw d') 0 d.size ∧ Srtd (ltOf cfE) (vw d') 0 d.size ∧ SWK PE.enc 10 w blk off d' w'
set_option maxHeartbeats 4000000 in
theorem sortFunc_any (blk off cap : Nat) (d : Array PE) (w : World) (R : RowK PE.enc 10 w blk off d) (hsz : d.size < 1152921504606846976) :
    Calls Tryd.prog 80 #[.slice (some ⟨blk, off, none⟩) d.size cap, .func (.func 81) #[] #[]] w (SortedRow w blk off d) := by
  have ST := Lib.hid (stable_any sq_try PE.enc cfE cfE_ord 81 #[] blk off cap d w sd1_enters (lays_any blk off d.size w) R hsz)
  clear R
  have HP := Lib.hid (show ∀ d' W', d'.size = d.size → Mix (vw d) (vw d') 0 d.size → Srtd (ltOf cfE) (vw d') 0 d.size → SWK PE.enc 10 w blk off d' W' → SortedRow w blk off d (.returned (.tuple #[])) W' from fun d' W' h1 h2 h3 h4 => ⟨rfl, d', h1, h2, h3, h4⟩)
  generalize d.size = n at *
  go_enter Tryd.func80, Tryd.ntmps80
  go_wp2_with fail
  refine ST.out.mono ?_
  rintro e w1 ⟨rfl, d', h1, h2, h3, h4⟩
  go_wp2_with fail
  go_end0
  exact HP.out d' _ h1 h2 h3 h4
theorem ins_nil (a : Option Addr) (c : Nat) (f : Value) (w : World) : Calls Tryd.prog 136 #[.slice a 0 c, .int .i64 0, .int .i64 0, f] w fun e w' => e = .returned (.tuple #[]) ∧ w' = w := by
  go_enter Tryd.func136, Tryd.ntmps136
  go_wp2_with fail
  go_loop [8] (fun i => i = .int .i64 1) (fun i => 0)
  case atStart => rfl
  case round =>
    obtain rfl := hrel
    go_wp2_with fail
    go_end0
    exact ⟨rfl, rfl⟩
theorem stable_nil (a : Option Addr) (c : Nat) (f : Value) (w : World) : Calls Tryd.prog 115 #[.slice a 0 c, .int .i64 0, f] w fun e w' => e = .returned (.tuple #[]) ∧ w' = w := by
  go_enter Tryd.func115, Tryd.ntmps115
  go_wp2_with fail
  go_loop [7, 8] (fun a b => a = .int .i64 0 ∧ b = .int .i64 20) (fun a b => 0)
  case atStart => exact ⟨rfl, rfl⟩
  case round =>
    obtain ⟨rfl, rfl⟩ := hrel
    go_wp2_with fail
    refine (ins_nil _ _ _ _).mono ?_
    rintro e w1 ⟨rfl, rfl⟩
    go_wp2_with fail
    go_loop [6] (fun i => i = .int .i64 20) (fun i => 0)
    case atStart => rfl
    case round =>
      obtain rfl := hrel
      go_wp2_with fail
      go_end0
      exact ⟨rfl, rfl⟩
theorem sortFunc_nil (a : Option Addr) (c : Nat) (f : Value) (w : World) : Calls Tryd.prog 80 #[.slice a 0 c, f] w fun e w' => e = .returned (.tuple #[]) ∧ w' = w := by
  go_enter Tryd.func80, Tryd.ntmps80
  go_wp2_with fail
  refine (stable_nil _ _ _ _).mono ?_
  rintro e w1 ⟨rfl, rfl⟩
  go_wp2_with fail
  go_end0
  exact ⟨rfl, rfl⟩
end Go.Proofs.YtfjehhdahpbbgaaDoor
namespace Go.Proofs.YtfjehhdahpbbgaaDoor
set_option linter.unusedSimpArgs false
set_option linter.unusedVariables false
set_option maxRecDepth 100000
open Go.RowKit
def PE.vv (x : PE) : V × V := (x.key, x.val)
def Tens (w : World) (b i : Nat) (x : PE) : Prop :=
  w.cell? ⟨b, i * 10, none⟩ = some (.int .i64 x.key.k) ∧ w.cell? ⟨b, i * 10 + 1, none⟩ = some (.int .i64 x.key.n) ∧ w.cell? ⟨b, i * 10 + 2, none⟩ = some (.int .i64 x.key.e) ∧ w.cell? ⟨b, i * 10 + 3, none⟩ = some (.string x.key.s) ∧ w.cell? ⟨b, i * 10 + 4, none⟩ = some (.slice x.ka 0 x.kc) ∧
  w.cell? ⟨b, i * 10 + 5, none⟩ = some (.int .i64 x.val.k) ∧ w.cell? ⟨b, i * 10 + 6, none⟩ = some (.int .i64 x.val.n) ∧ w.cell? ⟨b, i * 10 + 7, none⟩ = some (.int .i64 x.val.e) ∧ w.cell? ⟨b, i * 10 + 8, none⟩ = some (.string x.val.s) ∧ w.cell? ⟨b, i * 10 + 9, none⟩ = some (.slice x.va x.vn x.vc)
structure POk (w : World) (G : Nat → Prop) (x : PE) : Prop where
  kwf : x.key.wf
  vwf : x.val.wf
  kk : RepF w G (.slice x.ka 0 x.kc) x.key.kids
  vk : RepF w G (.slice x.va x.vn x.vc) x.val.kids
structure PRd (w : World) (G : Nat → Prop) (v : Value) (l : List PE) : Prop where
  row : ∃ a b cap, v = .slice a l.length cap ∧ (l ≠ [] → a = some ⟨b, 0, none⟩ ∧ b < w.heap.size) ∧ ∀ i (h : i < l.length), Tens w b i l[i]
  oks : ∀ x ∈ l, POk w G x
theorem exists_arr {α : Type} [Inhabited α] (Q : Nat → α → Prop) : ∀ n : Nat, (∀ i, i < n → ∃ x, Q i x) → ∃ d : Array α, d.size = n ∧ ∀ i, i < n → Q i d[i]!
  | 0, _ => ⟨#[], rfl, fun i h => by omega⟩
  | n + 1, h => by
    obtain ⟨d, hd, hq⟩ := exists_arr Q n (fun i hi => h i (by omega))
    obtain ⟨x, hx⟩ := h n (by omega)
    refine ⟨d.push x, by simp [hd], fun i hi => ?_⟩
    by_cases e : i = n
    · subst e
      have : (d.push x)[i]! = x := by
        rw [getElem!_pos _ _ (by simp; omega)]
        simp [Array.getElem_push, hd]
      rw [this]; exact hx
    · have : (d.push x)[i]! = d[i]! := by
        rw [getElem!_pos _ _ (by simp; omega), getElem!_pos _ _ (by omega), Array.getElem_push, dif_pos (by omega)]
      rw [this]; exact hq i (by omega)
theorem swk_grown {enc : PE → List Value} {k blk off : Nat} {d : Array PE} {w W : World} (h : SWK enc k w blk off d W) : w.grownBy W (some blk) := by
  obtain ⟨n, os, rfl⟩ := h
  unfold sortWorldK Go.Sort.putRowK
  refine ⟨rfl, rfl, rfl, by simp, fun k hk hne => ?_⟩
  rw [Go.Sort.heap_grow_old _ _ (by simpa using hk)]
  have : blk ≠ k := fun e => hne (by rw [e])
  simp [Go.Sort.putRow, Go.Sort.mapBlock, Go.Sort.ahead, Array.getElem?_modify, this]
theorem tens_of {w : World} {b : Nat} {d : Array PE} (h : Go.Sort.HoldsK PE.enc 10 w b 0 d) (i : Nat) (hi : i < d.size) : Tens w b i d[i]! := by
  have hc : ∀ c, c < 10 → w.cell? ⟨b, i * 10 + c, none⟩ = some (d[i]!.enc[c]!) := fun c hc => by
    have := (h.cell hi hc).1
    rwa [Nat.zero_add] at this
  exact ⟨hc 0 (by omega), hc 1 (by omega), hc 2 (by omega), hc 3 (by omega), hc 4 (by omega), hc 5 (by omega), hc 6 (by omega), hc 7 (by omega), hc 8 (by omega), hc 9 (by omega)⟩
theorem of_tens {w : World} {b : Nat} {d : Array PE} (h : ∀ i, i < d.size → Tens w b i d[i]!) (cur : Array Value) (E : TypeId) (hb : w.heap[b]? = some (.cells cur E (0, 0))) : Go.Sort.HoldsK PE.enc 10 w b 0 d := by
  intro t ht
  rw [Go.Sort.size_flatK] at ht
  rw [Go.Sort.get_flatK _ _ _ _ ht, Nat.zero_add]
  refine ⟨?_, by simp [World.frozen?, hb]⟩
  obtain ⟨h0, h1, h2, h3, h4, h5, h6, h7, h8, h9⟩ := h (t / 10) (by omega)
  have hr : t % 10 < 10 := Nat.mod_lt _ (by decide)
  have e : t = t / 10 * 10 + t % 10 := by omega
  generalize t / 10 = q at *
  generalize t % 10 = r at *
  subst e
  match r, hr with
  | 0, _ => exact h0
  | 1, _ => exact h1
  | 2, _ => exact h2
  | 3, _ => exact h3
  | 4, _ => exact h4
  | 5, _ => exact h5
  | 6, _ => exact h6
  | 7, _ => exact h7
  | 8, _ => exact h8
  | 9, _ => exact h9
theorem prs_at : ∀ (ts : List V) (i : Nat) (h : 2 * i + 1 < ts.length), (prs ts).getD i PZ = (ts[2 * i], ts[2 * i + 1])
  | [], i, h => by simp at h
  | [_], i, h => by simp at h
  | a :: b :: r, 0, h => by rw [prs]; rfl
  | a :: b :: r, i + 1, h => by
    rw [prs]
    have := prs_at r i (by simp at h; omega)
    show (prs r).getD i PZ = _
    rw [this]
    have e : 2 * (i + 1) = 2 * i + 2 := by omega
    simp only [e]
    rfl
def PSorted (w : World) (base : Nat) (G : Nat → Prop) (v : Value) (ts : List V) (e : Ending) (w' : World) : Prop := e = .returned (.tuple #[]) ∧ ∃ l : List PE, PRd w' G v l ∧ l.map PE.vv = srtP (prs ts) ∧ Below base w w'
theorem sort_pairs {w : World} {base n : Nat} {G : Nat → Prop} {v : Value} {ts : List V} {sls : List Value} (h : PPair w base G v n ts sls) (hn : n ≤ 1048576) (hbase : base ≤ w.heap.size) (hk : ∀ i (h : 2 * i + 1 < ts.length), ts[2 * i].kids = [] ∧ ts[2 * i].e = 0)
    (hG : ∀ x, v.ownBlock = some x → ¬ G x) (hd : (prs ts).Pairwise (fun a b => cmpK a.1 b.1 ≠ 0)) :
    Calls Tryd.prog 80 #[v, .func (.func 81) #[] #[]] w (PSorted w base G v ts) := by
  have hl2 := h.len2
  rcases Nat.eq_zero_or_pos n with rfl | hn0
  · obtain ⟨a, c, rfl⟩ := owns_slice3 h.row
    obtain rfl : ts = [] := List.eq_nil_of_length_eq_zero (by omega)
    refine (sortFunc_nil a c _ w).mono ?_
    rintro e w1 ⟨rfl, rfl⟩
    exact ⟨rfl, [], ⟨⟨a, 0, c, rfl, by simp, by simp⟩, by simp⟩, rfl, Below.refl _ _⟩
  · have hpl : (prs ts).length = n := by have := prs_len ts (by omega); omega
    rcases h.row.2 with ⟨rfl, h0⟩ | ⟨g, cap, cur, rfl, hbg, hg, -, -, -, -⟩
    · omega
    have hcell : ∀ j u, (flat ts sls)[j]? = some u → w.cell? ⟨g, j, none⟩ = some u := by
      intro j u hu
      have := h.row.cells (g := g) rfl j u hu
      rwa [addr_add _ _ rfl, Nat.zero_add] at this
    obtain ⟨d, hds, hq⟩ := exists_arr (fun i (x : PE) => ∀ (h1 : 2 * i + 1 < ts.length), x.key = ts[2 * i] ∧ x.val = ts[2 * i + 1] ∧ Tens w g i x ∧ POk w G x) n (fun i hi => by
      have h1 : 2 * i + 1 < ts.length := by omega
      have l1 : 2 * i < sls.length := by rw [h.len]; omega
      have l2 : 2 * i + 1 < sls.length := by rw [h.len]; omega
      have k1 := h.kids (2 * i) (by omega)
      have k2 := h.kids (2 * i + 1) h1
      rw [List.getD_eq_getElem?_getD, List.getElem?_eq_getElem l1, Option.getD_some] at k1
      rw [List.getD_eq_getElem?_getD, List.getElem?_eq_getElem l2, Option.getD_some] at k2
      obtain ⟨a1, c1, e1⟩ := k1.slice
      obtain ⟨a2, c2, e2⟩ := k2.slice
      obtain ⟨f0, f1, f2, f3, f4⟩ := flat_get ts sls (2 * i) (by omega) l1
      obtain ⟨g0, g1, g2, g3, g4⟩ := flat_get ts sls (2 * i + 1) h1 l2
      have hz : ts[2 * i].kids.length = 0 := by rw [(hk i h1).1]; rfl
      rw [e1] at f4 k1
      rw [e2] at g4 k2
      rw [hz] at f4 k1
      rw [show 2 * i * 5 = i * 10 by omega] at f0 f1 f2 f3 f4
      rw [show (2 * i + 1) * 5 = i * 10 + 5 by omega] at g0 g1 g2 g3 g4
      exact ⟨⟨ts[2 * i], ts[2 * i + 1], a1, c1, a2, ts[2 * i + 1].kids.length, c2⟩, fun _ => ⟨rfl, rfl, ⟨hcell _ _ f0, hcell _ _ f1, hcell _ _ f2, hcell _ _ f3, hcell _ _ f4, hcell _ _ g0, hcell _ _ g1, hcell _ _ g2, hcell _ _ g3, hcell _ _ g4⟩, h.wfs _ _, h.wfs _ _, k1, k2⟩⟩)
    have hH : Go.Sort.HoldsK PE.enc 10 w g 0 d := of_tens (fun i hi => (hq i (by omega) (by omega)).2.2.1) cur _ hg
    have R : RowK PE.enc 10 w g 0 d := ⟨fun _ => rfl, fun x u hu => by
      simp only [PE.enc, List.mem_cons, List.not_mem_nil, or_false] at hu
      rcases hu with rfl | rfl | rfl | rfl | rfl | rfl | rfl | rfl | rfl | rfl <;> rfl, hH, lt_of_heap hg⟩
    have hs := sortFunc_any g 0 cap d w R (by omega)
    rw [hds] at hs
    refine hs.mono ?_
    rintro e w1 ⟨rfl, d', hds', hm, hso, hsw⟩
    have hgr := swk_grown hsw
    have hH' := hsw.holds R.hblk R.hH hds'
    have hold : ∀ x, x < w.heap.size → x ≠ g → w1.heap[x]? = w.heap[x]? := fun x h1 h2 => hgr.block x h1 (fun e => h2 (Option.some.inj e))
    obtain ⟨σ, τ, e1, e2, e3, e4⟩ := hm
    have hin : ∀ x, x < n → σ x < n := by
      intro x hx
      rcases Nat.lt_or_ge (σ x) n with h | h
      · exact h
      · have h5 := e3 (σ x) (by omega)
        have h6 : σ x = x := by rw [← e2 (σ x), h5, e2]
        omega
    have hgd : ∀ y, (prs ts).getD y PZ = (d[y]!).vv := by
      intro y
      rcases Nat.lt_or_ge y n with hy | hy
      · rw [prs_at ts y (by omega)]
        obtain ⟨q1, q2, -, -⟩ := hq y hy (by omega)
        unfold PE.vv
        rw [q1, q2]
      · rw [List.getD_eq_getElem?_getD, List.getElem?_eq_none (by omega), getElem!_neg _ _ (by omega)]
        rfl
    have e4' : ∀ x, d'[x]! = d[σ x]! := e4
    refine ⟨rfl, (List.range n).map (vw d'), ⟨⟨some ⟨g, 0, none⟩, g, cap, by simp, fun _ => ⟨rfl, hsw.lt R.hblk⟩, fun i hi => ?_⟩, fun x hx => ?_⟩, ?_, (Below.refl _ _).grown hgr hbase (fun k hk => by cases hk; exact hbg)⟩
    · simp only [List.length_map, List.length_range] at hi
      simp only [List.getElem_map, List.getElem_range]
      exact tens_of hH' i (by omega)
    · obtain ⟨i, hi, rfl⟩ := List.mem_map.1 hx
      rw [List.mem_range] at hi
      obtain ⟨q1, q2, -, q4⟩ := hq (σ i) (hin i hi) (by have := hin i hi; omega)
      show POk w1 G d'[i]!
      rw [e4']
      have hgG : ¬ G g := hG g rfl
      have kp : ∀ x, G x → x < w.heap.size → w1.heap[x]? = w.heap[x]? := fun x h1 h2 => hold x h2 (fun e => hgG (e ▸ h1))
      exact ⟨q4.kwf, q4.vwf, q4.kk.keep hgr.size kp, q4.vk.keep hgr.size kp⟩
    · rw [List.map_map]
      have := srt_uni (l := prs ts) (g := fun i => (d'[i]!).vv) hd ⟨σ, τ, e1, e2, by rw [hpl, ← hds]; exact e3, fun x => by show (d'[x]!).vv = (prs ts).getD (σ x) PZ; rw [hgd, e4']⟩ (by
        rw [hpl]
        intro x y h1 h2 h3
        have h4 := hso x y h1 h2 (by omega)
        have h5 : ¬ fullC (d'[y]!).key (d'[x]!).key < 0 := of_decide_eq_false h4
        rw [ltK_false]
        show ¬ cmpK (d'[y]!).key (d'[x]!).key < 0
        rw [← full_key]
        · exact h5
        · have ny := hin y h3
          have nx := hin x (by omega)
          rw [e4', e4', (hq (σ y) ny (by omega)).1, (hq (σ x) nx (by omega)).1, (hk _ (by omega)).2, (hk _ (by omega)).2])
      rw [hpl] at this
      exact this
end Go.Proofs.YtfjehhdahpbbgaaDoor
namespace Go.Proofs.YtfjehhdahpbbgaaDoor
set_option linter.unusedSimpArgs false
set_option linter.unusedVariables false
set_option maxRecDepth 100000
open Go.RowKit Go.Lib
def z5 : Array Value := #[.int .i64 0, .int .i64 0, .int .i64 0, .string ⟨#[]⟩, .slice none 0 0]
end Go.Proofs.YtfjehhdahpbbgaaDoor
namespace Go.Proofs.YtfjehhdahpbbgaaDoor
set_option linter.unusedSimpArgs false
set_option linter.unusedVariables false
set_option maxRecDepth 100000
open Go.RowKit
theorem PRow.base {w : World} {base base' : Nat} {G : Nat → Prop} {v : Value} {ts : List V} (h : PRow w base G v ts) (hb : base' ≤ base) : PRow w base' G v ts := by
  obtain ⟨sls, h⟩ := h
  refine ⟨sls, ⟨⟨h.row.1, ?_⟩, h.len, h.wfs, h.kids, h.own, h.inG⟩⟩
  rcases h.row.2 with h2 | ⟨g, cap, cur, rfl, hbg, r⟩
  · exact .inl h2
  · exact .inr ⟨g, cap, cur, rfl, by omega, r⟩
theorem PRow.elem {w : World} {base : Nat} {G : Nat → Prop} {g n cap : Nat} {ts : List V} (h : PRow w base G (.slice (some ⟨g, 0, none⟩) n cap) ts) (j : Nat) (hj : j < ts.length) : ∃ a c, Cells5 w g (j * 5) ts[j] (.slice a ts[j].kids.length c) ∧ ts[j].wf ∧ RepF w G (.slice a ts[j].kids.length c) ts[j].kids := by
  obtain ⟨sls, h⟩ := h
  have hcell : ∀ i u, (flat ts sls)[i]? = some u → w.cell? ⟨g, i, none⟩ = some u := by
    intro i u hu
    have := h.row.cells (g := g) rfl i u hu
    rwa [addr_add _ _ rfl, Nat.zero_add] at this
  have hj2 : j < sls.length := by rw [h.len]; exact hj
  have hk := h.kids j hj
  rw [List.getD_eq_getElem?_getD, List.getElem?_eq_getElem hj2, Option.getD_some] at hk
  obtain ⟨a, c, e⟩ := hk.slice
  obtain ⟨h0, h1, h2, h3, h4⟩ := flat_get ts sls j hj hj2
  rw [e] at h4 hk
  exact ⟨a, c, ⟨hcell _ _ h0, hcell _ _ h1, hcell _ _ h2, hcell _ _ h3, hcell _ _ h4⟩, h.wfs j hj, hk⟩
structure MO (A : Nat → Prop) (w3 W : World) (b : Nat) (gp : Option Nat) (us : List V) (o : Value) (G : Nat → Prop) : Prop where
  bel : Below b w3 W
  pk : ∀ g, gp = some g → g < w3.heap.size ∧ g ≠ b ∧ o.ownBlock ≠ some g ∧ W.heap[g]? = w3.heap[g]?
  box : Box W b 8 0 0 ⟨#[]⟩ o 29
  rows : PRow W (b + 1) G o us
  gl : ∀ x, G x → A x
theorem MO.over {A : Nat → Prop} {w3 W W' : World} {b : Nat} {gp : Option Nat} {us : List V} {o : Value} {G : Nat → Prop} (h : MO A w3 W b gp us o G) (hb : Below W.heap.size W W') : MO A w3 W' b gp us o G :=
  ⟨h.bel.trans (hb.mono (Nat.le_of_lt h.box.lt)), fun g hg => by obtain ⟨h1, h2, h3, h4⟩ := h.pk g hg; exact ⟨h1, h2, h3, (hb.block g (Nat.lt_of_lt_of_le h1 h.bel.size)).trans h4⟩, (hb.block b h.box.lt).trans h.box, h.rows.stay hb, h.gl⟩
theorem MO.put {A : Nat → Prop} {w3 W W1 W2 : World} {b : Nat} {gp : Option Nat} {us us2 : List V} {o v2 : Value} {G G2 : Nat → Prop} (h : MO A w3 W b gp us o G) (hW : Below W.heap.size W W1) (hg : W1.grownBy W2 o.ownBlock) (hf : ∀ g, gp = some g → g < W1.heap.size → o.ownBlock ≠ some g → v2.ownBlock ≠ some g) (hr : PRow W2 (b + 1) G2 v2 us2) (hG : ∀ x, G2 x → A x) (hb : ¬ A b) :
    MO A w3 (W2.setCell ⟨b, 4, none⟩ v2) b gp us2 v2 G2 := by
  have hl := h.box.lt
  have z1 := hW.size
  have z2 := hg.size
  have z3 := h.bel.size
  have hn : ∀ x, x < W.heap.size → o.ownBlock ≠ some x → W2.heap[x]? = W.heap[x]? := fun x hx hxo => (hg.block x (by omega) (fun e => hxo e.symm)).trans (hW.block x hx)
  have hob : o.ownBlock ≠ some b := fun e => by have := (h.rows.lt b e).1; omega
  have hs : ∀ x, x ≠ b → (W2.setCell ⟨b, 4, none⟩ v2).heap[x]? = W2.heap[x]? := fun x hx => heap_setCell_other _ _ _ _ (show ¬ x = b from hx)
  refine ⟨⟨hg.os.trans (hW.os.trans h.bel.os), hg.tape.trans (hW.tape.trans h.bel.tape), hg.output.trans (hW.output.trans h.bel.output), by simp; omega, fun x hx => (hs x (by omega)).trans ((hn x (by omega) (fun e => by have := (h.rows.lt x e).1; omega)).trans (h.bel.block x hx))⟩, fun g hgp => ?_, Box.set4 (show Box W2 b 8 0 0 ⟨#[]⟩ o 29 from (hn b hl hob).trans h.box), hr.keep (by simp) (fun x hx _ => hs x ?_), hG⟩
  · obtain ⟨h1, h2, h3, h4⟩ := h.pk g hgp
    exact ⟨h1, h2, hf g hgp (by omega) h3, (hs g h2).trans ((hn g (by omega) h3).trans h4)⟩
  · rcases hx with hx | hx
    · intro e; subst e; exact hb (hG x hx)
    · have := (hr.lt x hx).1; omega
theorem FreshOr.off {w : World} {o v2 : Value} {gp : Option Nat} (hf : FreshOr w o v2) : ∀ g, gp = some g → g < w.heap.size → o.ownBlock ≠ some g → v2.ownBlock ≠ some g := by
  intro g _ hg h3 e
  rcases hf with hf | hf
  · rw [hf] at e; exact h3 e
  · rw [hf] at e
    have := Option.some.inj e
    omega
theorem MO.root {A : Nat → Prop} {w3 W W' : World} {b : Nat} {gp : Option Nat} {us : List V} {o : Value} {G : Nat → Prop} (h : MO A w3 W b none us o G) (hb : Below W.heap.size W W') (hg : ∀ g, gp = some g → W.heap.size ≤ g ∧ g < W'.heap.size) : MO A W' W' b gp us o G :=
  ⟨Below.refl _ _, fun g e => ⟨(hg g e).2, fun e2 => by have := (hg g e).1; have := h.box.lt; omega, fun e2 => by have := (hg g e).1; have := (h.rows.lt g e2).2; omega, rfl⟩, (h.over hb).box, (h.over hb).rows, h.gl⟩
structure MI (ts us : List V) (m : Nat) (R : List V) (c : Nat) : Prop where
  ev : us.length % 2 = 0
  me : m % 2 = 0
  le : m ≤ ts.length
  tev : ts.length % 2 = 0
  uq : Uq (ts.drop m)
  q : AllP (fun k _ => k.k = 5 → ∀ y, lkp k.s us = some y → Qd y) (ts.drop m)
  len : us.length ≤ c + m
  fin : mgs none us (ts.drop m) = R
theorem MI.two {ts us : List V} {m : Nat} {R : List V} {c : Nat} (_ : MI ts us m R c) (hm : m + 1 < ts.length) : ts.drop m = ts[m] :: ts[m + 1] :: ts.drop (m + 2) := by
  rw [List.drop_eq_getElem_cons (by omega : m < ts.length), List.drop_eq_getElem_cons hm]
theorem MI.old {ts us : List V} {m : Nat} {R : List V} {c : Nat} (h : MI ts us m R c) (hm : m + 1 < ts.length) (h5 : ts[m].k = 5) : Qd (old1 us ts[m]) := by
  have hq := h.q
  rw [h.two hm, AllP] at hq
  unfold old1
  cases hl : lkp ts[m].s us with
  | none => exact .inl rfl
  | some y => exact hq.1 h5 y hl
theorem MI.done {ts us : List V} {m : Nat} {R : List V} {c : Nat} (h : MI ts us m R c) (hm : ¬ m < ts.length) : us = R := by
  have := h.fin
  rw [List.drop_eq_nil_of_le (by omega), mgs] at this
  exact this
theorem MI.start {v p : V} {d : Int} (hp : rightB p d = true) (h8 : p.k = 8) (hv : Qd v) : MI p.kids (if v.k = 8 then v.kids else []) 0 (mgs none (if v.k = 8 then v.kids else []) p.kids) 300 := by
  have hpm := right_map hp h8
  have hb : (if v.k = 8 then v.kids else []).length % 2 = 0 ∧ (if v.k = 8 then v.kids else []).length ≤ 300 ∧ ∀ x ∈ (if v.k = 8 then v.kids else []), Qd x := by
    split
    · rename_i h
      rcases hv with rfl | ⟨d2, h2⟩
      · unfold MZ at h; simp [V.k] at h
      · refine ⟨(right_map h2 h).1, ?_, fun x hx => ?_⟩
        · have h3 := h2
          rw [rightB_eq] at h3
          simp only [Bool.and_eq_true, ownB] at h3
          have h4 := h3.1.2.2
          rw [if_neg (by omega), if_neg (by omega), if_pos h] at h4
          unfold pairsB at h4
          simp only [Bool.and_eq_true, decide_eq_true_eq] at h4
          exact h4.2
        · obtain ⟨j, hj, rfl⟩ := List.getElem_of_mem hx
          exact .inr ⟨d2 - 1, rightsB_at (right_kids h2) j hj⟩
    · exact ⟨rfl, by simp, fun x hx => by simp at hx⟩
  refine ⟨hb.1, rfl, Nat.zero_le _, hpm.1, by rw [List.drop_zero]; exact hpm.2, ?_, by omega, by rw [List.drop_zero]⟩
  rw [List.drop_zero]
  exact AllP_of _ hpm.1 (fun k _ x _ _ y hy => by
    obtain ⟨k2, _, _, h3⟩ := lkp_keys (P := fun _ y => Qd y) _ hb.1 (AllP_of _ hb.1 (fun _ _ x hx => hb.2.2 x hx)) y hy
    exact h3)
end Go.Proofs.YtfjehhdahpbbgaaDoor
