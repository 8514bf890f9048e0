/- Lemmas for the statement of the last text of this claim: texts joined. -/
import Derived.Test.YtgbgeocmjdgmoaaDoorCbK01
import Derived.Test.YtgbgeocmjdgmoaaDoorCbK02
import Derived.WalkSpells
import Derived.Lib.Hide
import Derived.Deep.RegionWith
import Derived.StillTailTactics
import Derived.Test.YtgbgeocmjdgmoaaDoorTie
import Derived.Test.YtgbgeocmjdgmoaaDoorCards
import Derived.PinnedBridge
import Derived.Lay
import Derived.LaidOnce
import Derived.SevenTiedAt
import Derived.Lib.LaidU8T
import Derived.Lib.LaidIn
namespace Go.Proofs.YtgbgeocmjdgmoaaDoor
set_option linter.unusedSimpArgs false
set_option linter.unusedVariables false
set_option maxRecDepth 100000
open Go.RowKit
set_option maxHeartbeats 4000000 in
theorem lsame_any (w0 : World) : ∀ (N : Nat) (t : V) (a b : Value), t.sz < N → Rep w0 a t → Rep w0 b t → ∀ (w : World), Below w0.heap.size w0 w →
    Calls Tryd.prog 16 #[a, b] w (LawRet w) := by
  intro N
  induction N with
  | zero => intro t a b h; omega
  | succ N ih =>
  intro t a b hN ha hb w hw
  obtain ⟨sl, rfl, hwf, hr⟩ := ha
  obtain ⟨sm, rfl, -, hr2⟩ := hb
  have hsz := V.sz_eq t
  generalize t.kids = ts at *
  unfold V.agg
  generalize t.k = k at *
  generalize t.n = n at *
  generalize t.e = e at *
  generalize t.s = s at *
  cases hr with
  | mk a b off cap ts sls ha hc hm hbb cells wfs kids =>
  cases hr2 with
  | mk a2 b2 off2 cap2 ts2 sls2 ha2 hc2 hm2 hbb2 cells2 wfs2 kids2 =>
  have IH := Lib.hid (fun (i : Nat) (hi : i < ts.length) (w' : World) (hw' : Below w0.heap.size w0 w') => ih ts[i] (ts[i].agg (sls i)) (ts[i].agg (sls2 i)) (by have := szs_mem (List.getElem_mem hi); omega) ⟨_, rfl, wfs i hi, kids i hi⟩ ⟨_, rfl, wfs i hi, kids2 i hi⟩ w' hw')
  have CC := Lib.hid cells; have HA := Lib.hid ha; have CC2 := Lib.hid cells2; have HA2 := Lib.hid ha2
  have hss : (s.toList != s.toList) = false := by simp
  clear ih cells wfs kids ha cells2 wfs2 kids2 ha2 hsz hN hwf
  have BX := Lib.hid (show Box ((w.alloc (.cells #[.int .i64 k, .int .i64 n, .int .i64 e, .string s, .slice a ts.length cap] 26)).alloc (.cells #[.int .i64 k, .int .i64 n, .int .i64 e, .string s, .slice a2 ts.length cap2] 26)) w.heap.size k n e s (.slice a ts.length cap) 26 from (Box.new w _ _ _ _ _ _).alloc _)
  have BY := Lib.hid (show Box ((w.alloc (.cells #[.int .i64 k, .int .i64 n, .int .i64 e, .string s, .slice a ts.length cap] 26)).alloc (.cells #[.int .i64 k, .int .i64 n, .int .i64 e, .string s, .slice a2 ts.length cap2] 26)) (w.heap.size + 1) k n e s (.slice a2 ts.length cap2) 26 from (by
    have h := Box.new (w.alloc (.cells #[.int .i64 k, .int .i64 n, .int .i64 e, .string s, .slice a ts.length cap] 26)) k n e s (.slice a2 ts.length cap2) 26
    have e2 : (w.alloc (.cells #[.int .i64 k, .int .i64 n, .int .i64 e, .string s, .slice a ts.length cap] 26)).heap.size = w.heap.size + 1 := by simp
    rw [e2] at h; exact h))
  have HB2 := Lib.hid (show Below w.heap.size w ((w.alloc (.cells #[.int .i64 k, .int .i64 n, .int .i64 e, .string s, .slice a ts.length cap] 26)).alloc (.cells #[.int .i64 k, .int .i64 n, .int .i64 e, .string s, .slice a2 ts.length cap2] 26)) from (by (repeat' (first | with_reducible exact Below.refl _ _ | with_reducible refine below_alloc ?_ _ ?_ | with_reducible refine Below.setCell ?_ ?_ _ | with_reducible refine Below.drew ?_ | with_reducible refine below_drewN ?_ _ | with_reducible refine below_step ?_ (by assumption) ?_ | with_reducible refine below_mark ?_ (by assumption) ?_)); all_goals (first | omega | (simp; done) | (simp; omega))))
  go_enter Tryd.func16, Tryd.ntmps16
  go_wp2_with fail
  generalize ((w.alloc (.cells #[.int .i64 k, .int .i64 n, .int .i64 e, .string s, .slice a ts.length cap] 26)).alloc (.cells #[.int .i64 k, .int .i64 n, .int .i64 e, .string s, .slice a2 ts.length cap2] 26)) = W2 at *
  go_loopw [5] (fun i wr => ∃ j : Nat, j ≤ ts.length ∧ i = .int .i64 j ∧ Below W2.heap.size W2 wr) (fun i _ => ts.length - (intOf i).toNat)
  case atStart => exact ⟨0, by omega, rfl, Below.refl _ _⟩
  case round =>
    obtain ⟨j, hj, rfl, hbl⟩ := hrel
    have hz2 := HB2.out.size
    obtain ⟨p0, p1, p2, p3, p4⟩ := (BX.out.stay hbl).cells
    obtain ⟨q0, q1, q2, q3, q4⟩ := (BY.out.stay hbl).cells
    have hwr0 : Below w0.heap.size w0 wr := (hw.trans (HB2.out.mono hw.size)).trans (hbl.mono (Nat.le_trans hw.size hz2))
    by_cases hlt : j < ts.length
    · have hne : ts ≠ [] := by intro e; rw [e] at hlt; simp at hlt
      obtain rfl := HA.out hne
      obtain rfl := HA2.out hne
      have hx : ∀ b, b < w0.heap.size → wr.heap[b]? = w0.heap[b]? := fun b hb => hwr0.block b hb
      obtain ⟨c0, c1, c2, c3, c4⟩ := (CC.out j hlt).keep (hx b (hbb hne))
      obtain ⟨d0, d1, d2, d3, d4⟩ := (CC2.out j hlt).keep (hx b2 (hbb2 hne))
      have V1 := Lib.hid (fun w'' (hh : Below wr.heap.size wr w'') => IH.out j hlt w'' (hwr0.trans (hh.mono hwr0.size)))
      clear hx hwr0 IH
      unfold V.agg at V1
      generalize ts[j].k = vk at *
      generalize ts[j].n = vn at *
      generalize ts[j].e = ve at *
      generalize ts[j].s = vs at *
      have HBL := Lib.hid hbl
      clear hbl p0 p1 p2 p3 q0 q1 q2 q3
      go_wp2_with fail
      go_region_with (go_at_call 16; refine (V1.out _ (by (repeat' (first | with_reducible exact Below.refl _ _ | with_reducible refine below_alloc ?_ _ ?_ | with_reducible refine Below.setCell ?_ ?_ _ | with_reducible refine Below.drew ?_ | with_reducible refine below_drewN ?_ _ | with_reducible refine below_step ?_ (by assumption) ?_ | with_reducible refine below_mark ?_ (by assumption) ?_)); all_goals (first | omega | (simp; done) | (simp; omega)))).mono ?_; rintro e1 w1 ⟨rfl, hb⟩)
      all_goals
        go_wp2_with fail
        have hbl := HBL.out
        go_roundw
        case rel => exact ⟨j + 1, by omega, by go_num, (by (repeat' (first | with_reducible exact Below.refl _ _ | with_reducible refine below_alloc ?_ _ ?_ | with_reducible refine Below.setCell ?_ ?_ _ | with_reducible refine Below.drew ?_ | with_reducible refine below_drewN ?_ _ | with_reducible refine below_step ?_ (by assumption) ?_ | with_reducible refine below_mark ?_ (by assumption) ?_)); all_goals (first | omega | (simp; done) | (simp; omega)))⟩
        case measure => simp [intOf]; omega
    · have HF := Lib.hid (show Below w.heap.size w wr from HB2.out.trans (hbl.mono hz2))
      clear hbl hwr0 p0 p1 p2 p3 q0 q1 q2 q3
      go_wp2_with fail
      go_ret
      exact ⟨rfl, HF.out⟩
end Go.Proofs.YtgbgeocmjdgmoaaDoor
namespace Go.Proofs.YtgbgeocmjdgmoaaDoor
set_option linter.unusedSimpArgs false
set_option linter.unusedVariables false
set_option maxRecDepth 100000
open Go.RowKit Go.Lib Go.Shelf
theorem accept_eq : Rows.laid_unicode_utf8_acceptRanges = Lib.acceptData := by kernel_rfl
theorem first_eq : Rows.laid_unicode_utf8_first = Lib.firstData := Pinned.utf8First_eq
theorem env_of {w : World} (h3 : VarReads Tryd.prog w "unicode/utf8.first" Rows.laid_unicode_utf8_first) (h4 : VarReads Tryd.prog w "unicode/utf8.acceptRanges" Rows.laid_unicode_utf8_acceptRanges) : Env w := by
  rw [accept_eq] at h4
  rw [first_eq] at h3
  exact utf8Tabs_of_readsT (U8Types.of196 Tryd.laysValid) ⟨by kernel_rfl, by kernel_rfl, by kernel_rfl, by kernel_rfl, by kernel_rfl, by kernel_rfl, by kernel_rfl⟩ h3 h4
end Go.Proofs.YtgbgeocmjdgmoaaDoor
