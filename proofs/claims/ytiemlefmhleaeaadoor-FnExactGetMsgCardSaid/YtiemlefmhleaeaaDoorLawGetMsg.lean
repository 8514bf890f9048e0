/- For every text and place the program's GetMsg and the reference's return the same value and place, in memory of their own: the law returns true. -/
import Derived.Test.YtiemlefmhleaeaaDoorOwnV
import Derived.Test.YtiemlefmhleaeaaDoorLawAid
import Derived.WalkSpells
import Derived.Lib.Hide
import Derived.Deep.RegionWith
import Derived.StillTailTactics
import Derived.Test.YtiemlefmhleaeaaDoorMarks
import Derived.Test.YtiemlefmhleaeaaDoorMarkV
import Derived.Test.YtiemlefmhleaeaaDoorSzVal
import Derived.Test.YtiemlefmhleaeaaDoorToVal
import Derived.Test.YtiemlefmhleaeaaDoorNames
import Derived.Test.YtiemlefmhleaeaaDoorEnv
import Derived.Test.YtiemlefmhleaeaaDoorTie
import Derived.Test.YtiemlefmhleaeaaDoorCards
import Derived.PinnedBridge
import Derived.Lay
import Derived.LaidOnce
import Derived.SevenTiedAt
import Derived.Lib.LaidU8T
import Derived.Lib.LaidIn
import Derived.Test.YtiemlefmhleaeaaDoorMsgI
import Derived.Test.YtiemlefmhleaeaaDoorMsgW
import Derived.Test.YtiemlefmhleaeaaDoorMsgG
import Derived.Deep.DeepCutAuto
namespace Go.Proofs.YtiemlefmhleaeaaDoor
set_option linter.unusedVariables false
set_option maxRecDepth 100000
open Go.RowKit
set_option maxHeartbeats 400000 in
theorem eq_value (t : V) (sl sm : Value) (w : World)
    (ih : ∀ (w' : World), Below w.heap.size w w' → Calls Tryd.prog 84 #[sl, sm] w' (LawRet w')) :
    Calls Tryd.prog 18 #[t.agg sl, t.agg sm] w (LawRet w) := by
  have IH := Lib.hid ih; clear ih
  unfold V.agg
  generalize t.k = k at *
  generalize t.n = n at *
  generalize t.e = e at *
  generalize t.s = s at *
  go_enter Tryd.func18, Tryd.ntmps18
  go_wp2_with fail
  refine (IH.out _ (by (repeat' (first | with_reducible exact Below.refl _ _ | with_reducible refine below_alloc ?_ _ ?_ | with_reducible refine Below.setCell ?_ ?_ _ | with_reducible refine Below.drew ?_ | with_reducible refine below_drewN ?_ _ | with_reducible refine below_step ?_ (by assumption) ?_ | with_reducible refine below_mark ?_ (by assumption) ?_)); all_goals (first | omega | (simp; done) | (simp; omega)))).mono ?_
  rintro e1 w1 ⟨rfl, hb⟩
  go_wp2_with fail
  go_ret
  exact ⟨rfl, (by (repeat' (first | with_reducible exact Below.refl _ _ | with_reducible refine below_alloc ?_ _ ?_ | with_reducible refine Below.setCell ?_ ?_ _ | with_reducible refine Below.drew ?_ | with_reducible refine below_drewN ?_ _ | with_reducible refine below_step ?_ (by assumption) ?_ | with_reducible refine below_mark ?_ (by assumption) ?_)); all_goals (first | omega | (simp; done) | (simp; omega)))⟩
set_option maxHeartbeats 400000 in
theorem eq_list (w0 : World) (v : Value) (ts : List V) (h : RepS w0 v ts) : ∀ (u : Value), RepS w0 u ts → ∀ (w : World), Below w0.heap.size w0 w →
    Calls Tryd.prog 84 #[v, u] w (LawRet w) := by
  induction h with
  | mk a b off cap ts sls ha hc hm hbb cells wfs kids ih =>
  intro u hu w hw
  cases hu with
  | mk a2 b2 off2 cap2 ts2 sls2 ha2 hc2 hm2 hbb2 cells2 wfs2 kids2 =>
  have IH := Lib.hid ih; have CC := Lib.hid cells; have HA := Lib.hid ha; have CC2 := Lib.hid cells2; have HA2 := Lib.hid ha2; have KK := Lib.hid kids2
  clear ih cells wfs kids ha cells2 wfs2 kids2 ha2
  go_enter Tryd.func84, Tryd.ntmps84
  go_wp2_with fail
  go_loopw [5] (fun i wr => ∃ k : Nat, k ≤ ts.length ∧ i = .int .i64 k ∧ Below w.heap.size w wr) (fun i _ => ts.length - (intOf i).toNat)
  case atStart => exact ⟨0, by omega, rfl, Below.refl _ _⟩
  case round =>
    obtain ⟨k, hk, rfl, hbl⟩ := hrel
    by_cases hlt : k < ts.length
    · have hne : ts ≠ [] := by intro e; rw [e] at hlt; simp at hlt
      obtain rfl := HA.out hne
      obtain rfl := HA2.out hne
      have hbw := hbb hne
      have hbw2 := hbb2 hne
      have hx : ∀ b, b < w0.heap.size → wr.heap[b]? = w0.heap[b]? := fun b hb => (hbl.block b (Nat.lt_of_lt_of_le hb hw.size)).trans (hw.block b hb)
      obtain ⟨c0, c1, c2, c3, c4⟩ := (CC.out k hlt).keep (hx b hbw)
      obtain ⟨d0, d1, d2, d3, d4⟩ := (CC2.out k hlt).keep (hx b2 hbw2)
      have hwr : Below w0.heap.size w0 wr := hw.trans (hbl.mono hw.size)
      have V1 := Lib.hid (fun w'' (hh : Below wr.heap.size wr w'') => eq_value ts[k] (sls k) (sls2 k) w'' (fun w' hb' => IH.out k hlt (sls2 k) (KK.out k hlt) w' (below_step (below_step hwr hh (Nat.le_refl _)) hb' (Nat.le_refl _))))
      clear hx hwr
      unfold V.agg at V1
      generalize ts[k].k = vk at *
      generalize ts[k].n = vn at *
      generalize ts[k].e = ve at *
      generalize ts[k].s = vs at *
      go_wp2_with fail
      go_region_with (go_at_call 18; refine (V1.out _ (by (repeat' (first | with_reducible exact Below.refl _ _ | with_reducible refine below_alloc ?_ _ ?_ | with_reducible refine Below.setCell ?_ ?_ _ | with_reducible refine Below.drew ?_ | with_reducible refine below_drewN ?_ _ | with_reducible refine below_step ?_ (by assumption) ?_ | with_reducible refine below_mark ?_ (by assumption) ?_)); all_goals (first | omega | (simp; done) | (simp; omega)))).mono ?_; rintro e1 w1 ⟨rfl, hb⟩)
      all_goals go_wp2_with fail
      all_goals go_roundw
      case rel => exact ⟨k + 1, by omega, by go_num, (by (repeat' (first | with_reducible exact Below.refl _ _ | with_reducible refine below_alloc ?_ _ ?_ | with_reducible refine Below.setCell ?_ ?_ _ | with_reducible refine Below.drew ?_ | with_reducible refine below_drewN ?_ _ | with_reducible refine below_step ?_ (by assumption) ?_ | with_reducible refine below_mark ?_ (by assumption) ?_)); all_goals (first | omega | (simp; done) | (simp; omega)))⟩
      case measure => simp [intOf]; omega
      case rel => exact ⟨k + 1, by omega, by go_num, (by (repeat' (first | with_reducible exact Below.refl _ _ | with_reducible refine below_alloc ?_ _ ?_ | with_reducible refine Below.setCell ?_ ?_ _ | with_reducible refine Below.drew ?_ | with_reducible refine below_drewN ?_ _ | with_reducible refine below_step ?_ (by assumption) ?_ | with_reducible refine below_mark ?_ (by assumption) ?_)); all_goals (first | omega | (simp; done) | (simp; omega)))⟩
      case measure => simp [intOf]; omega
    · go_wp2_with fail
      go_ret
      exact ⟨rfl, hbl⟩
theorem eq_any (w0 : World) (a b : Value) (t : V) (ha : Rep w0 a t) (hb : Rep w0 b t) (w : World) (hw : Below w0.heap.size w0 w) : Calls Tryd.prog 18 #[a, b] w (LawRet w) := by
  obtain ⟨sl, rfl, _, hr⟩ := ha
  obtain ⟨sm, rfl, _, hr2⟩ := hb
  exact eq_value t sl sm w (fun w' h => eq_list w0 sl t.kids hr sm hr2 w' (below_step hw h (Nat.le_refl _)))
end Go.Proofs.YtiemlefmhleaeaaDoor
namespace Go.Proofs.YtiemlefmhleaeaaDoor
set_option linter.unusedVariables false
set_option maxRecDepth 100000
open Go.RowKit
theorem Box.over {w w' : World} {F : Nat → Prop} {b : Nat} {k n e : Int} {s : ByteArray} {sl : Value} {T : TypeId} (h : Box w b k n e s sl T) (ht : Touch F F w w') (hn : ¬ F b) : Box w' b k n e s sl T :=
  (ht.block b h.lt hn).trans h
theorem touch_of_grown {w w' : World} {v : Value} (h : w.grownBy w' v.ownBlock) : Touch (fun x => v.ownBlock = some x) (fun x => v.ownBlock = some x) w w' :=
  ⟨h.os, h.tape, h.output, h.size, fun k hk hn => h.block k hk (fun e => hn e.symm), fun k hk => .inl hk⟩
theorem SRow.stay2 {w w' : World} {base : Nat} {v : Value} {l : List ByteArray} (h : SRow w base v l) (hb : Below w.heap.size w w') : SRow w' base v l :=
  h.keep (fun x hx => hb.block x (h.lt x hx).2)
theorem cnts_kids_le {t : V} (h : t.sz ≤ 1048576) : cnts t.kids ≤ 4194304 := by have h1 := cnts_sz t.kids; have h2 := V.sz_eq t; omega
theorem cnts_list_le {ts : List V} (h : szs ts ≤ 1048576) : cnts ts ≤ 4194304 := by have h1 := cnts_sz ts; omega
theorem szr_ok {L : Int} {n : Nat} (h : ¬ szr L n < 0) : (n : Int) ≤ L ∧ szr L n ≤ L := by unfold szr at *; split at h <;> omega
end Go.Proofs.YtiemlefmhleaeaaDoor
namespace Go.Proofs.YtiemlefmhleaeaaDoor
set_option linter.unusedVariables false
set_option maxRecDepth 100000
open Go.RowKit Go.Lib Go.Shelf
theorem accept_eq : Rows.laid_unicode_utf8_acceptRanges = Lib.acceptData := by kernel_rfl
theorem first_eq : Rows.laid_unicode_utf8_first = Lib.firstData := Pinned.utf8First_eq
theorem env_of {w : World} (h3 : VarReads Tryd.prog w "unicode/utf8.first" Rows.laid_unicode_utf8_first) (h4 : VarReads Tryd.prog w "unicode/utf8.acceptRanges" Rows.laid_unicode_utf8_acceptRanges) : Env w := by
  rw [accept_eq] at h4
  rw [first_eq] at h3
  exact utf8Tabs_of_readsT (U8Types.of196 Tryd.laysValid) ⟨by kernel_rfl, by kernel_rfl, by kernel_rfl, by kernel_rfl, by kernel_rfl, by kernel_rfl, by kernel_rfl⟩ h3 h4
end Go.Proofs.YtiemlefmhleaeaaDoor
namespace Go.Proofs.YtiemlefmhleaeaaDoor
set_option linter.unusedVariables false
set_option maxRecDepth 100000
open Go.RowKit
theorem keep8 {w W w2 : World} {b c i j : Nat} {x0 x1 x2 x3 x4 x5 x6 : Value} (hb : Below W.heap.size W w2) (h : W.cell? ⟨b, 0, none⟩ = some x0 ∧ W.cell? ⟨b, 1, none⟩ = some x1 ∧ W.cell? ⟨b, 2, none⟩ = some x2 ∧ W.cell? ⟨b, 3, none⟩ = some x3 ∧ W.cell? ⟨b, 4, none⟩ = some x4 ∧ W.cell? ⟨c, i, none⟩ = some x5 ∧ W.cell? ⟨c, j, none⟩ = some x6 ∧ Below w.heap.size w W) :
    w2.cell? ⟨b, 0, none⟩ = some x0 ∧ w2.cell? ⟨b, 1, none⟩ = some x1 ∧ w2.cell? ⟨b, 2, none⟩ = some x2 ∧ w2.cell? ⟨b, 3, none⟩ = some x3 ∧ w2.cell? ⟨b, 4, none⟩ = some x4 ∧ w2.cell? ⟨c, i, none⟩ = some x5 ∧ w2.cell? ⟨c, j, none⟩ = some x6 ∧ Below w.heap.size w w2 :=
  ⟨keep1 hb h.1, keep1 hb h.2.1, keep1 hb h.2.2.1, keep1 hb h.2.2.2.1, keep1 hb h.2.2.2.2.1, keep1 hb h.2.2.2.2.2.1, keep1 hb h.2.2.2.2.2.2.1, h.2.2.2.2.2.2.2.trans (hb.mono h.2.2.2.2.2.2.2.size)⟩
theorem Box.drew {w : World} {b : Nat} {k n e : Int} {s : ByteArray} {sl : Value} {T : TypeId} (h : Box w b k n e s sl T) : Box w.drew b k n e s sl T := h
set_option maxHeartbeats 2000000 in
theorem GetMsg_impl0 (w0 : World) (s : ByteArray) (hs : s.size ≤ 1048576) (i : Int) (hi : In64 i) (w : World) (hw : Below w0.heap.size w0 w) (hE : Env w0) :
    Calls Tryd.prog 24 #[.string s, .int .i64 i] w (VIRet w (msgR2 s i)) := by
  obtain ⟨hi0, hi1⟩ := hi
  have BZ := Lib.hid (Box.new w 0 0 0 ⟨#[]⟩ (.slice none 0 0) 28)
  obtain ⟨z0, z1, z2, z3, z4⟩ := BZ.out.cells
  have zf0 := BZ.out.free (i := 0); have zf1 := BZ.out.free (i := 1); have zf2 := BZ.out.free (i := 2); have zf3 := BZ.out.free (i := 3); have zf4 := BZ.out.free (i := 4)
  by_cases h1 : i < 0 ∨ (s.size : Int) < i
  · rw [msgR2_out (by omega)]
    have IN := Lib.hid (fun W => within_no i 0 s.size W (by omega))
    clear h1
    go_enter Tryd.func24, Tryd.ntmps24
    go_wp2_with fail
    refine (IN.out _).mono ?_
    rintro e5 w5 ⟨rfl, rfl⟩
    go_wp2_with fail
    refine bodyPost_ret (v := .tuple #[.agg #[.int .i64 0, .int .i64 0, .int .i64 0, .string ⟨#[]⟩, .slice none 0 0], .int .i64 (-1)]) (by simp [results, Tryd.results24, go_sem, z0, z1, z2, z3, z4]) rfl (vi_zero ((by (with_reducible (repeat' (first | exact Below.refl _ _ | refine below_alloc ?_ _ ?_ | refine Below.setCell ?_ ?_ _ | refine Below.drew ?_ | refine below_drewN ?_ _ | refine below_step ?_ (by assumption) ?_ | refine below_mark ?_ (by assumption) ?_))); all_goals (first | omega | (simp; done) | (simp; omega)))))
  obtain ⟨k, rfl⟩ : ∃ k : Nat, i = (k : Int) := ⟨i.toNat, by omega⟩
  have hk : k ≤ s.size := by omega
  have IN := Lib.hid (fun W => within_yes (k : Int) 0 s.size W (by omega) (by omega))
  have HE := Lib.hid (show msgR2 s (k : Int) = msgC (mget s 13 k 300) s k by unfold msgR2; rw [if_pos (by omega), Int.toNat_natCast])
  have HG := Lib.hid (fun v j m (h : mget s 13 k 300 = some (v, j, m)) => mget_good hs 13 k 300 v j m h)
  have CL := Lib.hid (fun (r : Nat) (W : World) (h : UB W r s k 0 false) => show Calls Tryd.prog 93 #[.pointer (some ⟨r, 0, none⟩), .int .i64 0] W (UmRet r s (mget s 13 k 300) W) from
    value_any r s hs 13 0 (by omega) (by omega) k 300 W (by omega) (by omega) (by rw [show (300 : Int) - ((300 : Nat) : Int) = 0 by omega]; exact h))
  rw [HE.out]
  generalize mget s 13 k 300 = o at *
  clear HE h1 hi0 hi1
  have UB5 := Lib.hid (show UB ((w.alloc (.cells #[.int .i64 0, .int .i64 0, .int .i64 0, .string ⟨#[]⟩, .slice none 0 0] 28)).alloc (.cells #[.string s, .int .i64 (k : Int), .int .i64 0, .bool false] 90)) (w.heap.size + 1) s k 0 false from heap_alloc_here _ (by simp))
  have hz5 : ((w.alloc (.cells #[.int .i64 0, .int .i64 0, .int .i64 0, .string ⟨#[]⟩, .slice none 0 0] 28)).alloc (.cells #[.string s, .int .i64 (k : Int), .int .i64 0, .bool false] 90)).heap.size = w.heap.size + 1 + 1 := by simp
  have HB5 := Lib.hid (show Below w.heap.size w ((w.alloc (.cells #[.int .i64 0, .int .i64 0, .int .i64 0, .string ⟨#[]⟩, .slice none 0 0] 28)).alloc (.cells #[.string s, .int .i64 (k : Int), .int .i64 0, .bool false] 90)) from (by (with_reducible (repeat' (first | exact Below.refl _ _ | refine below_alloc ?_ _ ?_ | refine Below.setCell ?_ ?_ _ | refine Below.drew ?_ | refine below_drewN ?_ _ | refine below_step ?_ (by assumption) ?_ | refine below_mark ?_ (by assumption) ?_))); all_goals (first | omega | (simp; done) | (simp; omega))))
  have BZ5 := Lib.hid (show Box ((w.alloc (.cells #[.int .i64 0, .int .i64 0, .int .i64 0, .string ⟨#[]⟩, .slice none 0 0] 28)).alloc (.cells #[.string s, .int .i64 (k : Int), .int .i64 0, .bool false] 90)) w.heap.size 0 0 0 ⟨#[]⟩ (.slice none 0 0) 28 from (BZ.out).alloc _)
  cases o with
  | none =>
    go_enter Tryd.func24, Tryd.ntmps24
    go_wp2_with fail
    refine (IN.out _).mono ?_
    rintro e5 w5 ⟨rfl, rfl⟩
    go_wp2_with fail
    refine (CL.out _ _ UB5.out).mono ?_
    rintro e w6 ⟨t, sl, rfl, twf, tow, htq, hst, ht6⟩
    obtain ⟨ua, un, uc, rfl⟩ : ∃ sa sn sc, sl = .slice sa sn sc := by obtain ⟨p, q, e⟩ := tow.slice; exact ⟨p, _, q, e⟩
    have hz6 := ht6.size
    rw [hz5] at hz6
    have BZ6 := Lib.hid (show Box w6 w.heap.size 0 0 0 ⟨#[]⟩ (.slice none 0 0) 28 from (ht6.block w.heap.size (by omega) (by omega)).trans BZ5.out)
    have HB6 := Lib.hid (show Below w.heap.size w w6 from HB5.out.trans (ht6.below (fun x hx => by omega) (by omega)))
    clear z0 z1 z2 z3 z4 zf0 zf1 zf2 zf3 zf4
    obtain ⟨z0, z1, z2, z3, z4⟩ := BZ6.out.cells
    have zf0 := BZ6.out.free (i := 0); have zf1 := BZ6.out.free (i := 1); have zf2 := BZ6.out.free (i := 2); have zf3 := BZ6.out.free (i := 3); have zf4 := BZ6.out.free (i := 4)
    have hm1 : w.heap.size ≠ w6.heap.size := by omega
    have hm2 : w6.heap.size ≠ w.heap.size := by omega
    have hm3 : w.heap.size < w6.heap.size := by omega
    have hm4 : w.heap.size + 1 ≠ w6.heap.size := by omega
    have hm5 : w6.heap.size ≠ w.heap.size + 1 := by omega
    have hm6 : w.heap.size + 1 < w6.heap.size := by omega
    obtain ⟨p, c, hp, hub⟩ := hst
    obtain ⟨u0, u1, u2, u3, f1, f2, f3⟩ := hub.cells
    unfold V.agg
    clear CL HG UB5 BZ BZ5 BZ6 ht6 htq hub tow twf
    have HBT := Lib.hid HB6.out
    go_wp2_with fail
    go_quiet (fail)
    go_wp2_with fail
    refine bodyPost_ret (v := .tuple #[.agg #[.int .i64 0, .int .i64 0, .int .i64 0, .string ⟨#[]⟩, .slice none 0 0], .int .i64 (-1)]) (by simp [results, Tryd.results24, go_sem, z0, z1, z2, z3, z4, hm1, hm2, hm3]) rfl (vi_zero ?_)
    have HD : ∀ (W : World) (q : Nat), Below w.heap.size w W → Below w.heap.size w (W.drewN q) := fun W q h => h.trans ⟨rfl, rfl, rfl, Nat.le_refl _, fun _ _ => rfl⟩
    exact vb_set5 (HD _ _ (below_alloc HBT.out _ (by omega))) _ (Nat.le_refl _) _ _ _ _ _
  | some q =>
    obtain ⟨v, j, m⟩ := q
    obtain ⟨hg1, hg2, hg3, hg4, hg5⟩ := HG.out v j m rfl
    have HQ := Lib.hid (show msgC (some (v, j, m)) s k = if mpB v = (s.extract k j).data.toList then (v, (j : Int)) else (VZ0, -1) from rfl)
    go_enter Tryd.func24, Tryd.ntmps24
    go_wp2_with fail
    refine (IN.out _).mono ?_
    rintro e5 w5 ⟨rfl, rfl⟩
    go_wp2_with fail
    refine (CL.out _ _ UB5.out).mono ?_
    rintro e w6 ⟨t, sl, rfl, twf, tow, htq, hst, ht6⟩
    obtain ⟨ua, un, uc, rfl⟩ : ∃ sa sn sc, sl = .slice sa sn sc := by obtain ⟨p, q, e⟩ := tow.slice; exact ⟨p, _, q, e⟩
    obtain rfl : v = t := (htq _ rfl).symm
    have hz6 := ht6.size
    rw [hz5] at hz6
    have BZ6 := Lib.hid (show Box w6 w.heap.size 0 0 0 ⟨#[]⟩ (.slice none 0 0) 28 from (ht6.block w.heap.size (by omega) (by omega)).trans BZ5.out)
    have HB6 := Lib.hid (show Below w.heap.size w w6 from HB5.out.trans (ht6.below (fun x hx => by omega) (by omega)))
    clear z0 z1 z2 z3 z4 zf0 zf1 zf2 zf3 zf4
    obtain ⟨z0, z1, z2, z3, z4⟩ := BZ6.out.cells
    have zf0 := BZ6.out.free (i := 0); have zf1 := BZ6.out.free (i := 1); have zf2 := BZ6.out.free (i := 2); have zf3 := BZ6.out.free (i := 3); have zf4 := BZ6.out.free (i := 4)
    have hm1 : w.heap.size ≠ w6.heap.size := by omega
    have hm2 : w6.heap.size ≠ w.heap.size := by omega
    have hm3 : w.heap.size < w6.heap.size := by omega
    have hm4 : w.heap.size + 1 ≠ w6.heap.size := by omega
    have hm5 : w6.heap.size ≠ w.heap.size + 1 := by omega
    have hm6 : w.heap.size + 1 < w6.heap.size := by omega
    have hub : UB w6 (w.heap.size + 1) s j (300 - (m : Int)) false := hst
    obtain ⟨u0, u1, u2, u3, f1, f2, f3⟩ := hub.cells
    have UD := Lib.hid (show (w6.alloc (.cells #[.int .i64 v.k, .int .i64 v.n, .int .i64 v.e, .string v.s, .slice ua un uc] 28)).drew.cell? ⟨w.heap.size + 1, 1, none⟩ = some (.int .i64 (j : Int)) ∧ (w6.alloc (.cells #[.int .i64 v.k, .int .i64 v.n, .int .i64 v.e, .string v.s, .slice ua un uc] 28)).drew.cell? ⟨w.heap.size + 1, 3, none⟩ = some (.bool false) from by
      have h9 := (hub.stay (((Below.refl _ _).alloc (Nat.le_refl _) (.cells #[.int .i64 v.k, .int .i64 v.n, .int .i64 v.e, .string v.s, .slice ua un uc] 28)).drew)).cells
      exact ⟨h9.2.1, h9.2.2.2.1⟩)
    have PM := Lib.hid (fun (W : World) (hW : W.cell? ⟨w6.heap.size, 0, none⟩ = some (.int .i64 v.k) ∧ W.cell? ⟨w6.heap.size, 1, none⟩ = some (.int .i64 v.n) ∧ W.cell? ⟨w6.heap.size, 2, none⟩ = some (.int .i64 v.e) ∧ W.cell? ⟨w6.heap.size, 3, none⟩ = some (.string v.s) ∧ W.cell? ⟨w6.heap.size, 4, none⟩ = some (.slice ua un uc) ∧ W.cell? ⟨w.heap.size + 1, 1, none⟩ = some (.int .i64 (j : Int)) ∧ W.cell? ⟨w.heap.size + 1, 3, none⟩ = some (.bool false) ∧ Below w6.heap.size w6 W) => PutMsg_impl w6 (Env.keep hE (hw.trans (HB6.out.mono hw.size))) (v.agg (.slice ua un uc)) v ⟨_, rfl, twf, tow.rep⟩ (by omega) W hW.2.2.2.2.2.2.2)
    have hkj : (k : Int) ≤ (j : Int) := by omega
    have hj0 : (0 : Int) ≤ (j : Int) := by omega
    have tj : decide ((j : Int) < 0) = false := decide_eq_false (by omega)
    have hjs : (j : Int) ≤ (s.size : Int) := by omega
    have HVI := Lib.hid (show ∀ w', Below w.heap.size w w' → OwnS w' (fun x => w.heap.size ≤ x) (.slice ua un uc) v.kids → VIRet w (v, (j : Int)) (.returned (.tuple #[v.agg (.slice ua un uc), .int .i64 (j : Int)])) w' from fun w' h1 h2 => ⟨_, rfl, twf, h2, h1⟩)
    have HO6 := Lib.hid (show OwnS w6 (fun x => w.heap.size + 1 + 1 ≤ x) (.slice ua un uc) v.kids from OwnS.mono tow (fun x hx => by rw [hz5] at hx; exact hx))
    have HM8 := Lib.hid (show w.heap.size + 1 + 1 ≤ w.heap.size → False by omega)
    have HM9 := Lib.hid (show ∀ x, w.heap.size + 1 + 1 ≤ x → w.heap.size ≤ x by intro x hx; omega)
    have BV := Lib.hid (Box.drew (Box.new w6 v.k v.n v.e v.s (.slice ua un uc) 28))
    clear CL HG UB5 BZ BZ5 ht6 tow twf htq hst hub hg1 hg3 hg4 hg5
    unfold V.agg at PM HVI ⊢
    by_cases hc : (⟨(mpB v).toArray⟩ : ByteArray) = s.extract k j
    · have t1 := bne_no hc
      have t2 := ba_yes hc
      have hlist : mpB v = (s.extract k j).data.toList := by rw [← hc]
      have HE2 := Lib.hid (show msgC (some (v, j, m)) s k = (v, (j : Int)) from by rw [HQ.out, if_pos hlist])
      clear hlist HQ hc
      unfold TxtRet bstr at PM
      generalize (⟨(mpB v).toArray⟩ : ByteArray) = C at *
      have hS00 : (fun W => W.cell? ⟨w6.heap.size, 0, none⟩ = some (.int .i64 v.k) ∧ W.cell? ⟨w6.heap.size, 1, none⟩ = some (.int .i64 v.n) ∧ W.cell? ⟨w6.heap.size, 2, none⟩ = some (.int .i64 v.e) ∧ W.cell? ⟨w6.heap.size, 3, none⟩ = some (.string v.s) ∧ W.cell? ⟨w6.heap.size, 4, none⟩ = some (.slice ua un uc) ∧ W.cell? ⟨w.heap.size + 1, 1, none⟩ = some (.int .i64 (j : Int)) ∧ W.cell? ⟨w.heap.size + 1, 3, none⟩ = some (.bool false) ∧ Below w6.heap.size w6 W) (w6.alloc (.cells #[.int .i64 v.k, .int .i64 v.n, .int .i64 v.e, .string v.s, .slice ua un uc] 28)).drew := by
        obtain ⟨v0, v1, v2, v3, v4⟩ := BV.out.cells
        exact ⟨v0, v1, v2, v3, v4, UD.out.1, UD.out.2, ((Below.refl _ _).alloc (Nat.le_refl _) _).drew⟩
      go_wp2_with fail
      go_region_held3 (fun W => W.cell? ⟨w6.heap.size, 0, none⟩ = some (.int .i64 v.k) ∧ W.cell? ⟨w6.heap.size, 1, none⟩ = some (.int .i64 v.n) ∧ W.cell? ⟨w6.heap.size, 2, none⟩ = some (.int .i64 v.e) ∧ W.cell? ⟨w6.heap.size, 3, none⟩ = some (.string v.s) ∧ W.cell? ⟨w6.heap.size, 4, none⟩ = some (.slice ua un uc) ∧ W.cell? ⟨w.heap.size + 1, 1, none⟩ = some (.int .i64 (j : Int)) ∧ W.cell? ⟨w.heap.size + 1, 3, none⟩ = some (.bool false) ∧ Below w6.heap.size w6 W) (first | with_reducible exact ⟨by assumption, by assumption, by assumption, by assumption, by assumption, by assumption, by assumption, by assumption⟩ | with_reducible assumption | exact hS00 | go_keep) (((with_reducible refine (PM.out _ (by with_reducible assumption)).mono ?_); rintro e8 w8 ⟨rfl, hb8⟩; have hS := keep8 hb8 (by with_reducible assumption); obtain ⟨hS0, hS1, hS2, hS3, hS4, hS6, hS7, hS5⟩ := hS))
      clear hS00
      have hz8 := hS5.size
      have BZ8 := Lib.hid (show Box w8 w.heap.size 0 0 0 ⟨#[]⟩ (.slice none 0 0) 28 from BZ6.out.stay hS5)
      clear z0 z1 z2 z3 z4 zf0 zf1 zf2 zf3 zf4
      obtain ⟨z0, z1, z2, z3, z4⟩ := BZ8.out.cells
      have zf0 := BZ8.out.free (i := 0); have zf1 := BZ8.out.free (i := 1); have zf2 := BZ8.out.free (i := 2); have zf3 := BZ8.out.free (i := 3); have zf4 := BZ8.out.free (i := 4)
      have HS5 := Lib.hid hS5
      clear hS5 hb8
      go_wp2_with fail
      go_region
      go_wp2_with fail
      refine bodyPost_ret (v := .tuple #[.agg #[.int .i64 v.k, .int .i64 v.n, .int .i64 v.e, .string v.s, .slice ua un uc], .int .i64 (j : Int)]) (by simp [results, Tryd.results24, go_sem, z0, z1, z2, z3, z4]) rfl (by rw [HE2.out]; exact HVI.out _ (Below.drew (vb_set5 (HB6.out.trans (HS5.out.mono HB6.out.size)) w.heap.size (Nat.le_refl _) _ _ _ _ _)) (OwnS.drew (OwnS.mono (OwnS.set5 (HO6.out.stay HS5.out) w.heap.size HM8.out _ _ _ _ _) HM9.out)))
    · have t1 := bne_yes hc
      have t2 := ba_no hc
      have hlist : ¬ mpB v = (s.extract k j).data.toList := fun e => hc (by rw [e])
      have HE2 := Lib.hid (show msgC (some (v, j, m)) s k = (VZ0, -1) from by rw [HQ.out, if_neg hlist])
      clear hlist HQ hc
      unfold TxtRet bstr at PM
      generalize (⟨(mpB v).toArray⟩ : ByteArray) = C at *
      have hS00 : (fun W => W.cell? ⟨w6.heap.size, 0, none⟩ = some (.int .i64 v.k) ∧ W.cell? ⟨w6.heap.size, 1, none⟩ = some (.int .i64 v.n) ∧ W.cell? ⟨w6.heap.size, 2, none⟩ = some (.int .i64 v.e) ∧ W.cell? ⟨w6.heap.size, 3, none⟩ = some (.string v.s) ∧ W.cell? ⟨w6.heap.size, 4, none⟩ = some (.slice ua un uc) ∧ W.cell? ⟨w.heap.size + 1, 1, none⟩ = some (.int .i64 (j : Int)) ∧ W.cell? ⟨w.heap.size + 1, 3, none⟩ = some (.bool false) ∧ Below w6.heap.size w6 W) (w6.alloc (.cells #[.int .i64 v.k, .int .i64 v.n, .int .i64 v.e, .string v.s, .slice ua un uc] 28)).drew := by
        obtain ⟨v0, v1, v2, v3, v4⟩ := BV.out.cells
        exact ⟨v0, v1, v2, v3, v4, UD.out.1, UD.out.2, ((Below.refl _ _).alloc (Nat.le_refl _) _).drew⟩
      go_wp2_with fail
      go_region_held3 (fun W => W.cell? ⟨w6.heap.size, 0, none⟩ = some (.int .i64 v.k) ∧ W.cell? ⟨w6.heap.size, 1, none⟩ = some (.int .i64 v.n) ∧ W.cell? ⟨w6.heap.size, 2, none⟩ = some (.int .i64 v.e) ∧ W.cell? ⟨w6.heap.size, 3, none⟩ = some (.string v.s) ∧ W.cell? ⟨w6.heap.size, 4, none⟩ = some (.slice ua un uc) ∧ W.cell? ⟨w.heap.size + 1, 1, none⟩ = some (.int .i64 (j : Int)) ∧ W.cell? ⟨w.heap.size + 1, 3, none⟩ = some (.bool false) ∧ Below w6.heap.size w6 W) (first | with_reducible exact ⟨by assumption, by assumption, by assumption, by assumption, by assumption, by assumption, by assumption, by assumption⟩ | with_reducible assumption | exact hS00 | go_keep) (((with_reducible refine (PM.out _ (by with_reducible assumption)).mono ?_); rintro e8 w8 ⟨rfl, hb8⟩; have hS := keep8 hb8 (by with_reducible assumption); obtain ⟨hS0, hS1, hS2, hS3, hS4, hS6, hS7, hS5⟩ := hS))
      clear hS00
      have hz8 := hS5.size
      have BZ8 := Lib.hid (show Box w8 w.heap.size 0 0 0 ⟨#[]⟩ (.slice none 0 0) 28 from BZ6.out.stay hS5)
      clear z0 z1 z2 z3 z4 zf0 zf1 zf2 zf3 zf4
      obtain ⟨z0, z1, z2, z3, z4⟩ := BZ8.out.cells
      have zf0 := BZ8.out.free (i := 0); have zf1 := BZ8.out.free (i := 1); have zf2 := BZ8.out.free (i := 2); have zf3 := BZ8.out.free (i := 3); have zf4 := BZ8.out.free (i := 4)
      have HS5 := Lib.hid hS5
      clear hS5 hb8
      go_wp2_with fail
      refine bodyPost_ret (v := .tuple #[.agg #[.int .i64 0, .int .i64 0, .int .i64 0, .string ⟨#[]⟩, .slice none 0 0], .int .i64 (-1)]) (by simp [results, Tryd.results24, go_sem, z0, z1, z2, z3, z4]) rfl (by rw [HE2.out]; exact vi_zero (vb_set5 (HB6.out.trans (HS5.out.mono HB6.out.size)) _ (Nat.le_refl _) _ _ _ _ _))
end Go.Proofs.YtiemlefmhleaeaaDoor
namespace Go.Proofs.YtiemlefmhleaeaaDoor
set_option linter.unusedVariables false
set_option maxRecDepth 100000
open Go.ChangeShapes Go.WideShapes Go.ChangeAt Go.RowKit Go.Lib
open Go.ChangeMaps (open_string shut_string)
def VIRet2 (w : World) (t : V) (n : Int) (e : Ending) (w' : World) : Prop := ∃ sl, e = .returned (.tuple #[t.agg sl, .int .i64 n]) ∧ t.wf ∧ OwnS w' (fun x => w.heap.size ≤ x) sl t.kids ∧ Below w.heap.size w w'
theorem GetMsg_spec (w0 : World) (s : ByteArray) (hs : s.size ≤ 1048576) (i : Int) (hi : In64 i) (w : World) (hw : Below w0.heap.size w0 w) :
    Calls Tryd.prog 23 #[.string s, .int .i64 i] w (VIRet2 w (msgR2 s i).1 (msgR2 s i).2) := GetMsg_spec0 w0 s hs i hi w hw
theorem GetMsg_impl (w0 : World) (s : ByteArray) (hs : s.size ≤ 1048576) (i : Int) (hi : In64 i) (w : World) (hw : Below w0.heap.size w0 w) (hE : Env w0) :
    Calls Tryd.prog 24 #[.string s, .int .i64 i] w (VIRet2 w (msgR2 s i).1 (msgR2 s i).2) := GetMsg_impl0 w0 s hs i hi w hw hE
theorem msgR2_sz {s : ByteArray} (hs : s.size ≤ 1048576) (i : Int) : (msgR2 s i).1.sz ≤ 1048576 := by
  have hz : VZ0.sz ≤ 1048576 := by simp [VZ0, V.sz, szs, ByteArray.size]
  unfold msgR2
  split
  · cases h : mget s 13 i.toNat 300 with
    | none => exact hz
    | some q =>
      obtain ⟨v, j, m⟩ := q
      have hg := mget_good hs 13 i.toNat 300 v j m h
      show (if _ then _ else _ : V × Int).1.sz ≤ _
      split
      · show v.sz ≤ _; omega
      · exact hz
  · exact hz
set_option maxHeartbeats 8000000 in
theorem walkS_FnExactGetMsg {w00 : World} (t0 : ByteArray) (hv0 : t0.size ≤ 1048576) (t1 : Int) (hv10 : (Lit.int .i64 t1).wf = true) (w : World) (hww : w = w00) (hE : Env w) : Calls Tryd.prog 5 #[.string t0, .int .i64 t1] w (LawRet w) := by
  subst hww
  have tz0 : decide ((1048576 : Int) < (t0.size : Int)) = false := decide_eq_false (by omega)
  have hv1 : In64 t1 := in64_of_wf hv10
  have KS := Lib.hid (fun w1  => GetMsg_spec w1 t0 hv0 t1 hv1 w1 (Below.refl _ _))
  have KI := Lib.hid (fun w1  (hh : Below w.heap.size w w1) => GetMsg_impl w1 t0 hv0 t1 hv1 w1 (Below.refl _ _) (Env.keep hE hh))
  clear hE
  have HR0 := Lib.hid (cnts_kids_le (msgR2_sz hv0 t1))
  generalize (msgR2 t0 t1).1 = r0 at *
  generalize (msgR2 t0 t1).2 = r1 at *
  go_enter Tryd.func5, Tryd.ntmps5
  go_wp2_with fail
  have hHR0 := HR0.out
  refine (KS.out _ ).mono ?_
  rintro e1 w1 ⟨qs0, rfl, qf0, qo0, hb1⟩
  have hz1 := hb1.size; try simp at hz1
  obtain ⟨qa0, qc0, rfl⟩ := qo0.slice
  have qR0 := Lib.hid (show Rep w1 (r0.agg (.slice qa0 r0.kids.length qc0)) r0 from ⟨_, rfl, qf0, qo0.rep⟩)
  clear qo0
  unfold V.agg at qR0 ⊢
  have BQ0_n := Lib.hid (Box.new w1 r0.k r0.n r0.e r0.s (.slice qa0 r0.kids.length qc0) 28)
  go_wp2_with fail
  refine (KI.out _ ?_).mono ?_
  · exact (by (with_reducible (repeat' (first | exact Below.refl _ _ | refine below_alloc ?_ _ ?_ | refine Below.setCell ?_ ?_ _ | refine Below.drew ?_ | refine below_drewN ?_ _ | refine below_step ?_ (by assumption) ?_ | refine below_mark ?_ (by assumption) ?_))); all_goals (first | omega | (simp; done) | (simp; omega)))
  rintro e2 w2 ⟨gs0, rfl, gf0, go0, hb2⟩
  have hz2 := hb2.size; try simp at hz2
  obtain ⟨ga0, gc0, rfl⟩ := go0.slice
  have gR0 := Lib.hid (show Rep w2 (r0.agg (.slice ga0 r0.kids.length gc0)) r0 from ⟨_, rfl, gf0, go0.rep⟩)
  have gO0 := Lib.hid go0.bound
  clear go0
  unfold V.agg at gR0 ⊢
  have BG0_n := Lib.hid (Box.new w2 r0.k r0.n r0.e r0.s (.slice ga0 r0.kids.length gc0) 28)
  have tn1 : ((r1 : Int) != r1) = false := by simp
  have BQ0_2 := Lib.hid (Box.stay BQ0_n.out (w' := w2) (by (with_reducible (repeat' (first | exact Below.refl _ _ | refine below_alloc ?_ _ ?_ | refine Below.setCell ?_ ?_ _ | refine Below.drew ?_ | refine below_drewN ?_ _ | refine below_step ?_ (by assumption) ?_ | refine below_mark ?_ (by assumption) ?_))); all_goals (first | omega | (simp; done) | (simp; omega))))
  obtain ⟨cBQ02_0, cBQ02_1, cBQ02_2, cBQ02_3, cBQ02_4⟩ := BQ0_2.out.cells
  have hnq2 : w1.heap.size < w2.heap.size := by omega
  have hnr2 : w1.heap.size ≠ w2.heap.size := by omega
  go_wp2_with fail
  clear cBQ02_0 cBQ02_1 cBQ02_2 cBQ02_3 cBQ02_4
  refine (eq_any _ _ _ r0 (gR0.out.keep (by (with_reducible (repeat' (first | exact Below.refl _ _ | refine below_alloc ?_ _ ?_ | refine Below.setCell ?_ ?_ _ | refine Below.drew ?_ | refine below_drewN ?_ _ | refine below_step ?_ (by assumption) ?_ | refine below_mark ?_ (by assumption) ?_))); all_goals (first | omega | (simp; done) | (simp; omega)))) (qR0.out.keep (by (with_reducible (repeat' (first | exact Below.refl _ _ | refine below_alloc ?_ _ ?_ | refine Below.setCell ?_ ?_ _ | refine Below.drew ?_ | refine below_drewN ?_ _ | refine below_step ?_ (by assumption) ?_ | refine below_mark ?_ (by assumption) ?_))); all_goals (first | omega | (simp; done) | (simp; omega)))) _ (Below.refl _ _)).mono ?_
  rintro e3 w3 ⟨rfl, hb3⟩
  have hz3 := hb3.size; try simp at hz3
  have BG0_3 := Lib.hid (Box.stay BG0_n.out (w' := w3) (by (with_reducible (repeat' (first | exact Below.refl _ _ | refine below_alloc ?_ _ ?_ | refine Below.setCell ?_ ?_ _ | refine Below.drew ?_ | refine below_drewN ?_ _ | refine below_step ?_ (by assumption) ?_ | refine below_mark ?_ (by assumption) ?_))); all_goals (first | omega | (simp; done) | (simp; omega))))
  obtain ⟨cBG03_0, cBG03_1, cBG03_2, cBG03_3, cBG03_4⟩ := BG0_3.out.cells
  go_wp2_with fail
  have GB := Lib.hid (gO0.out.keep (w' := w3) (fun x hx hxs => (show Below w2.heap.size w2 w3 by exact (by (with_reducible (repeat' (first | exact Below.refl _ _ | refine below_alloc ?_ _ ?_ | refine Below.setCell ?_ ?_ _ | refine Below.drew ?_ | refine below_drewN ?_ _ | refine below_step ?_ (by assumption) ?_ | refine below_mark ?_ (by assumption) ?_))); all_goals (first | omega | (simp; done) | (simp; omega)))).block x hxs))
  clear cBG03_0 cBG03_1 cBG03_2 cBG03_3 cBG03_4
  refine (mark_value r0 _ _ 1 _ GB.out (by omega) (by omega)).mono ?_
  rintro e4 w4 ⟨rfl, ho4, ht4⟩
  have HT4 := Lib.hid ht4; have HM := Lib.hid ho4.rep; clear ho4 ht4
  have hb4 : Below w1.heap.size w3 w4 := HT4.out.below (fun x hx => by have h1 := hx.1; (first | omega | (simp at h1; done) | (simp at h1; omega))) (by omega)
  have hz4 := HT4.out.size; try simp at hz4
  have BQ0_4 := Lib.hid (Box.over (Box.stay BQ0_2.out (w' := w3) (by (with_reducible (repeat' (first | exact Below.refl _ _ | refine below_alloc ?_ _ ?_ | refine Below.setCell ?_ ?_ _ | refine Below.drew ?_ | refine below_drewN ?_ _ | refine below_step ?_ (by assumption) ?_ | refine below_mark ?_ (by assumption) ?_))); all_goals (first | omega | (simp; done) | (simp; omega)))) HT4.out (fun hx => by have h1 := hx.1; have h2 := hx.2; first | omega | (simp at h1 h2; done) | (simp at h1; done) | (simp at h1; omega) | (simp at h2; omega) | (simp at h1 h2; omega)))
  have BG0_4 := Lib.hid (Box.over (Box.stay BG0_3.out (w' := w3) (by (with_reducible (repeat' (first | exact Below.refl _ _ | refine below_alloc ?_ _ ?_ | refine Below.setCell ?_ ?_ _ | refine Below.drew ?_ | refine below_drewN ?_ _ | refine below_step ?_ (by assumption) ?_ | refine below_mark ?_ (by assumption) ?_))); all_goals (first | omega | (simp; done) | (simp; omega)))) HT4.out (fun hx => by have h1 := hx.1; have h2 := hx.2; first | omega | (simp at h1 h2; done) | (simp at h1; done) | (simp at h1; omega) | (simp at h2; omega) | (simp at h1 h2; omega)))
  have t1 : ((1 + (cnts r0.kids : Nat) : Int) != (1 + (cnts r0.kids : Nat) : Int)) = false := by simp
  have t2 : decide ((1 + (cnts r0.kids : Nat) : Int) < 0) = false := by simp; omega
  have BG0_4 := Lib.hid (Box.stay BG0_4.out (w' := w4) (by (with_reducible (repeat' (first | exact Below.refl _ _ | refine below_alloc ?_ _ ?_ | refine Below.setCell ?_ ?_ _ | refine Below.drew ?_ | refine below_drewN ?_ _ | refine below_step ?_ (by assumption) ?_ | refine below_mark ?_ (by assumption) ?_))); all_goals (first | omega | (simp; done) | (simp; omega))))
  obtain ⟨cBG04_0, cBG04_1, cBG04_2, cBG04_3, cBG04_4⟩ := BG0_4.out.cells
  go_wp2_with fail
  clear cBG04_0 cBG04_1 cBG04_2 cBG04_3 cBG04_4
  refine (held_value _ r0 _ 1 _ HM.out (by (with_reducible (repeat' (first | exact Below.refl _ _ | refine below_alloc ?_ _ ?_ | refine Below.setCell ?_ ?_ _ | refine Below.drew ?_ | refine below_drewN ?_ _ | refine below_step ?_ (by assumption) ?_ | refine below_mark ?_ (by assumption) ?_))); all_goals (first | omega | (simp; done) | (simp; omega))) _ _ _ _ (by omega) (by omega)).mono ?_
  rintro e5 w5 ⟨rfl, hb5⟩
  have hz5 := hb5.size; try simp at hz5
  go_wp2_with fail
  refine (KI.out _ ?_).mono ?_
  · exact (by (with_reducible (repeat' (first | exact Below.refl _ _ | refine below_alloc ?_ _ ?_ | refine Below.setCell ?_ ?_ _ | refine Below.drew ?_ | refine below_drewN ?_ _ | refine below_step ?_ (by assumption) ?_ | refine below_mark ?_ (by assumption) ?_))); all_goals (first | omega | (simp; done) | (simp; omega)))
  rintro e6 w6 ⟨hs0, rfl, hf0, ho0, hb6⟩
  have hz6 := hb6.size; try simp at hz6
  obtain ⟨ha0, hc0, rfl⟩ := ho0.slice
  have hR0 := Lib.hid (show Rep w6 (r0.agg (.slice ha0 r0.kids.length hc0)) r0 from ⟨_, rfl, hf0, ho0.rep⟩)
  have hO0 := Lib.hid ho0.bound
  clear ho0
  unfold V.agg at hR0 ⊢
  have BQ0_6 := Lib.hid (Box.stay BQ0_4.out (w' := w6) (by (with_reducible (repeat' (first | exact Below.refl _ _ | refine below_alloc ?_ _ ?_ | refine Below.setCell ?_ ?_ _ | refine Below.drew ?_ | refine below_drewN ?_ _ | refine below_step ?_ (by assumption) ?_ | refine below_mark ?_ (by assumption) ?_))); all_goals (first | omega | (simp; done) | (simp; omega))))
  obtain ⟨cBQ06_0, cBQ06_1, cBQ06_2, cBQ06_3, cBQ06_4⟩ := BQ0_6.out.cells
  have hnq6 : w1.heap.size < w6.heap.size := by omega
  have hnr6 : w1.heap.size ≠ w6.heap.size := by omega
  go_wp2_with fail
  clear cBQ06_0 cBQ06_1 cBQ06_2 cBQ06_3 cBQ06_4
  refine (eq_any _ _ _ r0 (hR0.out.keep (by (with_reducible (repeat' (first | exact Below.refl _ _ | refine below_alloc ?_ _ ?_ | refine Below.setCell ?_ ?_ _ | refine Below.drew ?_ | refine below_drewN ?_ _ | refine below_step ?_ (by assumption) ?_ | refine below_mark ?_ (by assumption) ?_))); all_goals (first | omega | (simp; done) | (simp; omega)))) (qR0.out.keep (by (with_reducible (repeat' (first | exact Below.refl _ _ | refine below_alloc ?_ _ ?_ | refine Below.setCell ?_ ?_ _ | refine Below.drew ?_ | refine below_drewN ?_ _ | refine below_step ?_ (by assumption) ?_ | refine below_mark ?_ (by assumption) ?_))); all_goals (first | omega | (simp; done) | (simp; omega)))) _ (Below.refl _ _)).mono ?_
  rintro e7 w7 ⟨rfl, hb7⟩
  have hz7 := hb7.size; try simp at hz7
  have BG0_7 := Lib.hid (Box.stay BG0_4.out (w' := w7) (by (with_reducible (repeat' (first | exact Below.refl _ _ | refine below_alloc ?_ _ ?_ | refine Below.setCell ?_ ?_ _ | refine Below.drew ?_ | refine below_drewN ?_ _ | refine below_step ?_ (by assumption) ?_ | refine below_mark ?_ (by assumption) ?_))); all_goals (first | omega | (simp; done) | (simp; omega))))
  obtain ⟨cBG07_0, cBG07_1, cBG07_2, cBG07_3, cBG07_4⟩ := BG0_7.out.cells
  go_wp2_with fail
  clear cBG07_0 cBG07_1 cBG07_2 cBG07_3 cBG07_4
  refine (held_value _ r0 _ 1 _ HM.out (by (with_reducible (repeat' (first | exact Below.refl _ _ | refine below_alloc ?_ _ ?_ | refine Below.setCell ?_ ?_ _ | refine Below.drew ?_ | refine below_drewN ?_ _ | refine below_step ?_ (by assumption) ?_ | refine below_mark ?_ (by assumption) ?_))); all_goals (first | omega | (simp; done) | (simp; omega))) _ _ _ _ (by omega) (by omega)).mono ?_
  rintro e8 w8 ⟨rfl, hb8⟩
  have hz8 := hb8.size; try simp at hz8
  go_wp2_with fail
  go_ret
  exact ⟨rfl, (by (with_reducible (repeat' (first | exact Below.refl _ _ | refine below_alloc ?_ _ ?_ | refine Below.setCell ?_ ?_ _ | refine Below.drew ?_ | refine below_drewN ?_ _ | refine below_step ?_ (by assumption) ?_ | refine below_mark ?_ (by assumption) ?_))); all_goals (first | omega | (simp; done) | (simp; omega)))⟩
theorem walk_FnExactGetMsg {w00 : World} (t0 : ByteArray) (hv00 : t0.size ≤ maxLen) (t1 : Int) (hv10 : (Lit.int .i64 t1).wf = true) (w : World) (hww : w = w00) (hE : Env w) : Calls Tryd.prog 5 #[.string t0, .int .i64 t1] w (LawRet w) := by
  by_cases hb0 : t0.size ≤ 1048576
  · exact walkS_FnExactGetMsg t0 hb0 t1 hv10 w hww hE
  · subst hww
    have hv0 : t0.size ≤ 9223372036854775807 := by simpa [maxLen] using hv00
    have tz : decide ((1048576 : Int) < (t0.size : Int)) = true := decide_eq_true (by omega)
    go_enter Tryd.func5, Tryd.ntmps5
    go_wp2_with fail
    go_ret
    exact ⟨rfl, Below.refl _ _⟩
set_option maxRecDepth 100000 in
set_option maxHeartbeats 2000000 in
theorem lifted_FnExactGetMsg (os : Os) (started : os.Started) (H : Type) (enc : TypeId × Value → H) :
    ReturnsInHanded {} Tryd.checked os 5 .any (fun w args => (Rows.fnExactGetMsgSpec.pre enc Tryd.prog Tryd.f5 [] false w args ∧ laidMetH Tryd.prog Rows.fnExactGetMsgRow.laid w) ∧ sizedMet enc Tryd.prog Tryd.f5 (OpenSpec.ofChange Rows.fnExactGetMsgSpec) false w args)
      (Rows.fnExactGetMsgSpec.post enc Tryd.prog Tryd.f5 false true false false) := by
  refine returnsInHanded_of_change_and (C := Tryd.checked) (X := fun w _ => laidMetH Tryd.prog Rows.fnExactGetMsgRow.laid w) (fun _ _ _ hh h => h.of_heap hh) lawOwn started (by kernel_rfl) Tryd.func5
    (ChangeSpec.witness_shaped (enc := enc) (C := Tryd.checked) (os := os) (X := fun w _ => laidMetH Tryd.prog Rows.fnExactGetMsgRow.laid w) false (World.laidAll Tryd.prog os Rows.fnExactGetMsgRow.laid) #[.string ByteArray.empty, .int .i64 0] 8 (World.laidAll_os _ _ _)
      (World.shaped_of_ZipB (by kernel_rfl) (by kernel_rfl)) (by kernel_rfl) (by kernel_rfl) (by kernel_rfl)
      (by rw [MakeChecks.laidMetH_plain _ _ _ (by kernel_rfl)]; exact laidMet_laidAll _ (by kernel_rfl) (by kernel_rfl))) ?_
  intro W base args ds gs before hval0 hW _ _ hL _
  have hval : ∀ (j : Nat) t v, Tryd.f5.params[j]? = some t → args[j]? = some v → Value.okWide Tryd.prog W .any base t v := hval0
  have hW' := hW
  obtain ⟨p, q, hA0, hV, hpq, hfz, hnd⟩ := hW
  have hA : DataW.TrodAll enc Tryd.prog W 0 (fun _ => true) true Tryd.f5.params.toList args.toList ds p := hA0
  rw [Tryd.params5] at hA hval
  rw [MakeChecks.laidMetH_plain _ _ _ (by kernel_rfl)] at hL
  have hE : Env W := env_of (Lib.laidMet.reads hL (.tail _ (.head _))) (Lib.laidMet.reads hL (.head _))
  obtain ⟨v0, vs0, d0, ds0, p0, q0, hargs, rfl, hp, h0, r0⟩ := trodAll_cons hA
  obtain ⟨v1, vs1, d1, ds1, p1, q1, rfl, rfl, rfl, h1, r1⟩ := trodAll_cons r0
  obtain ⟨rfl, rfl, rfl⟩ := trodAll_nil r1
  obtain rfl : args = #[v0, v1] := by cases args; simp_all
  obtain ⟨a0, rfl, rfl, rfl, w0⟩ := open_string Tryd.underlying9 (hval 0 9 v0 rfl rfl) h0
  obtain ⟨a1, rfl, rfl, rfl, w1⟩ := open_int Tryd.underlying3 (hval 1 3 v1 rfl rfl) h1
  refine (walk_FnExactGetMsg a0 w0 a1 w1 W rfl hE).mono fun e W' ⟨he, hb⟩ => ?_
  subst he
  refine ⟨_, rfl, law_post rfl rfl rfl ?_ hW' hb⟩
  rw [Tryd.params5]
  intro t ht
  simp only [List.mem_cons, List.not_mem_nil, or_false] at ht
  rcases ht with rfl | rfl
  all_goals exact ⟨by kernel_rfl, of_decide_eq_true (by kernel_rfl)⟩
set_option maxHeartbeats 4000000 in
theorem row_FnExactGetMsg : Rows.FnExactGetMsgSaid :=
  OpenClaim.holds_of_wide 5 Tryd.f5 rfl rfl rfl rfl rfl rfl rfl ⟨rfl, rfl, rfl, rfl, rfl⟩ rfl rfl rfl rfl rfl (by as_aux_lemma => kernel_rfl) Tryd.func5 (by as_aux_lemma => kernel_rfl)
    (of_decide_eq_true (by as_aux_lemma => kernel_rfl)) (by unfold Func.isWrapper; first | (rw [if_pos (by decide +kernel)]; kernel_rfl) | (rw [if_neg (by decide +kernel)]; exact ⟨rfl, rfl⟩))
    (fun os started H enc _ => lifted_FnExactGetMsg os started H enc)
set_option maxHeartbeats 4000000 in
/-- THE STATEMENT -/
theorem holds_FnExactGetMsgCard : Rows.FnExactGetMsgCardSaid :=
  Claim7.holds_tied_plain_at .later [] [.data, .pinned] true (true, "b60840f14b9675725a7269d78c136b638806e2d6dbbee350c7212ba12e8adb3a") false row_FnExactGetMsg (fun _ h => by cases h) (by as_aux_lemma => kernel_rfl) (fun _ h => by cases h) fnExactGetMsg_row_tie rfl ⟨rfl, rfl⟩ (by as_aux_lemma => kernel_rfl) rfl
    (fun f fn hf hfn => by
      obtain rfl : f = 5 := Option.some.inj ((show Tryd.prog.funcNamed "loop.example/g00421/laws.FnExactGetMsg" = some 5 by as_aux_lemma => kernel_rfl).symm.trans hf) |>.symm
      obtain rfl : fn = Tryd.f5 := (Option.some.inj (Tryd.func5.symm.trans hfn)).symm
      exact ⟨by as_aux_lemma => kernel_rfl, fun j t ht => by
        have hm : t ∈ Tryd.f5.params.toList := by simpa using Array.mem_of_getElem? ht
        have hall : (Tryd.f5.params.toList.all fun u => !Tryd.prog.wantsStandIn u) = true := by as_aux_lemma => kernel_rfl
        exact (show Tryd.prog.wantsStandIn t = false by simpa using List.all_eq_true.1 hall t hm)⟩)
    (by as_aux_lemma => kernel_rfl)
#print axioms holds_FnExactGetMsgCard
end Go.Proofs.YtiemlefmhleaeaaDoor
