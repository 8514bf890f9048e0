/- Lemmas for the statement of the last text of this claim: texts joined. -/
import Derived.Test.YtgbgeocmjdgmoaaDoorFnMsgK01
import Derived.Test.YtgbgeocmjdgmoaaDoorFnMsgK02
import Derived.Test.YtgbgeocmjdgmoaaDoorFnMsgK09
import Derived.Test.YtgbgeocmjdgmoaaDoorFnMsgK11
import Derived.Test.YtgbgeocmjdgmoaaDoorFnMsgK12
import Derived.WalkSpells
import Derived.Lib.Hide
import Derived.Deep.RegionWith
import Derived.StillTailTactics
import Derived.Test.YtgbgeocmjdgmoaaDoorTie
import Derived.Test.YtgbgeocmjdgmoaaDoorCards
import Derived.PinnedBridge
import Derived.Lay
import Derived.LaidOnce
import Derived.SevenTiedAt
import Derived.Lib.LaidU8T
import Derived.Lib.LaidIn
namespace Go.Proofs.YtgbgeocmjdgmoaaDoor
set_option linter.unusedSimpArgs false
set_option linter.unusedVariables false
set_option maxRecDepth 100000
open Go.RowKit
theorem keep8 {w W w2 : World} {b c i j : Nat} {x0 x1 x2 x3 x4 x5 x6 : Value} (hb : Below W.heap.size W w2) (h : W.cell? ⟨b, 0, none⟩ = some x0 ∧ W.cell? ⟨b, 1, none⟩ = some x1 ∧ W.cell? ⟨b, 2, none⟩ = some x2 ∧ W.cell? ⟨b, 3, none⟩ = some x3 ∧ W.cell? ⟨b, 4, none⟩ = some x4 ∧ W.cell? ⟨c, i, none⟩ = some x5 ∧ W.cell? ⟨c, j, none⟩ = some x6 ∧ Below w.heap.size w W) :
    w2.cell? ⟨b, 0, none⟩ = some x0 ∧ w2.cell? ⟨b, 1, none⟩ = some x1 ∧ w2.cell? ⟨b, 2, none⟩ = some x2 ∧ w2.cell? ⟨b, 3, none⟩ = some x3 ∧ w2.cell? ⟨b, 4, none⟩ = some x4 ∧ w2.cell? ⟨c, i, none⟩ = some x5 ∧ w2.cell? ⟨c, j, none⟩ = some x6 ∧ Below w.heap.size w w2 :=
  ⟨keep1 hb h.1, keep1 hb h.2.1, keep1 hb h.2.2.1, keep1 hb h.2.2.2.1, keep1 hb h.2.2.2.2.1, keep1 hb h.2.2.2.2.2.1, keep1 hb h.2.2.2.2.2.2.1, h.2.2.2.2.2.2.2.trans (hb.mono h.2.2.2.2.2.2.2.size)⟩
theorem Box.drew {w : World} {b : Nat} {k n e : Int} {s : ByteArray} {sl : Value} {T : TypeId} (h : Box w b k n e s sl T) : Box w.drew b k n e s sl T := h
set_option maxHeartbeats 2000000 in
theorem GetMsg_impl0 (w0 : World) (s : ByteArray) (hs : s.size ≤ 1048576) (i : Int) (hi : In64 i) (w : World) (hw : Below w0.heap.size w0 w) (hE : Env w0) :
    Calls Tryd.prog 40 #[.string s, .int .i64 i] w (VIRet w (msgR2 s i)) := by
  obtain ⟨hi0, hi1⟩ := hi
  have BZ := Lib.hid (Box.new w 0 0 0 ⟨#[]⟩ (.slice none 0 0) 26)
  obtain ⟨z0, z1, z2, z3, z4⟩ := BZ.out.cells
  have zf0 := BZ.out.free (i := 0); have zf1 := BZ.out.free (i := 1); have zf2 := BZ.out.free (i := 2); have zf3 := BZ.out.free (i := 3); have zf4 := BZ.out.free (i := 4)
  by_cases h1 : i < 0 ∨ (s.size : Int) < i
  · rw [msgR2_out (by omega)]
    have IN := Lib.hid (fun W => within_no i 0 s.size W (by omega))
    clear h1
    go_enter Tryd.func40, Tryd.ntmps40
    go_wp2_with fail
    refine (IN.out _).mono ?_
    rintro e5 w5 ⟨rfl, rfl⟩
    go_wp2_with fail
    refine bodyPost_ret (v := .tuple #[.agg #[.int .i64 0, .int .i64 0, .int .i64 0, .string ⟨#[]⟩, .slice none 0 0], .int .i64 (-1)]) (by simp [results, Tryd.results40, go_sem, z0, z1, z2, z3, z4]) rfl (vi_zero ((by (with_reducible (repeat' (first | exact Below.refl _ _ | refine below_alloc ?_ _ ?_ | refine Below.setCell ?_ ?_ _ | refine Below.drew ?_ | refine below_drewN ?_ _ | refine below_step ?_ (by assumption) ?_ | refine below_mark ?_ (by assumption) ?_))); all_goals (first | omega | (simp; done) | (simp; omega)))))
  obtain ⟨k, rfl⟩ : ∃ k : Nat, i = (k : Int) := ⟨i.toNat, by omega⟩
  have hk : k ≤ s.size := by omega
  have IN := Lib.hid (fun W => within_yes (k : Int) 0 s.size W (by omega) (by omega))
  have HE := Lib.hid (show msgR2 s (k : Int) = msgC (mget s 13 k 300) s k by unfold msgR2; rw [if_pos (by omega), Int.toNat_natCast])
  have HG := Lib.hid (fun v j m (h : mget s 13 k 300 = some (v, j, m)) => mget_good hs 13 k 300 v j m h)
  have CL := Lib.hid (fun (r : Nat) (W : World) (h : UB W r s k 0 false) => show Calls Tryd.prog 120 #[.pointer (some ⟨r, 0, none⟩), .int .i64 0] W (UmRet r s (mget s 13 k 300) W) from
    value_any r s hs 13 0 (by omega) (by omega) k 300 W (by omega) (by omega) (by rw [show (300 : Int) - ((300 : Nat) : Int) = 0 by omega]; exact h))
  rw [HE.out]
  generalize mget s 13 k 300 = o at *
  clear HE h1 hi0 hi1
  have UB5 := Lib.hid (show UB ((w.alloc (.cells #[.int .i64 0, .int .i64 0, .int .i64 0, .string ⟨#[]⟩, .slice none 0 0] 26)).alloc (.cells #[.string s, .int .i64 (k : Int), .int .i64 0, .bool false] 113)) (w.heap.size + 1) s k 0 false from heap_alloc_here _ (by simp))
  have hz5 : ((w.alloc (.cells #[.int .i64 0, .int .i64 0, .int .i64 0, .string ⟨#[]⟩, .slice none 0 0] 26)).alloc (.cells #[.string s, .int .i64 (k : Int), .int .i64 0, .bool false] 113)).heap.size = w.heap.size + 1 + 1 := by simp
  have HB5 := Lib.hid (show Below w.heap.size w ((w.alloc (.cells #[.int .i64 0, .int .i64 0, .int .i64 0, .string ⟨#[]⟩, .slice none 0 0] 26)).alloc (.cells #[.string s, .int .i64 (k : Int), .int .i64 0, .bool false] 113)) from (by (with_reducible (repeat' (first | exact Below.refl _ _ | refine below_alloc ?_ _ ?_ | refine Below.setCell ?_ ?_ _ | refine Below.drew ?_ | refine below_drewN ?_ _ | refine below_step ?_ (by assumption) ?_ | refine below_mark ?_ (by assumption) ?_))); all_goals (first | omega | (simp; done) | (simp; omega))))
  have BZ5 := Lib.hid (show Box ((w.alloc (.cells #[.int .i64 0, .int .i64 0, .int .i64 0, .string ⟨#[]⟩, .slice none 0 0] 26)).alloc (.cells #[.string s, .int .i64 (k : Int), .int .i64 0, .bool false] 113)) w.heap.size 0 0 0 ⟨#[]⟩ (.slice none 0 0) 26 from (BZ.out).alloc _)
  cases o with
  | none =>
    go_enter Tryd.func40, Tryd.ntmps40
    go_wp2_with fail
    refine (IN.out _).mono ?_
    rintro e5 w5 ⟨rfl, rfl⟩
    go_wp2_with fail
    refine (CL.out _ _ UB5.out).mono ?_
    rintro e w6 ⟨t, sl, rfl, twf, tow, htq, hst, ht6⟩
    obtain ⟨ua, un, uc, rfl⟩ : ∃ sa sn sc, sl = .slice sa sn sc := by obtain ⟨p, q, e⟩ := tow.slice; exact ⟨p, _, q, e⟩
    have hz6 := ht6.size
    rw [hz5] at hz6
    have BZ6 := Lib.hid (show Box w6 w.heap.size 0 0 0 ⟨#[]⟩ (.slice none 0 0) 26 from (ht6.block w.heap.size (by omega) (by omega)).trans BZ5.out)
    have HB6 := Lib.hid (show Below w.heap.size w w6 from HB5.out.trans (ht6.below (fun x hx => by omega) (by omega)))
    clear z0 z1 z2 z3 z4 zf0 zf1 zf2 zf3 zf4
    obtain ⟨z0, z1, z2, z3, z4⟩ := BZ6.out.cells
    have zf0 := BZ6.out.free (i := 0); have zf1 := BZ6.out.free (i := 1); have zf2 := BZ6.out.free (i := 2); have zf3 := BZ6.out.free (i := 3); have zf4 := BZ6.out.free (i := 4)
    have hm1 : w.heap.size ≠ w6.heap.size := by omega
    have hm2 : w6.heap.size ≠ w.heap.size := by omega
    have hm3 : w.heap.size < w6.heap.size := by omega
    have hm4 : w.heap.size + 1 ≠ w6.heap.size := by omega
    have hm5 : w6.heap.size ≠ w.heap.size + 1 := by omega
    have hm6 : w.heap.size + 1 < w6.heap.size := by omega
    obtain ⟨p, c, hp, hub⟩ := hst
    obtain ⟨u0, u1, u2, u3, f1, f2, f3⟩ := hub.cells
    unfold V.agg
    clear CL HG UB5 BZ BZ5 BZ6 ht6 htq hub tow twf
    have HBT := Lib.hid HB6.out
    go_wp2_with fail
    go_quiet (fail)
    go_wp2_with fail
    refine bodyPost_ret (v := .tuple #[.agg #[.int .i64 0, .int .i64 0, .int .i64 0, .string ⟨#[]⟩, .slice none 0 0], .int .i64 (-1)]) (by simp [results, Tryd.results40, go_sem, z0, z1, z2, z3, z4, hm1, hm2, hm3]) rfl (vi_zero ?_)
    have HD : ∀ (W : World) (q : Nat), Below w.heap.size w W → Below w.heap.size w (W.drewN q) := fun W q h => h.trans ⟨rfl, rfl, rfl, Nat.le_refl _, fun _ _ => rfl⟩
    exact vb_set5 (HD _ _ (below_alloc HBT.out _ (by omega))) _ (Nat.le_refl _) _ _ _ _ _
  | some q =>
    obtain ⟨v, j, m⟩ := q
    obtain ⟨hg1, hg2, hg3, hg4, hg5⟩ := HG.out v j m rfl
    have HQ := Lib.hid (show msgC (some (v, j, m)) s k = if mpB v = (s.extract k j).data.toList then (v, (j : Int)) else (VZ0, -1) from rfl)
    go_enter Tryd.func40, Tryd.ntmps40
    go_wp2_with fail
    refine (IN.out _).mono ?_
    rintro e5 w5 ⟨rfl, rfl⟩
    go_wp2_with fail
    refine (CL.out _ _ UB5.out).mono ?_
    rintro e w6 ⟨t, sl, rfl, twf, tow, htq, hst, ht6⟩
    obtain ⟨ua, un, uc, rfl⟩ : ∃ sa sn sc, sl = .slice sa sn sc := by obtain ⟨p, q, e⟩ := tow.slice; exact ⟨p, _, q, e⟩
    obtain rfl : v = t := (htq _ rfl).symm
    have hz6 := ht6.size
    rw [hz5] at hz6
    have BZ6 := Lib.hid (show Box w6 w.heap.size 0 0 0 ⟨#[]⟩ (.slice none 0 0) 26 from (ht6.block w.heap.size (by omega) (by omega)).trans BZ5.out)
    have HB6 := Lib.hid (show Below w.heap.size w w6 from HB5.out.trans (ht6.below (fun x hx => by omega) (by omega)))
    clear z0 z1 z2 z3 z4 zf0 zf1 zf2 zf3 zf4
    obtain ⟨z0, z1, z2, z3, z4⟩ := BZ6.out.cells
    have zf0 := BZ6.out.free (i := 0); have zf1 := BZ6.out.free (i := 1); have zf2 := BZ6.out.free (i := 2); have zf3 := BZ6.out.free (i := 3); have zf4 := BZ6.out.free (i := 4)
    have hm1 : w.heap.size ≠ w6.heap.size := by omega
    have hm2 : w6.heap.size ≠ w.heap.size := by omega
    have hm3 : w.heap.size < w6.heap.size := by omega
    have hm4 : w.heap.size + 1 ≠ w6.heap.size := by omega
    have hm5 : w6.heap.size ≠ w.heap.size + 1 := by omega
    have hm6 : w.heap.size + 1 < w6.heap.size := by omega
    have hub : UB w6 (w.heap.size + 1) s j (300 - (m : Int)) false := hst
    obtain ⟨u0, u1, u2, u3, f1, f2, f3⟩ := hub.cells
    have UD := Lib.hid (show (w6.alloc (.cells #[.int .i64 v.k, .int .i64 v.n, .int .i64 v.e, .string v.s, .slice ua un uc] 26)).drew.cell? ⟨w.heap.size + 1, 1, none⟩ = some (.int .i64 (j : Int)) ∧ (w6.alloc (.cells #[.int .i64 v.k, .int .i64 v.n, .int .i64 v.e, .string v.s, .slice ua un uc] 26)).drew.cell? ⟨w.heap.size + 1, 3, none⟩ = some (.bool false) from by
      have h9 := (hub.stay (((Below.refl _ _).alloc (Nat.le_refl _) (.cells #[.int .i64 v.k, .int .i64 v.n, .int .i64 v.e, .string v.s, .slice ua un uc] 26)).drew)).cells
      exact ⟨h9.2.1, h9.2.2.2.1⟩)
    have PM := Lib.hid (fun (W : World) (hW : W.cell? ⟨w6.heap.size, 0, none⟩ = some (.int .i64 v.k) ∧ W.cell? ⟨w6.heap.size, 1, none⟩ = some (.int .i64 v.n) ∧ W.cell? ⟨w6.heap.size, 2, none⟩ = some (.int .i64 v.e) ∧ W.cell? ⟨w6.heap.size, 3, none⟩ = some (.string v.s) ∧ W.cell? ⟨w6.heap.size, 4, none⟩ = some (.slice ua un uc) ∧ W.cell? ⟨w.heap.size + 1, 1, none⟩ = some (.int .i64 (j : Int)) ∧ W.cell? ⟨w.heap.size + 1, 3, none⟩ = some (.bool false) ∧ Below w6.heap.size w6 W) => PutMsg_impl w6 (Env.keep hE (hw.trans (HB6.out.mono hw.size))) (v.agg (.slice ua un uc)) v ⟨_, rfl, twf, tow.rep⟩ (by omega) W hW.2.2.2.2.2.2.2)
    have hkj : (k : Int) ≤ (j : Int) := by omega
    have hj0 : (0 : Int) ≤ (j : Int) := by omega
    have tj : decide ((j : Int) < 0) = false := decide_eq_false (by omega)
    have hjs : (j : Int) ≤ (s.size : Int) := by omega
    have HVI := Lib.hid (show ∀ w', Below w.heap.size w w' → OwnS w' (fun x => w.heap.size ≤ x) (.slice ua un uc) v.kids → VIRet w (v, (j : Int)) (.returned (.tuple #[v.agg (.slice ua un uc), .int .i64 (j : Int)])) w' from fun w' h1 h2 => ⟨_, rfl, twf, h2, h1⟩)
    have HO6 := Lib.hid (show OwnS w6 (fun x => w.heap.size + 1 + 1 ≤ x) (.slice ua un uc) v.kids from OwnS.mono tow (fun x hx => by rw [hz5] at hx; exact hx))
    have HM8 := Lib.hid (show w.heap.size + 1 + 1 ≤ w.heap.size → False by omega)
    have HM9 := Lib.hid (show ∀ x, w.heap.size + 1 + 1 ≤ x → w.heap.size ≤ x by intro x hx; omega)
    have BV := Lib.hid (Box.drew (Box.new w6 v.k v.n v.e v.s (.slice ua un uc) 26))
    clear CL HG UB5 BZ BZ5 ht6 tow twf htq hst hub hg1 hg3 hg4 hg5
    unfold V.agg at PM HVI ⊢
    by_cases hc : (⟨(mpB v).toArray⟩ : ByteArray) = s.extract k j
    · have t1 := bne_no hc
      have t2 := ba_yes hc
      have hlist : mpB v = (s.extract k j).data.toList := by rw [← hc]
      have HE2 := Lib.hid (show msgC (some (v, j, m)) s k = (v, (j : Int)) from by rw [HQ.out, if_pos hlist])
      clear hlist HQ hc
      unfold TxtRet bstr at PM
      generalize (⟨(mpB v).toArray⟩ : ByteArray) = C at *
      have hS00 : (fun W => W.cell? ⟨w6.heap.size, 0, none⟩ = some (.int .i64 v.k) ∧ W.cell? ⟨w6.heap.size, 1, none⟩ = some (.int .i64 v.n) ∧ W.cell? ⟨w6.heap.size, 2, none⟩ = some (.int .i64 v.e) ∧ W.cell? ⟨w6.heap.size, 3, none⟩ = some (.string v.s) ∧ W.cell? ⟨w6.heap.size, 4, none⟩ = some (.slice ua un uc) ∧ W.cell? ⟨w.heap.size + 1, 1, none⟩ = some (.int .i64 (j : Int)) ∧ W.cell? ⟨w.heap.size + 1, 3, none⟩ = some (.bool false) ∧ Below w6.heap.size w6 W) (w6.alloc (.cells #[.int .i64 v.k, .int .i64 v.n, .int .i64 v.e, .string v.s, .slice ua un uc] 26)).drew := by
        obtain ⟨v0, v1, v2, v3, v4⟩ := BV.out.cells
        exact ⟨v0, v1, v2, v3, v4, UD.out.1, UD.out.2, ((Below.refl _ _).alloc (Nat.le_refl _) _).drew⟩
      go_wp2_with fail
      go_region_held3 (fun W => W.cell? ⟨w6.heap.size, 0, none⟩ = some (.int .i64 v.k) ∧ W.cell? ⟨w6.heap.size, 1, none⟩ = some (.int .i64 v.n) ∧ W.cell? ⟨w6.heap.size, 2, none⟩ = some (.int .i64 v.e) ∧ W.cell? ⟨w6.heap.size, 3, none⟩ = some (.string v.s) ∧ W.cell? ⟨w6.heap.size, 4, none⟩ = some (.slice ua un uc) ∧ W.cell? ⟨w.heap.size + 1, 1, none⟩ = some (.int .i64 (j : Int)) ∧ W.cell? ⟨w.heap.size + 1, 3, none⟩ = some (.bool false) ∧ Below w6.heap.size w6 W) (first | with_reducible exact ⟨by assumption, by assumption, by assumption, by assumption, by assumption, by assumption, by assumption, by assumption⟩ | with_reducible assumption | exact hS00 | go_keep) (((with_reducible refine (PM.out _ (by with_reducible assumption)).mono ?_); rintro e8 w8 ⟨rfl, hb8⟩; have hS := keep8 hb8 (by with_reducible assumption); obtain ⟨hS0, hS1, hS2, hS3, hS4, hS6, hS7, hS5⟩ := hS))
      clear hS00
      have hz8 := hS5.size
      have BZ8 := Lib.hid (show Box w8 w.heap.size 0 0 0 ⟨#[]⟩ (.slice none 0 0) 26 from BZ6.out.stay hS5)
      clear z0 z1 z2 z3 z4 zf0 zf1 zf2 zf3 zf4
      obtain ⟨z0, z1, z2, z3, z4⟩ := BZ8.out.cells
      have zf0 := BZ8.out.free (i := 0); have zf1 := BZ8.out.free (i := 1); have zf2 := BZ8.out.free (i := 2); have zf3 := BZ8.out.free (i := 3); have zf4 := BZ8.out.free (i := 4)
      have HS5 := Lib.hid hS5
      clear hS5 hb8
      go_wp2_with fail
      go_region
      go_wp2_with fail
      refine bodyPost_ret (v := .tuple #[.agg #[.int .i64 v.k, .int .i64 v.n, .int .i64 v.e, .string v.s, .slice ua un uc], .int .i64 (j : Int)]) (by simp [results, Tryd.results40, go_sem, z0, z1, z2, z3, z4]) rfl (by rw [HE2.out]; exact HVI.out _ (Below.drew (vb_set5 (HB6.out.trans (HS5.out.mono HB6.out.size)) w.heap.size (Nat.le_refl _) _ _ _ _ _)) (OwnS.drew (OwnS.mono (OwnS.set5 (HO6.out.stay HS5.out) w.heap.size HM8.out _ _ _ _ _) HM9.out)))
    · have t1 := bne_yes hc
      have t2 := ba_no hc
      have hlist : ¬ mpB v = (s.extract k j).data.toList := fun e => hc (by rw [e])
      have HE2 := Lib.hid (show msgC (some (v, j, m)) s k = (VZ0, -1) from by rw [HQ.out, if_neg hlist])
      clear hlist HQ hc
      unfold TxtRet bstr at PM
      generalize (⟨(mpB v).toArray⟩ : ByteArray) = C at *
      have hS00 : (fun W => W.cell? ⟨w6.heap.size, 0, none⟩ = some (.int .i64 v.k) ∧ W.cell? ⟨w6.heap.size, 1, none⟩ = some (.int .i64 v.n) ∧ W.cell? ⟨w6.heap.size, 2, none⟩ = some (.int .i64 v.e) ∧ W.cell? ⟨w6.heap.size, 3, none⟩ = some (.string v.s) ∧ W.cell? ⟨w6.heap.size, 4, none⟩ = some (.slice ua un uc) ∧ W.cell? ⟨w.heap.size + 1, 1, none⟩ = some (.int .i64 (j : Int)) ∧ W.cell? ⟨w.heap.size + 1, 3, none⟩ = some (.bool false) ∧ Below w6.heap.size w6 W) (w6.alloc (.cells #[.int .i64 v.k, .int .i64 v.n, .int .i64 v.e, .string v.s, .slice ua un uc] 26)).drew := by
        obtain ⟨v0, v1, v2, v3, v4⟩ := BV.out.cells
        exact ⟨v0, v1, v2, v3, v4, UD.out.1, UD.out.2, ((Below.refl _ _).alloc (Nat.le_refl _) _).drew⟩
      go_wp2_with fail
      go_region_held3 (fun W => W.cell? ⟨w6.heap.size, 0, none⟩ = some (.int .i64 v.k) ∧ W.cell? ⟨w6.heap.size, 1, none⟩ = some (.int .i64 v.n) ∧ W.cell? ⟨w6.heap.size, 2, none⟩ = some (.int .i64 v.e) ∧ W.cell? ⟨w6.heap.size, 3, none⟩ = some (.string v.s) ∧ W.cell? ⟨w6.heap.size, 4, none⟩ = some (.slice ua un uc) ∧ W.cell? ⟨w.heap.size + 1, 1, none⟩ = some (.int .i64 (j : Int)) ∧ W.cell? ⟨w.heap.size + 1, 3, none⟩ = some (.bool false) ∧ Below w6.heap.size w6 W) (first | with_reducible exact ⟨by assumption, by assumption, by assumption, by assumption, by assumption, by assumption, by assumption, by assumption⟩ | with_reducible assumption | exact hS00 | go_keep) (((with_reducible refine (PM.out _ (by with_reducible assumption)).mono ?_); rintro e8 w8 ⟨rfl, hb8⟩; have hS := keep8 hb8 (by with_reducible assumption); obtain ⟨hS0, hS1, hS2, hS3, hS4, hS6, hS7, hS5⟩ := hS))
      clear hS00
      have hz8 := hS5.size
      have BZ8 := Lib.hid (show Box w8 w.heap.size 0 0 0 ⟨#[]⟩ (.slice none 0 0) 26 from BZ6.out.stay hS5)
      clear z0 z1 z2 z3 z4 zf0 zf1 zf2 zf3 zf4
      obtain ⟨z0, z1, z2, z3, z4⟩ := BZ8.out.cells
      have zf0 := BZ8.out.free (i := 0); have zf1 := BZ8.out.free (i := 1); have zf2 := BZ8.out.free (i := 2); have zf3 := BZ8.out.free (i := 3); have zf4 := BZ8.out.free (i := 4)
      have HS5 := Lib.hid hS5
      clear hS5 hb8
      go_wp2_with fail
      refine bodyPost_ret (v := .tuple #[.agg #[.int .i64 0, .int .i64 0, .int .i64 0, .string ⟨#[]⟩, .slice none 0 0], .int .i64 (-1)]) (by simp [results, Tryd.results40, go_sem, z0, z1, z2, z3, z4]) rfl (by rw [HE2.out]; exact vi_zero (vb_set5 (HB6.out.trans (HS5.out.mono HB6.out.size)) _ (Nat.le_refl _) _ _ _ _ _))
end Go.Proofs.YtgbgeocmjdgmoaaDoor
namespace Go.Proofs.YtgbgeocmjdgmoaaDoor
set_option linter.unusedSimpArgs false
set_option linter.unusedVariables false
set_option maxRecDepth 100000
open Go.RowKit
set_option maxHeartbeats 4000000 in
theorem lsame_any (w0 : World) : ∀ (N : Nat) (t : V) (a b : Value), t.sz < N → Rep w0 a t → Rep w0 b t → ∀ (w : World), Below w0.heap.size w0 w →
    Calls Tryd.prog 16 #[a, b] w (LawRet w) := by
  intro N
  induction N with
  | zero => intro t a b h; omega
  | succ N ih =>
  intro t a b hN ha hb w hw
  obtain ⟨sl, rfl, hwf, hr⟩ := ha
  obtain ⟨sm, rfl, -, hr2⟩ := hb
  have hsz := V.sz_eq t
  generalize t.kids = ts at *
  unfold V.agg
  generalize t.k = k at *
  generalize t.n = n at *
  generalize t.e = e at *
  generalize t.s = s at *
  cases hr with
  | mk a b off cap ts sls ha hc hm hbb cells wfs kids =>
  cases hr2 with
  | mk a2 b2 off2 cap2 ts2 sls2 ha2 hc2 hm2 hbb2 cells2 wfs2 kids2 =>
  have IH := Lib.hid (fun (i : Nat) (hi : i < ts.length) (w' : World) (hw' : Below w0.heap.size w0 w') => ih ts[i] (ts[i].agg (sls i)) (ts[i].agg (sls2 i)) (by have := szs_mem (List.getElem_mem hi); omega) ⟨_, rfl, wfs i hi, kids i hi⟩ ⟨_, rfl, wfs i hi, kids2 i hi⟩ w' hw')
  have CC := Lib.hid cells; have HA := Lib.hid ha; have CC2 := Lib.hid cells2; have HA2 := Lib.hid ha2
  have hss : (s.toList != s.toList) = false := by simp
  clear ih cells wfs kids ha cells2 wfs2 kids2 ha2 hsz hN hwf
  have BX := Lib.hid (show Box ((w.alloc (.cells #[.int .i64 k, .int .i64 n, .int .i64 e, .string s, .slice a ts.length cap] 26)).alloc (.cells #[.int .i64 k, .int .i64 n, .int .i64 e, .string s, .slice a2 ts.length cap2] 26)) w.heap.size k n e s (.slice a ts.length cap) 26 from (Box.new w _ _ _ _ _ _).alloc _)
  have BY := Lib.hid (show Box ((w.alloc (.cells #[.int .i64 k, .int .i64 n, .int .i64 e, .string s, .slice a ts.length cap] 26)).alloc (.cells #[.int .i64 k, .int .i64 n, .int .i64 e, .string s, .slice a2 ts.length cap2] 26)) (w.heap.size + 1) k n e s (.slice a2 ts.length cap2) 26 from (by
    have h := Box.new (w.alloc (.cells #[.int .i64 k, .int .i64 n, .int .i64 e, .string s, .slice a ts.length cap] 26)) k n e s (.slice a2 ts.length cap2) 26
    have e2 : (w.alloc (.cells #[.int .i64 k, .int .i64 n, .int .i64 e, .string s, .slice a ts.length cap] 26)).heap.size = w.heap.size + 1 := by simp
    rw [e2] at h; exact h))
  have HB2 := Lib.hid (show Below w.heap.size w ((w.alloc (.cells #[.int .i64 k, .int .i64 n, .int .i64 e, .string s, .slice a ts.length cap] 26)).alloc (.cells #[.int .i64 k, .int .i64 n, .int .i64 e, .string s, .slice a2 ts.length cap2] 26)) from (by (repeat' (first | with_reducible exact Below.refl _ _ | with_reducible refine below_alloc ?_ _ ?_ | with_reducible refine Below.setCell ?_ ?_ _ | with_reducible refine Below.drew ?_ | with_reducible refine below_drewN ?_ _ | with_reducible refine below_step ?_ (by assumption) ?_ | with_reducible refine below_mark ?_ (by assumption) ?_)); all_goals (first | omega | (simp; done) | (simp; omega))))
  go_enter Tryd.func16, Tryd.ntmps16
  go_wp2_with fail
  generalize ((w.alloc (.cells #[.int .i64 k, .int .i64 n, .int .i64 e, .string s, .slice a ts.length cap] 26)).alloc (.cells #[.int .i64 k, .int .i64 n, .int .i64 e, .string s, .slice a2 ts.length cap2] 26)) = W2 at *
  go_loopw [5] (fun i wr => ∃ j : Nat, j ≤ ts.length ∧ i = .int .i64 j ∧ Below W2.heap.size W2 wr) (fun i _ => ts.length - (intOf i).toNat)
  case atStart => exact ⟨0, by omega, rfl, Below.refl _ _⟩
  case round =>
    obtain ⟨j, hj, rfl, hbl⟩ := hrel
    have hz2 := HB2.out.size
    obtain ⟨p0, p1, p2, p3, p4⟩ := (BX.out.stay hbl).cells
    obtain ⟨q0, q1, q2, q3, q4⟩ := (BY.out.stay hbl).cells
    have hwr0 : Below w0.heap.size w0 wr := (hw.trans (HB2.out.mono hw.size)).trans (hbl.mono (Nat.le_trans hw.size hz2))
    by_cases hlt : j < ts.length
    · have hne : ts ≠ [] := by intro e; rw [e] at hlt; simp at hlt
      obtain rfl := HA.out hne
      obtain rfl := HA2.out hne
      have hx : ∀ b, b < w0.heap.size → wr.heap[b]? = w0.heap[b]? := fun b hb => hwr0.block b hb
      obtain ⟨c0, c1, c2, c3, c4⟩ := (CC.out j hlt).keep (hx b (hbb hne))
      obtain ⟨d0, d1, d2, d3, d4⟩ := (CC2.out j hlt).keep (hx b2 (hbb2 hne))
      have V1 := Lib.hid (fun w'' (hh : Below wr.heap.size wr w'') => IH.out j hlt w'' (hwr0.trans (hh.mono hwr0.size)))
      clear hx hwr0 IH
      unfold V.agg at V1
      generalize ts[j].k = vk at *
      generalize ts[j].n = vn at *
      generalize ts[j].e = ve at *
      generalize ts[j].s = vs at *
      have HBL := Lib.hid hbl
      clear hbl p0 p1 p2 p3 q0 q1 q2 q3
      go_wp2_with fail
      go_region_with (go_at_call 16; refine (V1.out _ (by (repeat' (first | with_reducible exact Below.refl _ _ | with_reducible refine below_alloc ?_ _ ?_ | with_reducible refine Below.setCell ?_ ?_ _ | with_reducible refine Below.drew ?_ | with_reducible refine below_drewN ?_ _ | with_reducible refine below_step ?_ (by assumption) ?_ | with_reducible refine below_mark ?_ (by assumption) ?_)); all_goals (first | omega | (simp; done) | (simp; omega)))).mono ?_; rintro e1 w1 ⟨rfl, hb⟩)
      all_goals
        go_wp2_with fail
        have hbl := HBL.out
        go_roundw
        case rel => exact ⟨j + 1, by omega, by go_num, (by (repeat' (first | with_reducible exact Below.refl _ _ | with_reducible refine below_alloc ?_ _ ?_ | with_reducible refine Below.setCell ?_ ?_ _ | with_reducible refine Below.drew ?_ | with_reducible refine below_drewN ?_ _ | with_reducible refine below_step ?_ (by assumption) ?_ | with_reducible refine below_mark ?_ (by assumption) ?_)); all_goals (first | omega | (simp; done) | (simp; omega)))⟩
        case measure => simp [intOf]; omega
    · have HF := Lib.hid (show Below w.heap.size w wr from HB2.out.trans (hbl.mono hz2))
      clear hbl hwr0 p0 p1 p2 p3 q0 q1 q2 q3
      go_wp2_with fail
      go_ret
      exact ⟨rfl, HF.out⟩
end Go.Proofs.YtgbgeocmjdgmoaaDoor
namespace Go.Proofs.YtgbgeocmjdgmoaaDoor
set_option linter.unusedSimpArgs false
set_option linter.unusedVariables false
set_option maxRecDepth 100000
open Go.RowKit Go.Lib Go.Shelf
theorem accept_eq : Rows.laid_unicode_utf8_acceptRanges = Lib.acceptData := by kernel_rfl
theorem first_eq : Rows.laid_unicode_utf8_first = Lib.firstData := Pinned.utf8First_eq
theorem env_of {w : World} (h3 : VarReads Tryd.prog w "unicode/utf8.first" Rows.laid_unicode_utf8_first) (h4 : VarReads Tryd.prog w "unicode/utf8.acceptRanges" Rows.laid_unicode_utf8_acceptRanges) : Env w := by
  rw [accept_eq] at h4
  rw [first_eq] at h3
  exact utf8Tabs_of_readsT (U8Types.of196 Tryd.laysValid) ⟨by kernel_rfl, by kernel_rfl, by kernel_rfl, by kernel_rfl, by kernel_rfl, by kernel_rfl, by kernel_rfl⟩ h3 h4
end Go.Proofs.YtgbgeocmjdgmoaaDoor
