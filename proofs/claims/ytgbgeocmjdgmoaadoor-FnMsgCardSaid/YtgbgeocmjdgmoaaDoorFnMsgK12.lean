/- Lemmas for the statement of the last text of this claim: texts joined. -/
import Derived.Test.YtgbgeocmjdgmoaaDoorFnMsgK06
namespace Go.Proofs.YtgbgeocmjdgmoaaDoor
set_option linter.unusedSimpArgs false
set_option linter.unusedVariables false
set_option maxRecDepth 100000
open Go.RowKit
theorem mg_leaf {r : Nat} {s : ByteArray} {k n e : Int} {t : ByteArray} {j l : Nat} {w w' : World} (hk : In64 k) (hn : In64 n) (he : In64 e) (ht : t.size ≤ 9223372036854775807) (hb : Below w.heap.size w w') (hR : RB w r s l) :
    MgRet r s (some (.mk k n e t [], j, l)) w (.returned (.tuple #[.agg #[.int .i64 k, .int .i64 n, .int .i64 e, .string t, .slice none 0 0], .int .i64 (j : Int)])) w' :=
  ⟨⟨.slice none 0 0, rfl, ⟨hk, hn, he, ht⟩, OwnS.nil _ _, hR.stay hb⟩, Touch.of_below hb⟩
theorem mg_fail {r : Nat} {s : ByteArray} {w w' : World} (hT : Touch (fun x => x = r) (fun x => x = r) w w') :
    MgRet r s none w (.returned (.tuple #[.agg #[.int .i64 0, .int .i64 0, .int .i64 0, .string ⟨#[]⟩, .slice none 0 0], .int .i64 (-1)])) w' :=
  ⟨⟨.mk 0 0 0 ⟨#[]⟩ [], none, 0, 0, rfl⟩, hT⟩
theorem l06Str_any (r : Nat) (s : ByteArray) (hs : s.size ≤ 1048576) (kind : Int) (hk : In64 kind) (many i l : Nat) (hi : i ≤ s.size) (hm : many ≤ 70000) (w : World) (hRB : RB w r s l) :
    Calls Tryd.prog 182 #[.pointer (some ⟨r, 0, none⟩), .int .i64 i, .int .i64 kind, .int .i64 many, .bool true] w (MgRet r s (mgStr s kind i many l) w) := by
  have hrw := lt_of_heap hRB
  have HR := Lib.hid hRB; have HK := Lib.hid hk
  clear hRB hk
  obtain ⟨m0, m1, mf⟩ := HR.out.cells
  have hr1 : r ≠ w.heap.size := by omega
  have hr2 : w.heap.size ≠ r := by omega
  have BZ := Lib.hid (Box.new w 0 0 0 ⟨#[]⟩ (.slice none 0 0) 26)
  obtain ⟨z0, z1, z2, z3, z4⟩ := BZ.out.cells
  have zf0 := BZ.out.free (i := 0); have zf1 := BZ.out.free (i := 1); have zf2 := BZ.out.free (i := 2); have zf3 := BZ.out.free (i := 3); have zf4 := BZ.out.free (i := 4)
  unfold mgStr
  by_cases h : i + many ≤ s.size
  · rw [if_pos h]
    have hz : (s.extract i (i + many)).size ≤ 9223372036854775807 := by rw [ByteArray.size_extract]; omega
    go_enter Tryd.func182, Tryd.ntmps182
    go_wp2_with fail
    refine bodyPost_ret (v := .tuple #[.agg #[.int .i64 kind, .int .i64 0, .int .i64 0, .string (s.extract i (i + many)), .slice none 0 0], .int .i64 ((i + many : Nat) : Int)]) (by simp [results, Tryd.results182, go_sem, z0, z1, z2, z3, z4]) rfl (mg_leaf HK.out in0 in0 hz ((by (with_reducible (repeat' (first | exact Below.refl _ _ | refine below_alloc ?_ _ ?_ | refine Below.setCell ?_ ?_ _ | refine Below.drew ?_ | refine below_drewN ?_ _ | refine below_step ?_ (by assumption) ?_ | refine below_mark ?_ (by assumption) ?_))); all_goals (first | omega | (simp; done) | (simp; omega)))) HR.out)
  · rw [if_neg h]
    go_enter Tryd.func182, Tryd.ntmps182
    go_wp2_with fail
    refine bodyPost_ret (v := .tuple #[.agg #[.int .i64 0, .int .i64 0, .int .i64 0, .string ⟨#[]⟩, .slice none 0 0], .int .i64 (-1)]) (by simp [results, Tryd.results182, go_sem, z0, z1, z2, z3, z4]) rfl (mg_fail (Touch.of_below ((by (with_reducible (repeat' (first | exact Below.refl _ _ | refine below_alloc ?_ _ ?_ | refine Below.setCell ?_ ?_ _ | refine Below.drew ?_ | refine below_drewN ?_ _ | refine below_step ?_ (by assumption) ?_ | refine below_mark ?_ (by assumption) ?_))); all_goals (first | omega | (simp; done) | (simp; omega))))))
theorem l06Str_no (r : Nat) (s : ByteArray) (kind : Int) (many i l : Int) (w : World) (hRB : RB w r s l) :
    Calls Tryd.prog 182 #[.pointer (some ⟨r, 0, none⟩), .int .i64 i, .int .i64 kind, .int .i64 many, .bool false] w (MgRet r s none w) := by
  have hrw := lt_of_heap hRB
  have HR := Lib.hid hRB
  clear hRB
  obtain ⟨m0, m1, mf⟩ := HR.out.cells
  have hr1 : r ≠ w.heap.size := by omega
  have hr2 : w.heap.size ≠ r := by omega
  have BZ := Lib.hid (Box.new w 0 0 0 ⟨#[]⟩ (.slice none 0 0) 26)
  obtain ⟨z0, z1, z2, z3, z4⟩ := BZ.out.cells
  have zf0 := BZ.out.free (i := 0); have zf1 := BZ.out.free (i := 1); have zf2 := BZ.out.free (i := 2); have zf3 := BZ.out.free (i := 3); have zf4 := BZ.out.free (i := 4)
  go_enter Tryd.func182, Tryd.ntmps182
  go_wp2_with fail
  refine bodyPost_ret (v := .tuple #[.agg #[.int .i64 0, .int .i64 0, .int .i64 0, .string ⟨#[]⟩, .slice none 0 0], .int .i64 (-1)]) (by simp [results, Tryd.results182, go_sem, z0, z1, z2, z3, z4]) rfl (mg_fail (Touch.of_below ((by (with_reducible (repeat' (first | exact Below.refl _ _ | refine below_alloc ?_ _ ?_ | refine Below.setCell ?_ ?_ _ | refine Below.drew ?_ | refine below_drewN ?_ _ | refine below_step ?_ (by assumption) ?_ | refine below_mark ?_ (by assumption) ?_))); all_goals (first | omega | (simp; done) | (simp; omega))))))
theorem l06Kids_no (r : Nat) (s : ByteArray) (kind : Int) (many i deep : Int) (ok : Bool) (h : ok = false ∨ (ok = true ∧ decide (600 < many) = true)) (w : World) :
    Calls Tryd.prog 181 #[.pointer (some ⟨r, 0, none⟩), .int .i64 i, .int .i64 kind, .int .i64 many, .bool ok, .int .i64 deep] w (MgRet r s none w) := by
  have BZ := Lib.hid (Box.new w 0 0 0 ⟨#[]⟩ (.slice none 0 0) 26)
  obtain ⟨z0, z1, z2, z3, z4⟩ := BZ.out.cells
  have zf0 := BZ.out.free (i := 0); have zf1 := BZ.out.free (i := 1); have zf2 := BZ.out.free (i := 2); have zf3 := BZ.out.free (i := 3); have zf4 := BZ.out.free (i := 4)
  rcases h with rfl | ⟨rfl, t1⟩
  all_goals
    go_enter Tryd.func181, Tryd.ntmps181
    go_wp2_with fail
    refine bodyPost_ret (v := .tuple #[.agg #[.int .i64 kind, .int .i64 0, .int .i64 0, .string ⟨#[]⟩, .slice none 0 0], .int .i64 (-1)]) (by simp [results, Tryd.results181, go_sem, z0, z1, z2, z3, z4]) rfl ⟨⟨.mk kind 0 0 ⟨#[]⟩ [], none, 0, 0, rfl⟩, Touch.of_below ((by (with_reducible (repeat' (first | exact Below.refl _ _ | refine below_alloc ?_ _ ?_ | refine Below.setCell ?_ ?_ _ | refine Below.drew ?_ | refine below_drewN ?_ _ | refine below_step ?_ (by assumption) ?_ | refine below_mark ?_ (by assumption) ?_))); all_goals (first | omega | (simp; done) | (simp; omega))))⟩
set_option maxHeartbeats 4000000 in
theorem l06Wide_any (r : Nat) (s : ByteArray) (hs : s.size ≤ 1048576) (i l : Nat) (hi : i ≤ s.size) (b : Int) (q : Nat) (hq : q ≤ 3) (sg : Bool) (hb : b = (if sg then 208 else 204) + q) (w : World) (hRB : RB w r s l) :
    Calls Tryd.prog 183 #[.pointer (some ⟨r, 0, none⟩), .int .i64 i, .int .i64 b] w (MgRet r s ((wgo s i (2 ^ q)).bind fun n => mgLeaf 3 (if sg then signN n (2 ^ q) else n) 0 (i + 2 ^ q) l) w) := by
  have hrw := lt_of_heap hRB
  have HR := Lib.hid hRB
  have hand : bits BinOp.and IntKind.i64 b 3 = q := by
    rw [and_i64 b 2 3 rfl (by omega) (by cases sg <;> simp at hb <;> omega) (by cases sg <;> simp at hb <;> omega)]
    cases sg <;> simp at hb <;> omega
  have hsg : decide (208 ≤ b) = sg := by cases sg <;> simp at hb ⊢ <;> omega
  clear hRB hb
  have WN := Lib.hid (show ∀ m, wgo s i m = none ∨ ∃ n, wgo s i m = some n ∧ In64 n ∧ i + m ≤ s.size from fun m => by
    unfold wgo
    split
    · exact .inr ⟨_, rfl, by unfold In64 wrap64; omega, by assumption⟩
    · exact .inl rfl)
  obtain ⟨m0, m1, mf⟩ := HR.out.cells
  have hr1 : r ≠ w.heap.size := by omega
  have hr2 : w.heap.size ≠ r := by omega
  have BZ := Lib.hid (Box.new w 0 0 0 ⟨#[]⟩ (.slice none 0 0) 26)
  obtain ⟨z0, z1, z2, z3, z4⟩ := BZ.out.cells
  have zf0 := BZ.out.free (i := 0); have zf1 := BZ.out.free (i := 1); have zf2 := BZ.out.free (i := 2); have zf3 := BZ.out.free (i := 3); have zf4 := BZ.out.free (i := 4)
  have hcase : q = 0 ∨ q = 1 ∨ q = 2 ∨ q = 3 := by omega
  rcases hcase with rfl | rfl | rfl | rfl
  · have GW := Lib.hid (fun W => GetWide_go s i 1 W hs (by omega) (by omega))
    rw [show (2 : Nat) ^ 0 = 1 from rfl]
    rcases WN.out 1 with hn | ⟨n, hn, hn64, hfit⟩
    · rw [hn] at GW ⊢
      clear WN
      cases sg
      all_goals
        go_enter Tryd.func183, Tryd.ntmps183
        go_wp2_with fail
        refine (GW.out _).mono ?_
        rintro e w1 ⟨rfl, rfl⟩
        go_wp2_with fail
        refine bodyPost_ret (v := .tuple #[.agg #[.int .i64 0, .int .i64 0, .int .i64 0, .string ⟨#[]⟩, .slice none 0 0], .int .i64 (-1)]) (by simp [results, Tryd.results183, go_sem, z0, z1, z2, z3, z4]) rfl (mg_fail (Touch.of_below ((by (with_reducible (repeat' (first | exact Below.refl _ _ | refine below_alloc ?_ _ ?_ | refine Below.setCell ?_ ?_ _ | refine Below.drew ?_ | refine below_drewN ?_ _ | refine below_step ?_ (by assumption) ?_ | refine below_mark ?_ (by assumption) ?_))); all_goals (first | omega | (simp; done) | (simp; omega))))))
    · rw [hn] at GW ⊢
      clear WN hn
      cases sg
      · have LI := Lib.hid (fun W => l02Int_any n W)
        go_enter Tryd.func183, Tryd.ntmps183
        go_wp2_with fail
        refine (GW.out _).mono ?_
        rintro e w1 ⟨rfl, rfl⟩
        go_wp2_with fail
        refine (LI.out _).mono ?_
        rintro e w2 ⟨rfl, hb2⟩
        have BZ2 := Lib.hid ((BZ.out.alloc _).stay hb2)
        clear z0 z1 z2 z3 z4 zf0 zf1 zf2 zf3 zf4
        obtain ⟨z0, z1, z2, z3, z4⟩ := BZ2.out.cells
        have zf0 := BZ2.out.free (i := 0); have zf1 := BZ2.out.free (i := 1); have zf2 := BZ2.out.free (i := 2); have zf3 := BZ2.out.free (i := 3); have zf4 := BZ2.out.free (i := 4)
        have hbw2 : Below w.heap.size w w2 := (by (with_reducible (repeat' (first | exact Below.refl _ _ | refine below_alloc ?_ _ ?_ | refine Below.setCell ?_ ?_ _ | refine Below.drew ?_ | refine below_drewN ?_ _ | refine below_step ?_ (by assumption) ?_ | refine below_mark ?_ (by assumption) ?_))); all_goals (first | omega | (simp; done) | (simp; omega)))
        go_wp2_with fail
        refine bodyPost_ret (v := .tuple #[.agg #[.int .i64 3, .int .i64 (n), .int .i64 0, .string ⟨#[]⟩, .slice none 0 0], .int .i64 ((i + 1 : Nat) : Int)]) (by simp [results, Tryd.results183, go_sem, z0, z1, z2, z3, z4]) rfl (mg_leaf in3 hn64 in0 (by simp [ByteArray.size]) ((by (with_reducible (repeat' (first | exact Below.refl _ _ | refine below_alloc ?_ _ ?_ | refine Below.setCell ?_ ?_ _ | refine Below.drew ?_ | refine below_drewN ?_ _ | refine below_step ?_ (by assumption) ?_ | refine below_mark ?_ (by assumption) ?_))); all_goals (first | omega | (simp; done) | (simp; omega)))) HR.out)
      · have LI := Lib.hid (fun W => l02Int_any (signN n 1) W)
        have SG := Lib.hid (fun W => SignOf_spec n 1 W (by omega) (by omega))
        go_enter Tryd.func183, Tryd.ntmps183
        go_wp2_with fail
        refine (GW.out _).mono ?_
        rintro e w1 ⟨rfl, rfl⟩
        go_wp2_with fail
        refine (SG.out _).mono ?_
        rintro e w1 ⟨rfl, rfl⟩
        go_wp2_with fail
        refine (LI.out _).mono ?_
        rintro e w2 ⟨rfl, hb2⟩
        have BZ2 := Lib.hid ((BZ.out.alloc _).stay hb2)
        clear z0 z1 z2 z3 z4 zf0 zf1 zf2 zf3 zf4
        obtain ⟨z0, z1, z2, z3, z4⟩ := BZ2.out.cells
        have zf0 := BZ2.out.free (i := 0); have zf1 := BZ2.out.free (i := 1); have zf2 := BZ2.out.free (i := 2); have zf3 := BZ2.out.free (i := 3); have zf4 := BZ2.out.free (i := 4)
        have hbw2 : Below w.heap.size w w2 := (by (with_reducible (repeat' (first | exact Below.refl _ _ | refine below_alloc ?_ _ ?_ | refine Below.setCell ?_ ?_ _ | refine Below.drew ?_ | refine below_drewN ?_ _ | refine below_step ?_ (by assumption) ?_ | refine below_mark ?_ (by assumption) ?_))); all_goals (first | omega | (simp; done) | (simp; omega)))
        go_wp2_with fail
        refine bodyPost_ret (v := .tuple #[.agg #[.int .i64 3, .int .i64 (signN n 1), .int .i64 0, .string ⟨#[]⟩, .slice none 0 0], .int .i64 ((i + 1 : Nat) : Int)]) (by simp [results, Tryd.results183, go_sem, z0, z1, z2, z3, z4]) rfl (mg_leaf in3 (signN_in _ hn64) in0 (by simp [ByteArray.size]) ((by (with_reducible (repeat' (first | exact Below.refl _ _ | refine below_alloc ?_ _ ?_ | refine Below.setCell ?_ ?_ _ | refine Below.drew ?_ | refine below_drewN ?_ _ | refine below_step ?_ (by assumption) ?_ | refine below_mark ?_ (by assumption) ?_))); all_goals (first | omega | (simp; done) | (simp; omega)))) HR.out)
  · have GW := Lib.hid (fun W => GetWide_go s i 2 W hs (by omega) (by omega))
    rw [show (2 : Nat) ^ 1 = 2 from rfl]
    rcases WN.out 2 with hn | ⟨n, hn, hn64, hfit⟩
    · rw [hn] at GW ⊢
      clear WN
      cases sg
      all_goals
        go_enter Tryd.func183, Tryd.ntmps183
        go_wp2_with fail
        refine (GW.out _).mono ?_
        rintro e w1 ⟨rfl, rfl⟩
        go_wp2_with fail
        refine bodyPost_ret (v := .tuple #[.agg #[.int .i64 0, .int .i64 0, .int .i64 0, .string ⟨#[]⟩, .slice none 0 0], .int .i64 (-1)]) (by simp [results, Tryd.results183, go_sem, z0, z1, z2, z3, z4]) rfl (mg_fail (Touch.of_below ((by (with_reducible (repeat' (first | exact Below.refl _ _ | refine below_alloc ?_ _ ?_ | refine Below.setCell ?_ ?_ _ | refine Below.drew ?_ | refine below_drewN ?_ _ | refine below_step ?_ (by assumption) ?_ | refine below_mark ?_ (by assumption) ?_))); all_goals (first | omega | (simp; done) | (simp; omega))))))
    · rw [hn] at GW ⊢
      clear WN hn
      cases sg
      · have LI := Lib.hid (fun W => l02Int_any n W)
        go_enter Tryd.func183, Tryd.ntmps183
        go_wp2_with fail
        refine (GW.out _).mono ?_
        rintro e w1 ⟨rfl, rfl⟩
        go_wp2_with fail
        refine (LI.out _).mono ?_
        rintro e w2 ⟨rfl, hb2⟩
        have BZ2 := Lib.hid ((BZ.out.alloc _).stay hb2)
        clear z0 z1 z2 z3 z4 zf0 zf1 zf2 zf3 zf4
        obtain ⟨z0, z1, z2, z3, z4⟩ := BZ2.out.cells
        have zf0 := BZ2.out.free (i := 0); have zf1 := BZ2.out.free (i := 1); have zf2 := BZ2.out.free (i := 2); have zf3 := BZ2.out.free (i := 3); have zf4 := BZ2.out.free (i := 4)
        have hbw2 : Below w.heap.size w w2 := (by (with_reducible (repeat' (first | exact Below.refl _ _ | refine below_alloc ?_ _ ?_ | refine Below.setCell ?_ ?_ _ | refine Below.drew ?_ | refine below_drewN ?_ _ | refine below_step ?_ (by assumption) ?_ | refine below_mark ?_ (by assumption) ?_))); all_goals (first | omega | (simp; done) | (simp; omega)))
        go_wp2_with fail
        refine bodyPost_ret (v := .tuple #[.agg #[.int .i64 3, .int .i64 (n), .int .i64 0, .string ⟨#[]⟩, .slice none 0 0], .int .i64 ((i + 2 : Nat) : Int)]) (by simp [results, Tryd.results183, go_sem, z0, z1, z2, z3, z4]) rfl (mg_leaf in3 hn64 in0 (by simp [ByteArray.size]) ((by (with_reducible (repeat' (first | exact Below.refl _ _ | refine below_alloc ?_ _ ?_ | refine Below.setCell ?_ ?_ _ | refine Below.drew ?_ | refine below_drewN ?_ _ | refine below_step ?_ (by assumption) ?_ | refine below_mark ?_ (by assumption) ?_))); all_goals (first | omega | (simp; done) | (simp; omega)))) HR.out)
      · have LI := Lib.hid (fun W => l02Int_any (signN n 2) W)
        have SG := Lib.hid (fun W => SignOf_spec n 2 W (by omega) (by omega))
        go_enter Tryd.func183, Tryd.ntmps183
        go_wp2_with fail
        refine (GW.out _).mono ?_
        rintro e w1 ⟨rfl, rfl⟩
        go_wp2_with fail
        refine (SG.out _).mono ?_
        rintro e w1 ⟨rfl, rfl⟩
        go_wp2_with fail
        refine (LI.out _).mono ?_
        rintro e w2 ⟨rfl, hb2⟩
        have BZ2 := Lib.hid ((BZ.out.alloc _).stay hb2)
        clear z0 z1 z2 z3 z4 zf0 zf1 zf2 zf3 zf4
        obtain ⟨z0, z1, z2, z3, z4⟩ := BZ2.out.cells
        have zf0 := BZ2.out.free (i := 0); have zf1 := BZ2.out.free (i := 1); have zf2 := BZ2.out.free (i := 2); have zf3 := BZ2.out.free (i := 3); have zf4 := BZ2.out.free (i := 4)
        have hbw2 : Below w.heap.size w w2 := (by (with_reducible (repeat' (first | exact Below.refl _ _ | refine below_alloc ?_ _ ?_ | refine Below.setCell ?_ ?_ _ | refine Below.drew ?_ | refine below_drewN ?_ _ | refine below_step ?_ (by assumption) ?_ | refine below_mark ?_ (by assumption) ?_))); all_goals (first | omega | (simp; done) | (simp; omega)))
        go_wp2_with fail
        refine bodyPost_ret (v := .tuple #[.agg #[.int .i64 3, .int .i64 (signN n 2), .int .i64 0, .string ⟨#[]⟩, .slice none 0 0], .int .i64 ((i + 2 : Nat) : Int)]) (by simp [results, Tryd.results183, go_sem, z0, z1, z2, z3, z4]) rfl (mg_leaf in3 (signN_in _ hn64) in0 (by simp [ByteArray.size]) ((by (with_reducible (repeat' (first | exact Below.refl _ _ | refine below_alloc ?_ _ ?_ | refine Below.setCell ?_ ?_ _ | refine Below.drew ?_ | refine below_drewN ?_ _ | refine below_step ?_ (by assumption) ?_ | refine below_mark ?_ (by assumption) ?_))); all_goals (first | omega | (simp; done) | (simp; omega)))) HR.out)
  · have GW := Lib.hid (fun W => GetWide_go s i 4 W hs (by omega) (by omega))
    rw [show (2 : Nat) ^ 2 = 4 from rfl]
    rcases WN.out 4 with hn | ⟨n, hn, hn64, hfit⟩
    · rw [hn] at GW ⊢
      clear WN
      cases sg
      all_goals
        go_enter Tryd.func183, Tryd.ntmps183
        go_wp2_with fail
        refine (GW.out _).mono ?_
        rintro e w1 ⟨rfl, rfl⟩
        go_wp2_with fail
        refine bodyPost_ret (v := .tuple #[.agg #[.int .i64 0, .int .i64 0, .int .i64 0, .string ⟨#[]⟩, .slice none 0 0], .int .i64 (-1)]) (by simp [results, Tryd.results183, go_sem, z0, z1, z2, z3, z4]) rfl (mg_fail (Touch.of_below ((by (with_reducible (repeat' (first | exact Below.refl _ _ | refine below_alloc ?_ _ ?_ | refine Below.setCell ?_ ?_ _ | refine Below.drew ?_ | refine below_drewN ?_ _ | refine below_step ?_ (by assumption) ?_ | refine below_mark ?_ (by assumption) ?_))); all_goals (first | omega | (simp; done) | (simp; omega))))))
    · rw [hn] at GW ⊢
      clear WN hn
      cases sg
      · have LI := Lib.hid (fun W => l02Int_any n W)
        go_enter Tryd.func183, Tryd.ntmps183
        go_wp2_with fail
        refine (GW.out _).mono ?_
        rintro e w1 ⟨rfl, rfl⟩
        go_wp2_with fail
        refine (LI.out _).mono ?_
        rintro e w2 ⟨rfl, hb2⟩
        have BZ2 := Lib.hid ((BZ.out.alloc _).stay hb2)
        clear z0 z1 z2 z3 z4 zf0 zf1 zf2 zf3 zf4
        obtain ⟨z0, z1, z2, z3, z4⟩ := BZ2.out.cells
        have zf0 := BZ2.out.free (i := 0); have zf1 := BZ2.out.free (i := 1); have zf2 := BZ2.out.free (i := 2); have zf3 := BZ2.out.free (i := 3); have zf4 := BZ2.out.free (i := 4)
        have hbw2 : Below w.heap.size w w2 := (by (with_reducible (repeat' (first | exact Below.refl _ _ | refine below_alloc ?_ _ ?_ | refine Below.setCell ?_ ?_ _ | refine Below.drew ?_ | refine below_drewN ?_ _ | refine below_step ?_ (by assumption) ?_ | refine below_mark ?_ (by assumption) ?_))); all_goals (first | omega | (simp; done) | (simp; omega)))
        go_wp2_with fail
        refine bodyPost_ret (v := .tuple #[.agg #[.int .i64 3, .int .i64 (n), .int .i64 0, .string ⟨#[]⟩, .slice none 0 0], .int .i64 ((i + 4 : Nat) : Int)]) (by simp [results, Tryd.results183, go_sem, z0, z1, z2, z3, z4]) rfl (mg_leaf in3 hn64 in0 (by simp [ByteArray.size]) ((by (with_reducible (repeat' (first | exact Below.refl _ _ | refine below_alloc ?_ _ ?_ | refine Below.setCell ?_ ?_ _ | refine Below.drew ?_ | refine below_drewN ?_ _ | refine below_step ?_ (by assumption) ?_ | refine below_mark ?_ (by assumption) ?_))); all_goals (first | omega | (simp; done) | (simp; omega)))) HR.out)
      · have LI := Lib.hid (fun W => l02Int_any (signN n 4) W)
        have SG := Lib.hid (fun W => SignOf_spec n 4 W (by omega) (by omega))
        go_enter Tryd.func183, Tryd.ntmps183
        go_wp2_with fail
        refine (GW.out _).mono ?_
        rintro e w1 ⟨rfl, rfl⟩
        go_wp2_with fail
        refine (SG.out _).mono ?_
        rintro e w1 ⟨rfl, rfl⟩
        go_wp2_with fail
        refine (LI.out _).mono ?_
        rintro e w2 ⟨rfl, hb2⟩
        have BZ2 := Lib.hid ((BZ.out.alloc _).stay hb2)
        clear z0 z1 z2 z3 z4 zf0 zf1 zf2 zf3 zf4
        obtain ⟨z0, z1, z2, z3, z4⟩ := BZ2.out.cells
        have zf0 := BZ2.out.free (i := 0); have zf1 := BZ2.out.free (i := 1); have zf2 := BZ2.out.free (i := 2); have zf3 := BZ2.out.free (i := 3); have zf4 := BZ2.out.free (i := 4)
        have hbw2 : Below w.heap.size w w2 := (by (with_reducible (repeat' (first | exact Below.refl _ _ | refine below_alloc ?_ _ ?_ | refine Below.setCell ?_ ?_ _ | refine Below.drew ?_ | refine below_drewN ?_ _ | refine below_step ?_ (by assumption) ?_ | refine below_mark ?_ (by assumption) ?_))); all_goals (first | omega | (simp; done) | (simp; omega)))
        go_wp2_with fail
        refine bodyPost_ret (v := .tuple #[.agg #[.int .i64 3, .int .i64 (signN n 4), .int .i64 0, .string ⟨#[]⟩, .slice none 0 0], .int .i64 ((i + 4 : Nat) : Int)]) (by simp [results, Tryd.results183, go_sem, z0, z1, z2, z3, z4]) rfl (mg_leaf in3 (signN_in _ hn64) in0 (by simp [ByteArray.size]) ((by (with_reducible (repeat' (first | exact Below.refl _ _ | refine below_alloc ?_ _ ?_ | refine Below.setCell ?_ ?_ _ | refine Below.drew ?_ | refine below_drewN ?_ _ | refine below_step ?_ (by assumption) ?_ | refine below_mark ?_ (by assumption) ?_))); all_goals (first | omega | (simp; done) | (simp; omega)))) HR.out)
  · have GW := Lib.hid (fun W => GetWide_go s i 8 W hs (by omega) (by omega))
    rw [show (2 : Nat) ^ 3 = 8 from rfl]
    rcases WN.out 8 with hn | ⟨n, hn, hn64, hfit⟩
    · rw [hn] at GW ⊢
      clear WN
      cases sg
      all_goals
        go_enter Tryd.func183, Tryd.ntmps183
        go_wp2_with fail
        refine (GW.out _).mono ?_
        rintro e w1 ⟨rfl, rfl⟩
        go_wp2_with fail
        refine bodyPost_ret (v := .tuple #[.agg #[.int .i64 0, .int .i64 0, .int .i64 0, .string ⟨#[]⟩, .slice none 0 0], .int .i64 (-1)]) (by simp [results, Tryd.results183, go_sem, z0, z1, z2, z3, z4]) rfl (mg_fail (Touch.of_below ((by (with_reducible (repeat' (first | exact Below.refl _ _ | refine below_alloc ?_ _ ?_ | refine Below.setCell ?_ ?_ _ | refine Below.drew ?_ | refine below_drewN ?_ _ | refine below_step ?_ (by assumption) ?_ | refine below_mark ?_ (by assumption) ?_))); all_goals (first | omega | (simp; done) | (simp; omega))))))
    · rw [hn] at GW ⊢
      clear WN hn
      cases sg
      · have LI := Lib.hid (fun W => l02Int_any n W)
        go_enter Tryd.func183, Tryd.ntmps183
        go_wp2_with fail
        refine (GW.out _).mono ?_
        rintro e w1 ⟨rfl, rfl⟩
        go_wp2_with fail
        refine (LI.out _).mono ?_
        rintro e w2 ⟨rfl, hb2⟩
        have BZ2 := Lib.hid ((BZ.out.alloc _).stay hb2)
        clear z0 z1 z2 z3 z4 zf0 zf1 zf2 zf3 zf4
        obtain ⟨z0, z1, z2, z3, z4⟩ := BZ2.out.cells
        have zf0 := BZ2.out.free (i := 0); have zf1 := BZ2.out.free (i := 1); have zf2 := BZ2.out.free (i := 2); have zf3 := BZ2.out.free (i := 3); have zf4 := BZ2.out.free (i := 4)
        have hbw2 : Below w.heap.size w w2 := (by (with_reducible (repeat' (first | exact Below.refl _ _ | refine below_alloc ?_ _ ?_ | refine Below.setCell ?_ ?_ _ | refine Below.drew ?_ | refine below_drewN ?_ _ | refine below_step ?_ (by assumption) ?_ | refine below_mark ?_ (by assumption) ?_))); all_goals (first | omega | (simp; done) | (simp; omega)))
        go_wp2_with fail
        refine bodyPost_ret (v := .tuple #[.agg #[.int .i64 3, .int .i64 (n), .int .i64 0, .string ⟨#[]⟩, .slice none 0 0], .int .i64 ((i + 8 : Nat) : Int)]) (by simp [results, Tryd.results183, go_sem, z0, z1, z2, z3, z4]) rfl (mg_leaf in3 hn64 in0 (by simp [ByteArray.size]) ((by (with_reducible (repeat' (first | exact Below.refl _ _ | refine below_alloc ?_ _ ?_ | refine Below.setCell ?_ ?_ _ | refine Below.drew ?_ | refine below_drewN ?_ _ | refine below_step ?_ (by assumption) ?_ | refine below_mark ?_ (by assumption) ?_))); all_goals (first | omega | (simp; done) | (simp; omega)))) HR.out)
      · have LI := Lib.hid (fun W => l02Int_any (signN n 8) W)
        have SG := Lib.hid (fun W => SignOf_spec8 n W)
        go_enter Tryd.func183, Tryd.ntmps183
        go_wp2_with fail
        refine (GW.out _).mono ?_
        rintro e w1 ⟨rfl, rfl⟩
        go_wp2_with fail
        refine (SG.out _).mono ?_
        rintro e w1 ⟨rfl, rfl⟩
        go_wp2_with fail
        refine (LI.out _).mono ?_
        rintro e w2 ⟨rfl, hb2⟩
        have BZ2 := Lib.hid ((BZ.out.alloc _).stay hb2)
        clear z0 z1 z2 z3 z4 zf0 zf1 zf2 zf3 zf4
        obtain ⟨z0, z1, z2, z3, z4⟩ := BZ2.out.cells
        have zf0 := BZ2.out.free (i := 0); have zf1 := BZ2.out.free (i := 1); have zf2 := BZ2.out.free (i := 2); have zf3 := BZ2.out.free (i := 3); have zf4 := BZ2.out.free (i := 4)
        have hbw2 : Below w.heap.size w w2 := (by (with_reducible (repeat' (first | exact Below.refl _ _ | refine below_alloc ?_ _ ?_ | refine Below.setCell ?_ ?_ _ | refine Below.drew ?_ | refine below_drewN ?_ _ | refine below_step ?_ (by assumption) ?_ | refine below_mark ?_ (by assumption) ?_))); all_goals (first | omega | (simp; done) | (simp; omega)))
        go_wp2_with fail
        refine bodyPost_ret (v := .tuple #[.agg #[.int .i64 3, .int .i64 (signN n 8), .int .i64 0, .string ⟨#[]⟩, .slice none 0 0], .int .i64 ((i + 8 : Nat) : Int)]) (by simp [results, Tryd.results183, go_sem, z0, z1, z2, z3, z4]) rfl (mg_leaf in3 (signN_in _ hn64) in0 (by simp [ByteArray.size]) ((by (with_reducible (repeat' (first | exact Below.refl _ _ | refine below_alloc ?_ _ ?_ | refine Below.setCell ?_ ?_ _ | refine Below.drew ?_ | refine below_drewN ?_ _ | refine below_step ?_ (by assumption) ?_ | refine below_mark ?_ (by assumption) ?_))); all_goals (first | omega | (simp; done) | (simp; omega)))) HR.out)
theorem mg_pass_some {r z j m : Nat} {s : ByteArray} {u : V} {sl : Value} {w W5 w6 : World} (hT : Touch (fun x => x = r) (fun x => x = r) w W5) (hw : w.heap.size ≤ z) (hz : z < W5.heap.size) (hzr : z ≠ r) (uwf : u.wf) (uo : OwnS w6 (fun x => W5.heap.size ≤ x) sl u.kids)
    (hR : RB w6 r s m) (ht : Touch (fun x => x = r) (fun x => x = r) W5 w6) (v0 v1 v2 v3 v4 : Value) : MgRet r s (some (u, j, m)) w (.returned (.tuple #[u.agg sl, .int .i64 (j : Int)])) (set5 w6 z v0 v1 v2 v3 v4) :=
  ⟨⟨sl, rfl, uwf, OwnS.mono (uo.set5 z (by omega) _ _ _ _ _) (fun x hx => by have hx' : W5.heap.size ≤ x := hx; have := hT.size; omega), (heap_set5 _ _ _ _ _ _ _ _ hzr.symm).trans hR⟩, (hT.trans ht).set5 z hw _ _ _ _ _⟩
theorem mg_pass_none {r z : Nat} {s : ByteArray} {t : V} {a : Option Addr} {n c : Nat} {w W5 w6 : World} (hT : Touch (fun x => x = r) (fun x => x = r) w W5) (hw : w.heap.size ≤ z)
    (ht : Touch (fun x => x = r) (fun x => x = r) W5 w6) (v0 v1 v2 v3 v4 : Value) : MgRet r s none w (.returned (.tuple #[t.agg (.slice a n c), .int .i64 (-1)])) (set5 w6 z v0 v1 v2 v3 v4) :=
  ⟨⟨t, a, n, c, rfl⟩, (hT.trans ht).set5 z hw _ _ _ _ _⟩
theorem Touch.setR {r i : Nat} {w W : World} (h : Touch (fun x => x = r) (fun x => x = r) w W) (v : Value) : Touch (fun x => x = r) (fun x => x = r) w (W.setCell ⟨r, i, none⟩ v) :=
  ⟨h.os, h.tape, h.output, by simpa using h.size, fun x hx hn => (heap_setCell_other _ _ _ _ hn).trans (h.block x hx hn), h.new⟩
set_option maxHeartbeats 2000000 in
theorem l06Get_map (r : Nat) (s : ByteArray) (hs : s.size ≤ 1048576) (g : Nat → Nat → MG) (hg : ∀ i l, MGood s i l (g i l)) (deep : Int) (hd : 0 ≤ deep ∧ deep ≤ 12) (hG : ∀ (i l : Nat) (W : World), i ≤ s.size → l ≤ 300 → RB W r s l → Calls Tryd.prog 121 #[.pointer (some ⟨r, 0, none⟩), .int .i64 i, .int .i64 (deep + 1)] W (MgRet r s (g i l) W)) (i l : Nat) (hi : i < s.size) (hl : l + 1 ≤ 300) (w : World) (hRB : RB w r s (l + 1 : Nat)) (bn : Nat) (hb : ((s[i].toNat : Nat) : Int) = (bn : Int)) (h1 : 128 ≤ bn) (h2 : bn < 144) :
    Calls Tryd.prog 121 #[.pointer (some ⟨r, 0, none⟩), .int .i64 i, .int .i64 deep] w (MgRet r s (mgNode 8 0 (mgKids g (2 * (bn - 128)) (i + 1) l)) w) := by
  have hrw := lt_of_heap hRB
  have HR := Lib.hid hRB
  obtain ⟨m0, m1, mf⟩ := HR.out.cells
  have hr1 : r ≠ w.heap.size := by omega
  have hr2 : w.heap.size ≠ r := by omega
  have BZ := Lib.hid (Box.new w 0 0 0 ⟨#[]⟩ (.slice none 0 0) 26)
  obtain ⟨z0, z1, z2, z3, z4⟩ := BZ.out.cells
  have zf0 := BZ.out.free (i := 0); have zf1 := BZ.out.free (i := 1); have zf2 := BZ.out.free (i := 2); have zf3 := BZ.out.free (i := 3); have zf4 := BZ.out.free (i := 4)
  have HR5 := Lib.hid (show RB ((w.setCell ⟨r, 1, none⟩ (.int .i64 l)).alloc (.cells #[.int .i64 0, .int .i64 0, .int .i64 0, .string ⟨#[]⟩, .slice none 0 0] 26)) r s l from (HR.out.set l).stay ((Below.refl _ _).alloc (Nat.le_refl _) _))
  have HT5 := Lib.hid (show Touch (fun x => x = r) (fun x => x = r) w ((w.setCell ⟨r, 1, none⟩ (.int .i64 l)).alloc (.cells #[.int .i64 0, .int .i64 0, .int .i64 0, .string ⟨#[]⟩, .slice none 0 0] 26)) from ((Touch.refl _ w).setR _).trans (Touch.of_below ((Below.refl _ _).alloc (Nat.le_refl _) _)))
  have BZ5 := Lib.hid (show Box ((w.setCell ⟨r, 1, none⟩ (.int .i64 l)).alloc (.cells #[.int .i64 0, .int .i64 0, .int .i64 0, .string ⟨#[]⟩, .slice none 0 0] 26)) w.heap.size 0 0 0 ⟨#[]⟩ (.slice none 0 0) 26 from heap_alloc_here _ (by simp))
  have hz5 : ((w.setCell ⟨r, 1, none⟩ (.int .i64 l)).alloc (.cells #[.int .i64 0, .int .i64 0, .int .i64 0, .string ⟨#[]⟩, .slice none 0 0] 26)).heap.size = w.heap.size + 1 := by simp
  have CL := Lib.hid (fun (W : World) (hR : RB W r s l) => show Calls Tryd.prog 181 #[.pointer (some ⟨r, 0, none⟩), .int .i64 ((i : Int) + 1), .int .i64 8, .int .i64 (2 * ((bn : Int) - 128)), .bool true, .int .i64 deep] W (MgRet r s (mgNode 8 0 (mgKids g (2 * (bn - 128)) (i + 1) l)) W) from by
    have := l06Kids_any r s hs g hg deep (by omega) hG 8 (2 * (bn - 128)) (i + 1) l (by omega) (by omega) (by unfold In64; omega) W hR (by omega)
    rwa [show ((2 * (bn - 128) : Nat) : Int) = 2 * ((bn : Int) - 128) by omega] at this)
  clear hG hg hRB
  generalize (mgNode 8 0 (mgKids g (2 * (bn - 128)) (i + 1) l)) = o at *
  go_enter Tryd.func121, Tryd.ntmps121
  go_wp2_with fail
  cases o with
  | none =>
    refine (CL.out _ HR5.out).mono ?_
    rintro e w6 ⟨⟨t', sa, sn, sc, rfl⟩, ht6⟩
    unfold V.agg
    have BZ6 := Lib.hid (show Box w6 w.heap.size 0 0 0 ⟨#[]⟩ (.slice none 0 0) 26 from (ht6.block w.heap.size (by omega) (by omega)).trans BZ5.out)
    clear z0 z1 z2 z3 z4 zf0 zf1 zf2 zf3 zf4
    obtain ⟨z0, z1, z2, z3, z4⟩ := BZ6.out.cells
    have zf0 := BZ6.out.free (i := 0); have zf1 := BZ6.out.free (i := 1); have zf2 := BZ6.out.free (i := 2); have zf3 := BZ6.out.free (i := 3); have zf4 := BZ6.out.free (i := 4)
    have HP := Lib.hid (fun v0 v1 v2 v3 v4 => mg_pass_none (s := s) (t := t') (a := sa) (n := sn) (c := sc) HT5.out (Nat.le_refl _) ht6 v0 v1 v2 v3 v4)
    unfold V.agg at HP
    clear CL HR5 HR BZ BZ5 BZ6 ht6
    go_wp2_with fail
    refine bodyPost_ret (v := .tuple #[.agg #[.int .i64 t'.k, .int .i64 t'.n, .int .i64 t'.e, .string t'.s, .slice sa sn sc], .int .i64 (-1)]) (by simp [results, Tryd.results121, go_sem, z0, z1, z2, z3, z4]) rfl (HP.out _ _ _ _ _)
  | some q =>
    obtain ⟨u, jq, mq⟩ := q
    refine (CL.out _ HR5.out).mono ?_
    rintro e w6 ⟨⟨us, rfl, uwf, uo, hrb6⟩, ht6⟩
    obtain ⟨ua, un, uc, rfl⟩ : ∃ sa sn sc, us = .slice sa sn sc := by obtain ⟨p, q, e⟩ := uo.slice; exact ⟨p, _, q, e⟩
    unfold V.agg
    have BZ6 := Lib.hid (show Box w6 w.heap.size 0 0 0 ⟨#[]⟩ (.slice none 0 0) 26 from (ht6.block w.heap.size (by omega) (by omega)).trans BZ5.out)
    clear z0 z1 z2 z3 z4 zf0 zf1 zf2 zf3 zf4
    obtain ⟨z0, z1, z2, z3, z4⟩ := BZ6.out.cells
    have zf0 := BZ6.out.free (i := 0); have zf1 := BZ6.out.free (i := 1); have zf2 := BZ6.out.free (i := 2); have zf3 := BZ6.out.free (i := 3); have zf4 := BZ6.out.free (i := 4)
    have HP := Lib.hid (fun v0 v1 v2 v3 v4 => mg_pass_some (j := jq) HT5.out (Nat.le_refl _) (by omega) (by omega) uwf uo hrb6 ht6 v0 v1 v2 v3 v4)
    unfold V.agg at HP
    clear CL HR5 HR BZ BZ5 BZ6 ht6 hrb6 uo uwf
    go_wp2_with fail
    refine bodyPost_ret (v := .tuple #[.agg #[.int .i64 u.k, .int .i64 u.n, .int .i64 u.e, .string u.s, .slice ua un uc], .int .i64 (jq : Int)]) (by simp [results, Tryd.results121, go_sem, z0, z1, z2, z3, z4]) rfl (HP.out _ _ _ _ _)
set_option maxHeartbeats 2000000 in
theorem l06Get_list (r : Nat) (s : ByteArray) (hs : s.size ≤ 1048576) (g : Nat → Nat → MG) (hg : ∀ i l, MGood s i l (g i l)) (deep : Int) (hd : 0 ≤ deep ∧ deep ≤ 12) (hG : ∀ (i l : Nat) (W : World), i ≤ s.size → l ≤ 300 → RB W r s l → Calls Tryd.prog 121 #[.pointer (some ⟨r, 0, none⟩), .int .i64 i, .int .i64 (deep + 1)] W (MgRet r s (g i l) W)) (i l : Nat) (hi : i < s.size) (hl : l + 1 ≤ 300) (w : World) (hRB : RB w r s (l + 1 : Nat)) (bn : Nat) (hb : ((s[i].toNat : Nat) : Int) = (bn : Int)) (h1 : 144 ≤ bn) (h2 : bn < 160) :
    Calls Tryd.prog 121 #[.pointer (some ⟨r, 0, none⟩), .int .i64 i, .int .i64 deep] w (MgRet r s (mgNode 7 0 (mgKids g (bn - 144) (i + 1) l)) w) := by
  have hrw := lt_of_heap hRB
  have HR := Lib.hid hRB
  obtain ⟨m0, m1, mf⟩ := HR.out.cells
  have hr1 : r ≠ w.heap.size := by omega
  have hr2 : w.heap.size ≠ r := by omega
  have BZ := Lib.hid (Box.new w 0 0 0 ⟨#[]⟩ (.slice none 0 0) 26)
  obtain ⟨z0, z1, z2, z3, z4⟩ := BZ.out.cells
  have zf0 := BZ.out.free (i := 0); have zf1 := BZ.out.free (i := 1); have zf2 := BZ.out.free (i := 2); have zf3 := BZ.out.free (i := 3); have zf4 := BZ.out.free (i := 4)
  have HR5 := Lib.hid (show RB ((w.setCell ⟨r, 1, none⟩ (.int .i64 l)).alloc (.cells #[.int .i64 0, .int .i64 0, .int .i64 0, .string ⟨#[]⟩, .slice none 0 0] 26)) r s l from (HR.out.set l).stay ((Below.refl _ _).alloc (Nat.le_refl _) _))
  have HT5 := Lib.hid (show Touch (fun x => x = r) (fun x => x = r) w ((w.setCell ⟨r, 1, none⟩ (.int .i64 l)).alloc (.cells #[.int .i64 0, .int .i64 0, .int .i64 0, .string ⟨#[]⟩, .slice none 0 0] 26)) from ((Touch.refl _ w).setR _).trans (Touch.of_below ((Below.refl _ _).alloc (Nat.le_refl _) _)))
  have BZ5 := Lib.hid (show Box ((w.setCell ⟨r, 1, none⟩ (.int .i64 l)).alloc (.cells #[.int .i64 0, .int .i64 0, .int .i64 0, .string ⟨#[]⟩, .slice none 0 0] 26)) w.heap.size 0 0 0 ⟨#[]⟩ (.slice none 0 0) 26 from heap_alloc_here _ (by simp))
  have hz5 : ((w.setCell ⟨r, 1, none⟩ (.int .i64 l)).alloc (.cells #[.int .i64 0, .int .i64 0, .int .i64 0, .string ⟨#[]⟩, .slice none 0 0] 26)).heap.size = w.heap.size + 1 := by simp
  have CL := Lib.hid (fun (W : World) (hR : RB W r s l) => show Calls Tryd.prog 181 #[.pointer (some ⟨r, 0, none⟩), .int .i64 ((i : Int) + 1), .int .i64 7, .int .i64 ((bn : Int) - 144), .bool true, .int .i64 deep] W (MgRet r s (mgNode 7 0 (mgKids g (bn - 144) (i + 1) l)) W) from by
    have := l06Kids_any r s hs g hg deep (by omega) hG 7 (bn - 144) (i + 1) l (by omega) (by omega) (by unfold In64; omega) W hR (by omega)
    rwa [show ((bn - 144 : Nat) : Int) = (bn : Int) - 144 by omega] at this)
  clear hG hg hRB
  generalize (mgNode 7 0 (mgKids g (bn - 144) (i + 1) l)) = o at *
  go_enter Tryd.func121, Tryd.ntmps121
  go_wp2_with fail
  cases o with
  | none =>
    refine (CL.out _ HR5.out).mono ?_
    rintro e w6 ⟨⟨t', sa, sn, sc, rfl⟩, ht6⟩
    unfold V.agg
    have BZ6 := Lib.hid (show Box w6 w.heap.size 0 0 0 ⟨#[]⟩ (.slice none 0 0) 26 from (ht6.block w.heap.size (by omega) (by omega)).trans BZ5.out)
    clear z0 z1 z2 z3 z4 zf0 zf1 zf2 zf3 zf4
    obtain ⟨z0, z1, z2, z3, z4⟩ := BZ6.out.cells
    have zf0 := BZ6.out.free (i := 0); have zf1 := BZ6.out.free (i := 1); have zf2 := BZ6.out.free (i := 2); have zf3 := BZ6.out.free (i := 3); have zf4 := BZ6.out.free (i := 4)
    have HP := Lib.hid (fun v0 v1 v2 v3 v4 => mg_pass_none (s := s) (t := t') (a := sa) (n := sn) (c := sc) HT5.out (Nat.le_refl _) ht6 v0 v1 v2 v3 v4)
    unfold V.agg at HP
    clear CL HR5 HR BZ BZ5 BZ6 ht6
    go_wp2_with fail
    refine bodyPost_ret (v := .tuple #[.agg #[.int .i64 t'.k, .int .i64 t'.n, .int .i64 t'.e, .string t'.s, .slice sa sn sc], .int .i64 (-1)]) (by simp [results, Tryd.results121, go_sem, z0, z1, z2, z3, z4]) rfl (HP.out _ _ _ _ _)
  | some q =>
    obtain ⟨u, jq, mq⟩ := q
    refine (CL.out _ HR5.out).mono ?_
    rintro e w6 ⟨⟨us, rfl, uwf, uo, hrb6⟩, ht6⟩
    obtain ⟨ua, un, uc, rfl⟩ : ∃ sa sn sc, us = .slice sa sn sc := by obtain ⟨p, q, e⟩ := uo.slice; exact ⟨p, _, q, e⟩
    unfold V.agg
    have BZ6 := Lib.hid (show Box w6 w.heap.size 0 0 0 ⟨#[]⟩ (.slice none 0 0) 26 from (ht6.block w.heap.size (by omega) (by omega)).trans BZ5.out)
    clear z0 z1 z2 z3 z4 zf0 zf1 zf2 zf3 zf4
    obtain ⟨z0, z1, z2, z3, z4⟩ := BZ6.out.cells
    have zf0 := BZ6.out.free (i := 0); have zf1 := BZ6.out.free (i := 1); have zf2 := BZ6.out.free (i := 2); have zf3 := BZ6.out.free (i := 3); have zf4 := BZ6.out.free (i := 4)
    have HP := Lib.hid (fun v0 v1 v2 v3 v4 => mg_pass_some (j := jq) HT5.out (Nat.le_refl _) (by omega) (by omega) uwf uo hrb6 ht6 v0 v1 v2 v3 v4)
    unfold V.agg at HP
    clear CL HR5 HR BZ BZ5 BZ6 ht6 hrb6 uo uwf
    go_wp2_with fail
    refine bodyPost_ret (v := .tuple #[.agg #[.int .i64 u.k, .int .i64 u.n, .int .i64 u.e, .string u.s, .slice ua un uc], .int .i64 (jq : Int)]) (by simp [results, Tryd.results121, go_sem, z0, z1, z2, z3, z4]) rfl (HP.out _ _ _ _ _)
set_option maxHeartbeats 2000000 in
theorem l06Get_text (r : Nat) (s : ByteArray) (hs : s.size ≤ 1048576) (g : Nat → Nat → MG) (hg : ∀ i l, MGood s i l (g i l)) (deep : Int) (hd : 0 ≤ deep ∧ deep ≤ 12) (hG : ∀ (i l : Nat) (W : World), i ≤ s.size → l ≤ 300 → RB W r s l → Calls Tryd.prog 121 #[.pointer (some ⟨r, 0, none⟩), .int .i64 i, .int .i64 (deep + 1)] W (MgRet r s (g i l) W)) (i l : Nat) (hi : i < s.size) (hl : l + 1 ≤ 300) (w : World) (hRB : RB w r s (l + 1 : Nat)) (bn : Nat) (hb : ((s[i].toNat : Nat) : Int) = (bn : Int)) (h1 : 160 ≤ bn) (h2 : bn < 192) :
    Calls Tryd.prog 121 #[.pointer (some ⟨r, 0, none⟩), .int .i64 i, .int .i64 deep] w (MgRet r s (mgStr s 5 (i + 1) (bn - 160) l) w) := by
  have hrw := lt_of_heap hRB
  have HR := Lib.hid hRB
  obtain ⟨m0, m1, mf⟩ := HR.out.cells
  have hr1 : r ≠ w.heap.size := by omega
  have hr2 : w.heap.size ≠ r := by omega
  have BZ := Lib.hid (Box.new w 0 0 0 ⟨#[]⟩ (.slice none 0 0) 26)
  obtain ⟨z0, z1, z2, z3, z4⟩ := BZ.out.cells
  have zf0 := BZ.out.free (i := 0); have zf1 := BZ.out.free (i := 1); have zf2 := BZ.out.free (i := 2); have zf3 := BZ.out.free (i := 3); have zf4 := BZ.out.free (i := 4)
  have HR5 := Lib.hid (show RB ((w.setCell ⟨r, 1, none⟩ (.int .i64 l)).alloc (.cells #[.int .i64 0, .int .i64 0, .int .i64 0, .string ⟨#[]⟩, .slice none 0 0] 26)) r s l from (HR.out.set l).stay ((Below.refl _ _).alloc (Nat.le_refl _) _))
  have HT5 := Lib.hid (show Touch (fun x => x = r) (fun x => x = r) w ((w.setCell ⟨r, 1, none⟩ (.int .i64 l)).alloc (.cells #[.int .i64 0, .int .i64 0, .int .i64 0, .string ⟨#[]⟩, .slice none 0 0] 26)) from ((Touch.refl _ w).setR _).trans (Touch.of_below ((Below.refl _ _).alloc (Nat.le_refl _) _)))
  have BZ5 := Lib.hid (show Box ((w.setCell ⟨r, 1, none⟩ (.int .i64 l)).alloc (.cells #[.int .i64 0, .int .i64 0, .int .i64 0, .string ⟨#[]⟩, .slice none 0 0] 26)) w.heap.size 0 0 0 ⟨#[]⟩ (.slice none 0 0) 26 from heap_alloc_here _ (by simp))
  have hz5 : ((w.setCell ⟨r, 1, none⟩ (.int .i64 l)).alloc (.cells #[.int .i64 0, .int .i64 0, .int .i64 0, .string ⟨#[]⟩, .slice none 0 0] 26)).heap.size = w.heap.size + 1 := by simp
  have CL := Lib.hid (fun (W : World) (hR : RB W r s l) => show Calls Tryd.prog 182 #[.pointer (some ⟨r, 0, none⟩), .int .i64 ((i : Int) + 1), .int .i64 5, .int .i64 ((bn : Int) - 160), .bool true] W (MgRet r s (mgStr s 5 (i + 1) (bn - 160) l) W) from by
    have := l06Str_any r s hs 5 (by unfold In64; omega) (bn - 160) (i + 1) l (by omega) (by omega) W hR
    rwa [show ((bn - 160 : Nat) : Int) = (bn : Int) - 160 by omega] at this)
  clear hG hg hRB
  generalize (mgStr s 5 (i + 1) (bn - 160) l) = o at *
  go_enter Tryd.func121, Tryd.ntmps121
  go_wp2_with fail
  cases o with
  | none =>
    refine (CL.out _ HR5.out).mono ?_
    rintro e w6 ⟨⟨t', sa, sn, sc, rfl⟩, ht6⟩
    unfold V.agg
    have BZ6 := Lib.hid (show Box w6 w.heap.size 0 0 0 ⟨#[]⟩ (.slice none 0 0) 26 from (ht6.block w.heap.size (by omega) (by omega)).trans BZ5.out)
    clear z0 z1 z2 z3 z4 zf0 zf1 zf2 zf3 zf4
    obtain ⟨z0, z1, z2, z3, z4⟩ := BZ6.out.cells
    have zf0 := BZ6.out.free (i := 0); have zf1 := BZ6.out.free (i := 1); have zf2 := BZ6.out.free (i := 2); have zf3 := BZ6.out.free (i := 3); have zf4 := BZ6.out.free (i := 4)
    have HP := Lib.hid (fun v0 v1 v2 v3 v4 => mg_pass_none (s := s) (t := t') (a := sa) (n := sn) (c := sc) HT5.out (Nat.le_refl _) ht6 v0 v1 v2 v3 v4)
    unfold V.agg at HP
    clear CL HR5 HR BZ BZ5 BZ6 ht6
    go_wp2_with fail
    refine bodyPost_ret (v := .tuple #[.agg #[.int .i64 t'.k, .int .i64 t'.n, .int .i64 t'.e, .string t'.s, .slice sa sn sc], .int .i64 (-1)]) (by simp [results, Tryd.results121, go_sem, z0, z1, z2, z3, z4]) rfl (HP.out _ _ _ _ _)
  | some q =>
    obtain ⟨u, jq, mq⟩ := q
    refine (CL.out _ HR5.out).mono ?_
    rintro e w6 ⟨⟨us, rfl, uwf, uo, hrb6⟩, ht6⟩
    obtain ⟨ua, un, uc, rfl⟩ : ∃ sa sn sc, us = .slice sa sn sc := by obtain ⟨p, q, e⟩ := uo.slice; exact ⟨p, _, q, e⟩
    unfold V.agg
    have BZ6 := Lib.hid (show Box w6 w.heap.size 0 0 0 ⟨#[]⟩ (.slice none 0 0) 26 from (ht6.block w.heap.size (by omega) (by omega)).trans BZ5.out)
    clear z0 z1 z2 z3 z4 zf0 zf1 zf2 zf3 zf4
    obtain ⟨z0, z1, z2, z3, z4⟩ := BZ6.out.cells
    have zf0 := BZ6.out.free (i := 0); have zf1 := BZ6.out.free (i := 1); have zf2 := BZ6.out.free (i := 2); have zf3 := BZ6.out.free (i := 3); have zf4 := BZ6.out.free (i := 4)
    have HP := Lib.hid (fun v0 v1 v2 v3 v4 => mg_pass_some (j := jq) HT5.out (Nat.le_refl _) (by omega) (by omega) uwf uo hrb6 ht6 v0 v1 v2 v3 v4)
    unfold V.agg at HP
    clear CL HR5 HR BZ BZ5 BZ6 ht6 hrb6 uo uwf
    go_wp2_with fail
    refine bodyPost_ret (v := .tuple #[.agg #[.int .i64 u.k, .int .i64 u.n, .int .i64 u.e, .string u.s, .slice ua un uc], .int .i64 (jq : Int)]) (by simp [results, Tryd.results121, go_sem, z0, z1, z2, z3, z4]) rfl (HP.out _ _ _ _ _)
set_option maxHeartbeats 2000000 in
theorem l06Get_wide (r : Nat) (s : ByteArray) (hs : s.size ≤ 1048576) (g : Nat → Nat → MG) (hg : ∀ i l, MGood s i l (g i l)) (deep : Int) (hd : 0 ≤ deep ∧ deep ≤ 12) (hG : ∀ (i l : Nat) (W : World), i ≤ s.size → l ≤ 300 → RB W r s l → Calls Tryd.prog 121 #[.pointer (some ⟨r, 0, none⟩), .int .i64 i, .int .i64 (deep + 1)] W (MgRet r s (g i l) W)) (i l : Nat) (hi : i < s.size) (hl : l + 1 ≤ 300) (w : World) (hRB : RB w r s (l + 1 : Nat)) (bn : Nat) (hb : ((s[i].toNat : Nat) : Int) = (bn : Int)) (q : Nat) (hq : q ≤ 3) (sg : Bool) (hbn : (bn : Int) = (if sg then 208 else 204) + q) :
    Calls Tryd.prog 121 #[.pointer (some ⟨r, 0, none⟩), .int .i64 i, .int .i64 deep] w (MgRet r s ((wgo s (i + 1) (2 ^ q)).bind fun n => mgLeaf 3 (if sg then signN n (2 ^ q) else n) 0 (i + 1 + 2 ^ q) l) w) := by
  have hrw := lt_of_heap hRB
  have HR := Lib.hid hRB
  obtain ⟨m0, m1, mf⟩ := HR.out.cells
  have hr1 : r ≠ w.heap.size := by omega
  have hr2 : w.heap.size ≠ r := by omega
  have BZ := Lib.hid (Box.new w 0 0 0 ⟨#[]⟩ (.slice none 0 0) 26)
  obtain ⟨z0, z1, z2, z3, z4⟩ := BZ.out.cells
  have zf0 := BZ.out.free (i := 0); have zf1 := BZ.out.free (i := 1); have zf2 := BZ.out.free (i := 2); have zf3 := BZ.out.free (i := 3); have zf4 := BZ.out.free (i := 4)
  have HR5 := Lib.hid (show RB ((w.setCell ⟨r, 1, none⟩ (.int .i64 l)).alloc (.cells #[.int .i64 0, .int .i64 0, .int .i64 0, .string ⟨#[]⟩, .slice none 0 0] 26)) r s l from (HR.out.set l).stay ((Below.refl _ _).alloc (Nat.le_refl _) _))
  have HT5 := Lib.hid (show Touch (fun x => x = r) (fun x => x = r) w ((w.setCell ⟨r, 1, none⟩ (.int .i64 l)).alloc (.cells #[.int .i64 0, .int .i64 0, .int .i64 0, .string ⟨#[]⟩, .slice none 0 0] 26)) from ((Touch.refl _ w).setR _).trans (Touch.of_below ((Below.refl _ _).alloc (Nat.le_refl _) _)))
  have BZ5 := Lib.hid (show Box ((w.setCell ⟨r, 1, none⟩ (.int .i64 l)).alloc (.cells #[.int .i64 0, .int .i64 0, .int .i64 0, .string ⟨#[]⟩, .slice none 0 0] 26)) w.heap.size 0 0 0 ⟨#[]⟩ (.slice none 0 0) 26 from heap_alloc_here _ (by simp))
  have hz5 : ((w.setCell ⟨r, 1, none⟩ (.int .i64 l)).alloc (.cells #[.int .i64 0, .int .i64 0, .int .i64 0, .string ⟨#[]⟩, .slice none 0 0] 26)).heap.size = w.heap.size + 1 := by simp
  have hr4 : 204 ≤ bn ∧ bn ≤ 211 := by cases sg <;> simp at hbn <;> omega
  have e192 : ((bn : Int) == 192) = false := by simp; omega
  have e194 : ((bn : Int) == 194) = false := by simp; omega
  have e195 : ((bn : Int) == 195) = false := by simp; omega
  have IN := Lib.hid (fun W => l01In_yes (bn : Int) 204 211 W (by omega) (by omega))
  obtain ⟨h204, h211⟩ := hr4
  have CL := Lib.hid (fun (W : World) (hR : RB W r s l) => show Calls Tryd.prog 183 #[.pointer (some ⟨r, 0, none⟩), .int .i64 ((i : Int) + 1), .int .i64 (bn : Int)] W (MgRet r s ((wgo s (i + 1) (2 ^ q)).bind fun n => mgLeaf 3 (if sg then signN n (2 ^ q) else n) 0 (i + 1 + 2 ^ q) l) W) from l06Wide_any r s hs (i + 1) l (by omega) (bn : Int) q hq sg hbn W hR)
  clear hG hg hRB hbn
  generalize ((wgo s (i + 1) (2 ^ q)).bind fun n => mgLeaf 3 (if sg then signN n (2 ^ q) else n) 0 (i + 1 + 2 ^ q) l) = o at *
  go_enter Tryd.func121, Tryd.ntmps121
  go_wp2_with fail
  refine (IN.out _).mono ?_
  rintro e5 w5 ⟨rfl, rfl⟩
  go_wp2_with fail
  cases o with
  | none =>
    refine (CL.out _ HR5.out).mono ?_
    rintro e w6 ⟨⟨t', sa, sn, sc, rfl⟩, ht6⟩
    unfold V.agg
    have BZ6 := Lib.hid (show Box w6 w.heap.size 0 0 0 ⟨#[]⟩ (.slice none 0 0) 26 from (ht6.block w.heap.size (by omega) (by omega)).trans BZ5.out)
    clear z0 z1 z2 z3 z4 zf0 zf1 zf2 zf3 zf4
    obtain ⟨z0, z1, z2, z3, z4⟩ := BZ6.out.cells
    have zf0 := BZ6.out.free (i := 0); have zf1 := BZ6.out.free (i := 1); have zf2 := BZ6.out.free (i := 2); have zf3 := BZ6.out.free (i := 3); have zf4 := BZ6.out.free (i := 4)
    have HP := Lib.hid (fun v0 v1 v2 v3 v4 => mg_pass_none (s := s) (t := t') (a := sa) (n := sn) (c := sc) HT5.out (Nat.le_refl _) ht6 v0 v1 v2 v3 v4)
    unfold V.agg at HP
    clear CL HR5 HR BZ BZ5 BZ6 ht6
    go_wp2_with fail
    refine bodyPost_ret (v := .tuple #[.agg #[.int .i64 t'.k, .int .i64 t'.n, .int .i64 t'.e, .string t'.s, .slice sa sn sc], .int .i64 (-1)]) (by simp [results, Tryd.results121, go_sem, z0, z1, z2, z3, z4]) rfl (HP.out _ _ _ _ _)
  | some q =>
    obtain ⟨u, jq, mq⟩ := q
    refine (CL.out _ HR5.out).mono ?_
    rintro e w6 ⟨⟨us, rfl, uwf, uo, hrb6⟩, ht6⟩
    obtain ⟨ua, un, uc, rfl⟩ : ∃ sa sn sc, us = .slice sa sn sc := by obtain ⟨p, q, e⟩ := uo.slice; exact ⟨p, _, q, e⟩
    unfold V.agg
    have BZ6 := Lib.hid (show Box w6 w.heap.size 0 0 0 ⟨#[]⟩ (.slice none 0 0) 26 from (ht6.block w.heap.size (by omega) (by omega)).trans BZ5.out)
    clear z0 z1 z2 z3 z4 zf0 zf1 zf2 zf3 zf4
    obtain ⟨z0, z1, z2, z3, z4⟩ := BZ6.out.cells
    have zf0 := BZ6.out.free (i := 0); have zf1 := BZ6.out.free (i := 1); have zf2 := BZ6.out.free (i := 2); have zf3 := BZ6.out.free (i := 3); have zf4 := BZ6.out.free (i := 4)
    have HP := Lib.hid (fun v0 v1 v2 v3 v4 => mg_pass_some (j := jq) HT5.out (Nat.le_refl _) (by omega) (by omega) uwf uo hrb6 ht6 v0 v1 v2 v3 v4)
    unfold V.agg at HP
    clear CL HR5 HR BZ BZ5 BZ6 ht6 hrb6 uo uwf
    go_wp2_with fail
    refine bodyPost_ret (v := .tuple #[.agg #[.int .i64 u.k, .int .i64 u.n, .int .i64 u.e, .string u.s, .slice ua un uc], .int .i64 (jq : Int)]) (by simp [results, Tryd.results121, go_sem, z0, z1, z2, z3, z4]) rfl (HP.out _ _ _ _ _)
set_option maxRecDepth 100000 in
set_option maxHeartbeats 2000000 in
theorem l06Get_small (r : Nat) (s : ByteArray) (hs : s.size ≤ 1048576) (g : Nat → Nat → MG) (hg : ∀ i l, MGood s i l (g i l)) (deep : Int) (hd : 0 ≤ deep ∧ deep ≤ 12) (hG : ∀ (i l : Nat) (W : World), i ≤ s.size → l ≤ 300 → RB W r s l → Calls Tryd.prog 121 #[.pointer (some ⟨r, 0, none⟩), .int .i64 i, .int .i64 (deep + 1)] W (MgRet r s (g i l) W)) (i l : Nat) (hi : i < s.size) (hl : l + 1 ≤ 300) (w : World) (hRB : RB w r s (l + 1 : Nat)) (bn : Nat) (hb : ((s[i].toNat : Nat) : Int) = (bn : Int)) (h1 : bn < 128) :
    Calls Tryd.prog 121 #[.pointer (some ⟨r, 0, none⟩), .int .i64 i, .int .i64 deep] w (MgRet r s (mgLeaf 3 ((bn : Int)) 0 (i + 1) l) w) := by
  have hrw := lt_of_heap hRB
  have HR := Lib.hid hRB
  obtain ⟨m0, m1, mf⟩ := HR.out.cells
  have hr1 : r ≠ w.heap.size := by omega
  have hr2 : w.heap.size ≠ r := by omega
  have BZ := Lib.hid (Box.new w 0 0 0 ⟨#[]⟩ (.slice none 0 0) 26)
  obtain ⟨z0, z1, z2, z3, z4⟩ := BZ.out.cells
  have zf0 := BZ.out.free (i := 0); have zf1 := BZ.out.free (i := 1); have zf2 := BZ.out.free (i := 2); have zf3 := BZ.out.free (i := 3); have zf4 := BZ.out.free (i := 4)
  have HR5 := Lib.hid (show RB ((w.setCell ⟨r, 1, none⟩ (.int .i64 l)).alloc (.cells #[.int .i64 0, .int .i64 0, .int .i64 0, .string ⟨#[]⟩, .slice none 0 0] 26)) r s l from (HR.out.set l).stay ((Below.refl _ _).alloc (Nat.le_refl _) _))
  have HT5 := Lib.hid (show Touch (fun x => x = r) (fun x => x = r) w ((w.setCell ⟨r, 1, none⟩ (.int .i64 l)).alloc (.cells #[.int .i64 0, .int .i64 0, .int .i64 0, .string ⟨#[]⟩, .slice none 0 0] 26)) from ((Touch.refl _ w).setR _).trans (Touch.of_below ((Below.refl _ _).alloc (Nat.le_refl _) _)))
  have BZ5 := Lib.hid (show Box ((w.setCell ⟨r, 1, none⟩ (.int .i64 l)).alloc (.cells #[.int .i64 0, .int .i64 0, .int .i64 0, .string ⟨#[]⟩, .slice none 0 0] 26)) w.heap.size 0 0 0 ⟨#[]⟩ (.slice none 0 0) 26 from heap_alloc_here _ (by simp))
  have hz5 : ((w.setCell ⟨r, 1, none⟩ (.int .i64 l)).alloc (.cells #[.int .i64 0, .int .i64 0, .int .i64 0, .string ⟨#[]⟩, .slice none 0 0] 26)).heap.size = w.heap.size + 1 := by simp
  have LI := Lib.hid (fun W => l02Int_any ((bn : Int)) W)
  have hn64 : In64 ((bn : Int)) := by unfold In64; omega
  clear hG hg hRB
  go_enter Tryd.func121, Tryd.ntmps121
  go_wp2_with fail
  refine (LI.out _).mono ?_
  rintro e w6 ⟨rfl, hb6⟩
  have BZ6 := Lib.hid (BZ5.out.stay hb6)
  clear z0 z1 z2 z3 z4 zf0 zf1 zf2 zf3 zf4
  obtain ⟨z0, z1, z2, z3, z4⟩ := BZ6.out.cells
  have zf0 := BZ6.out.free (i := 0); have zf1 := BZ6.out.free (i := 1); have zf2 := BZ6.out.free (i := 2); have zf3 := BZ6.out.free (i := 3); have zf4 := BZ6.out.free (i := 4)
  have HP := Lib.hid (fun v0 v1 v2 v3 v4 => show MgRet r s (mgLeaf 3 ((bn : Int)) 0 (i + 1) l) w (.returned (.tuple #[.agg #[.int .i64 3, .int .i64 ((bn : Int)), .int .i64 0, .string ⟨#[]⟩, .slice none 0 0], .int .i64 ((i + 1 : Nat) : Int)])) (set5 w6 w.heap.size v0 v1 v2 v3 v4) from
    mg_pass_some (u := .mk 3 ((bn : Int)) 0 ⟨#[]⟩ []) (j := i + 1) HT5.out (Nat.le_refl _) (by omega) (by omega) ⟨in3, hn64, in0, by show ByteArray.size ⟨#[]⟩ ≤ _; simp [ByteArray.size]⟩ (OwnS.nil _ _) (HR5.out.stay hb6) (Touch.of_below hb6) v0 v1 v2 v3 v4)
  go_wp2_with fail
  refine bodyPost_ret (v := .tuple #[.agg #[.int .i64 3, .int .i64 ((bn : Int)), .int .i64 0, .string ⟨#[]⟩, .slice none 0 0], .int .i64 ((i + 1 : Nat) : Int)]) (by simp [results, Tryd.results121, go_sem, z0, z1, z2, z3, z4]) rfl (HP.out _ _ _ _ _)
set_option maxRecDepth 100000 in
set_option maxHeartbeats 2000000 in
theorem l06Get_neg (r : Nat) (s : ByteArray) (hs : s.size ≤ 1048576) (g : Nat → Nat → MG) (hg : ∀ i l, MGood s i l (g i l)) (deep : Int) (hd : 0 ≤ deep ∧ deep ≤ 12) (hG : ∀ (i l : Nat) (W : World), i ≤ s.size → l ≤ 300 → RB W r s l → Calls Tryd.prog 121 #[.pointer (some ⟨r, 0, none⟩), .int .i64 i, .int .i64 (deep + 1)] W (MgRet r s (g i l) W)) (i l : Nat) (hi : i < s.size) (hl : l + 1 ≤ 300) (w : World) (hRB : RB w r s (l + 1 : Nat)) (bn : Nat) (hb : ((s[i].toNat : Nat) : Int) = (bn : Int)) (h1 : 224 ≤ bn) (h2 : bn < 256) :
    Calls Tryd.prog 121 #[.pointer (some ⟨r, 0, none⟩), .int .i64 i, .int .i64 deep] w (MgRet r s (mgLeaf 3 ((bn : Int) - 256) 0 (i + 1) l) w) := by
  have hrw := lt_of_heap hRB
  have HR := Lib.hid hRB
  obtain ⟨m0, m1, mf⟩ := HR.out.cells
  have hr1 : r ≠ w.heap.size := by omega
  have hr2 : w.heap.size ≠ r := by omega
  have BZ := Lib.hid (Box.new w 0 0 0 ⟨#[]⟩ (.slice none 0 0) 26)
  obtain ⟨z0, z1, z2, z3, z4⟩ := BZ.out.cells
  have zf0 := BZ.out.free (i := 0); have zf1 := BZ.out.free (i := 1); have zf2 := BZ.out.free (i := 2); have zf3 := BZ.out.free (i := 3); have zf4 := BZ.out.free (i := 4)
  have HR5 := Lib.hid (show RB ((w.setCell ⟨r, 1, none⟩ (.int .i64 l)).alloc (.cells #[.int .i64 0, .int .i64 0, .int .i64 0, .string ⟨#[]⟩, .slice none 0 0] 26)) r s l from (HR.out.set l).stay ((Below.refl _ _).alloc (Nat.le_refl _) _))
  have HT5 := Lib.hid (show Touch (fun x => x = r) (fun x => x = r) w ((w.setCell ⟨r, 1, none⟩ (.int .i64 l)).alloc (.cells #[.int .i64 0, .int .i64 0, .int .i64 0, .string ⟨#[]⟩, .slice none 0 0] 26)) from ((Touch.refl _ w).setR _).trans (Touch.of_below ((Below.refl _ _).alloc (Nat.le_refl _) _)))
  have BZ5 := Lib.hid (show Box ((w.setCell ⟨r, 1, none⟩ (.int .i64 l)).alloc (.cells #[.int .i64 0, .int .i64 0, .int .i64 0, .string ⟨#[]⟩, .slice none 0 0] 26)) w.heap.size 0 0 0 ⟨#[]⟩ (.slice none 0 0) 26 from heap_alloc_here _ (by simp))
  have hz5 : ((w.setCell ⟨r, 1, none⟩ (.int .i64 l)).alloc (.cells #[.int .i64 0, .int .i64 0, .int .i64 0, .string ⟨#[]⟩, .slice none 0 0] 26)).heap.size = w.heap.size + 1 := by simp
  have LI := Lib.hid (fun W => l02Int_any ((bn : Int) - 256) W)
  have hn64 : In64 ((bn : Int) - 256) := by unfold In64; omega
  clear hG hg hRB
  go_enter Tryd.func121, Tryd.ntmps121
  go_wp2_with fail
  refine (LI.out _).mono ?_
  rintro e w6 ⟨rfl, hb6⟩
  have BZ6 := Lib.hid (BZ5.out.stay hb6)
  clear z0 z1 z2 z3 z4 zf0 zf1 zf2 zf3 zf4
  obtain ⟨z0, z1, z2, z3, z4⟩ := BZ6.out.cells
  have zf0 := BZ6.out.free (i := 0); have zf1 := BZ6.out.free (i := 1); have zf2 := BZ6.out.free (i := 2); have zf3 := BZ6.out.free (i := 3); have zf4 := BZ6.out.free (i := 4)
  have HP := Lib.hid (fun v0 v1 v2 v3 v4 => show MgRet r s (mgLeaf 3 ((bn : Int) - 256) 0 (i + 1) l) w (.returned (.tuple #[.agg #[.int .i64 3, .int .i64 ((bn : Int) - 256), .int .i64 0, .string ⟨#[]⟩, .slice none 0 0], .int .i64 ((i + 1 : Nat) : Int)])) (set5 w6 w.heap.size v0 v1 v2 v3 v4) from
    mg_pass_some (u := .mk 3 ((bn : Int) - 256) 0 ⟨#[]⟩ []) (j := i + 1) HT5.out (Nat.le_refl _) (by omega) (by omega) ⟨in3, hn64, in0, by show ByteArray.size ⟨#[]⟩ ≤ _; simp [ByteArray.size]⟩ (OwnS.nil _ _) (HR5.out.stay hb6) (Touch.of_below hb6) v0 v1 v2 v3 v4)
  go_wp2_with fail
  refine bodyPost_ret (v := .tuple #[.agg #[.int .i64 3, .int .i64 ((bn : Int) - 256), .int .i64 0, .string ⟨#[]⟩, .slice none 0 0], .int .i64 ((i + 1 : Nat) : Int)]) (by simp [results, Tryd.results121, go_sem, z0, z1, z2, z3, z4]) rfl (HP.out _ _ _ _ _)
theorem mg_leafT {r : Nat} {s : ByteArray} {k n e : Int} {t : ByteArray} {j l : Nat} {w w' : World} (hk : In64 k) (hn : In64 n) (he : In64 e) (ht : t.size ≤ 9223372036854775807) (hT : Touch (fun x => x = r) (fun x => x = r) w w') (hR : RB w' r s l) :
    MgRet r s (some (.mk k n e t [], j, l)) w (.returned (.tuple #[.agg #[.int .i64 k, .int .i64 n, .int .i64 e, .string t, .slice none 0 0], .int .i64 (j : Int)])) w' :=
  ⟨⟨.slice none 0 0, rfl, ⟨hk, hn, he, ht⟩, OwnS.nil _ _, hR⟩, hT⟩
set_option maxHeartbeats 4000000 in
theorem l06Get_k192 (r : Nat) (s : ByteArray) (hs : s.size ≤ 1048576) (g : Nat → Nat → MG) (hg : ∀ i l, MGood s i l (g i l)) (deep : Int) (hd : 0 ≤ deep ∧ deep ≤ 12) (hG : ∀ (i l : Nat) (W : World), i ≤ s.size → l ≤ 300 → RB W r s l → Calls Tryd.prog 121 #[.pointer (some ⟨r, 0, none⟩), .int .i64 i, .int .i64 (deep + 1)] W (MgRet r s (g i l) W)) (i l : Nat) (hi : i < s.size) (hl : l + 1 ≤ 300) (w : World) (hRB : RB w r s (l + 1 : Nat)) (hb : ((s[i].toNat : Nat) : Int) = 192) :
    Calls Tryd.prog 121 #[.pointer (some ⟨r, 0, none⟩), .int .i64 i, .int .i64 deep] w (MgRet r s (mgLeaf 0 0 0 (i + 1) l) w) := by
  have hrw := lt_of_heap hRB
  have HR := Lib.hid hRB
  obtain ⟨m0, m1, mf⟩ := HR.out.cells
  have hr1 : r ≠ w.heap.size := by omega
  have hr2 : w.heap.size ≠ r := by omega
  have BZ := Lib.hid (Box.new w 0 0 0 ⟨#[]⟩ (.slice none 0 0) 26)
  obtain ⟨z0, z1, z2, z3, z4⟩ := BZ.out.cells
  have zf0 := BZ.out.free (i := 0); have zf1 := BZ.out.free (i := 1); have zf2 := BZ.out.free (i := 2); have zf3 := BZ.out.free (i := 3); have zf4 := BZ.out.free (i := 4)
  have HR5 := Lib.hid (show RB ((w.setCell ⟨r, 1, none⟩ (.int .i64 l)).alloc (.cells #[.int .i64 0, .int .i64 0, .int .i64 0, .string ⟨#[]⟩, .slice none 0 0] 26)) r s l from (HR.out.set l).stay ((Below.refl _ _).alloc (Nat.le_refl _) _))
  have HT5 := Lib.hid (show Touch (fun x => x = r) (fun x => x = r) w ((w.setCell ⟨r, 1, none⟩ (.int .i64 l)).alloc (.cells #[.int .i64 0, .int .i64 0, .int .i64 0, .string ⟨#[]⟩, .slice none 0 0] 26)) from ((Touch.refl _ w).setR _).trans (Touch.of_below ((Below.refl _ _).alloc (Nat.le_refl _) _)))
  have BZ5 := Lib.hid (show Box ((w.setCell ⟨r, 1, none⟩ (.int .i64 l)).alloc (.cells #[.int .i64 0, .int .i64 0, .int .i64 0, .string ⟨#[]⟩, .slice none 0 0] 26)) w.heap.size 0 0 0 ⟨#[]⟩ (.slice none 0 0) 26 from heap_alloc_here _ (by simp))
  have hz5 : ((w.setCell ⟨r, 1, none⟩ (.int .i64 l)).alloc (.cells #[.int .i64 0, .int .i64 0, .int .i64 0, .string ⟨#[]⟩, .slice none 0 0] 26)).heap.size = w.heap.size + 1 := by simp
  clear hG hg hRB
  go_enter Tryd.func121, Tryd.ntmps121
  go_wp2_with fail
  refine bodyPost_ret (v := .tuple #[.agg #[.int .i64 0, .int .i64 0, .int .i64 0, .string ⟨#[]⟩, .slice none 0 0], .int .i64 ((i + 1 : Nat) : Int)]) (by simp [results, Tryd.results121, go_sem, z0, z1, z2, z3, z4]) rfl (mg_leafT (by unfold In64; omega) in0 in0 (by simp [ByteArray.size]) (((Touch.refl _ w).setR _).trans (Touch.of_below ((by (with_reducible (repeat' (first | exact Below.refl _ _ | refine below_alloc ?_ _ ?_ | refine Below.setCell ?_ ?_ _ | refine Below.drew ?_ | refine below_drewN ?_ _ | refine below_step ?_ (by assumption) ?_ | refine below_mark ?_ (by assumption) ?_))); all_goals (first | omega | (simp; done) | (simp; omega)))))) ((HR.out.set l).stay ((by (with_reducible (repeat' (first | exact Below.refl _ _ | refine below_alloc ?_ _ ?_ | refine Below.setCell ?_ ?_ _ | refine Below.drew ?_ | refine below_drewN ?_ _ | refine below_step ?_ (by assumption) ?_ | refine below_mark ?_ (by assumption) ?_))); all_goals (first | omega | (simp; done) | (simp; omega))))))
set_option maxHeartbeats 4000000 in
theorem l06Get_k194 (r : Nat) (s : ByteArray) (hs : s.size ≤ 1048576) (g : Nat → Nat → MG) (hg : ∀ i l, MGood s i l (g i l)) (deep : Int) (hd : 0 ≤ deep ∧ deep ≤ 12) (hG : ∀ (i l : Nat) (W : World), i ≤ s.size → l ≤ 300 → RB W r s l → Calls Tryd.prog 121 #[.pointer (some ⟨r, 0, none⟩), .int .i64 i, .int .i64 (deep + 1)] W (MgRet r s (g i l) W)) (i l : Nat) (hi : i < s.size) (hl : l + 1 ≤ 300) (w : World) (hRB : RB w r s (l + 1 : Nat)) (hb : ((s[i].toNat : Nat) : Int) = 194) :
    Calls Tryd.prog 121 #[.pointer (some ⟨r, 0, none⟩), .int .i64 i, .int .i64 deep] w (MgRet r s (mgLeaf 1 0 0 (i + 1) l) w) := by
  have hrw := lt_of_heap hRB
  have HR := Lib.hid hRB
  obtain ⟨m0, m1, mf⟩ := HR.out.cells
  have hr1 : r ≠ w.heap.size := by omega
  have hr2 : w.heap.size ≠ r := by omega
  have BZ := Lib.hid (Box.new w 0 0 0 ⟨#[]⟩ (.slice none 0 0) 26)
  obtain ⟨z0, z1, z2, z3, z4⟩ := BZ.out.cells
  have zf0 := BZ.out.free (i := 0); have zf1 := BZ.out.free (i := 1); have zf2 := BZ.out.free (i := 2); have zf3 := BZ.out.free (i := 3); have zf4 := BZ.out.free (i := 4)
  have HR5 := Lib.hid (show RB ((w.setCell ⟨r, 1, none⟩ (.int .i64 l)).alloc (.cells #[.int .i64 0, .int .i64 0, .int .i64 0, .string ⟨#[]⟩, .slice none 0 0] 26)) r s l from (HR.out.set l).stay ((Below.refl _ _).alloc (Nat.le_refl _) _))
  have HT5 := Lib.hid (show Touch (fun x => x = r) (fun x => x = r) w ((w.setCell ⟨r, 1, none⟩ (.int .i64 l)).alloc (.cells #[.int .i64 0, .int .i64 0, .int .i64 0, .string ⟨#[]⟩, .slice none 0 0] 26)) from ((Touch.refl _ w).setR _).trans (Touch.of_below ((Below.refl _ _).alloc (Nat.le_refl _) _)))
  have BZ5 := Lib.hid (show Box ((w.setCell ⟨r, 1, none⟩ (.int .i64 l)).alloc (.cells #[.int .i64 0, .int .i64 0, .int .i64 0, .string ⟨#[]⟩, .slice none 0 0] 26)) w.heap.size 0 0 0 ⟨#[]⟩ (.slice none 0 0) 26 from heap_alloc_here _ (by simp))
  have hz5 : ((w.setCell ⟨r, 1, none⟩ (.int .i64 l)).alloc (.cells #[.int .i64 0, .int .i64 0, .int .i64 0, .string ⟨#[]⟩, .slice none 0 0] 26)).heap.size = w.heap.size + 1 := by simp
  clear hG hg hRB
  go_enter Tryd.func121, Tryd.ntmps121
  go_wp2_with fail
  refine bodyPost_ret (v := .tuple #[.agg #[.int .i64 1, .int .i64 0, .int .i64 0, .string ⟨#[]⟩, .slice none 0 0], .int .i64 ((i + 1 : Nat) : Int)]) (by simp [results, Tryd.results121, go_sem, z0, z1, z2, z3, z4]) rfl (mg_leafT (by unfold In64; omega) in0 in0 (by simp [ByteArray.size]) (((Touch.refl _ w).setR _).trans (Touch.of_below ((by (with_reducible (repeat' (first | exact Below.refl _ _ | refine below_alloc ?_ _ ?_ | refine Below.setCell ?_ ?_ _ | refine Below.drew ?_ | refine below_drewN ?_ _ | refine below_step ?_ (by assumption) ?_ | refine below_mark ?_ (by assumption) ?_))); all_goals (first | omega | (simp; done) | (simp; omega)))))) ((HR.out.set l).stay ((by (with_reducible (repeat' (first | exact Below.refl _ _ | refine below_alloc ?_ _ ?_ | refine Below.setCell ?_ ?_ _ | refine Below.drew ?_ | refine below_drewN ?_ _ | refine below_step ?_ (by assumption) ?_ | refine below_mark ?_ (by assumption) ?_))); all_goals (first | omega | (simp; done) | (simp; omega))))))
set_option maxHeartbeats 4000000 in
theorem l06Get_k195 (r : Nat) (s : ByteArray) (hs : s.size ≤ 1048576) (g : Nat → Nat → MG) (hg : ∀ i l, MGood s i l (g i l)) (deep : Int) (hd : 0 ≤ deep ∧ deep ≤ 12) (hG : ∀ (i l : Nat) (W : World), i ≤ s.size → l ≤ 300 → RB W r s l → Calls Tryd.prog 121 #[.pointer (some ⟨r, 0, none⟩), .int .i64 i, .int .i64 (deep + 1)] W (MgRet r s (g i l) W)) (i l : Nat) (hi : i < s.size) (hl : l + 1 ≤ 300) (w : World) (hRB : RB w r s (l + 1 : Nat)) (hb : ((s[i].toNat : Nat) : Int) = 195) :
    Calls Tryd.prog 121 #[.pointer (some ⟨r, 0, none⟩), .int .i64 i, .int .i64 deep] w (MgRet r s (mgLeaf 2 0 0 (i + 1) l) w) := by
  have hrw := lt_of_heap hRB
  have HR := Lib.hid hRB
  obtain ⟨m0, m1, mf⟩ := HR.out.cells
  have hr1 : r ≠ w.heap.size := by omega
  have hr2 : w.heap.size ≠ r := by omega
  have BZ := Lib.hid (Box.new w 0 0 0 ⟨#[]⟩ (.slice none 0 0) 26)
  obtain ⟨z0, z1, z2, z3, z4⟩ := BZ.out.cells
  have zf0 := BZ.out.free (i := 0); have zf1 := BZ.out.free (i := 1); have zf2 := BZ.out.free (i := 2); have zf3 := BZ.out.free (i := 3); have zf4 := BZ.out.free (i := 4)
  have HR5 := Lib.hid (show RB ((w.setCell ⟨r, 1, none⟩ (.int .i64 l)).alloc (.cells #[.int .i64 0, .int .i64 0, .int .i64 0, .string ⟨#[]⟩, .slice none 0 0] 26)) r s l from (HR.out.set l).stay ((Below.refl _ _).alloc (Nat.le_refl _) _))
  have HT5 := Lib.hid (show Touch (fun x => x = r) (fun x => x = r) w ((w.setCell ⟨r, 1, none⟩ (.int .i64 l)).alloc (.cells #[.int .i64 0, .int .i64 0, .int .i64 0, .string ⟨#[]⟩, .slice none 0 0] 26)) from ((Touch.refl _ w).setR _).trans (Touch.of_below ((Below.refl _ _).alloc (Nat.le_refl _) _)))
  have BZ5 := Lib.hid (show Box ((w.setCell ⟨r, 1, none⟩ (.int .i64 l)).alloc (.cells #[.int .i64 0, .int .i64 0, .int .i64 0, .string ⟨#[]⟩, .slice none 0 0] 26)) w.heap.size 0 0 0 ⟨#[]⟩ (.slice none 0 0) 26 from heap_alloc_here _ (by simp))
  have hz5 : ((w.setCell ⟨r, 1, none⟩ (.int .i64 l)).alloc (.cells #[.int .i64 0, .int .i64 0, .int .i64 0, .string ⟨#[]⟩, .slice none 0 0] 26)).heap.size = w.heap.size + 1 := by simp
  clear hG hg hRB
  go_enter Tryd.func121, Tryd.ntmps121
  go_wp2_with fail
  refine bodyPost_ret (v := .tuple #[.agg #[.int .i64 2, .int .i64 0, .int .i64 0, .string ⟨#[]⟩, .slice none 0 0], .int .i64 ((i + 1 : Nat) : Int)]) (by simp [results, Tryd.results121, go_sem, z0, z1, z2, z3, z4]) rfl (mg_leafT (by unfold In64; omega) in0 in0 (by simp [ByteArray.size]) (((Touch.refl _ w).setR _).trans (Touch.of_below ((by (with_reducible (repeat' (first | exact Below.refl _ _ | refine below_alloc ?_ _ ?_ | refine Below.setCell ?_ ?_ _ | refine Below.drew ?_ | refine below_drewN ?_ _ | refine below_step ?_ (by assumption) ?_ | refine below_mark ?_ (by assumption) ?_))); all_goals (first | omega | (simp; done) | (simp; omega)))))) ((HR.out.set l).stay ((by (with_reducible (repeat' (first | exact Below.refl _ _ | refine below_alloc ?_ _ ?_ | refine Below.setCell ?_ ?_ _ | refine Below.drew ?_ | refine below_drewN ?_ _ | refine below_step ?_ (by assumption) ?_ | refine below_mark ?_ (by assumption) ?_))); all_goals (first | omega | (simp; done) | (simp; omega))))))
theorem WideRet.any {o : Option Int} {w w' : World} {e : Ending} (h : WideRet o w e w') : ∃ n b, e = .returned (.tuple #[.int .i64 n, .bool b]) ∧ w' = w := by
  obtain ⟨h1, h2⟩ := h
  cases o with
  | none => exact ⟨0, false, h1, h2⟩
  | some n => exact ⟨n, true, h1, h2⟩
end Go.Proofs.YtgbgeocmjdgmoaaDoor
namespace Go.Proofs.YtgbgeocmjdgmoaaDoor
set_option linter.unusedSimpArgs false
set_option linter.unusedVariables false
set_option maxRecDepth 100000
open Go.RowKit
set_option maxHeartbeats 4000000 in
theorem l06Ext_no (r : Nat) (s : ByteArray) (hs : s.size ≤ 1048576) (g : Nat → Nat → MG) (hg : ∀ i l, MGood s i l (g i l)) (deep : Int) (hd : 0 ≤ deep ∧ deep ≤ 12) (hG : ∀ (i l : Nat) (W : World), i ≤ s.size → l ≤ 300 → RB W r s l → Calls Tryd.prog 121 #[.pointer (some ⟨r, 0, none⟩), .int .i64 i, .int .i64 (deep + 1)] W (MgRet r s (g i l) W)) (i l : Nat) (hi : i ≤ s.size) (hl : l ≤ 300) (w : World) (hRB : RB w r s l) (h : wgo s i 1 = none ∨ (∃ z, wgo s i 1 = some z ∧ wgo s (i + 1) 1 = none) ∨ ∃ z q, wgo s i 1 = some z ∧ wgo s (i + 1) 1 = some q ∧ ((z == 9) = false ∨ (z = 9 ∧ (q == 4) = false)) ∧ ((z == 4) = false ∨ (z = 4 ∧ (q == 6) = false))) :
    Calls Tryd.prog 184 #[.pointer (some ⟨r, 0, none⟩), .int .i64 i, .int .i64 deep] w (MgRet r s none w) := by
  have hrw := lt_of_heap hRB
  have HR := Lib.hid hRB
  obtain ⟨m0, m1, mf⟩ := HR.out.cells
  have hr1 : r ≠ w.heap.size := by omega
  have hr2 : w.heap.size ≠ r := by omega
  have BZ := Lib.hid (Box.new w 0 0 0 ⟨#[]⟩ (.slice none 0 0) 26)
  obtain ⟨z0, z1, z2, z3, z4⟩ := BZ.out.cells
  have zf0 := BZ.out.free (i := 0); have zf1 := BZ.out.free (i := 1); have zf2 := BZ.out.free (i := 2); have zf3 := BZ.out.free (i := 3); have zf4 := BZ.out.free (i := 4)
  have G0 := Lib.hid (fun W => show Calls Tryd.prog 47 #[.string s, .int .i64 (i), .int .i64 1] W (WideRet (wgo s (i) 1) W) from GetWide_go s (i) 1 W hs (by omega) (by omega))
  have G1 := Lib.hid (fun W => show Calls Tryd.prog 47 #[.string s, .int .i64 ((i : Int) + 1), .int .i64 1] W (WideRet (wgo s (i + 1) 1) W) from GetWide_go s (i + 1) 1 W hs (by omega) (by omega))
  clear hG hg hRB
  rcases h with h | ⟨z, hz, h⟩ | ⟨z, q, hz, hq, h⟩
  · rw [h] at G0
    cases ho : wgo s (i + 1) 1 with
    | none =>
      rw [ho] at G1
      go_enter Tryd.func184, Tryd.ntmps184
      go_wp2_with fail
      refine (G0.out _).mono ?_
      rintro e5 w5 ⟨rfl, rfl⟩
      go_wp2_with fail
      refine (G1.out _).mono ?_
      rintro e5 w5 ⟨rfl, rfl⟩
      go_wp2_with fail
      refine bodyPost_ret (v := .tuple #[.agg #[.int .i64 0, .int .i64 0, .int .i64 0, .string ⟨#[]⟩, .slice none 0 0], .int .i64 (-1)]) (by simp [results, Tryd.results184, go_sem, z0, z1, z2, z3, z4]) rfl (mg_fail (Touch.of_below ((by (with_reducible (repeat' (first | exact Below.refl _ _ | refine below_alloc ?_ _ ?_ | refine Below.setCell ?_ ?_ _ | refine Below.drew ?_ | refine below_drewN ?_ _ | refine below_step ?_ (by assumption) ?_ | refine below_mark ?_ (by assumption) ?_))); all_goals (first | omega | (simp; done) | (simp; omega))))))
    | some n1 =>
      rw [ho] at G1
      go_enter Tryd.func184, Tryd.ntmps184
      go_wp2_with fail
      refine (G0.out _).mono ?_
      rintro e5 w5 ⟨rfl, rfl⟩
      go_wp2_with fail
      refine (G1.out _).mono ?_
      rintro e5 w5 ⟨rfl, rfl⟩
      go_wp2_with fail
      refine bodyPost_ret (v := .tuple #[.agg #[.int .i64 0, .int .i64 0, .int .i64 0, .string ⟨#[]⟩, .slice none 0 0], .int .i64 (-1)]) (by simp [results, Tryd.results184, go_sem, z0, z1, z2, z3, z4]) rfl (mg_fail (Touch.of_below ((by (with_reducible (repeat' (first | exact Below.refl _ _ | refine below_alloc ?_ _ ?_ | refine Below.setCell ?_ ?_ _ | refine Below.drew ?_ | refine below_drewN ?_ _ | refine below_step ?_ (by assumption) ?_ | refine below_mark ?_ (by assumption) ?_))); all_goals (first | omega | (simp; done) | (simp; omega))))))
  · rw [hz] at G0
    rw [h] at G1
    go_enter Tryd.func184, Tryd.ntmps184
    go_wp2_with fail
    refine (G0.out _).mono ?_
    rintro e5 w5 ⟨rfl, rfl⟩
    go_wp2_with fail
    refine (G1.out _).mono ?_
    rintro e5 w5 ⟨rfl, rfl⟩
    go_wp2_with fail
    refine bodyPost_ret (v := .tuple #[.agg #[.int .i64 0, .int .i64 0, .int .i64 0, .string ⟨#[]⟩, .slice none 0 0], .int .i64 (-1)]) (by simp [results, Tryd.results184, go_sem, z0, z1, z2, z3, z4]) rfl (mg_fail (Touch.of_below ((by (with_reducible (repeat' (first | exact Below.refl _ _ | refine below_alloc ?_ _ ?_ | refine Below.setCell ?_ ?_ _ | refine Below.drew ?_ | refine below_drewN ?_ _ | refine below_step ?_ (by assumption) ?_ | refine below_mark ?_ (by assumption) ?_))); all_goals (first | omega | (simp; done) | (simp; omega))))))
  · rw [hz] at G0
    rw [hq] at G1
    clear hz hq
    obtain ⟨h1, h2⟩ := h
    rcases h1 with h1 | ⟨rfl, h1⟩
    · rcases h2 with h2 | ⟨rfl, h2⟩
      all_goals
        go_enter Tryd.func184, Tryd.ntmps184
        go_wp2_with fail
        refine (G0.out _).mono ?_
        rintro e5 w5 ⟨rfl, rfl⟩
        go_wp2_with fail
        refine (G1.out _).mono ?_
        rintro e5 w5 ⟨rfl, rfl⟩
        go_wp2_with fail
        refine bodyPost_ret (v := .tuple #[.agg #[.int .i64 0, .int .i64 0, .int .i64 0, .string ⟨#[]⟩, .slice none 0 0], .int .i64 (-1)]) (by simp [results, Tryd.results184, go_sem, z0, z1, z2, z3, z4]) rfl (mg_fail (Touch.of_below ((by (with_reducible (repeat' (first | exact Below.refl _ _ | refine below_alloc ?_ _ ?_ | refine Below.setCell ?_ ?_ _ | refine Below.drew ?_ | refine below_drewN ?_ _ | refine below_step ?_ (by assumption) ?_ | refine below_mark ?_ (by assumption) ?_))); all_goals (first | omega | (simp; done) | (simp; omega))))))
    · clear h2
      go_enter Tryd.func184, Tryd.ntmps184
      go_wp2_with fail
      refine (G0.out _).mono ?_
      rintro e5 w5 ⟨rfl, rfl⟩
      go_wp2_with fail
      refine (G1.out _).mono ?_
      rintro e5 w5 ⟨rfl, rfl⟩
      go_wp2_with fail
      refine bodyPost_ret (v := .tuple #[.agg #[.int .i64 0, .int .i64 0, .int .i64 0, .string ⟨#[]⟩, .slice none 0 0], .int .i64 (-1)]) (by simp [results, Tryd.results184, go_sem, z0, z1, z2, z3, z4]) rfl (mg_fail (Touch.of_below ((by (with_reducible (repeat' (first | exact Below.refl _ _ | refine below_alloc ?_ _ ?_ | refine Below.setCell ?_ ?_ _ | refine Below.drew ?_ | refine below_drewN ?_ _ | refine below_step ?_ (by assumption) ?_ | refine below_mark ?_ (by assumption) ?_))); all_goals (first | omega | (simp; done) | (simp; omega))))))
set_option maxHeartbeats 4000000 in
theorem l06Ext_94 (r : Nat) (s : ByteArray) (hs : s.size ≤ 1048576) (g : Nat → Nat → MG) (hg : ∀ i l, MGood s i l (g i l)) (deep : Int) (hd : 0 ≤ deep ∧ deep ≤ 12) (hG : ∀ (i l : Nat) (W : World), i ≤ s.size → l ≤ 300 → RB W r s l → Calls Tryd.prog 121 #[.pointer (some ⟨r, 0, none⟩), .int .i64 i, .int .i64 (deep + 1)] W (MgRet r s (g i l) W)) (i l : Nat) (hi : i ≤ s.size) (hl : l ≤ 300) (w : World) (hRB : RB w r s l) (hz : wgo s i 1 = some 9) (hq : wgo s (i + 1) 1 = some 4) :
    Calls Tryd.prog 184 #[.pointer (some ⟨r, 0, none⟩), .int .i64 i, .int .i64 deep] w (MgRet r s ((wgo s (i + 2) 1).bind fun e => (wgo s (i + 3) 8).bind fun n => mgLeaf 4 n (signN e 1) (i + 11) l) w) := by
  have hrw := lt_of_heap hRB
  have HR := Lib.hid hRB
  obtain ⟨m0, m1, mf⟩ := HR.out.cells
  have hr1 : r ≠ w.heap.size := by omega
  have hr2 : w.heap.size ≠ r := by omega
  have BZ := Lib.hid (Box.new w 0 0 0 ⟨#[]⟩ (.slice none 0 0) 26)
  obtain ⟨z0, z1, z2, z3, z4⟩ := BZ.out.cells
  have zf0 := BZ.out.free (i := 0); have zf1 := BZ.out.free (i := 1); have zf2 := BZ.out.free (i := 2); have zf3 := BZ.out.free (i := 3); have zf4 := BZ.out.free (i := 4)
  have G0 := Lib.hid (fun W => show Calls Tryd.prog 47 #[.string s, .int .i64 (i), .int .i64 1] W (WideRet (wgo s (i) 1) W) from GetWide_go s (i) 1 W hs (by omega) (by omega))
  have G1 := Lib.hid (fun W => show Calls Tryd.prog 47 #[.string s, .int .i64 ((i : Int) + 1), .int .i64 1] W (WideRet (wgo s (i + 1) 1) W) from GetWide_go s (i + 1) 1 W hs (by omega) (by omega))
  have G2 := Lib.hid (fun W => show Calls Tryd.prog 47 #[.string s, .int .i64 ((i : Int) + 2), .int .i64 1] W (WideRet (wgo s (i + 2) 1) W) from GetWide_go s (i + 2) 1 W hs (by omega) (by omega))
  have G3 := Lib.hid (fun W => show Calls Tryd.prog 47 #[.string s, .int .i64 ((i : Int) + 3), .int .i64 8] W (WideRet (wgo s (i + 3) 8) W) from GetWide_go s (i + 3) 8 W hs (by omega) (by omega))
  have WI2 := Lib.hid (fun n (h : wgo s (i + 2) 1 = some n) => wgo_in h)
  have WI3 := Lib.hid (fun n (h : wgo s (i + 3) 8 = some n) => wgo_in h)
  rw [hz] at G0
  rw [hq] at G1
  clear hG hg hRB hz hq
  cases h2 : wgo s (i + 2) 1 with
  | none =>
    rw [h2] at G2
    cases h3 : wgo s (i + 3) 8 with
    | none =>
      rw [h3] at G3
      clear WI2 WI3 h2 h3
      go_enter Tryd.func184, Tryd.ntmps184
      go_wp2_with fail
      refine (G0.out _).mono ?_
      rintro e5 w5 ⟨rfl, rfl⟩
      go_wp2_with fail
      refine (G1.out _).mono ?_
      rintro e5 w5 ⟨rfl, rfl⟩
      go_wp2_with fail
      refine (G2.out _).mono ?_
      rintro e5 w5 ⟨rfl, rfl⟩
      go_wp2_with fail
      refine (G3.out _).mono ?_
      rintro e5 w5 ⟨rfl, rfl⟩
      go_wp2_with fail
      refine bodyPost_ret (v := .tuple #[.agg #[.int .i64 0, .int .i64 0, .int .i64 0, .string ⟨#[]⟩, .slice none 0 0], .int .i64 (-1)]) (by simp [results, Tryd.results184, go_sem, z0, z1, z2, z3, z4]) rfl (mg_fail (Touch.of_below ((by (with_reducible (repeat' (first | exact Below.refl _ _ | refine below_alloc ?_ _ ?_ | refine Below.setCell ?_ ?_ _ | refine Below.drew ?_ | refine below_drewN ?_ _ | refine below_step ?_ (by assumption) ?_ | refine below_mark ?_ (by assumption) ?_))); all_goals (first | omega | (simp; done) | (simp; omega))))))
    | some n3 =>
      rw [h3] at G3
      clear WI2 WI3 h2 h3
      go_enter Tryd.func184, Tryd.ntmps184
      go_wp2_with fail
      refine (G0.out _).mono ?_
      rintro e5 w5 ⟨rfl, rfl⟩
      go_wp2_with fail
      refine (G1.out _).mono ?_
      rintro e5 w5 ⟨rfl, rfl⟩
      go_wp2_with fail
      refine (G2.out _).mono ?_
      rintro e5 w5 ⟨rfl, rfl⟩
      go_wp2_with fail
      refine (G3.out _).mono ?_
      rintro e5 w5 ⟨rfl, rfl⟩
      go_wp2_with fail
      refine bodyPost_ret (v := .tuple #[.agg #[.int .i64 0, .int .i64 0, .int .i64 0, .string ⟨#[]⟩, .slice none 0 0], .int .i64 (-1)]) (by simp [results, Tryd.results184, go_sem, z0, z1, z2, z3, z4]) rfl (mg_fail (Touch.of_below ((by (with_reducible (repeat' (first | exact Below.refl _ _ | refine below_alloc ?_ _ ?_ | refine Below.setCell ?_ ?_ _ | refine Below.drew ?_ | refine below_drewN ?_ _ | refine below_step ?_ (by assumption) ?_ | refine below_mark ?_ (by assumption) ?_))); all_goals (first | omega | (simp; done) | (simp; omega))))))
  | some ne =>
    rw [h2] at G2
    obtain ⟨he64, hf2⟩ := WI2.out _ h2
    cases h3 : wgo s (i + 3) 8 with
    | none =>
      rw [h3] at G3
      clear WI2 WI3 h2 h3
      go_enter Tryd.func184, Tryd.ntmps184
      go_wp2_with fail
      refine (G0.out _).mono ?_
      rintro e5 w5 ⟨rfl, rfl⟩
      go_wp2_with fail
      refine (G1.out _).mono ?_
      rintro e5 w5 ⟨rfl, rfl⟩
      go_wp2_with fail
      refine (G2.out _).mono ?_
      rintro e5 w5 ⟨rfl, rfl⟩
      go_wp2_with fail
      refine (G3.out _).mono ?_
      rintro e5 w5 ⟨rfl, rfl⟩
      go_wp2_with fail
      refine bodyPost_ret (v := .tuple #[.agg #[.int .i64 0, .int .i64 0, .int .i64 0, .string ⟨#[]⟩, .slice none 0 0], .int .i64 (-1)]) (by simp [results, Tryd.results184, go_sem, z0, z1, z2, z3, z4]) rfl (mg_fail (Touch.of_below ((by (with_reducible (repeat' (first | exact Below.refl _ _ | refine below_alloc ?_ _ ?_ | refine Below.setCell ?_ ?_ _ | refine Below.drew ?_ | refine below_drewN ?_ _ | refine below_step ?_ (by assumption) ?_ | refine below_mark ?_ (by assumption) ?_))); all_goals (first | omega | (simp; done) | (simp; omega))))))
    | some n3 =>
      rw [h3] at G3
      obtain ⟨hn64, hf3⟩ := WI3.out _ h3
      have hs64 := signN_in 1 he64
      have SG := Lib.hid (fun W => SignOf_spec ne 1 W (by omega) (by omega))
      clear WI2 WI3 h2 h3
      go_enter Tryd.func184, Tryd.ntmps184
      go_wp2_with fail
      refine (G0.out _).mono ?_
      rintro e5 w5 ⟨rfl, rfl⟩
      go_wp2_with fail
      refine (G1.out _).mono ?_
      rintro e5 w5 ⟨rfl, rfl⟩
      go_wp2_with fail
      refine (G2.out _).mono ?_
      rintro e5 w5 ⟨rfl, rfl⟩
      go_wp2_with fail
      refine (G3.out _).mono ?_
      rintro e5 w5 ⟨rfl, rfl⟩
      go_wp2_with fail
      refine (SG.out _).mono ?_
      rintro e5 w5 ⟨rfl, rfl⟩
      go_wp2_with fail
      refine bodyPost_ret (v := .tuple #[.agg #[.int .i64 4, .int .i64 n3, .int .i64 (signN ne 1), .string ⟨#[]⟩, .slice none 0 0], .int .i64 ((i + 11 : Nat) : Int)]) (by simp [results, Tryd.results184, go_sem, z0, z1, z2, z3, z4]) rfl (mg_leaf (by unfold In64; omega) hn64 hs64 (by simp [ByteArray.size]) ((by (with_reducible (repeat' (first | exact Below.refl _ _ | refine below_alloc ?_ _ ?_ | refine Below.setCell ?_ ?_ _ | refine Below.drew ?_ | refine below_drewN ?_ _ | refine below_step ?_ (by assumption) ?_ | refine below_mark ?_ (by assumption) ?_))); all_goals (first | omega | (simp; done) | (simp; omega)))) HR.out)
set_option maxHeartbeats 4000000 in
theorem l06Ext_46 (r : Nat) (s : ByteArray) (hs : s.size ≤ 1048576) (g : Nat → Nat → MG) (hg : ∀ i l, MGood s i l (g i l)) (deep : Int) (hd : 0 ≤ deep ∧ deep ≤ 12) (hG : ∀ (i l : Nat) (W : World), i ≤ s.size → l ≤ 300 → RB W r s l → Calls Tryd.prog 121 #[.pointer (some ⟨r, 0, none⟩), .int .i64 i, .int .i64 (deep + 1)] W (MgRet r s (g i l) W)) (i l : Nat) (hi : i ≤ s.size) (hl : l ≤ 300) (w : World) (hRB : RB w r s l) (hz : wgo s i 1 = some 4) (hq : wgo s (i + 1) 1 = some 6) :
    Calls Tryd.prog 184 #[.pointer (some ⟨r, 0, none⟩), .int .i64 i, .int .i64 deep] w (MgRet r s ((wgo s (i + 2) 4).bind fun n => mgNode 9 n (mgKids g 1 (i + 6) l)) w) := by
  have hrw := lt_of_heap hRB
  have HR := Lib.hid hRB
  obtain ⟨m0, m1, mf⟩ := HR.out.cells
  have hr1 : r ≠ w.heap.size := by omega
  have hr2 : w.heap.size ≠ r := by omega
  have BZ := Lib.hid (Box.new w 0 0 0 ⟨#[]⟩ (.slice none 0 0) 26)
  obtain ⟨z0, z1, z2, z3, z4⟩ := BZ.out.cells
  have zf0 := BZ.out.free (i := 0); have zf1 := BZ.out.free (i := 1); have zf2 := BZ.out.free (i := 2); have zf3 := BZ.out.free (i := 3); have zf4 := BZ.out.free (i := 4)
  have G0 := Lib.hid (fun W => show Calls Tryd.prog 47 #[.string s, .int .i64 (i), .int .i64 1] W (WideRet (wgo s (i) 1) W) from GetWide_go s (i) 1 W hs (by omega) (by omega))
  have G1 := Lib.hid (fun W => show Calls Tryd.prog 47 #[.string s, .int .i64 ((i : Int) + 1), .int .i64 1] W (WideRet (wgo s (i + 1) 1) W) from GetWide_go s (i + 1) 1 W hs (by omega) (by omega))
  have G2 := Lib.hid (fun W => show Calls Tryd.prog 47 #[.string s, .int .i64 ((i : Int) + 2), .int .i64 4] W (WideRet (wgo s (i + 2) 4) W) from GetWide_go s (i + 2) 4 W hs (by omega) (by omega))
  have WI2 := Lib.hid (fun n (h : wgo s (i + 2) 4 = some n) => wgo_in h)
  have hq4 : ((4 : Int) == 9) = false := rfl
  rw [hz] at G0
  rw [hq] at G1
  cases h2 : wgo s (i + 2) 4 with
  | none =>
    rw [h2] at G2
    clear hG hg hRB hz hq WI2 h2
    go_enter Tryd.func184, Tryd.ntmps184
    go_wp2_with fail
    refine (G0.out _).mono ?_
    rintro e5 w5 ⟨rfl, rfl⟩
    go_wp2_with fail
    refine (G1.out _).mono ?_
    rintro e5 w5 ⟨rfl, rfl⟩
    go_wp2_with fail
    refine (G2.out _).mono ?_
    rintro e5 w5 ⟨rfl, rfl⟩
    go_wp2_with fail
    refine bodyPost_ret (v := .tuple #[.agg #[.int .i64 0, .int .i64 0, .int .i64 0, .string ⟨#[]⟩, .slice none 0 0], .int .i64 (-1)]) (by simp [results, Tryd.results184, go_sem, z0, z1, z2, z3, z4]) rfl (mg_fail (Touch.of_below ((by (with_reducible (repeat' (first | exact Below.refl _ _ | refine below_alloc ?_ _ ?_ | refine Below.setCell ?_ ?_ _ | refine Below.drew ?_ | refine below_drewN ?_ _ | refine below_step ?_ (by assumption) ?_ | refine below_mark ?_ (by assumption) ?_))); all_goals (first | omega | (simp; done) | (simp; omega))))))
  | some n =>
    rw [h2] at G2
    obtain ⟨hn64, hf2⟩ := WI2.out _ h2
    have CL := Lib.hid (fun (W : World) (hR : RB W r s l) => show Calls Tryd.prog 181 #[.pointer (some ⟨r, 0, none⟩), .int .i64 ((i : Int) + 6), .int .i64 9, .int .i64 1, .bool true, .int .i64 deep] W (MgRet r s (mgNode 9 0 (mgKids g 1 (i + 6) l)) W) from
      l06Kids_any r s hs g hg deep (by omega) hG 9 1 (i + 6) l (by omega) (by omega) (by unfold In64; omega) W hR (by omega))
    show Calls _ _ _ _ (MgRet r s (mgNode 9 n (mgKids g 1 (i + 6) l)) w)
    clear hG hg hRB hz hq WI2 h2
    generalize mgKids g 1 (i + 6) l = o at *
    have HR5 := Lib.hid (show RB (w.alloc (.cells #[.int .i64 0, .int .i64 0, .int .i64 0, .string ⟨#[]⟩, .slice none 0 0] 26)) r s l from HR.out.stay ((Below.refl _ _).alloc (Nat.le_refl _) _))
    have HT5 := Lib.hid (show Touch (fun x => x = r) (fun x => x = r) w (w.alloc (.cells #[.int .i64 0, .int .i64 0, .int .i64 0, .string ⟨#[]⟩, .slice none 0 0] 26)) from Touch.of_below ((Below.refl _ _).alloc (Nat.le_refl _) _))
    have BZ5 := Lib.hid (show Box (w.alloc (.cells #[.int .i64 0, .int .i64 0, .int .i64 0, .string ⟨#[]⟩, .slice none 0 0] 26)) w.heap.size 0 0 0 ⟨#[]⟩ (.slice none 0 0) 26 from heap_alloc_here _ (by simp))
    have hz5 : (w.alloc (.cells #[.int .i64 0, .int .i64 0, .int .i64 0, .string ⟨#[]⟩, .slice none 0 0] 26)).heap.size = w.heap.size + 1 := by simp
    go_enter Tryd.func184, Tryd.ntmps184
    go_wp2_with fail
    refine (G0.out _).mono ?_
    rintro e5 w5 ⟨rfl, rfl⟩
    go_wp2_with fail
    refine (G1.out _).mono ?_
    rintro e5 w5 ⟨rfl, rfl⟩
    go_wp2_with fail
    refine (G2.out _).mono ?_
    rintro e5 w5 ⟨rfl, rfl⟩
    go_wp2_with fail
    cases o with
    | none =>
      refine (CL.out _ HR5.out).mono ?_
      rintro e w6 ⟨⟨t', sa, sn, sc, rfl⟩, ht6⟩
      unfold V.agg
      have hz6 := ht6.size
      rw [hz5] at hz6
      have BZ6 := Lib.hid (show Box w6 w.heap.size 0 0 0 ⟨#[]⟩ (.slice none 0 0) 26 from (ht6.block w.heap.size (by omega) (by omega)).trans BZ5.out)
      clear z0 z1 z2 z3 z4 zf0 zf1 zf2 zf3 zf4
      obtain ⟨z0, z1, z2, z3, z4⟩ := BZ6.out.cells
      have zf0 := BZ6.out.free (i := 0); have zf1 := BZ6.out.free (i := 1); have zf2 := BZ6.out.free (i := 2); have zf3 := BZ6.out.free (i := 3); have zf4 := BZ6.out.free (i := 4)
      have hm1 : w.heap.size ≠ w6.heap.size := by omega
      have hm2 : w6.heap.size ≠ w.heap.size := by omega
      have hm3 : w.heap.size < w6.heap.size := by omega
      have HP := Lib.hid (fun v0 v1 v2 v3 v4 ob => show MgRet r s none w (.returned (.tuple #[.agg #[.int .i64 t'.k, .int .i64 n, .int .i64 t'.e, .string t'.s, .slice sa sn sc], .int .i64 (-1)])) ((set5 w6 w.heap.size v0 v1 v2 v3 v4).alloc ob) from ⟨⟨.mk t'.k n t'.e t'.s [], sa, sn, sc, rfl⟩, ((HT5.out.trans ht6).set5 w.heap.size (Nat.le_refl _) _ _ _ _ _).trans (Touch.of_below ((Below.refl _ _).alloc (Nat.le_refl _) _))⟩)
      clear CL HR5 HR BZ BZ5 BZ6 ht6 m0 m1 mf
      go_wp2_with fail
      refine bodyPost_ret (v := .tuple #[.agg #[.int .i64 t'.k, .int .i64 n, .int .i64 t'.e, .string t'.s, .slice sa sn sc], .int .i64 (-1)]) (by simp [results, Tryd.results184, go_sem, z0, z1, z2, z3, z4, hm1, hm2, hm3]) rfl (HP.out _ _ _ _ _ _)
    | some q =>
      obtain ⟨us, jq, mq⟩ := q
      refine (CL.out _ HR5.out).mono ?_
      rintro e w6 ⟨⟨sl, rfl, uwf, uo, hrb6⟩, ht6⟩
      obtain ⟨ua, un, uc, rfl⟩ : ∃ sa sn sc, sl = .slice sa sn sc := by obtain ⟨p, q, e⟩ := uo.slice; exact ⟨p, _, q, e⟩
      unfold V.agg
      have hz6 := ht6.size
      rw [hz5] at hz6
      have BZ6 := Lib.hid (show Box w6 w.heap.size 0 0 0 ⟨#[]⟩ (.slice none 0 0) 26 from (ht6.block w.heap.size (by omega) (by omega)).trans BZ5.out)
      clear z0 z1 z2 z3 z4 zf0 zf1 zf2 zf3 zf4
      obtain ⟨z0, z1, z2, z3, z4⟩ := BZ6.out.cells
      have zf0 := BZ6.out.free (i := 0); have zf1 := BZ6.out.free (i := 1); have zf2 := BZ6.out.free (i := 2); have zf3 := BZ6.out.free (i := 3); have zf4 := BZ6.out.free (i := 4)
      have hm1 : w.heap.size ≠ w6.heap.size := by omega
      have hm2 : w6.heap.size ≠ w.heap.size := by omega
      have hm3 : w.heap.size < w6.heap.size := by omega
      have HP := Lib.hid (fun v0 v1 v2 v3 v4 ob => show MgRet r s (mgNode 9 n (some (us, jq, mq))) w (.returned (.tuple #[.agg #[.int .i64 9, .int .i64 n, .int .i64 0, .string ⟨#[]⟩, .slice ua un uc], .int .i64 (jq : Int)])) ((set5 w6 w.heap.size v0 v1 v2 v3 v4).alloc ob) from
        ⟨⟨.slice ua un uc, rfl, ⟨uwf.1, hn64, uwf.2.2.1, uwf.2.2.2⟩, OwnS.mono ((uo.set5 w.heap.size (fun hx => by have hx' : (w.alloc (.cells #[.int .i64 0, .int .i64 0, .int .i64 0, .string ⟨#[]⟩, .slice none 0 0] 26)).heap.size ≤ w.heap.size := hx; omega) _ _ _ _ _).alloc ob) (fun x hx => by have hx' : (w.alloc (.cells #[.int .i64 0, .int .i64 0, .int .i64 0, .string ⟨#[]⟩, .slice none 0 0] 26)).heap.size ≤ x := hx; omega),
          RB.stay (show RB (set5 w6 w.heap.size v0 v1 v2 v3 v4) r s mq from (heap_set5 _ _ _ _ _ _ _ _ hr1).trans hrb6) ((Below.refl _ _).alloc (Nat.le_refl _) _)⟩, ((HT5.out.trans ht6).set5 w.heap.size (Nat.le_refl _) _ _ _ _ _).trans (Touch.of_below ((Below.refl _ _).alloc (Nat.le_refl _) _))⟩)
      clear CL HR5 HR BZ BZ5 BZ6 ht6 hrb6 uo uwf m0 m1 mf
      go_wp2_with fail
      refine bodyPost_ret (v := .tuple #[.agg #[.int .i64 9, .int .i64 n, .int .i64 0, .string ⟨#[]⟩, .slice ua un uc], .int .i64 (jq : Int)]) (by simp [results, Tryd.results184, go_sem, z0, z1, z2, z3, z4, hm1, hm2, hm3, V.k, V.e, V.s]) rfl (HP.out _ _ _ _ _ _)
theorem l06Ext_any (r : Nat) (s : ByteArray) (hs : s.size ≤ 1048576) (g : Nat → Nat → MG) (hg : ∀ i l, MGood s i l (g i l)) (deep : Int) (hd : 0 ≤ deep ∧ deep ≤ 12) (hG : ∀ (i l : Nat) (W : World), i ≤ s.size → l ≤ 300 → RB W r s l → Calls Tryd.prog 121 #[.pointer (some ⟨r, 0, none⟩), .int .i64 i, .int .i64 (deep + 1)] W (MgRet r s (g i l) W)) (i l : Nat) (hi : i ≤ s.size) (hl : l ≤ 300) (w : World) (hRB : RB w r s l) :
    Calls Tryd.prog 184 #[.pointer (some ⟨r, 0, none⟩), .int .i64 i, .int .i64 deep] w (MgRet r s (mgExt s g i l) w) := by
  unfold mgExt
  cases hz : wgo s i 1 with
  | none => exact l06Ext_no r s hs g hg deep hd hG i l hi hl w hRB (.inl hz)
  | some z =>
    cases hq : wgo s (i + 1) 1 with
    | none => exact l06Ext_no r s hs g hg deep hd hG i l hi hl w hRB (.inr (.inl ⟨z, hz, hq⟩))
    | some q =>
      rw [Option.bind_some, Option.bind_some]
      by_cases h1 : z = 9 ∧ q = 4
      · rw [if_pos h1]
        obtain ⟨rfl, rfl⟩ := h1
        exact l06Ext_94 r s hs g hg deep hd hG i l hi hl w hRB hz hq
      · rw [if_neg h1]
        by_cases h2 : z = 4 ∧ q = 6
        · rw [if_pos h2]
          obtain ⟨rfl, rfl⟩ := h2
          exact l06Ext_46 r s hs g hg deep hd hG i l hi hl w hRB hz hq
        · rw [if_neg h2]
          refine l06Ext_no r s hs g hg deep hd hG i l hi hl w hRB (.inr (.inr ⟨z, q, hz, hq, ?_, ?_⟩))
          · by_cases h : z = 9
            · exact .inr ⟨h, by simp; exact fun e => h1 ⟨h, e⟩⟩
            · exact .inl (by simpa using h)
          · by_cases h : z = 4
            · exact .inr ⟨h, by simp; exact fun e => h2 ⟨h, e⟩⟩
            · exact .inl (by simpa using h)
set_option maxHeartbeats 2000000 in
theorem l06Get_k199 (r : Nat) (s : ByteArray) (hs : s.size ≤ 1048576) (g : Nat → Nat → MG) (hg : ∀ i l, MGood s i l (g i l)) (deep : Int) (hd : 0 ≤ deep ∧ deep ≤ 12) (hG : ∀ (i l : Nat) (W : World), i ≤ s.size → l ≤ 300 → RB W r s l → Calls Tryd.prog 121 #[.pointer (some ⟨r, 0, none⟩), .int .i64 i, .int .i64 (deep + 1)] W (MgRet r s (g i l) W)) (i l : Nat) (hi : i < s.size) (hl : l + 1 ≤ 300) (w : World) (hRB : RB w r s (l + 1 : Nat)) (bn : Nat) (hb : ((s[i].toNat : Nat) : Int) = (bn : Int)) (h1 : bn = 199) :
    Calls Tryd.prog 121 #[.pointer (some ⟨r, 0, none⟩), .int .i64 i, .int .i64 deep] w (MgRet r s (mgExt s g (i + 1) l) w) := by
  have hrw := lt_of_heap hRB
  have HR := Lib.hid hRB
  obtain ⟨m0, m1, mf⟩ := HR.out.cells
  have hr1 : r ≠ w.heap.size := by omega
  have hr2 : w.heap.size ≠ r := by omega
  have BZ := Lib.hid (Box.new w 0 0 0 ⟨#[]⟩ (.slice none 0 0) 26)
  obtain ⟨z0, z1, z2, z3, z4⟩ := BZ.out.cells
  have zf0 := BZ.out.free (i := 0); have zf1 := BZ.out.free (i := 1); have zf2 := BZ.out.free (i := 2); have zf3 := BZ.out.free (i := 3); have zf4 := BZ.out.free (i := 4)
  have HR5 := Lib.hid (show RB ((w.setCell ⟨r, 1, none⟩ (.int .i64 l)).alloc (.cells #[.int .i64 0, .int .i64 0, .int .i64 0, .string ⟨#[]⟩, .slice none 0 0] 26)) r s l from (HR.out.set l).stay ((Below.refl _ _).alloc (Nat.le_refl _) _))
  have HT5 := Lib.hid (show Touch (fun x => x = r) (fun x => x = r) w ((w.setCell ⟨r, 1, none⟩ (.int .i64 l)).alloc (.cells #[.int .i64 0, .int .i64 0, .int .i64 0, .string ⟨#[]⟩, .slice none 0 0] 26)) from ((Touch.refl _ w).setR _).trans (Touch.of_below ((Below.refl _ _).alloc (Nat.le_refl _) _)))
  have BZ5 := Lib.hid (show Box ((w.setCell ⟨r, 1, none⟩ (.int .i64 l)).alloc (.cells #[.int .i64 0, .int .i64 0, .int .i64 0, .string ⟨#[]⟩, .slice none 0 0] 26)) w.heap.size 0 0 0 ⟨#[]⟩ (.slice none 0 0) 26 from heap_alloc_here _ (by simp))
  have hz5 : ((w.setCell ⟨r, 1, none⟩ (.int .i64 l)).alloc (.cells #[.int .i64 0, .int .i64 0, .int .i64 0, .string ⟨#[]⟩, .slice none 0 0] 26)).heap.size = w.heap.size + 1 := by simp
  subst h1
  have INN := Lib.hid (fun W => l01In_no 199 204 211 W (by omega))
  have CL := Lib.hid (fun (W : World) (hR : RB W r s l) => show Calls Tryd.prog 184 #[.pointer (some ⟨r, 0, none⟩), .int .i64 ((i : Int) + 1), .int .i64 deep] W (MgRet r s (mgExt s g (i + 1) l) W) from l06Ext_any r s hs g hg deep hd hG (i + 1) l (by omega) (by omega) W hR)
  clear hG hg hRB
  generalize (mgExt s g (i + 1) l) = o at *
  go_enter Tryd.func121, Tryd.ntmps121
  go_wp2_with fail
  refine (INN.out _).mono ?_
  rintro e5 w5 ⟨rfl, rfl⟩
  go_wp2_with fail
  cases o with
  | none =>
    refine (CL.out _ HR5.out).mono ?_
    rintro e w6 ⟨⟨t', sa, sn, sc, rfl⟩, ht6⟩
    unfold V.agg
    have BZ6 := Lib.hid (show Box w6 w.heap.size 0 0 0 ⟨#[]⟩ (.slice none 0 0) 26 from (ht6.block w.heap.size (by omega) (by omega)).trans BZ5.out)
    clear z0 z1 z2 z3 z4 zf0 zf1 zf2 zf3 zf4
    obtain ⟨z0, z1, z2, z3, z4⟩ := BZ6.out.cells
    have zf0 := BZ6.out.free (i := 0); have zf1 := BZ6.out.free (i := 1); have zf2 := BZ6.out.free (i := 2); have zf3 := BZ6.out.free (i := 3); have zf4 := BZ6.out.free (i := 4)
    have HP := Lib.hid (fun v0 v1 v2 v3 v4 => mg_pass_none (s := s) (t := t') (a := sa) (n := sn) (c := sc) HT5.out (Nat.le_refl _) ht6 v0 v1 v2 v3 v4)
    unfold V.agg at HP
    clear CL HR5 HR BZ BZ5 BZ6 ht6
    go_wp2_with fail
    refine bodyPost_ret (v := .tuple #[.agg #[.int .i64 t'.k, .int .i64 t'.n, .int .i64 t'.e, .string t'.s, .slice sa sn sc], .int .i64 (-1)]) (by simp [results, Tryd.results121, go_sem, z0, z1, z2, z3, z4]) rfl (HP.out _ _ _ _ _)
  | some q =>
    obtain ⟨u, jq, mq⟩ := q
    refine (CL.out _ HR5.out).mono ?_
    rintro e w6 ⟨⟨us, rfl, uwf, uo, hrb6⟩, ht6⟩
    obtain ⟨ua, un, uc, rfl⟩ : ∃ sa sn sc, us = .slice sa sn sc := by obtain ⟨p, q, e⟩ := uo.slice; exact ⟨p, _, q, e⟩
    unfold V.agg
    have BZ6 := Lib.hid (show Box w6 w.heap.size 0 0 0 ⟨#[]⟩ (.slice none 0 0) 26 from (ht6.block w.heap.size (by omega) (by omega)).trans BZ5.out)
    clear z0 z1 z2 z3 z4 zf0 zf1 zf2 zf3 zf4
    obtain ⟨z0, z1, z2, z3, z4⟩ := BZ6.out.cells
    have zf0 := BZ6.out.free (i := 0); have zf1 := BZ6.out.free (i := 1); have zf2 := BZ6.out.free (i := 2); have zf3 := BZ6.out.free (i := 3); have zf4 := BZ6.out.free (i := 4)
    have HP := Lib.hid (fun v0 v1 v2 v3 v4 => mg_pass_some (j := jq) HT5.out (Nat.le_refl _) (by omega) (by omega) uwf uo hrb6 ht6 v0 v1 v2 v3 v4)
    unfold V.agg at HP
    clear CL HR5 HR BZ BZ5 BZ6 ht6 hrb6 uo uwf
    go_wp2_with fail
    refine bodyPost_ret (v := .tuple #[.agg #[.int .i64 u.k, .int .i64 u.n, .int .i64 u.e, .string u.s, .slice ua un uc], .int .i64 (jq : Int)]) (by simp [results, Tryd.results121, go_sem, z0, z1, z2, z3, z4]) rfl (HP.out _ _ _ _ _)
set_option maxHeartbeats 4000000 in
theorem l06Get_other (r : Nat) (s : ByteArray) (hs : s.size ≤ 1048576) (g : Nat → Nat → MG) (hg : ∀ i l, MGood s i l (g i l)) (deep : Int) (hd : 0 ≤ deep ∧ deep ≤ 12) (hG : ∀ (i l : Nat) (W : World), i ≤ s.size → l ≤ 300 → RB W r s l → Calls Tryd.prog 121 #[.pointer (some ⟨r, 0, none⟩), .int .i64 i, .int .i64 (deep + 1)] W (MgRet r s (g i l) W)) (i l : Nat) (hi : i < s.size) (hl : l + 1 ≤ 300) (w : World) (hRB : RB w r s (l + 1 : Nat)) (bn : Nat) (hb : ((s[i].toNat : Nat) : Int) = (bn : Int)) (h1 : bn = 193 ∨ bn = 198 ∨ (200 ≤ bn ∧ bn < 204) ∨ (212 ≤ bn ∧ bn < 217) ∨ bn = 219 ∨ bn = 221 ∨ bn = 223) :
    Calls Tryd.prog 121 #[.pointer (some ⟨r, 0, none⟩), .int .i64 i, .int .i64 deep] w (MgRet r s none w) := by
  have hrw := lt_of_heap hRB
  have HR := Lib.hid hRB
  obtain ⟨m0, m1, mf⟩ := HR.out.cells
  have hr1 : r ≠ w.heap.size := by omega
  have hr2 : w.heap.size ≠ r := by omega
  have BZ := Lib.hid (Box.new w 0 0 0 ⟨#[]⟩ (.slice none 0 0) 26)
  obtain ⟨z0, z1, z2, z3, z4⟩ := BZ.out.cells
  have zf0 := BZ.out.free (i := 0); have zf1 := BZ.out.free (i := 1); have zf2 := BZ.out.free (i := 2); have zf3 := BZ.out.free (i := 3); have zf4 := BZ.out.free (i := 4)
  have HR5 := Lib.hid (show RB ((w.setCell ⟨r, 1, none⟩ (.int .i64 l)).alloc (.cells #[.int .i64 0, .int .i64 0, .int .i64 0, .string ⟨#[]⟩, .slice none 0 0] 26)) r s l from (HR.out.set l).stay ((Below.refl _ _).alloc (Nat.le_refl _) _))
  have HT5 := Lib.hid (show Touch (fun x => x = r) (fun x => x = r) w ((w.setCell ⟨r, 1, none⟩ (.int .i64 l)).alloc (.cells #[.int .i64 0, .int .i64 0, .int .i64 0, .string ⟨#[]⟩, .slice none 0 0] 26)) from ((Touch.refl _ w).setR _).trans (Touch.of_below ((Below.refl _ _).alloc (Nat.le_refl _) _)))
  have BZ5 := Lib.hid (show Box ((w.setCell ⟨r, 1, none⟩ (.int .i64 l)).alloc (.cells #[.int .i64 0, .int .i64 0, .int .i64 0, .string ⟨#[]⟩, .slice none 0 0] 26)) w.heap.size 0 0 0 ⟨#[]⟩ (.slice none 0 0) 26 from heap_alloc_here _ (by simp))
  have hz5 : ((w.setCell ⟨r, 1, none⟩ (.int .i64 l)).alloc (.cells #[.int .i64 0, .int .i64 0, .int .i64 0, .string ⟨#[]⟩, .slice none 0 0] 26)).heap.size = w.heap.size + 1 := by simp
  have e192 : ((bn : Int) == 192) = false := by simp; omega
  have e194 : ((bn : Int) == 194) = false := by simp; omega
  have e195 : ((bn : Int) == 195) = false := by simp; omega
  have e199 : ((bn : Int) == 199) = false := by simp; omega
  have e217 : ((bn : Int) == 217) = false := by simp; omega
  have e218 : ((bn : Int) == 218) = false := by simp; omega
  have e196 : ((bn : Int) == 196) = false := by simp; omega
  have e197 : ((bn : Int) == 197) = false := by simp; omega
  have e220 : ((bn : Int) == 220) = false := by simp; omega
  have e222 : ((bn : Int) == 222) = false := by simp; omega
  have INN := Lib.hid (fun W => l01In_no (bn : Int) 204 211 W (by omega))
  have G1 := Lib.hid (fun W => show Calls Tryd.prog 47 #[.string s, .int .i64 ((i : Int) + 1), .int .i64 1] W (WideRet (wgo s (i + 1) 1) W) from GetWide_go s (i + 1) 1 W hs (by omega) (by omega))
  have G2 := Lib.hid (fun W => show Calls Tryd.prog 47 #[.string s, .int .i64 ((i : Int) + 1), .int .i64 2] W (WideRet (wgo s (i + 1) 2) W) from GetWide_go s (i + 1) 2 W hs (by omega) (by omega))
  clear hG hg hRB
  go_enter Tryd.func121, Tryd.ntmps121
  go_wp2_with fail
  refine (INN.out _).mono ?_
  rintro e5 w5 ⟨rfl, rfl⟩
  go_wp2_with fail
  refine (G1.out _).mono ?_
  rintro e5 w5 hwd
  obtain ⟨nx, bx, rfl, rfl⟩ := hwd.any
  clear hwd
  go_wp2_with fail
  refine (G2.out _).mono ?_
  rintro e5 w5 hwd
  obtain ⟨ny, by2, rfl, rfl⟩ := hwd.any
  clear hwd
  go_wp2_with fail
  refine bodyPost_ret (v := .tuple #[.agg #[.int .i64 0, .int .i64 0, .int .i64 0, .string ⟨#[]⟩, .slice none 0 0], .int .i64 (-1)]) (by simp [results, Tryd.results121, go_sem, z0, z1, z2, z3, z4]) rfl (mg_fail (((Touch.refl _ w).setR _).trans (Touch.of_below ((by (with_reducible (repeat' (first | exact Below.refl _ _ | refine below_alloc ?_ _ ?_ | refine Below.setCell ?_ ?_ _ | refine Below.drew ?_ | refine below_drewN ?_ _ | refine below_step ?_ (by assumption) ?_ | refine below_mark ?_ (by assumption) ?_))); all_goals (first | omega | (simp; done) | (simp; omega)))))))
end Go.Proofs.YtgbgeocmjdgmoaaDoor
namespace Go.Proofs.YtgbgeocmjdgmoaaDoor
set_option linter.unusedSimpArgs false
set_option linter.unusedVariables false
set_option maxRecDepth 100000
open Go.RowKit
set_option maxHeartbeats 4000000 in
theorem l06Get_k196 (r : Nat) (s : ByteArray) (hs : s.size ≤ 1048576) (g : Nat → Nat → MG) (hg : ∀ i l, MGood s i l (g i l)) (deep : Int) (hd : 0 ≤ deep ∧ deep ≤ 12) (hG : ∀ (i l : Nat) (W : World), i ≤ s.size → l ≤ 300 → RB W r s l → Calls Tryd.prog 121 #[.pointer (some ⟨r, 0, none⟩), .int .i64 i, .int .i64 (deep + 1)] W (MgRet r s (g i l) W)) (i l : Nat) (hi : i < s.size) (hl : l + 1 ≤ 300) (w : World) (hRB : RB w r s (l + 1 : Nat)) (hb : ((s[i].toNat : Nat) : Int) = 196) :
    Calls Tryd.prog 121 #[.pointer (some ⟨r, 0, none⟩), .int .i64 i, .int .i64 deep] w (MgRet r s ((wgo s (i + 1) 1).bind fun n => mgStr s 6 (i + 1 + 1) n.toNat l) w) := by
  have hrw := lt_of_heap hRB
  have HR := Lib.hid hRB
  obtain ⟨m0, m1, mf⟩ := HR.out.cells
  have hr1 : r ≠ w.heap.size := by omega
  have hr2 : w.heap.size ≠ r := by omega
  have BZ := Lib.hid (Box.new w 0 0 0 ⟨#[]⟩ (.slice none 0 0) 26)
  obtain ⟨z0, z1, z2, z3, z4⟩ := BZ.out.cells
  have zf0 := BZ.out.free (i := 0); have zf1 := BZ.out.free (i := 1); have zf2 := BZ.out.free (i := 2); have zf3 := BZ.out.free (i := 3); have zf4 := BZ.out.free (i := 4)
  have HR5 := Lib.hid (show RB ((w.setCell ⟨r, 1, none⟩ (.int .i64 l)).alloc (.cells #[.int .i64 0, .int .i64 0, .int .i64 0, .string ⟨#[]⟩, .slice none 0 0] 26)) r s l from (HR.out.set l).stay ((Below.refl _ _).alloc (Nat.le_refl _) _))
  have HT5 := Lib.hid (show Touch (fun x => x = r) (fun x => x = r) w ((w.setCell ⟨r, 1, none⟩ (.int .i64 l)).alloc (.cells #[.int .i64 0, .int .i64 0, .int .i64 0, .string ⟨#[]⟩, .slice none 0 0] 26)) from ((Touch.refl _ w).setR _).trans (Touch.of_below ((Below.refl _ _).alloc (Nat.le_refl _) _)))
  have BZ5 := Lib.hid (show Box ((w.setCell ⟨r, 1, none⟩ (.int .i64 l)).alloc (.cells #[.int .i64 0, .int .i64 0, .int .i64 0, .string ⟨#[]⟩, .slice none 0 0] 26)) w.heap.size 0 0 0 ⟨#[]⟩ (.slice none 0 0) 26 from heap_alloc_here _ (by simp))
  have hz5 : ((w.setCell ⟨r, 1, none⟩ (.int .i64 l)).alloc (.cells #[.int .i64 0, .int .i64 0, .int .i64 0, .string ⟨#[]⟩, .slice none 0 0] 26)).heap.size = w.heap.size + 1 := by simp
  have INN := Lib.hid (fun W => l01In_no 196 204 211 W (by omega))
  have G1 := Lib.hid (fun W => show Calls Tryd.prog 47 #[.string s, .int .i64 ((i : Int) + 1), .int .i64 1] W (WideRet (wgo s (i + 1) 1) W) from GetWide_go s (i + 1) 1 W hs (by omega) (by omega))
  have G2 := Lib.hid (fun W => show Calls Tryd.prog 47 #[.string s, .int .i64 ((i : Int) + 1), .int .i64 2] W (WideRet (wgo s (i + 1) 2) W) from GetWide_go s (i + 1) 2 W hs (by omega) (by omega))
  have HWS := Lib.hid (fun n (h : wgo s (i + 1) 1 = some n) => wgo_small h (by omega))
  cases ho : wgo s (i + 1) 1 with
  | none =>
    rw [ho] at G1
    have CL := Lib.hid (fun (W : World) (hR : RB W r s l) => show Calls Tryd.prog 182 #[.pointer (some ⟨r, 0, none⟩), .int .i64 ((i : Int) + 1 + 1), .int .i64 6, .int .i64 0, .bool false] W (MgRet r s none W) from l06Str_no r s 6 0 _ _ W hR)
    clear hG hg hRB HWS ho
    show Calls _ _ _ _ (MgRet r s none w)
    go_enter Tryd.func121, Tryd.ntmps121
    go_wp2_with fail
    refine (INN.out _).mono ?_
    rintro e5 w5 ⟨rfl, rfl⟩
    go_wp2_with fail
    refine (G1.out _).mono ?_
    rintro e5 w5 ⟨rfl, rfl⟩
    go_wp2_with fail
    refine (G2.out _).mono ?_
    rintro e5 w5 hwd
    obtain ⟨nx, bx, rfl, rfl⟩ := hwd.any
    clear hwd
    go_wp2_with fail
    refine (CL.out _ HR5.out).mono ?_
    rintro e w6 ⟨⟨t', sa, sn, sc, rfl⟩, ht6⟩
    unfold V.agg
    have BZ6 := Lib.hid (show Box w6 w.heap.size 0 0 0 ⟨#[]⟩ (.slice none 0 0) 26 from (ht6.block w.heap.size (by omega) (by omega)).trans BZ5.out)
    clear z0 z1 z2 z3 z4 zf0 zf1 zf2 zf3 zf4
    obtain ⟨z0, z1, z2, z3, z4⟩ := BZ6.out.cells
    have zf0 := BZ6.out.free (i := 0); have zf1 := BZ6.out.free (i := 1); have zf2 := BZ6.out.free (i := 2); have zf3 := BZ6.out.free (i := 3); have zf4 := BZ6.out.free (i := 4)
    have HP := Lib.hid (fun v0 v1 v2 v3 v4 => mg_pass_none (s := s) (t := t') (a := sa) (n := sn) (c := sc) HT5.out (Nat.le_refl _) ht6 v0 v1 v2 v3 v4)
    unfold V.agg at HP
    clear CL HR5 HR BZ BZ5 BZ6 ht6
    go_wp2_with fail
    refine bodyPost_ret (v := .tuple #[.agg #[.int .i64 t'.k, .int .i64 t'.n, .int .i64 t'.e, .string t'.s, .slice sa sn sc], .int .i64 (-1)]) (by simp [results, Tryd.results121, go_sem, z0, z1, z2, z3, z4]) rfl (HP.out _ _ _ _ _)
  | some n =>
    obtain ⟨q, rfl, hq, hfit⟩ := HWS.out n ho
    rw [ho] at G1
    have CL := Lib.hid (fun (W : World) (hR : RB W r s l) => show Calls Tryd.prog 182 #[.pointer (some ⟨r, 0, none⟩), .int .i64 ((i : Int) + 1 + 1), .int .i64 6, .int .i64 (q : Int), .bool true] W (MgRet r s (mgStr s 6 (i + 1 + 1) q l) W) from l06Str_any r s hs 6 (by unfold In64; omega) q (i + 1 + 1) l (by omega) (by omega) W hR)
    show Calls _ _ _ _ (MgRet r s (mgStr s 6 (i + 1 + 1) q l) w)
    clear hG hg hRB HWS ho
    generalize (mgStr s 6 (i + 1 + 1) q l) = o at *
    go_enter Tryd.func121, Tryd.ntmps121
    go_wp2_with fail
    refine (INN.out _).mono ?_
    rintro e5 w5 ⟨rfl, rfl⟩
    go_wp2_with fail
    refine (G1.out _).mono ?_
    rintro e5 w5 ⟨rfl, rfl⟩
    go_wp2_with fail
    refine (G2.out _).mono ?_
    rintro e5 w5 hwd
    obtain ⟨nx, bx, rfl, rfl⟩ := hwd.any
    clear hwd
    go_wp2_with fail
    cases o with
    | none =>
      refine (CL.out _ HR5.out).mono ?_
      rintro e w6 ⟨⟨t', sa, sn, sc, rfl⟩, ht6⟩
      unfold V.agg
      have BZ6 := Lib.hid (show Box w6 w.heap.size 0 0 0 ⟨#[]⟩ (.slice none 0 0) 26 from (ht6.block w.heap.size (by omega) (by omega)).trans BZ5.out)
      clear z0 z1 z2 z3 z4 zf0 zf1 zf2 zf3 zf4
      obtain ⟨z0, z1, z2, z3, z4⟩ := BZ6.out.cells
      have zf0 := BZ6.out.free (i := 0); have zf1 := BZ6.out.free (i := 1); have zf2 := BZ6.out.free (i := 2); have zf3 := BZ6.out.free (i := 3); have zf4 := BZ6.out.free (i := 4)
      have HP := Lib.hid (fun v0 v1 v2 v3 v4 => mg_pass_none (s := s) (t := t') (a := sa) (n := sn) (c := sc) HT5.out (Nat.le_refl _) ht6 v0 v1 v2 v3 v4)
      unfold V.agg at HP
      clear CL HR5 HR BZ BZ5 BZ6 ht6
      go_wp2_with fail
      refine bodyPost_ret (v := .tuple #[.agg #[.int .i64 t'.k, .int .i64 t'.n, .int .i64 t'.e, .string t'.s, .slice sa sn sc], .int .i64 (-1)]) (by simp [results, Tryd.results121, go_sem, z0, z1, z2, z3, z4]) rfl (HP.out _ _ _ _ _)
    | some q9 =>
      obtain ⟨u, jq, mq⟩ := q9
      refine (CL.out _ HR5.out).mono ?_
      rintro e w6 ⟨⟨us, rfl, uwf, uo, hrb6⟩, ht6⟩
      obtain ⟨ua, un, uc, rfl⟩ : ∃ sa sn sc, us = .slice sa sn sc := by obtain ⟨p, q, e⟩ := uo.slice; exact ⟨p, _, q, e⟩
      unfold V.agg
      have BZ6 := Lib.hid (show Box w6 w.heap.size 0 0 0 ⟨#[]⟩ (.slice none 0 0) 26 from (ht6.block w.heap.size (by omega) (by omega)).trans BZ5.out)
      clear z0 z1 z2 z3 z4 zf0 zf1 zf2 zf3 zf4
      obtain ⟨z0, z1, z2, z3, z4⟩ := BZ6.out.cells
      have zf0 := BZ6.out.free (i := 0); have zf1 := BZ6.out.free (i := 1); have zf2 := BZ6.out.free (i := 2); have zf3 := BZ6.out.free (i := 3); have zf4 := BZ6.out.free (i := 4)
      have HP := Lib.hid (fun v0 v1 v2 v3 v4 => mg_pass_some (j := jq) HT5.out (Nat.le_refl _) (by omega) (by omega) uwf uo hrb6 ht6 v0 v1 v2 v3 v4)
      unfold V.agg at HP
      clear CL HR5 HR BZ BZ5 BZ6 ht6 hrb6 uo uwf
      go_wp2_with fail
      refine bodyPost_ret (v := .tuple #[.agg #[.int .i64 u.k, .int .i64 u.n, .int .i64 u.e, .string u.s, .slice ua un uc], .int .i64 (jq : Int)]) (by simp [results, Tryd.results121, go_sem, z0, z1, z2, z3, z4]) rfl (HP.out _ _ _ _ _)
set_option maxHeartbeats 4000000 in
theorem l06Get_k197 (r : Nat) (s : ByteArray) (hs : s.size ≤ 1048576) (g : Nat → Nat → MG) (hg : ∀ i l, MGood s i l (g i l)) (deep : Int) (hd : 0 ≤ deep ∧ deep ≤ 12) (hG : ∀ (i l : Nat) (W : World), i ≤ s.size → l ≤ 300 → RB W r s l → Calls Tryd.prog 121 #[.pointer (some ⟨r, 0, none⟩), .int .i64 i, .int .i64 (deep + 1)] W (MgRet r s (g i l) W)) (i l : Nat) (hi : i < s.size) (hl : l + 1 ≤ 300) (w : World) (hRB : RB w r s (l + 1 : Nat)) (hb : ((s[i].toNat : Nat) : Int) = 197) :
    Calls Tryd.prog 121 #[.pointer (some ⟨r, 0, none⟩), .int .i64 i, .int .i64 deep] w (MgRet r s ((wgo s (i + 1) 2).bind fun n => mgStr s 6 (i + 1 + 2) n.toNat l) w) := by
  have hrw := lt_of_heap hRB
  have HR := Lib.hid hRB
  obtain ⟨m0, m1, mf⟩ := HR.out.cells
  have hr1 : r ≠ w.heap.size := by omega
  have hr2 : w.heap.size ≠ r := by omega
  have BZ := Lib.hid (Box.new w 0 0 0 ⟨#[]⟩ (.slice none 0 0) 26)
  obtain ⟨z0, z1, z2, z3, z4⟩ := BZ.out.cells
  have zf0 := BZ.out.free (i := 0); have zf1 := BZ.out.free (i := 1); have zf2 := BZ.out.free (i := 2); have zf3 := BZ.out.free (i := 3); have zf4 := BZ.out.free (i := 4)
  have HR5 := Lib.hid (show RB ((w.setCell ⟨r, 1, none⟩ (.int .i64 l)).alloc (.cells #[.int .i64 0, .int .i64 0, .int .i64 0, .string ⟨#[]⟩, .slice none 0 0] 26)) r s l from (HR.out.set l).stay ((Below.refl _ _).alloc (Nat.le_refl _) _))
  have HT5 := Lib.hid (show Touch (fun x => x = r) (fun x => x = r) w ((w.setCell ⟨r, 1, none⟩ (.int .i64 l)).alloc (.cells #[.int .i64 0, .int .i64 0, .int .i64 0, .string ⟨#[]⟩, .slice none 0 0] 26)) from ((Touch.refl _ w).setR _).trans (Touch.of_below ((Below.refl _ _).alloc (Nat.le_refl _) _)))
  have BZ5 := Lib.hid (show Box ((w.setCell ⟨r, 1, none⟩ (.int .i64 l)).alloc (.cells #[.int .i64 0, .int .i64 0, .int .i64 0, .string ⟨#[]⟩, .slice none 0 0] 26)) w.heap.size 0 0 0 ⟨#[]⟩ (.slice none 0 0) 26 from heap_alloc_here _ (by simp))
  have hz5 : ((w.setCell ⟨r, 1, none⟩ (.int .i64 l)).alloc (.cells #[.int .i64 0, .int .i64 0, .int .i64 0, .string ⟨#[]⟩, .slice none 0 0] 26)).heap.size = w.heap.size + 1 := by simp
  have INN := Lib.hid (fun W => l01In_no 197 204 211 W (by omega))
  have G1 := Lib.hid (fun W => show Calls Tryd.prog 47 #[.string s, .int .i64 ((i : Int) + 1), .int .i64 1] W (WideRet (wgo s (i + 1) 1) W) from GetWide_go s (i + 1) 1 W hs (by omega) (by omega))
  have G2 := Lib.hid (fun W => show Calls Tryd.prog 47 #[.string s, .int .i64 ((i : Int) + 1), .int .i64 2] W (WideRet (wgo s (i + 1) 2) W) from GetWide_go s (i + 1) 2 W hs (by omega) (by omega))
  have HWS := Lib.hid (fun n (h : wgo s (i + 1) 2 = some n) => wgo_small h (by omega))
  cases ho : wgo s (i + 1) 2 with
  | none =>
    rw [ho] at G2
    have CL := Lib.hid (fun (W : World) (hR : RB W r s l) => show Calls Tryd.prog 182 #[.pointer (some ⟨r, 0, none⟩), .int .i64 ((i : Int) + 1 + 2), .int .i64 6, .int .i64 0, .bool false] W (MgRet r s none W) from l06Str_no r s 6 0 _ _ W hR)
    clear hG hg hRB HWS ho
    show Calls _ _ _ _ (MgRet r s none w)
    go_enter Tryd.func121, Tryd.ntmps121
    go_wp2_with fail
    refine (INN.out _).mono ?_
    rintro e5 w5 ⟨rfl, rfl⟩
    go_wp2_with fail
    refine (G1.out _).mono ?_
    rintro e5 w5 hwd
    obtain ⟨nx, bx, rfl, rfl⟩ := hwd.any
    clear hwd
    go_wp2_with fail
    refine (G2.out _).mono ?_
    rintro e5 w5 ⟨rfl, rfl⟩
    go_wp2_with fail
    refine (CL.out _ HR5.out).mono ?_
    rintro e w6 ⟨⟨t', sa, sn, sc, rfl⟩, ht6⟩
    unfold V.agg
    have BZ6 := Lib.hid (show Box w6 w.heap.size 0 0 0 ⟨#[]⟩ (.slice none 0 0) 26 from (ht6.block w.heap.size (by omega) (by omega)).trans BZ5.out)
    clear z0 z1 z2 z3 z4 zf0 zf1 zf2 zf3 zf4
    obtain ⟨z0, z1, z2, z3, z4⟩ := BZ6.out.cells
    have zf0 := BZ6.out.free (i := 0); have zf1 := BZ6.out.free (i := 1); have zf2 := BZ6.out.free (i := 2); have zf3 := BZ6.out.free (i := 3); have zf4 := BZ6.out.free (i := 4)
    have HP := Lib.hid (fun v0 v1 v2 v3 v4 => mg_pass_none (s := s) (t := t') (a := sa) (n := sn) (c := sc) HT5.out (Nat.le_refl _) ht6 v0 v1 v2 v3 v4)
    unfold V.agg at HP
    clear CL HR5 HR BZ BZ5 BZ6 ht6
    go_wp2_with fail
    refine bodyPost_ret (v := .tuple #[.agg #[.int .i64 t'.k, .int .i64 t'.n, .int .i64 t'.e, .string t'.s, .slice sa sn sc], .int .i64 (-1)]) (by simp [results, Tryd.results121, go_sem, z0, z1, z2, z3, z4]) rfl (HP.out _ _ _ _ _)
  | some n =>
    obtain ⟨q, rfl, hq, hfit⟩ := HWS.out n ho
    rw [ho] at G2
    have CL := Lib.hid (fun (W : World) (hR : RB W r s l) => show Calls Tryd.prog 182 #[.pointer (some ⟨r, 0, none⟩), .int .i64 ((i : Int) + 1 + 2), .int .i64 6, .int .i64 (q : Int), .bool true] W (MgRet r s (mgStr s 6 (i + 1 + 2) q l) W) from l06Str_any r s hs 6 (by unfold In64; omega) q (i + 1 + 2) l (by omega) (by omega) W hR)
    show Calls _ _ _ _ (MgRet r s (mgStr s 6 (i + 1 + 2) q l) w)
    clear hG hg hRB HWS ho
    generalize (mgStr s 6 (i + 1 + 2) q l) = o at *
    go_enter Tryd.func121, Tryd.ntmps121
    go_wp2_with fail
    refine (INN.out _).mono ?_
    rintro e5 w5 ⟨rfl, rfl⟩
    go_wp2_with fail
    refine (G1.out _).mono ?_
    rintro e5 w5 hwd
    obtain ⟨nx, bx, rfl, rfl⟩ := hwd.any
    clear hwd
    go_wp2_with fail
    refine (G2.out _).mono ?_
    rintro e5 w5 ⟨rfl, rfl⟩
    go_wp2_with fail
    cases o with
    | none =>
      refine (CL.out _ HR5.out).mono ?_
      rintro e w6 ⟨⟨t', sa, sn, sc, rfl⟩, ht6⟩
      unfold V.agg
      have BZ6 := Lib.hid (show Box w6 w.heap.size 0 0 0 ⟨#[]⟩ (.slice none 0 0) 26 from (ht6.block w.heap.size (by omega) (by omega)).trans BZ5.out)
      clear z0 z1 z2 z3 z4 zf0 zf1 zf2 zf3 zf4
      obtain ⟨z0, z1, z2, z3, z4⟩ := BZ6.out.cells
      have zf0 := BZ6.out.free (i := 0); have zf1 := BZ6.out.free (i := 1); have zf2 := BZ6.out.free (i := 2); have zf3 := BZ6.out.free (i := 3); have zf4 := BZ6.out.free (i := 4)
      have HP := Lib.hid (fun v0 v1 v2 v3 v4 => mg_pass_none (s := s) (t := t') (a := sa) (n := sn) (c := sc) HT5.out (Nat.le_refl _) ht6 v0 v1 v2 v3 v4)
      unfold V.agg at HP
      clear CL HR5 HR BZ BZ5 BZ6 ht6
      go_wp2_with fail
      refine bodyPost_ret (v := .tuple #[.agg #[.int .i64 t'.k, .int .i64 t'.n, .int .i64 t'.e, .string t'.s, .slice sa sn sc], .int .i64 (-1)]) (by simp [results, Tryd.results121, go_sem, z0, z1, z2, z3, z4]) rfl (HP.out _ _ _ _ _)
    | some q9 =>
      obtain ⟨u, jq, mq⟩ := q9
      refine (CL.out _ HR5.out).mono ?_
      rintro e w6 ⟨⟨us, rfl, uwf, uo, hrb6⟩, ht6⟩
      obtain ⟨ua, un, uc, rfl⟩ : ∃ sa sn sc, us = .slice sa sn sc := by obtain ⟨p, q, e⟩ := uo.slice; exact ⟨p, _, q, e⟩
      unfold V.agg
      have BZ6 := Lib.hid (show Box w6 w.heap.size 0 0 0 ⟨#[]⟩ (.slice none 0 0) 26 from (ht6.block w.heap.size (by omega) (by omega)).trans BZ5.out)
      clear z0 z1 z2 z3 z4 zf0 zf1 zf2 zf3 zf4
      obtain ⟨z0, z1, z2, z3, z4⟩ := BZ6.out.cells
      have zf0 := BZ6.out.free (i := 0); have zf1 := BZ6.out.free (i := 1); have zf2 := BZ6.out.free (i := 2); have zf3 := BZ6.out.free (i := 3); have zf4 := BZ6.out.free (i := 4)
      have HP := Lib.hid (fun v0 v1 v2 v3 v4 => mg_pass_some (j := jq) HT5.out (Nat.le_refl _) (by omega) (by omega) uwf uo hrb6 ht6 v0 v1 v2 v3 v4)
      unfold V.agg at HP
      clear CL HR5 HR BZ BZ5 BZ6 ht6 hrb6 uo uwf
      go_wp2_with fail
      refine bodyPost_ret (v := .tuple #[.agg #[.int .i64 u.k, .int .i64 u.n, .int .i64 u.e, .string u.s, .slice ua un uc], .int .i64 (jq : Int)]) (by simp [results, Tryd.results121, go_sem, z0, z1, z2, z3, z4]) rfl (HP.out _ _ _ _ _)
set_option maxHeartbeats 4000000 in
theorem l06Get_k217 (r : Nat) (s : ByteArray) (hs : s.size ≤ 1048576) (g : Nat → Nat → MG) (hg : ∀ i l, MGood s i l (g i l)) (deep : Int) (hd : 0 ≤ deep ∧ deep ≤ 12) (hG : ∀ (i l : Nat) (W : World), i ≤ s.size → l ≤ 300 → RB W r s l → Calls Tryd.prog 121 #[.pointer (some ⟨r, 0, none⟩), .int .i64 i, .int .i64 (deep + 1)] W (MgRet r s (g i l) W)) (i l : Nat) (hi : i < s.size) (hl : l + 1 ≤ 300) (w : World) (hRB : RB w r s (l + 1 : Nat)) (hb : ((s[i].toNat : Nat) : Int) = 217) :
    Calls Tryd.prog 121 #[.pointer (some ⟨r, 0, none⟩), .int .i64 i, .int .i64 deep] w (MgRet r s ((wgo s (i + 1) 1).bind fun n => mgStr s 5 (i + 1 + 1) n.toNat l) w) := by
  have hrw := lt_of_heap hRB
  have HR := Lib.hid hRB
  obtain ⟨m0, m1, mf⟩ := HR.out.cells
  have hr1 : r ≠ w.heap.size := by omega
  have hr2 : w.heap.size ≠ r := by omega
  have BZ := Lib.hid (Box.new w 0 0 0 ⟨#[]⟩ (.slice none 0 0) 26)
  obtain ⟨z0, z1, z2, z3, z4⟩ := BZ.out.cells
  have zf0 := BZ.out.free (i := 0); have zf1 := BZ.out.free (i := 1); have zf2 := BZ.out.free (i := 2); have zf3 := BZ.out.free (i := 3); have zf4 := BZ.out.free (i := 4)
  have HR5 := Lib.hid (show RB ((w.setCell ⟨r, 1, none⟩ (.int .i64 l)).alloc (.cells #[.int .i64 0, .int .i64 0, .int .i64 0, .string ⟨#[]⟩, .slice none 0 0] 26)) r s l from (HR.out.set l).stay ((Below.refl _ _).alloc (Nat.le_refl _) _))
  have HT5 := Lib.hid (show Touch (fun x => x = r) (fun x => x = r) w ((w.setCell ⟨r, 1, none⟩ (.int .i64 l)).alloc (.cells #[.int .i64 0, .int .i64 0, .int .i64 0, .string ⟨#[]⟩, .slice none 0 0] 26)) from ((Touch.refl _ w).setR _).trans (Touch.of_below ((Below.refl _ _).alloc (Nat.le_refl _) _)))
  have BZ5 := Lib.hid (show Box ((w.setCell ⟨r, 1, none⟩ (.int .i64 l)).alloc (.cells #[.int .i64 0, .int .i64 0, .int .i64 0, .string ⟨#[]⟩, .slice none 0 0] 26)) w.heap.size 0 0 0 ⟨#[]⟩ (.slice none 0 0) 26 from heap_alloc_here _ (by simp))
  have hz5 : ((w.setCell ⟨r, 1, none⟩ (.int .i64 l)).alloc (.cells #[.int .i64 0, .int .i64 0, .int .i64 0, .string ⟨#[]⟩, .slice none 0 0] 26)).heap.size = w.heap.size + 1 := by simp
  have INN := Lib.hid (fun W => l01In_no 217 204 211 W (by omega))
  have G1 := Lib.hid (fun W => show Calls Tryd.prog 47 #[.string s, .int .i64 ((i : Int) + 1), .int .i64 1] W (WideRet (wgo s (i + 1) 1) W) from GetWide_go s (i + 1) 1 W hs (by omega) (by omega))
  have G2 := Lib.hid (fun W => show Calls Tryd.prog 47 #[.string s, .int .i64 ((i : Int) + 1), .int .i64 2] W (WideRet (wgo s (i + 1) 2) W) from GetWide_go s (i + 1) 2 W hs (by omega) (by omega))
  have HWS := Lib.hid (fun n (h : wgo s (i + 1) 1 = some n) => wgo_small h (by omega))
  cases ho : wgo s (i + 1) 1 with
  | none =>
    rw [ho] at G1
    have CL := Lib.hid (fun (W : World) (hR : RB W r s l) => show Calls Tryd.prog 182 #[.pointer (some ⟨r, 0, none⟩), .int .i64 ((i : Int) + 1 + 1), .int .i64 5, .int .i64 0, .bool false] W (MgRet r s none W) from l06Str_no r s 5 0 _ _ W hR)
    clear hG hg hRB HWS ho
    show Calls _ _ _ _ (MgRet r s none w)
    go_enter Tryd.func121, Tryd.ntmps121
    go_wp2_with fail
    refine (INN.out _).mono ?_
    rintro e5 w5 ⟨rfl, rfl⟩
    go_wp2_with fail
    refine (G1.out _).mono ?_
    rintro e5 w5 ⟨rfl, rfl⟩
    go_wp2_with fail
    refine (G2.out _).mono ?_
    rintro e5 w5 hwd
    obtain ⟨nx, bx, rfl, rfl⟩ := hwd.any
    clear hwd
    go_wp2_with fail
    refine (CL.out _ HR5.out).mono ?_
    rintro e w6 ⟨⟨t', sa, sn, sc, rfl⟩, ht6⟩
    unfold V.agg
    have BZ6 := Lib.hid (show Box w6 w.heap.size 0 0 0 ⟨#[]⟩ (.slice none 0 0) 26 from (ht6.block w.heap.size (by omega) (by omega)).trans BZ5.out)
    clear z0 z1 z2 z3 z4 zf0 zf1 zf2 zf3 zf4
    obtain ⟨z0, z1, z2, z3, z4⟩ := BZ6.out.cells
    have zf0 := BZ6.out.free (i := 0); have zf1 := BZ6.out.free (i := 1); have zf2 := BZ6.out.free (i := 2); have zf3 := BZ6.out.free (i := 3); have zf4 := BZ6.out.free (i := 4)
    have HP := Lib.hid (fun v0 v1 v2 v3 v4 => mg_pass_none (s := s) (t := t') (a := sa) (n := sn) (c := sc) HT5.out (Nat.le_refl _) ht6 v0 v1 v2 v3 v4)
    unfold V.agg at HP
    clear CL HR5 HR BZ BZ5 BZ6 ht6
    go_wp2_with fail
    refine bodyPost_ret (v := .tuple #[.agg #[.int .i64 t'.k, .int .i64 t'.n, .int .i64 t'.e, .string t'.s, .slice sa sn sc], .int .i64 (-1)]) (by simp [results, Tryd.results121, go_sem, z0, z1, z2, z3, z4]) rfl (HP.out _ _ _ _ _)
  | some n =>
    obtain ⟨q, rfl, hq, hfit⟩ := HWS.out n ho
    rw [ho] at G1
    have CL := Lib.hid (fun (W : World) (hR : RB W r s l) => show Calls Tryd.prog 182 #[.pointer (some ⟨r, 0, none⟩), .int .i64 ((i : Int) + 1 + 1), .int .i64 5, .int .i64 (q : Int), .bool true] W (MgRet r s (mgStr s 5 (i + 1 + 1) q l) W) from l06Str_any r s hs 5 (by unfold In64; omega) q (i + 1 + 1) l (by omega) (by omega) W hR)
    show Calls _ _ _ _ (MgRet r s (mgStr s 5 (i + 1 + 1) q l) w)
    clear hG hg hRB HWS ho
    generalize (mgStr s 5 (i + 1 + 1) q l) = o at *
    go_enter Tryd.func121, Tryd.ntmps121
    go_wp2_with fail
    refine (INN.out _).mono ?_
    rintro e5 w5 ⟨rfl, rfl⟩
    go_wp2_with fail
    refine (G1.out _).mono ?_
    rintro e5 w5 ⟨rfl, rfl⟩
    go_wp2_with fail
    refine (G2.out _).mono ?_
    rintro e5 w5 hwd
    obtain ⟨nx, bx, rfl, rfl⟩ := hwd.any
    clear hwd
    go_wp2_with fail
    cases o with
    | none =>
      refine (CL.out _ HR5.out).mono ?_
      rintro e w6 ⟨⟨t', sa, sn, sc, rfl⟩, ht6⟩
      unfold V.agg
      have BZ6 := Lib.hid (show Box w6 w.heap.size 0 0 0 ⟨#[]⟩ (.slice none 0 0) 26 from (ht6.block w.heap.size (by omega) (by omega)).trans BZ5.out)
      clear z0 z1 z2 z3 z4 zf0 zf1 zf2 zf3 zf4
      obtain ⟨z0, z1, z2, z3, z4⟩ := BZ6.out.cells
      have zf0 := BZ6.out.free (i := 0); have zf1 := BZ6.out.free (i := 1); have zf2 := BZ6.out.free (i := 2); have zf3 := BZ6.out.free (i := 3); have zf4 := BZ6.out.free (i := 4)
      have HP := Lib.hid (fun v0 v1 v2 v3 v4 => mg_pass_none (s := s) (t := t') (a := sa) (n := sn) (c := sc) HT5.out (Nat.le_refl _) ht6 v0 v1 v2 v3 v4)
      unfold V.agg at HP
      clear CL HR5 HR BZ BZ5 BZ6 ht6
      go_wp2_with fail
      refine bodyPost_ret (v := .tuple #[.agg #[.int .i64 t'.k, .int .i64 t'.n, .int .i64 t'.e, .string t'.s, .slice sa sn sc], .int .i64 (-1)]) (by simp [results, Tryd.results121, go_sem, z0, z1, z2, z3, z4]) rfl (HP.out _ _ _ _ _)
    | some q9 =>
      obtain ⟨u, jq, mq⟩ := q9
      refine (CL.out _ HR5.out).mono ?_
      rintro e w6 ⟨⟨us, rfl, uwf, uo, hrb6⟩, ht6⟩
      obtain ⟨ua, un, uc, rfl⟩ : ∃ sa sn sc, us = .slice sa sn sc := by obtain ⟨p, q, e⟩ := uo.slice; exact ⟨p, _, q, e⟩
      unfold V.agg
      have BZ6 := Lib.hid (show Box w6 w.heap.size 0 0 0 ⟨#[]⟩ (.slice none 0 0) 26 from (ht6.block w.heap.size (by omega) (by omega)).trans BZ5.out)
      clear z0 z1 z2 z3 z4 zf0 zf1 zf2 zf3 zf4
      obtain ⟨z0, z1, z2, z3, z4⟩ := BZ6.out.cells
      have zf0 := BZ6.out.free (i := 0); have zf1 := BZ6.out.free (i := 1); have zf2 := BZ6.out.free (i := 2); have zf3 := BZ6.out.free (i := 3); have zf4 := BZ6.out.free (i := 4)
      have HP := Lib.hid (fun v0 v1 v2 v3 v4 => mg_pass_some (j := jq) HT5.out (Nat.le_refl _) (by omega) (by omega) uwf uo hrb6 ht6 v0 v1 v2 v3 v4)
      unfold V.agg at HP
      clear CL HR5 HR BZ BZ5 BZ6 ht6 hrb6 uo uwf
      go_wp2_with fail
      refine bodyPost_ret (v := .tuple #[.agg #[.int .i64 u.k, .int .i64 u.n, .int .i64 u.e, .string u.s, .slice ua un uc], .int .i64 (jq : Int)]) (by simp [results, Tryd.results121, go_sem, z0, z1, z2, z3, z4]) rfl (HP.out _ _ _ _ _)
set_option maxHeartbeats 4000000 in
theorem l06Get_k218 (r : Nat) (s : ByteArray) (hs : s.size ≤ 1048576) (g : Nat → Nat → MG) (hg : ∀ i l, MGood s i l (g i l)) (deep : Int) (hd : 0 ≤ deep ∧ deep ≤ 12) (hG : ∀ (i l : Nat) (W : World), i ≤ s.size → l ≤ 300 → RB W r s l → Calls Tryd.prog 121 #[.pointer (some ⟨r, 0, none⟩), .int .i64 i, .int .i64 (deep + 1)] W (MgRet r s (g i l) W)) (i l : Nat) (hi : i < s.size) (hl : l + 1 ≤ 300) (w : World) (hRB : RB w r s (l + 1 : Nat)) (hb : ((s[i].toNat : Nat) : Int) = 218) :
    Calls Tryd.prog 121 #[.pointer (some ⟨r, 0, none⟩), .int .i64 i, .int .i64 deep] w (MgRet r s ((wgo s (i + 1) 2).bind fun n => mgStr s 5 (i + 1 + 2) n.toNat l) w) := by
  have hrw := lt_of_heap hRB
  have HR := Lib.hid hRB
  obtain ⟨m0, m1, mf⟩ := HR.out.cells
  have hr1 : r ≠ w.heap.size := by omega
  have hr2 : w.heap.size ≠ r := by omega
  have BZ := Lib.hid (Box.new w 0 0 0 ⟨#[]⟩ (.slice none 0 0) 26)
  obtain ⟨z0, z1, z2, z3, z4⟩ := BZ.out.cells
  have zf0 := BZ.out.free (i := 0); have zf1 := BZ.out.free (i := 1); have zf2 := BZ.out.free (i := 2); have zf3 := BZ.out.free (i := 3); have zf4 := BZ.out.free (i := 4)
  have HR5 := Lib.hid (show RB ((w.setCell ⟨r, 1, none⟩ (.int .i64 l)).alloc (.cells #[.int .i64 0, .int .i64 0, .int .i64 0, .string ⟨#[]⟩, .slice none 0 0] 26)) r s l from (HR.out.set l).stay ((Below.refl _ _).alloc (Nat.le_refl _) _))
  have HT5 := Lib.hid (show Touch (fun x => x = r) (fun x => x = r) w ((w.setCell ⟨r, 1, none⟩ (.int .i64 l)).alloc (.cells #[.int .i64 0, .int .i64 0, .int .i64 0, .string ⟨#[]⟩, .slice none 0 0] 26)) from ((Touch.refl _ w).setR _).trans (Touch.of_below ((Below.refl _ _).alloc (Nat.le_refl _) _)))
  have BZ5 := Lib.hid (show Box ((w.setCell ⟨r, 1, none⟩ (.int .i64 l)).alloc (.cells #[.int .i64 0, .int .i64 0, .int .i64 0, .string ⟨#[]⟩, .slice none 0 0] 26)) w.heap.size 0 0 0 ⟨#[]⟩ (.slice none 0 0) 26 from heap_alloc_here _ (by simp))
  have hz5 : ((w.setCell ⟨r, 1, none⟩ (.int .i64 l)).alloc (.cells #[.int .i64 0, .int .i64 0, .int .i64 0, .string ⟨#[]⟩, .slice none 0 0] 26)).heap.size = w.heap.size + 1 := by simp
  have INN := Lib.hid (fun W => l01In_no 218 204 211 W (by omega))
  have G1 := Lib.hid (fun W => show Calls Tryd.prog 47 #[.string s, .int .i64 ((i : Int) + 1), .int .i64 1] W (WideRet (wgo s (i + 1) 1) W) from GetWide_go s (i + 1) 1 W hs (by omega) (by omega))
  have G2 := Lib.hid (fun W => show Calls Tryd.prog 47 #[.string s, .int .i64 ((i : Int) + 1), .int .i64 2] W (WideRet (wgo s (i + 1) 2) W) from GetWide_go s (i + 1) 2 W hs (by omega) (by omega))
  have HWS := Lib.hid (fun n (h : wgo s (i + 1) 2 = some n) => wgo_small h (by omega))
  cases ho : wgo s (i + 1) 2 with
  | none =>
    rw [ho] at G2
    have CL := Lib.hid (fun (W : World) (hR : RB W r s l) => show Calls Tryd.prog 182 #[.pointer (some ⟨r, 0, none⟩), .int .i64 ((i : Int) + 1 + 2), .int .i64 5, .int .i64 0, .bool false] W (MgRet r s none W) from l06Str_no r s 5 0 _ _ W hR)
    clear hG hg hRB HWS ho
    show Calls _ _ _ _ (MgRet r s none w)
    go_enter Tryd.func121, Tryd.ntmps121
    go_wp2_with fail
    refine (INN.out _).mono ?_
    rintro e5 w5 ⟨rfl, rfl⟩
    go_wp2_with fail
    refine (G1.out _).mono ?_
    rintro e5 w5 hwd
    obtain ⟨nx, bx, rfl, rfl⟩ := hwd.any
    clear hwd
    go_wp2_with fail
    refine (G2.out _).mono ?_
    rintro e5 w5 ⟨rfl, rfl⟩
    go_wp2_with fail
    refine (CL.out _ HR5.out).mono ?_
    rintro e w6 ⟨⟨t', sa, sn, sc, rfl⟩, ht6⟩
    unfold V.agg
    have BZ6 := Lib.hid (show Box w6 w.heap.size 0 0 0 ⟨#[]⟩ (.slice none 0 0) 26 from (ht6.block w.heap.size (by omega) (by omega)).trans BZ5.out)
    clear z0 z1 z2 z3 z4 zf0 zf1 zf2 zf3 zf4
    obtain ⟨z0, z1, z2, z3, z4⟩ := BZ6.out.cells
    have zf0 := BZ6.out.free (i := 0); have zf1 := BZ6.out.free (i := 1); have zf2 := BZ6.out.free (i := 2); have zf3 := BZ6.out.free (i := 3); have zf4 := BZ6.out.free (i := 4)
    have HP := Lib.hid (fun v0 v1 v2 v3 v4 => mg_pass_none (s := s) (t := t') (a := sa) (n := sn) (c := sc) HT5.out (Nat.le_refl _) ht6 v0 v1 v2 v3 v4)
    unfold V.agg at HP
    clear CL HR5 HR BZ BZ5 BZ6 ht6
    go_wp2_with fail
    refine bodyPost_ret (v := .tuple #[.agg #[.int .i64 t'.k, .int .i64 t'.n, .int .i64 t'.e, .string t'.s, .slice sa sn sc], .int .i64 (-1)]) (by simp [results, Tryd.results121, go_sem, z0, z1, z2, z3, z4]) rfl (HP.out _ _ _ _ _)
  | some n =>
    obtain ⟨q, rfl, hq, hfit⟩ := HWS.out n ho
    rw [ho] at G2
    have CL := Lib.hid (fun (W : World) (hR : RB W r s l) => show Calls Tryd.prog 182 #[.pointer (some ⟨r, 0, none⟩), .int .i64 ((i : Int) + 1 + 2), .int .i64 5, .int .i64 (q : Int), .bool true] W (MgRet r s (mgStr s 5 (i + 1 + 2) q l) W) from l06Str_any r s hs 5 (by unfold In64; omega) q (i + 1 + 2) l (by omega) (by omega) W hR)
    show Calls _ _ _ _ (MgRet r s (mgStr s 5 (i + 1 + 2) q l) w)
    clear hG hg hRB HWS ho
    generalize (mgStr s 5 (i + 1 + 2) q l) = o at *
    go_enter Tryd.func121, Tryd.ntmps121
    go_wp2_with fail
    refine (INN.out _).mono ?_
    rintro e5 w5 ⟨rfl, rfl⟩
    go_wp2_with fail
    refine (G1.out _).mono ?_
    rintro e5 w5 hwd
    obtain ⟨nx, bx, rfl, rfl⟩ := hwd.any
    clear hwd
    go_wp2_with fail
    refine (G2.out _).mono ?_
    rintro e5 w5 ⟨rfl, rfl⟩
    go_wp2_with fail
    cases o with
    | none =>
      refine (CL.out _ HR5.out).mono ?_
      rintro e w6 ⟨⟨t', sa, sn, sc, rfl⟩, ht6⟩
      unfold V.agg
      have BZ6 := Lib.hid (show Box w6 w.heap.size 0 0 0 ⟨#[]⟩ (.slice none 0 0) 26 from (ht6.block w.heap.size (by omega) (by omega)).trans BZ5.out)
      clear z0 z1 z2 z3 z4 zf0 zf1 zf2 zf3 zf4
      obtain ⟨z0, z1, z2, z3, z4⟩ := BZ6.out.cells
      have zf0 := BZ6.out.free (i := 0); have zf1 := BZ6.out.free (i := 1); have zf2 := BZ6.out.free (i := 2); have zf3 := BZ6.out.free (i := 3); have zf4 := BZ6.out.free (i := 4)
      have HP := Lib.hid (fun v0 v1 v2 v3 v4 => mg_pass_none (s := s) (t := t') (a := sa) (n := sn) (c := sc) HT5.out (Nat.le_refl _) ht6 v0 v1 v2 v3 v4)
      unfold V.agg at HP
      clear CL HR5 HR BZ BZ5 BZ6 ht6
      go_wp2_with fail
      refine bodyPost_ret (v := .tuple #[.agg #[.int .i64 t'.k, .int .i64 t'.n, .int .i64 t'.e, .string t'.s, .slice sa sn sc], .int .i64 (-1)]) (by simp [results, Tryd.results121, go_sem, z0, z1, z2, z3, z4]) rfl (HP.out _ _ _ _ _)
    | some q9 =>
      obtain ⟨u, jq, mq⟩ := q9
      refine (CL.out _ HR5.out).mono ?_
      rintro e w6 ⟨⟨us, rfl, uwf, uo, hrb6⟩, ht6⟩
      obtain ⟨ua, un, uc, rfl⟩ : ∃ sa sn sc, us = .slice sa sn sc := by obtain ⟨p, q, e⟩ := uo.slice; exact ⟨p, _, q, e⟩
      unfold V.agg
      have BZ6 := Lib.hid (show Box w6 w.heap.size 0 0 0 ⟨#[]⟩ (.slice none 0 0) 26 from (ht6.block w.heap.size (by omega) (by omega)).trans BZ5.out)
      clear z0 z1 z2 z3 z4 zf0 zf1 zf2 zf3 zf4
      obtain ⟨z0, z1, z2, z3, z4⟩ := BZ6.out.cells
      have zf0 := BZ6.out.free (i := 0); have zf1 := BZ6.out.free (i := 1); have zf2 := BZ6.out.free (i := 2); have zf3 := BZ6.out.free (i := 3); have zf4 := BZ6.out.free (i := 4)
      have HP := Lib.hid (fun v0 v1 v2 v3 v4 => mg_pass_some (j := jq) HT5.out (Nat.le_refl _) (by omega) (by omega) uwf uo hrb6 ht6 v0 v1 v2 v3 v4)
      unfold V.agg at HP
      clear CL HR5 HR BZ BZ5 BZ6 ht6 hrb6 uo uwf
      go_wp2_with fail
      refine bodyPost_ret (v := .tuple #[.agg #[.int .i64 u.k, .int .i64 u.n, .int .i64 u.e, .string u.s, .slice ua un uc], .int .i64 (jq : Int)]) (by simp [results, Tryd.results121, go_sem, z0, z1, z2, z3, z4]) rfl (HP.out _ _ _ _ _)
set_option maxHeartbeats 4000000 in
theorem l06Get_k220 (r : Nat) (s : ByteArray) (hs : s.size ≤ 1048576) (g : Nat → Nat → MG) (hg : ∀ i l, MGood s i l (g i l)) (deep : Int) (hd : 0 ≤ deep ∧ deep ≤ 12) (hG : ∀ (i l : Nat) (W : World), i ≤ s.size → l ≤ 300 → RB W r s l → Calls Tryd.prog 121 #[.pointer (some ⟨r, 0, none⟩), .int .i64 i, .int .i64 (deep + 1)] W (MgRet r s (g i l) W)) (i l : Nat) (hi : i < s.size) (hl : l + 1 ≤ 300) (w : World) (hRB : RB w r s (l + 1 : Nat)) (hb : ((s[i].toNat : Nat) : Int) = 220) :
    Calls Tryd.prog 121 #[.pointer (some ⟨r, 0, none⟩), .int .i64 i, .int .i64 deep] w (MgRet r s ((wgo s (i + 1) 2).bind fun n => mgNode 7 0 (mgKids g n.toNat (i + 1 + 2) l)) w) := by
  have hrw := lt_of_heap hRB
  have HR := Lib.hid hRB
  obtain ⟨m0, m1, mf⟩ := HR.out.cells
  have hr1 : r ≠ w.heap.size := by omega
  have hr2 : w.heap.size ≠ r := by omega
  have BZ := Lib.hid (Box.new w 0 0 0 ⟨#[]⟩ (.slice none 0 0) 26)
  obtain ⟨z0, z1, z2, z3, z4⟩ := BZ.out.cells
  have zf0 := BZ.out.free (i := 0); have zf1 := BZ.out.free (i := 1); have zf2 := BZ.out.free (i := 2); have zf3 := BZ.out.free (i := 3); have zf4 := BZ.out.free (i := 4)
  have HR5 := Lib.hid (show RB ((w.setCell ⟨r, 1, none⟩ (.int .i64 l)).alloc (.cells #[.int .i64 0, .int .i64 0, .int .i64 0, .string ⟨#[]⟩, .slice none 0 0] 26)) r s l from (HR.out.set l).stay ((Below.refl _ _).alloc (Nat.le_refl _) _))
  have HT5 := Lib.hid (show Touch (fun x => x = r) (fun x => x = r) w ((w.setCell ⟨r, 1, none⟩ (.int .i64 l)).alloc (.cells #[.int .i64 0, .int .i64 0, .int .i64 0, .string ⟨#[]⟩, .slice none 0 0] 26)) from ((Touch.refl _ w).setR _).trans (Touch.of_below ((Below.refl _ _).alloc (Nat.le_refl _) _)))
  have BZ5 := Lib.hid (show Box ((w.setCell ⟨r, 1, none⟩ (.int .i64 l)).alloc (.cells #[.int .i64 0, .int .i64 0, .int .i64 0, .string ⟨#[]⟩, .slice none 0 0] 26)) w.heap.size 0 0 0 ⟨#[]⟩ (.slice none 0 0) 26 from heap_alloc_here _ (by simp))
  have hz5 : ((w.setCell ⟨r, 1, none⟩ (.int .i64 l)).alloc (.cells #[.int .i64 0, .int .i64 0, .int .i64 0, .string ⟨#[]⟩, .slice none 0 0] 26)).heap.size = w.heap.size + 1 := by simp
  have INN := Lib.hid (fun W => l01In_no 220 204 211 W (by omega))
  have G1 := Lib.hid (fun W => show Calls Tryd.prog 47 #[.string s, .int .i64 ((i : Int) + 1), .int .i64 1] W (WideRet (wgo s (i + 1) 1) W) from GetWide_go s (i + 1) 1 W hs (by omega) (by omega))
  have G2 := Lib.hid (fun W => show Calls Tryd.prog 47 #[.string s, .int .i64 ((i : Int) + 1), .int .i64 2] W (WideRet (wgo s (i + 1) 2) W) from GetWide_go s (i + 1) 2 W hs (by omega) (by omega))
  have HWS := Lib.hid (fun n (h : wgo s (i + 1) 2 = some n) => wgo_small h (by omega))
  cases ho : wgo s (i + 1) 2 with
  | none =>
    rw [ho] at G2
    have CL := Lib.hid (fun (W : World) (hR : RB W r s l) => show Calls Tryd.prog 181 #[.pointer (some ⟨r, 0, none⟩), .int .i64 ((i : Int) + 1 + 2), .int .i64 7, .int .i64 0, .bool false, .int .i64 deep] W (MgRet r s none W) from l06Kids_no r s 7 0 _ deep false (.inl rfl) W)
    clear hG hg hRB HWS ho
    show Calls _ _ _ _ (MgRet r s none w)
    go_enter Tryd.func121, Tryd.ntmps121
    go_wp2_with fail
    refine (INN.out _).mono ?_
    rintro e5 w5 ⟨rfl, rfl⟩
    go_wp2_with fail
    refine (G1.out _).mono ?_
    rintro e5 w5 hwd
    obtain ⟨nx, bx, rfl, rfl⟩ := hwd.any
    clear hwd
    go_wp2_with fail
    refine (G2.out _).mono ?_
    rintro e5 w5 ⟨rfl, rfl⟩
    go_wp2_with fail
    refine (CL.out _ HR5.out).mono ?_
    rintro e w6 ⟨⟨t', sa, sn, sc, rfl⟩, ht6⟩
    unfold V.agg
    have BZ6 := Lib.hid (show Box w6 w.heap.size 0 0 0 ⟨#[]⟩ (.slice none 0 0) 26 from (ht6.block w.heap.size (by omega) (by omega)).trans BZ5.out)
    clear z0 z1 z2 z3 z4 zf0 zf1 zf2 zf3 zf4
    obtain ⟨z0, z1, z2, z3, z4⟩ := BZ6.out.cells
    have zf0 := BZ6.out.free (i := 0); have zf1 := BZ6.out.free (i := 1); have zf2 := BZ6.out.free (i := 2); have zf3 := BZ6.out.free (i := 3); have zf4 := BZ6.out.free (i := 4)
    have HP := Lib.hid (fun v0 v1 v2 v3 v4 => mg_pass_none (s := s) (t := t') (a := sa) (n := sn) (c := sc) HT5.out (Nat.le_refl _) ht6 v0 v1 v2 v3 v4)
    unfold V.agg at HP
    clear CL HR5 HR BZ BZ5 BZ6 ht6
    go_wp2_with fail
    refine bodyPost_ret (v := .tuple #[.agg #[.int .i64 t'.k, .int .i64 t'.n, .int .i64 t'.e, .string t'.s, .slice sa sn sc], .int .i64 (-1)]) (by simp [results, Tryd.results121, go_sem, z0, z1, z2, z3, z4]) rfl (HP.out _ _ _ _ _)
  | some n =>
    obtain ⟨q, rfl, hq, hfit⟩ := HWS.out n ho
    rw [ho] at G2
    have CL := Lib.hid (fun (W : World) (hR : RB W r s l) => show Calls Tryd.prog 181 #[.pointer (some ⟨r, 0, none⟩), .int .i64 ((i : Int) + 1 + 2), .int .i64 7, .int .i64 (q : Int), .bool true, .int .i64 deep] W (MgRet r s (mgNode 7 0 (mgKids g q (i + 1 + 2) l)) W) from by
      by_cases hq6 : q ≤ 600
      · exact l06Kids_any r s hs g hg deep (by omega) hG 7 q (i + 1 + 2) l (by omega) (by omega) (by unfold In64; omega) W hR hq6
      · rw [show mgKids g q (i + 1 + 2) l = none from mgKids_many hg (by omega) (by omega)]
        exact l06Kids_no r s 7 _ _ deep true (.inr ⟨rfl, decide_eq_true (by omega)⟩) W)
    show Calls _ _ _ _ (MgRet r s (mgNode 7 0 (mgKids g q (i + 1 + 2) l)) w)
    clear hG hg hRB HWS ho
    generalize (mgNode 7 0 (mgKids g q (i + 1 + 2) l)) = o at *
    go_enter Tryd.func121, Tryd.ntmps121
    go_wp2_with fail
    refine (INN.out _).mono ?_
    rintro e5 w5 ⟨rfl, rfl⟩
    go_wp2_with fail
    refine (G1.out _).mono ?_
    rintro e5 w5 hwd
    obtain ⟨nx, bx, rfl, rfl⟩ := hwd.any
    clear hwd
    go_wp2_with fail
    refine (G2.out _).mono ?_
    rintro e5 w5 ⟨rfl, rfl⟩
    go_wp2_with fail
    cases o with
    | none =>
      refine (CL.out _ HR5.out).mono ?_
      rintro e w6 ⟨⟨t', sa, sn, sc, rfl⟩, ht6⟩
      unfold V.agg
      have BZ6 := Lib.hid (show Box w6 w.heap.size 0 0 0 ⟨#[]⟩ (.slice none 0 0) 26 from (ht6.block w.heap.size (by omega) (by omega)).trans BZ5.out)
      clear z0 z1 z2 z3 z4 zf0 zf1 zf2 zf3 zf4
      obtain ⟨z0, z1, z2, z3, z4⟩ := BZ6.out.cells
      have zf0 := BZ6.out.free (i := 0); have zf1 := BZ6.out.free (i := 1); have zf2 := BZ6.out.free (i := 2); have zf3 := BZ6.out.free (i := 3); have zf4 := BZ6.out.free (i := 4)
      have HP := Lib.hid (fun v0 v1 v2 v3 v4 => mg_pass_none (s := s) (t := t') (a := sa) (n := sn) (c := sc) HT5.out (Nat.le_refl _) ht6 v0 v1 v2 v3 v4)
      unfold V.agg at HP
      clear CL HR5 HR BZ BZ5 BZ6 ht6
      go_wp2_with fail
      refine bodyPost_ret (v := .tuple #[.agg #[.int .i64 t'.k, .int .i64 t'.n, .int .i64 t'.e, .string t'.s, .slice sa sn sc], .int .i64 (-1)]) (by simp [results, Tryd.results121, go_sem, z0, z1, z2, z3, z4]) rfl (HP.out _ _ _ _ _)
    | some q9 =>
      obtain ⟨u, jq, mq⟩ := q9
      refine (CL.out _ HR5.out).mono ?_
      rintro e w6 ⟨⟨us, rfl, uwf, uo, hrb6⟩, ht6⟩
      obtain ⟨ua, un, uc, rfl⟩ : ∃ sa sn sc, us = .slice sa sn sc := by obtain ⟨p, q, e⟩ := uo.slice; exact ⟨p, _, q, e⟩
      unfold V.agg
      have BZ6 := Lib.hid (show Box w6 w.heap.size 0 0 0 ⟨#[]⟩ (.slice none 0 0) 26 from (ht6.block w.heap.size (by omega) (by omega)).trans BZ5.out)
      clear z0 z1 z2 z3 z4 zf0 zf1 zf2 zf3 zf4
      obtain ⟨z0, z1, z2, z3, z4⟩ := BZ6.out.cells
      have zf0 := BZ6.out.free (i := 0); have zf1 := BZ6.out.free (i := 1); have zf2 := BZ6.out.free (i := 2); have zf3 := BZ6.out.free (i := 3); have zf4 := BZ6.out.free (i := 4)
      have HP := Lib.hid (fun v0 v1 v2 v3 v4 => mg_pass_some (j := jq) HT5.out (Nat.le_refl _) (by omega) (by omega) uwf uo hrb6 ht6 v0 v1 v2 v3 v4)
      unfold V.agg at HP
      clear CL HR5 HR BZ BZ5 BZ6 ht6 hrb6 uo uwf
      go_wp2_with fail
      refine bodyPost_ret (v := .tuple #[.agg #[.int .i64 u.k, .int .i64 u.n, .int .i64 u.e, .string u.s, .slice ua un uc], .int .i64 (jq : Int)]) (by simp [results, Tryd.results121, go_sem, z0, z1, z2, z3, z4]) rfl (HP.out _ _ _ _ _)
set_option maxHeartbeats 4000000 in
theorem l06Get_k222 (r : Nat) (s : ByteArray) (hs : s.size ≤ 1048576) (g : Nat → Nat → MG) (hg : ∀ i l, MGood s i l (g i l)) (deep : Int) (hd : 0 ≤ deep ∧ deep ≤ 12) (hG : ∀ (i l : Nat) (W : World), i ≤ s.size → l ≤ 300 → RB W r s l → Calls Tryd.prog 121 #[.pointer (some ⟨r, 0, none⟩), .int .i64 i, .int .i64 (deep + 1)] W (MgRet r s (g i l) W)) (i l : Nat) (hi : i < s.size) (hl : l + 1 ≤ 300) (w : World) (hRB : RB w r s (l + 1 : Nat)) (hb : ((s[i].toNat : Nat) : Int) = 222) :
    Calls Tryd.prog 121 #[.pointer (some ⟨r, 0, none⟩), .int .i64 i, .int .i64 deep] w (MgRet r s ((wgo s (i + 1) 2).bind fun n => mgNode 8 0 (mgKids g (2 * n.toNat) (i + 1 + 2) l)) w) := by
  have hrw := lt_of_heap hRB
  have HR := Lib.hid hRB
  obtain ⟨m0, m1, mf⟩ := HR.out.cells
  have hr1 : r ≠ w.heap.size := by omega
  have hr2 : w.heap.size ≠ r := by omega
  have BZ := Lib.hid (Box.new w 0 0 0 ⟨#[]⟩ (.slice none 0 0) 26)
  obtain ⟨z0, z1, z2, z3, z4⟩ := BZ.out.cells
  have zf0 := BZ.out.free (i := 0); have zf1 := BZ.out.free (i := 1); have zf2 := BZ.out.free (i := 2); have zf3 := BZ.out.free (i := 3); have zf4 := BZ.out.free (i := 4)
  have HR5 := Lib.hid (show RB ((w.setCell ⟨r, 1, none⟩ (.int .i64 l)).alloc (.cells #[.int .i64 0, .int .i64 0, .int .i64 0, .string ⟨#[]⟩, .slice none 0 0] 26)) r s l from (HR.out.set l).stay ((Below.refl _ _).alloc (Nat.le_refl _) _))
  have HT5 := Lib.hid (show Touch (fun x => x = r) (fun x => x = r) w ((w.setCell ⟨r, 1, none⟩ (.int .i64 l)).alloc (.cells #[.int .i64 0, .int .i64 0, .int .i64 0, .string ⟨#[]⟩, .slice none 0 0] 26)) from ((Touch.refl _ w).setR _).trans (Touch.of_below ((Below.refl _ _).alloc (Nat.le_refl _) _)))
  have BZ5 := Lib.hid (show Box ((w.setCell ⟨r, 1, none⟩ (.int .i64 l)).alloc (.cells #[.int .i64 0, .int .i64 0, .int .i64 0, .string ⟨#[]⟩, .slice none 0 0] 26)) w.heap.size 0 0 0 ⟨#[]⟩ (.slice none 0 0) 26 from heap_alloc_here _ (by simp))
  have hz5 : ((w.setCell ⟨r, 1, none⟩ (.int .i64 l)).alloc (.cells #[.int .i64 0, .int .i64 0, .int .i64 0, .string ⟨#[]⟩, .slice none 0 0] 26)).heap.size = w.heap.size + 1 := by simp
  have INN := Lib.hid (fun W => l01In_no 222 204 211 W (by omega))
  have G1 := Lib.hid (fun W => show Calls Tryd.prog 47 #[.string s, .int .i64 ((i : Int) + 1), .int .i64 1] W (WideRet (wgo s (i + 1) 1) W) from GetWide_go s (i + 1) 1 W hs (by omega) (by omega))
  have G2 := Lib.hid (fun W => show Calls Tryd.prog 47 #[.string s, .int .i64 ((i : Int) + 1), .int .i64 2] W (WideRet (wgo s (i + 1) 2) W) from GetWide_go s (i + 1) 2 W hs (by omega) (by omega))
  have HWS := Lib.hid (fun n (h : wgo s (i + 1) 2 = some n) => wgo_small h (by omega))
  cases ho : wgo s (i + 1) 2 with
  | none =>
    rw [ho] at G2
    have CL := Lib.hid (fun (W : World) (hR : RB W r s l) => show Calls Tryd.prog 181 #[.pointer (some ⟨r, 0, none⟩), .int .i64 ((i : Int) + 1 + 2), .int .i64 8, .int .i64 0, .bool false, .int .i64 deep] W (MgRet r s none W) from l06Kids_no r s 8 0 _ deep false (.inl rfl) W)
    clear hG hg hRB HWS ho
    show Calls _ _ _ _ (MgRet r s none w)
    go_enter Tryd.func121, Tryd.ntmps121
    go_wp2_with fail
    refine (INN.out _).mono ?_
    rintro e5 w5 ⟨rfl, rfl⟩
    go_wp2_with fail
    refine (G1.out _).mono ?_
    rintro e5 w5 hwd
    obtain ⟨nx, bx, rfl, rfl⟩ := hwd.any
    clear hwd
    go_wp2_with fail
    refine (G2.out _).mono ?_
    rintro e5 w5 ⟨rfl, rfl⟩
    go_wp2_with fail
    refine (CL.out _ HR5.out).mono ?_
    rintro e w6 ⟨⟨t', sa, sn, sc, rfl⟩, ht6⟩
    unfold V.agg
    have BZ6 := Lib.hid (show Box w6 w.heap.size 0 0 0 ⟨#[]⟩ (.slice none 0 0) 26 from (ht6.block w.heap.size (by omega) (by omega)).trans BZ5.out)
    clear z0 z1 z2 z3 z4 zf0 zf1 zf2 zf3 zf4
    obtain ⟨z0, z1, z2, z3, z4⟩ := BZ6.out.cells
    have zf0 := BZ6.out.free (i := 0); have zf1 := BZ6.out.free (i := 1); have zf2 := BZ6.out.free (i := 2); have zf3 := BZ6.out.free (i := 3); have zf4 := BZ6.out.free (i := 4)
    have HP := Lib.hid (fun v0 v1 v2 v3 v4 => mg_pass_none (s := s) (t := t') (a := sa) (n := sn) (c := sc) HT5.out (Nat.le_refl _) ht6 v0 v1 v2 v3 v4)
    unfold V.agg at HP
    clear CL HR5 HR BZ BZ5 BZ6 ht6
    go_wp2_with fail
    refine bodyPost_ret (v := .tuple #[.agg #[.int .i64 t'.k, .int .i64 t'.n, .int .i64 t'.e, .string t'.s, .slice sa sn sc], .int .i64 (-1)]) (by simp [results, Tryd.results121, go_sem, z0, z1, z2, z3, z4]) rfl (HP.out _ _ _ _ _)
  | some n =>
    obtain ⟨q, rfl, hq, hfit⟩ := HWS.out n ho
    rw [ho] at G2
    have CL := Lib.hid (fun (W : World) (hR : RB W r s l) => show Calls Tryd.prog 181 #[.pointer (some ⟨r, 0, none⟩), .int .i64 ((i : Int) + 1 + 2), .int .i64 8, .int .i64 (2 * (q : Int)), .bool true, .int .i64 deep] W (MgRet r s (mgNode 8 0 (mgKids g (2 * q) (i + 1 + 2) l)) W) from by
      by_cases hq6 : (2 * q) ≤ 600
      · exact l06Kids_any r s hs g hg deep (by omega) hG 8 (2 * q) (i + 1 + 2) l (by omega) (by omega) (by unfold In64; omega) W hR hq6
      · rw [show mgKids g (2 * q) (i + 1 + 2) l = none from mgKids_many hg (by omega) (by omega)]
        exact l06Kids_no r s 8 _ _ deep true (.inr ⟨rfl, decide_eq_true (by omega)⟩) W)
    show Calls _ _ _ _ (MgRet r s (mgNode 8 0 (mgKids g (2 * q) (i + 1 + 2) l)) w)
    clear hG hg hRB HWS ho
    generalize (mgNode 8 0 (mgKids g (2 * q) (i + 1 + 2) l)) = o at *
    go_enter Tryd.func121, Tryd.ntmps121
    go_wp2_with fail
    refine (INN.out _).mono ?_
    rintro e5 w5 ⟨rfl, rfl⟩
    go_wp2_with fail
    refine (G1.out _).mono ?_
    rintro e5 w5 hwd
    obtain ⟨nx, bx, rfl, rfl⟩ := hwd.any
    clear hwd
    go_wp2_with fail
    refine (G2.out _).mono ?_
    rintro e5 w5 ⟨rfl, rfl⟩
    go_wp2_with fail
    cases o with
    | none =>
      refine (CL.out _ HR5.out).mono ?_
      rintro e w6 ⟨⟨t', sa, sn, sc, rfl⟩, ht6⟩
      unfold V.agg
      have BZ6 := Lib.hid (show Box w6 w.heap.size 0 0 0 ⟨#[]⟩ (.slice none 0 0) 26 from (ht6.block w.heap.size (by omega) (by omega)).trans BZ5.out)
      clear z0 z1 z2 z3 z4 zf0 zf1 zf2 zf3 zf4
      obtain ⟨z0, z1, z2, z3, z4⟩ := BZ6.out.cells
      have zf0 := BZ6.out.free (i := 0); have zf1 := BZ6.out.free (i := 1); have zf2 := BZ6.out.free (i := 2); have zf3 := BZ6.out.free (i := 3); have zf4 := BZ6.out.free (i := 4)
      have HP := Lib.hid (fun v0 v1 v2 v3 v4 => mg_pass_none (s := s) (t := t') (a := sa) (n := sn) (c := sc) HT5.out (Nat.le_refl _) ht6 v0 v1 v2 v3 v4)
      unfold V.agg at HP
      clear CL HR5 HR BZ BZ5 BZ6 ht6
      go_wp2_with fail
      refine bodyPost_ret (v := .tuple #[.agg #[.int .i64 t'.k, .int .i64 t'.n, .int .i64 t'.e, .string t'.s, .slice sa sn sc], .int .i64 (-1)]) (by simp [results, Tryd.results121, go_sem, z0, z1, z2, z3, z4]) rfl (HP.out _ _ _ _ _)
    | some q9 =>
      obtain ⟨u, jq, mq⟩ := q9
      refine (CL.out _ HR5.out).mono ?_
      rintro e w6 ⟨⟨us, rfl, uwf, uo, hrb6⟩, ht6⟩
      obtain ⟨ua, un, uc, rfl⟩ : ∃ sa sn sc, us = .slice sa sn sc := by obtain ⟨p, q, e⟩ := uo.slice; exact ⟨p, _, q, e⟩
      unfold V.agg
      have BZ6 := Lib.hid (show Box w6 w.heap.size 0 0 0 ⟨#[]⟩ (.slice none 0 0) 26 from (ht6.block w.heap.size (by omega) (by omega)).trans BZ5.out)
      clear z0 z1 z2 z3 z4 zf0 zf1 zf2 zf3 zf4
      obtain ⟨z0, z1, z2, z3, z4⟩ := BZ6.out.cells
      have zf0 := BZ6.out.free (i := 0); have zf1 := BZ6.out.free (i := 1); have zf2 := BZ6.out.free (i := 2); have zf3 := BZ6.out.free (i := 3); have zf4 := BZ6.out.free (i := 4)
      have HP := Lib.hid (fun v0 v1 v2 v3 v4 => mg_pass_some (j := jq) HT5.out (Nat.le_refl _) (by omega) (by omega) uwf uo hrb6 ht6 v0 v1 v2 v3 v4)
      unfold V.agg at HP
      clear CL HR5 HR BZ BZ5 BZ6 ht6 hrb6 uo uwf
      go_wp2_with fail
      refine bodyPost_ret (v := .tuple #[.agg #[.int .i64 u.k, .int .i64 u.n, .int .i64 u.e, .string u.s, .slice ua un uc], .int .i64 (jq : Int)]) (by simp [results, Tryd.results121, go_sem, z0, z1, z2, z3, z4]) rfl (HP.out _ _ _ _ _)
end Go.Proofs.YtgbgeocmjdgmoaaDoor
namespace Go.Proofs.YtgbgeocmjdgmoaaDoor
set_option linter.unusedSimpArgs false
set_option linter.unusedVariables false
set_option maxRecDepth 100000
open Go.RowKit
set_option maxHeartbeats 2000000 in
theorem l06Get_stop (r : Nat) (s : ByteArray) (hs : s.size ≤ 1048576) (deep : Int) (hd : 0 ≤ deep ∧ deep ≤ 13) (i l : Nat) (hi : i ≤ s.size) (hl : l ≤ 300) (w : World) (hRB : RB w r s l) (h : l = 0 ∨ deep = 13 ∨ i = s.size) :
    Calls Tryd.prog 121 #[.pointer (some ⟨r, 0, none⟩), .int .i64 i, .int .i64 deep] w (MgRet r s none w) := by
  have hrw := lt_of_heap hRB
  have HR := Lib.hid hRB
  obtain ⟨m0, m1, mf⟩ := HR.out.cells
  have hr1 : r ≠ w.heap.size := by omega
  have hr2 : w.heap.size ≠ r := by omega
  have BZ := Lib.hid (Box.new w 0 0 0 ⟨#[]⟩ (.slice none 0 0) 26)
  obtain ⟨z0, z1, z2, z3, z4⟩ := BZ.out.cells
  have zf0 := BZ.out.free (i := 0); have zf1 := BZ.out.free (i := 1); have zf2 := BZ.out.free (i := 2); have zf3 := BZ.out.free (i := 3); have zf4 := BZ.out.free (i := 4)
  by_cases hl0 : l = 0
  · clear h
    subst hl0
    clear hRB
    go_enter Tryd.func121, Tryd.ntmps121
    go_wp2_with fail
    refine bodyPost_ret (v := .tuple #[.agg #[.int .i64 0, .int .i64 0, .int .i64 0, .string ⟨#[]⟩, .slice none 0 0], .int .i64 (-1)]) (by simp [results, Tryd.results121, go_sem, z0, z1, z2, z3, z4]) rfl (mg_fail (((Touch.refl _ w).setR _).trans (Touch.of_below ((by (with_reducible (repeat' (first | exact Below.refl _ _ | refine below_alloc ?_ _ ?_ | refine Below.setCell ?_ ?_ _ | refine Below.drew ?_ | refine below_drewN ?_ _ | refine below_step ?_ (by assumption) ?_ | refine below_mark ?_ (by assumption) ?_))); all_goals (first | omega | (simp; done) | (simp; omega)))))))
  · obtain ⟨l', rfl⟩ : ∃ l', l = l' + 1 := ⟨l - 1, by omega⟩
    clear hRB hl0
    by_cases hd3 : deep = 13
    · clear h
      subst hd3
      go_enter Tryd.func121, Tryd.ntmps121
      go_wp2_with fail
      refine bodyPost_ret (v := .tuple #[.agg #[.int .i64 0, .int .i64 0, .int .i64 0, .string ⟨#[]⟩, .slice none 0 0], .int .i64 (-1)]) (by simp [results, Tryd.results121, go_sem, z0, z1, z2, z3, z4]) rfl (mg_fail (((Touch.refl _ w).setR _).trans (Touch.of_below ((by (with_reducible (repeat' (first | exact Below.refl _ _ | refine below_alloc ?_ _ ?_ | refine Below.setCell ?_ ?_ _ | refine Below.drew ?_ | refine below_drewN ?_ _ | refine below_step ?_ (by assumption) ?_ | refine below_mark ?_ (by assumption) ?_))); all_goals (first | omega | (simp; done) | (simp; omega)))))))
    · obtain rfl : i = s.size := by omega
      have hd4 : deep ≤ 12 := by omega
      clear h hd3
      go_enter Tryd.func121, Tryd.ntmps121
      go_wp2_with fail
      refine bodyPost_ret (v := .tuple #[.agg #[.int .i64 0, .int .i64 0, .int .i64 0, .string ⟨#[]⟩, .slice none 0 0], .int .i64 (-1)]) (by simp [results, Tryd.results121, go_sem, z0, z1, z2, z3, z4]) rfl (mg_fail (((Touch.refl _ w).setR _).trans (Touch.of_below ((by (with_reducible (repeat' (first | exact Below.refl _ _ | refine below_alloc ?_ _ ?_ | refine Below.setCell ?_ ?_ _ | refine Below.drew ?_ | refine below_drewN ?_ _ | refine below_step ?_ (by assumption) ?_ | refine below_mark ?_ (by assumption) ?_))); all_goals (first | omega | (simp; done) | (simp; omega)))))))
theorem l06Get_any (r : Nat) (s : ByteArray) (hs : s.size ≤ 1048576) : ∀ (f : Nat) (deep : Int), deep = 13 - (f : Int) → f ≤ 13 → ∀ (i l : Nat) (w : World), i ≤ s.size → l ≤ 300 → RB w r s l →
    Calls Tryd.prog 121 #[.pointer (some ⟨r, 0, none⟩), .int .i64 i, .int .i64 deep] w (MgRet r s (mget s f i l) w)
  | 0, deep, hd, hf, i, l, w, hi, hl, h => l06Get_stop r s hs deep (by omega) i l hi hl w h (.inr (.inl (by omega)))
  | f + 1, deep, hd, hf, i, l, w, hi, hl, h => by
    have ih := fun (i l : Nat) (W : World) (hi : i ≤ s.size) (hl : l ≤ 300) (h : RB W r s l) => l06Get_any r s hs f (deep + 1) (by omega) (by omega) i l W hi hl h
    by_cases hst : l = 0 ∨ i = s.size
    · have e : mget s (f + 1) i l = none := by
        rw [mget]
        split
        · rw [if_pos (by omega)]
        · rfl
      rw [e]
      exact l06Get_stop r s hs deep (by omega) i l hi hl w h (by omega)
    · obtain ⟨l', rfl⟩ : ∃ l', l = l' + 1 := ⟨l - 1, by omega⟩
      have hi2 : i < s.size := by omega
      rw [mget, dif_pos hi2, if_neg (by omega), show l' + 1 - 1 = l' by omega]
      have hg := mget_good hs f
      generalize hbn : s[i].toNat = bn
      have hb : ((s[i].toNat : Nat) : Int) = (bn : Int) := by rw [hbn]
      have hlt : bn < 256 := by have := s[i].toNat_lt; omega
      have hd2 : 0 ≤ deep ∧ deep ≤ 12 := by omega
      unfold mgByte
      by_cases h1 : bn < 128
      · rw [if_pos h1]; exact l06Get_small r s hs _ hg deep hd2 ih i l' hi2 hl w h bn hb h1
      rw [if_neg h1]
      by_cases h2 : bn < 144
      · rw [if_pos h2]; exact l06Get_map r s hs _ hg deep hd2 ih i l' hi2 hl w h bn hb (by omega) h2
      rw [if_neg h2]
      by_cases h3 : bn < 160
      · rw [if_pos h3]; exact l06Get_list r s hs _ hg deep hd2 ih i l' hi2 hl w h bn hb (by omega) h3
      rw [if_neg h3]
      by_cases h4 : bn < 192
      · rw [if_pos h4]; exact l06Get_text r s hs _ hg deep hd2 ih i l' hi2 hl w h bn hb (by omega) h4
      rw [if_neg h4]
      by_cases h5 : 224 ≤ bn
      · rw [if_pos h5]; exact l06Get_neg r s hs _ hg deep hd2 ih i l' hi2 hl w h bn hb h5 hlt
      rw [if_neg h5]
      by_cases h6 : 204 ≤ bn ∧ bn ≤ 207
      · rw [if_pos h6]; exact l06Get_wide r s hs _ hg deep hd2 ih i l' hi2 hl w h bn hb (bn - 204) (by omega) false (by simp; omega)
      rw [if_neg h6]
      by_cases h7 : 208 ≤ bn ∧ bn ≤ 211
      · rw [if_pos h7]; exact l06Get_wide r s hs _ hg deep hd2 ih i l' hi2 hl w h bn hb (bn - 208) (by omega) true (by simp; omega)
      rw [if_neg h7]
      by_cases h8 : bn = 192
      · rw [if_pos h8]; exact l06Get_k192 r s hs _ hg deep hd2 ih i l' hi2 hl w h (by rw [hb, h8]; rfl)
      rw [if_neg h8]
      by_cases h9 : bn = 194 ∨ bn = 195
      · rw [if_pos h9]
        rcases h9 with rfl | rfl
        · exact l06Get_k194 r s hs _ hg deep hd2 ih i l' hi2 hl w h (by rw [hb]; rfl)
        · exact l06Get_k195 r s hs _ hg deep hd2 ih i l' hi2 hl w h (by rw [hb]; rfl)
      rw [if_neg h9]
      by_cases h10 : bn = 196 ∨ bn = 197
      · rw [if_pos h10]
        rcases h10 with rfl | rfl
        · exact l06Get_k196 r s hs _ hg deep hd2 ih i l' hi2 hl w h (by rw [hb]; rfl)
        · exact l06Get_k197 r s hs _ hg deep hd2 ih i l' hi2 hl w h (by rw [hb]; rfl)
      rw [if_neg h10]
      by_cases h11 : bn = 199
      · rw [if_pos h11]; exact l06Get_k199 r s hs _ hg deep hd2 ih i l' hi2 hl w h bn hb h11
      rw [if_neg h11]
      by_cases h12 : bn = 217 ∨ bn = 218
      · rw [if_pos h12]
        rcases h12 with rfl | rfl
        · exact l06Get_k217 r s hs _ hg deep hd2 ih i l' hi2 hl w h (by rw [hb]; rfl)
        · exact l06Get_k218 r s hs _ hg deep hd2 ih i l' hi2 hl w h (by rw [hb]; rfl)
      rw [if_neg h12]
      by_cases h13 : bn = 220
      · rw [if_pos h13]; subst h13; exact l06Get_k220 r s hs _ hg deep hd2 ih i l' hi2 hl w h (by rw [hb]; rfl)
      rw [if_neg h13]
      by_cases h14 : bn = 222
      · rw [if_pos h14]; subst h14; exact l06Get_k222 r s hs _ hg deep hd2 ih i l' hi2 hl w h (by rw [hb]; rfl)
      rw [if_neg h14]
      exact l06Get_other r s hs _ hg deep hd2 ih i l' hi2 hl w h bn hb (by omega)
end Go.Proofs.YtgbgeocmjdgmoaaDoor
namespace Go.Proofs.YtgbgeocmjdgmoaaDoor
set_option linter.unusedSimpArgs false
set_option linter.unusedVariables false
set_option maxRecDepth 100000
open Go.RowKit
def VIRet (w : World) (p : V × Int) (e : Ending) (w' : World) : Prop := ∃ sl, e = .returned (.tuple #[p.1.agg sl, .int .i64 p.2]) ∧ p.1.wf ∧ OwnS w' (fun x => w.heap.size ≤ x) sl p.1.kids ∧ Below w.heap.size w w'
def VZ0 : V := .mk 0 0 0 ⟨#[]⟩ []
theorem VZ0.wf : VZ0.wf := ⟨in0, in0, in0, by show ByteArray.size ⟨#[]⟩ ≤ _; simp [ByteArray.size]⟩
def msgC (o : MG) (s : ByteArray) (i : Nat) : V × Int := match o with
  | some q => if mpB q.1 = (s.extract i q.2.1).data.toList then (q.1, (q.2.1 : Int)) else (VZ0, -1)
  | none => (VZ0, -1)
def msgR2 (s : ByteArray) (i : Int) : V × Int := if 0 ≤ i ∧ i ≤ s.size then msgC (mget s 13 i.toNat 300) s i.toNat else (VZ0, -1)
theorem vi_zero {w w' : World} (hb : Below w.heap.size w w') : VIRet w (VZ0, -1) (.returned (.tuple #[.agg #[.int .i64 0, .int .i64 0, .int .i64 0, .string ⟨#[]⟩, .slice none 0 0], .int .i64 (-1)])) w' :=
  ⟨.slice none 0 0, rfl, VZ0.wf, OwnS.nil _ _, hb⟩
theorem msgR2_out {s : ByteArray} {i : Int} (h : i < 0 ∨ s.size ≤ i) : msgR2 s i = (VZ0, -1) := by
  unfold msgR2
  split
  · rw [mget, dif_neg (by omega)]; rfl
  · rfl
theorem bne_no {a b : ByteArray} (h : a = b) : (a.toList != b.toList) = false := by simp [bne, ba_yes h]
theorem bne_yes {a b : ByteArray} (h : ¬ a = b) : (a.toList != b.toList) = true := by simp [bne, ba_no h]
theorem vb_set5 {B : Nat} {w w' : World} (h : Below B w w') (c : Nat) (hc : B ≤ c) (v0 v1 v2 v3 v4 : Value) : Below B w (set5 w' c v0 v1 v2 v3 v4) := by
  unfold Go.Proofs.YtgbgeocmjdgmoaaDoor.set5
  exact ((((h.setCell (p := ⟨c, _, none⟩) hc _).setCell (p := ⟨c, _, none⟩) hc _).setCell (p := ⟨c, _, none⟩) hc _).setCell (p := ⟨c, _, none⟩) hc _).setCell (p := ⟨c, _, none⟩) hc _
theorem keep6 {w W w2 : World} {b : Nat} {x0 x1 x2 x3 x4 : Value} (hb : Below W.heap.size W w2) (h : W.cell? ⟨b, 0, none⟩ = some x0 ∧ W.cell? ⟨b, 1, none⟩ = some x1 ∧ W.cell? ⟨b, 2, none⟩ = some x2 ∧ W.cell? ⟨b, 3, none⟩ = some x3 ∧ W.cell? ⟨b, 4, none⟩ = some x4 ∧ Below w.heap.size w W) :
    w2.cell? ⟨b, 0, none⟩ = some x0 ∧ w2.cell? ⟨b, 1, none⟩ = some x1 ∧ w2.cell? ⟨b, 2, none⟩ = some x2 ∧ w2.cell? ⟨b, 3, none⟩ = some x3 ∧ w2.cell? ⟨b, 4, none⟩ = some x4 ∧ Below w.heap.size w w2 :=
  ⟨keep1 hb h.1, keep1 hb h.2.1, keep1 hb h.2.2.1, keep1 hb h.2.2.2.1, keep1 hb h.2.2.2.2.1, h.2.2.2.2.2.trans (hb.mono h.2.2.2.2.2.size)⟩
set_option maxHeartbeats 2000000 in
theorem GetMsg_spec0 (w0 : World) (s : ByteArray) (hs : s.size ≤ 1048576) (i : Int) (hi : In64 i) (w : World) (hw : Below w0.heap.size w0 w) :
    Calls Tryd.prog 41 #[.string s, .int .i64 i] w (VIRet w (msgR2 s i)) := by
  obtain ⟨hi0, hi1⟩ := hi
  have BZ := Lib.hid (Box.new w 0 0 0 ⟨#[]⟩ (.slice none 0 0) 26)
  obtain ⟨z0, z1, z2, z3, z4⟩ := BZ.out.cells
  have zf0 := BZ.out.free (i := 0); have zf1 := BZ.out.free (i := 1); have zf2 := BZ.out.free (i := 2); have zf3 := BZ.out.free (i := 3); have zf4 := BZ.out.free (i := 4)
  by_cases h1 : i < 0
  · rw [msgR2_out (.inl h1)]
    go_enter Tryd.func41, Tryd.ntmps41
    go_wp2_with fail
    refine bodyPost_ret (v := .tuple #[.agg #[.int .i64 0, .int .i64 0, .int .i64 0, .string ⟨#[]⟩, .slice none 0 0], .int .i64 (-1)]) (by simp [results, Tryd.results41, go_sem, z0, z1, z2, z3, z4]) rfl (vi_zero ((by (with_reducible (repeat' (first | exact Below.refl _ _ | refine below_alloc ?_ _ ?_ | refine Below.setCell ?_ ?_ _ | refine Below.drew ?_ | refine below_drewN ?_ _ | refine below_step ?_ (by assumption) ?_ | refine below_mark ?_ (by assumption) ?_))); all_goals (first | omega | (simp; done) | (simp; omega)))))
  by_cases h2 : (s.size : Int) ≤ i
  · rw [msgR2_out (.inr h2)]
    go_enter Tryd.func41, Tryd.ntmps41
    go_wp2_with fail
    refine bodyPost_ret (v := .tuple #[.agg #[.int .i64 0, .int .i64 0, .int .i64 0, .string ⟨#[]⟩, .slice none 0 0], .int .i64 (-1)]) (by simp [results, Tryd.results41, go_sem, z0, z1, z2, z3, z4]) rfl (vi_zero ((by (with_reducible (repeat' (first | exact Below.refl _ _ | refine below_alloc ?_ _ ?_ | refine Below.setCell ?_ ?_ _ | refine Below.drew ?_ | refine below_drewN ?_ _ | refine below_step ?_ (by assumption) ?_ | refine below_mark ?_ (by assumption) ?_))); all_goals (first | omega | (simp; done) | (simp; omega)))))
  obtain ⟨k, rfl⟩ : ∃ k : Nat, i = (k : Int) := ⟨i.toNat, by omega⟩
  have hk : k < s.size := by omega
  have HE := Lib.hid (show msgR2 s (k : Int) = msgC (mget s 13 k 300) s k by unfold msgR2; rw [if_pos (by omega), Int.toNat_natCast])
  have HG := Lib.hid (fun v j m (h : mget s 13 k 300 = some (v, j, m)) => mget_good hs 13 k 300 v j m h)
  have CL := Lib.hid (fun (r : Nat) (W : World) (h : RB W r s 300) => show Calls Tryd.prog 121 #[.pointer (some ⟨r, 0, none⟩), .int .i64 (k : Int), .int .i64 0] W (MgRet r s (mget s 13 k 300) W) from
    l06Get_any r s hs 13 0 (by omega) (by omega) k 300 W (by omega) (by omega) h)
  rw [HE.out]
  generalize mget s 13 k 300 = o at *
  clear HE h1 h2 hi0 hi1
  have RB5 := Lib.hid (show RB ((w.alloc (.cells #[.int .i64 0, .int .i64 0, .int .i64 0, .string ⟨#[]⟩, .slice none 0 0] 26)).alloc (.cells #[.string s, .int .i64 300] 117)) (w.heap.size + 1) s 300 from heap_alloc_here _ (by simp))
  have hz5 : ((w.alloc (.cells #[.int .i64 0, .int .i64 0, .int .i64 0, .string ⟨#[]⟩, .slice none 0 0] 26)).alloc (.cells #[.string s, .int .i64 300] 117)).heap.size = w.heap.size + 1 + 1 := by simp
  have HB5 := Lib.hid (show Below w.heap.size w ((w.alloc (.cells #[.int .i64 0, .int .i64 0, .int .i64 0, .string ⟨#[]⟩, .slice none 0 0] 26)).alloc (.cells #[.string s, .int .i64 300] 117)) from (by (with_reducible (repeat' (first | exact Below.refl _ _ | refine below_alloc ?_ _ ?_ | refine Below.setCell ?_ ?_ _ | refine Below.drew ?_ | refine below_drewN ?_ _ | refine below_step ?_ (by assumption) ?_ | refine below_mark ?_ (by assumption) ?_))); all_goals (first | omega | (simp; done) | (simp; omega))))
  have BZ5 := Lib.hid (show Box ((w.alloc (.cells #[.int .i64 0, .int .i64 0, .int .i64 0, .string ⟨#[]⟩, .slice none 0 0] 26)).alloc (.cells #[.string s, .int .i64 300] 117)) w.heap.size 0 0 0 ⟨#[]⟩ (.slice none 0 0) 26 from (BZ.out).alloc _)
  cases o with
  | none =>
    go_enter Tryd.func41, Tryd.ntmps41
    go_wp2_with fail
    refine (CL.out _ _ RB5.out).mono ?_
    rintro e w6 ⟨⟨t', sa, sn, sc, rfl⟩, ht6⟩
    unfold V.agg
    have hz6 := ht6.size
    rw [hz5] at hz6
    have BZ6 := Lib.hid (show Box w6 w.heap.size 0 0 0 ⟨#[]⟩ (.slice none 0 0) 26 from (ht6.block w.heap.size (by omega) (by omega)).trans BZ5.out)
    have HB6 := Lib.hid (show Below w.heap.size w w6 from HB5.out.trans (ht6.below (fun x hx => by omega) (by omega)))
    clear z0 z1 z2 z3 z4 zf0 zf1 zf2 zf3 zf4
    obtain ⟨z0, z1, z2, z3, z4⟩ := BZ6.out.cells
    have zf0 := BZ6.out.free (i := 0); have zf1 := BZ6.out.free (i := 1); have zf2 := BZ6.out.free (i := 2); have zf3 := BZ6.out.free (i := 3); have zf4 := BZ6.out.free (i := 4)
    have hm1 : w.heap.size ≠ w6.heap.size := by omega
    have hm2 : w6.heap.size ≠ w.heap.size := by omega
    have hm3 : w.heap.size < w6.heap.size := by omega
    clear CL HG RB5 BZ BZ5 BZ6 ht6
    have HBT := Lib.hid HB6.out
    go_wp2_with fail
    go_quiet (fail)
    go_wp2_with fail
    refine bodyPost_ret (v := .tuple #[.agg #[.int .i64 0, .int .i64 0, .int .i64 0, .string ⟨#[]⟩, .slice none 0 0], .int .i64 (-1)]) (by simp [results, Tryd.results41, go_sem, z0, z1, z2, z3, z4, hm1, hm2, hm3]) rfl (vi_zero ?_)
    have hb6 := HBT.out
    exact (by (with_reducible (repeat' (first | exact Below.refl _ _ | refine below_alloc ?_ _ ?_ | refine Below.setCell ?_ ?_ _ | refine Below.drew ?_ | refine below_drewN ?_ _ | refine below_step ?_ (by assumption) ?_ | refine below_mark ?_ (by assumption) ?_))); all_goals (first | omega | (simp; done) | (simp; omega)))
  | some q =>
    obtain ⟨v, j, m⟩ := q
    obtain ⟨hg1, hg2, hg3, hg4, hg5⟩ := HG.out v j m rfl
    have HQ := Lib.hid (show msgC (some (v, j, m)) s k = if mpB v = (s.extract k j).data.toList then (v, (j : Int)) else (VZ0, -1) from rfl)
    go_enter Tryd.func41, Tryd.ntmps41
    go_wp2_with fail
    refine (CL.out _ _ RB5.out).mono ?_
    rintro e w6 ⟨⟨sl, rfl, uwf, uo, hrb6⟩, ht6⟩
    obtain ⟨ua, un, uc, rfl⟩ : ∃ sa sn sc, sl = .slice sa sn sc := by obtain ⟨p, q, e⟩ := uo.slice; exact ⟨p, _, q, e⟩
    have hz6 := ht6.size
    rw [hz5] at hz6
    have BZ6 := Lib.hid (show Box w6 w.heap.size 0 0 0 ⟨#[]⟩ (.slice none 0 0) 26 from (ht6.block w.heap.size (by omega) (by omega)).trans BZ5.out)
    have HB6 := Lib.hid (show Below w.heap.size w w6 from HB5.out.trans (ht6.below (fun x hx => by omega) (by omega)))
    clear z0 z1 z2 z3 z4 zf0 zf1 zf2 zf3 zf4
    obtain ⟨z0, z1, z2, z3, z4⟩ := BZ6.out.cells
    have zf0 := BZ6.out.free (i := 0); have zf1 := BZ6.out.free (i := 1); have zf2 := BZ6.out.free (i := 2); have zf3 := BZ6.out.free (i := 3); have zf4 := BZ6.out.free (i := 4)
    have hm1 : w.heap.size ≠ w6.heap.size := by omega
    have hm2 : w6.heap.size ≠ w.heap.size := by omega
    have hm3 : w.heap.size < w6.heap.size := by omega
    have PM := Lib.hid (fun (W : World) (hW : W.cell? ⟨w6.heap.size, 0, none⟩ = some (.int .i64 v.k) ∧ W.cell? ⟨w6.heap.size, 1, none⟩ = some (.int .i64 v.n) ∧ W.cell? ⟨w6.heap.size, 2, none⟩ = some (.int .i64 v.e) ∧ W.cell? ⟨w6.heap.size, 3, none⟩ = some (.string v.s) ∧ W.cell? ⟨w6.heap.size, 4, none⟩ = some (.slice ua un uc) ∧ Below w6.heap.size w6 W) => PutMsg_spec w6 (v.agg (.slice ua un uc)) v ⟨_, rfl, uwf, uo.rep⟩ (by omega) W hW.2.2.2.2.2)
    have hkj : (k : Int) ≤ (j : Int) := by omega
    have hj0 : (0 : Int) ≤ (j : Int) := by omega
    have tj : decide ((j : Int) < 0) = false := decide_eq_false (by omega)
    have hjs : (j : Int) ≤ (s.size : Int) := by omega
    have HVI := Lib.hid (show ∀ w', Below w.heap.size w w' → OwnS w' (fun x => w.heap.size ≤ x) (.slice ua un uc) v.kids → VIRet w (v, (j : Int)) (.returned (.tuple #[v.agg (.slice ua un uc), .int .i64 (j : Int)])) w' from fun w' h1 h2 => ⟨_, rfl, uwf, h2, h1⟩)
    have HO6 := Lib.hid (show OwnS w6 (fun x => w.heap.size + 1 + 1 ≤ x) (.slice ua un uc) v.kids from OwnS.mono uo (fun x hx => by rw [hz5] at hx; exact hx))
    have HM8 := Lib.hid (show w.heap.size + 1 + 1 ≤ w.heap.size → False by omega)
    have HM9 := Lib.hid (show ∀ x, w.heap.size + 1 + 1 ≤ x → w.heap.size ≤ x by intro x hx; omega)
    have BV := Lib.hid (Box.new w6 v.k v.n v.e v.s (.slice ua un uc) 26)
    clear CL HG RB5 BZ BZ5 ht6 uo hrb6 uwf hg1 hg3 hg4 hg5
    unfold V.agg at PM HVI ⊢
    obtain ⟨v0, v1, v2, v3, v4⟩ := BV.out.cells
    by_cases hc : (⟨(mpB v).toArray⟩ : ByteArray) = s.extract k j
    · have t1 := bne_no hc
      have t2 := ba_yes hc
      have hlist : mpB v = (s.extract k j).data.toList := by rw [← hc]
      have HE2 := Lib.hid (show msgC (some (v, j, m)) s k = (v, (j : Int)) from by rw [HQ.out, if_pos hlist])
      clear hlist HQ hc
      unfold TxtRet bstr at PM
      generalize (⟨(mpB v).toArray⟩ : ByteArray) = C at *
      have hb7 : Below w6.heap.size w6 (w6.alloc (.cells #[.int .i64 v.k, .int .i64 v.n, .int .i64 v.e, .string v.s, .slice ua un uc] 26)) := (Below.refl _ _).alloc (Nat.le_refl _) _
      go_wp2_with fail
      go_region_held3 (fun w' => w'.cell? ⟨w6.heap.size, 0, none⟩ = some (.int .i64 v.k) ∧ w'.cell? ⟨w6.heap.size, 1, none⟩ = some (.int .i64 v.n) ∧ w'.cell? ⟨w6.heap.size, 2, none⟩ = some (.int .i64 v.e) ∧ w'.cell? ⟨w6.heap.size, 3, none⟩ = some (.string v.s) ∧ w'.cell? ⟨w6.heap.size, 4, none⟩ = some (.slice ua un uc) ∧ Below w6.heap.size w6 w') (first | with_reducible exact ⟨by assumption, by assumption, by assumption, by assumption, by assumption, by assumption⟩ | with_reducible assumption | exact ⟨v0, v1, v2, v3, v4, hb7.drew⟩ | go_keep) (((with_reducible refine (PM.out _ (by with_reducible assumption)).mono ?_); rintro e8 w8 ⟨rfl, hb8⟩; have hS := keep6 hb8 (by with_reducible assumption); obtain ⟨hS0, hS1, hS2, hS3, hS4, hS5⟩ := hS))
      clear v0 v1 v2 v3 v4
      have hz8 := hS5.size
      have BZ8 := Lib.hid (show Box w8 w.heap.size 0 0 0 ⟨#[]⟩ (.slice none 0 0) 26 from BZ6.out.stay hS5)
      clear z0 z1 z2 z3 z4 zf0 zf1 zf2 zf3 zf4
      obtain ⟨z0, z1, z2, z3, z4⟩ := BZ8.out.cells
      have zf0 := BZ8.out.free (i := 0); have zf1 := BZ8.out.free (i := 1); have zf2 := BZ8.out.free (i := 2); have zf3 := BZ8.out.free (i := 3); have zf4 := BZ8.out.free (i := 4)
      have HS5 := Lib.hid hS5
      clear hS5 hb8
      go_wp2_with fail
      refine bodyPost_ret (v := .tuple #[.agg #[.int .i64 v.k, .int .i64 v.n, .int .i64 v.e, .string v.s, .slice ua un uc], .int .i64 (j : Int)]) (by simp [results, Tryd.results41, go_sem, z0, z1, z2, z3, z4]) rfl (by rw [HE2.out]; exact HVI.out _ (vb_set5 (HB6.out.trans (HS5.out.mono HB6.out.size)) _ (Nat.le_refl _) _ _ _ _ _) (OwnS.mono (OwnS.set5 (HO6.out.stay HS5.out) w.heap.size HM8.out _ _ _ _ _) HM9.out))
    · have t1 := bne_yes hc
      have t2 := ba_no hc
      have hlist : ¬ mpB v = (s.extract k j).data.toList := fun e => hc (by rw [e])
      have HE2 := Lib.hid (show msgC (some (v, j, m)) s k = (VZ0, -1) from by rw [HQ.out, if_neg hlist])
      clear hlist HQ hc
      unfold TxtRet bstr at PM
      generalize (⟨(mpB v).toArray⟩ : ByteArray) = C at *
      have hb7 : Below w6.heap.size w6 (w6.alloc (.cells #[.int .i64 v.k, .int .i64 v.n, .int .i64 v.e, .string v.s, .slice ua un uc] 26)) := (Below.refl _ _).alloc (Nat.le_refl _) _
      go_wp2_with fail
      go_region_held3 (fun w' => w'.cell? ⟨w6.heap.size, 0, none⟩ = some (.int .i64 v.k) ∧ w'.cell? ⟨w6.heap.size, 1, none⟩ = some (.int .i64 v.n) ∧ w'.cell? ⟨w6.heap.size, 2, none⟩ = some (.int .i64 v.e) ∧ w'.cell? ⟨w6.heap.size, 3, none⟩ = some (.string v.s) ∧ w'.cell? ⟨w6.heap.size, 4, none⟩ = some (.slice ua un uc) ∧ Below w6.heap.size w6 w') (first | with_reducible exact ⟨by assumption, by assumption, by assumption, by assumption, by assumption, by assumption⟩ | with_reducible assumption | exact ⟨v0, v1, v2, v3, v4, hb7.drew⟩ | go_keep) (((with_reducible refine (PM.out _ (by with_reducible assumption)).mono ?_); rintro e8 w8 ⟨rfl, hb8⟩; have hS := keep6 hb8 (by with_reducible assumption); obtain ⟨hS0, hS1, hS2, hS3, hS4, hS5⟩ := hS))
      clear v0 v1 v2 v3 v4
      have hz8 := hS5.size
      have BZ8 := Lib.hid (show Box w8 w.heap.size 0 0 0 ⟨#[]⟩ (.slice none 0 0) 26 from BZ6.out.stay hS5)
      clear z0 z1 z2 z3 z4 zf0 zf1 zf2 zf3 zf4
      obtain ⟨z0, z1, z2, z3, z4⟩ := BZ8.out.cells
      have zf0 := BZ8.out.free (i := 0); have zf1 := BZ8.out.free (i := 1); have zf2 := BZ8.out.free (i := 2); have zf3 := BZ8.out.free (i := 3); have zf4 := BZ8.out.free (i := 4)
      have HS5 := Lib.hid hS5
      clear hS5 hb8
      go_wp2_with fail
      refine bodyPost_ret (v := .tuple #[.agg #[.int .i64 0, .int .i64 0, .int .i64 0, .string ⟨#[]⟩, .slice none 0 0], .int .i64 (-1)]) (by simp [results, Tryd.results41, go_sem, z0, z1, z2, z3, z4]) rfl (by rw [HE2.out]; exact vi_zero (vb_set5 (HB6.out.trans (HS5.out.mono HB6.out.size)) _ (Nat.le_refl _) _ _ _ _ _))
end Go.Proofs.YtgbgeocmjdgmoaaDoor
