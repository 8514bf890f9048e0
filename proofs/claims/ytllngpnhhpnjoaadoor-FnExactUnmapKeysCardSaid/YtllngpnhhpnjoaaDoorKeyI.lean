/- The program's turnKeys: by any function value that turns keys. -/
import Derived.Test.YtllngpnhhpnjoaaDoorKeyU
namespace Go.Proofs.YtllngpnhhpnjoaaDoor
set_option linter.unusedVariables false
set_option maxRecDepth 100000
open Go.RowKit
def byF (by0 : V → Option V) : Bool → V → Option V → Option V := fun b t r => if b then by0 t else r
set_option maxHeartbeats 2000000 in
theorem turnKeys_any (w0 : World) (F : FuncId) (c1 : Value) (hF : ∀ (args : Array Value) (w : World), (callFunc F args).run Tryd.prog w = .ok (.enter F args) w) (by0 : V → Option V)
    (hY : ∀ (t : V) (sl : Value) (w : World), t.wf → t.kids = [] → isKeyB t = true → RepS w0 sl t.kids → Below w0.heap.size w0 w → Calls Tryd.prog F #[t.agg sl, c1] w (ByRet (by0 t) w)) :
    ∀ (N : Nat) (v : Value) (t : V) (d : Int), t.sz < N → rightB t d = true → Rep w0 v t → t.sz ≤ 1048576 → ∀ (w : World), Below w0.heap.size w0 w →
    Calls Tryd.prog 118 #[v, .func (.func F) #[] #[c1]] w (ByRet (trn (byF by0) t) w) := by
  intro N
  induction N with
  | zero => intro v t d h; omega
  | succ N ih =>
  intro v t d hN hright h hsz w hw
  obtain ⟨sl, rfl, hwf, hr⟩ := h
  have hts := V.sz_eq t
  have hlen := szs_length t.kids
  have HPS := Lib.hid (show ∀ us, trns (byF by0) (decide (t.k = 8)) 0 t.kids = some us → ∀ e w', (∃ sl, e = .returned (.tuple #[.agg #[.int .i64 t.k, .int .i64 t.n, .int .i64 t.e, .string t.s, sl], .bool true]) ∧ OwnS w' (fun x => w.heap.size ≤ x) sl us ∧ Below w.heap.size w w') → ByRet (trn (byF by0) t) w e w' from
    fun us hu e w' ⟨sl, h1, h2, h3⟩ => by rw [trn_eq, hu]; exact ⟨sl, h1, hwf, h2, h3⟩)
  have HPN := Lib.hid (show trns (byF by0) (decide (t.k = 8)) 0 t.kids = none → ∀ e w', (∃ t' a n c, e = .returned (.tuple #[V.agg t' (.slice a n c), .bool false]) ∧ Below w.heap.size w w') → ByRet (trn (byF by0) t) w e w' from
    fun hu e w' h => by rw [trn_eq, hu]; exact h)
  obtain ⟨a, b, off, cap, rfl, ha, hc, hm, sls, hel⟩ := hr.opened
  have HA := Lib.hid ha; have HE := Lib.hid hel; have HW := Lib.hid hw
  have HR := Lib.hid (fun (j : Nat) (hj : j < t.kids.length) => rightsB_at (right_kids hright) j hj)
  have HKY := Lib.hid (fun (j : Nat) (hj : j < t.kids.length) (h8 : t.k = 8) (h2 : j % 2 = 0) => key_at hright h8 j hj h2)
  have V1 := Lib.hid (fun (j : Nat) (hj : j < t.kids.length) (W : World) (hW : Below w0.heap.size w0 W) => ih (t.kids[j].agg (sls j)) t.kids[j] (d - 1) (by have h1 := szs_mem (List.getElem_mem hj); omega) (HR.out j hj) ⟨sls j, rfl, (HE.out j hj).2.1, (HE.out j hj).2.2⟩ (by have h1 := szs_mem (List.getElem_mem hj); omega) W hW)
  have HT := Lib.hid (fun (j : Nat) (hj : j < t.kids.length) => trns_take (byF by0) (decide (t.k = 8)) t.kids j hj)
  have hl : t.kids.length ≤ 1048576 := by omega
  have Y1 := Lib.hid (fun (j : Nat) (hj : j < t.kids.length) (hk : isKeyB t.kids[j] = true) (W : World) (hW : Below w0.heap.size w0 W) => hY t.kids[j] (sls j) W (HE.out j hj).2.1 (key_leaf (HR.out j hj) hk) hk (HE.out j hj).2.2 hW)
  have BX := Lib.hid (show Box (((w.alloc (.cells #[.int .i64 t.k, .int .i64 t.n, .int .i64 t.e, .string t.s, .slice a t.kids.length cap] 30)).alloc (.cells #[.int .i64 0, .int .i64 0, .int .i64 0, .string ⟨#[]⟩, .slice none 0 0] 30)).alloc (.cells #[.int .i64 t.k, .int .i64 t.n, .int .i64 t.e, .string t.s, .slice none 0 0] 30)) w.heap.size t.k t.n t.e t.s (.slice a t.kids.length cap) 30 from ((Box.new w _ _ _ _ _ _).alloc _).alloc _)
  have BZ := Lib.hid (show Box (((w.alloc (.cells #[.int .i64 t.k, .int .i64 t.n, .int .i64 t.e, .string t.s, .slice a t.kids.length cap] 30)).alloc (.cells #[.int .i64 0, .int .i64 0, .int .i64 0, .string ⟨#[]⟩, .slice none 0 0] 30)).alloc (.cells #[.int .i64 t.k, .int .i64 t.n, .int .i64 t.e, .string t.s, .slice none 0 0] 30)) (w.heap.size + 1) 0 0 0 ⟨#[]⟩ (.slice none 0 0) 30 by
    have := (Box.new (w.alloc (.cells #[.int .i64 t.k, .int .i64 t.n, .int .i64 t.e, .string t.s, .slice a t.kids.length cap] 30)) 0 0 0 ⟨#[]⟩ (.slice none 0 0) 30).alloc (.cells #[.int .i64 t.k, .int .i64 t.n, .int .i64 t.e, .string t.s, .slice none 0 0] 30)
    rwa [show (w.alloc (.cells #[.int .i64 t.k, .int .i64 t.n, .int .i64 t.e, .string t.s, .slice a t.kids.length cap] 30)).heap.size = w.heap.size + 1 by simp] at this)
  have BO := Lib.hid (show Box (((w.alloc (.cells #[.int .i64 t.k, .int .i64 t.n, .int .i64 t.e, .string t.s, .slice a t.kids.length cap] 30)).alloc (.cells #[.int .i64 0, .int .i64 0, .int .i64 0, .string ⟨#[]⟩, .slice none 0 0] 30)).alloc (.cells #[.int .i64 t.k, .int .i64 t.n, .int .i64 t.e, .string t.s, .slice none 0 0] 30)) (w.heap.size + 1 + 1) t.k t.n t.e t.s (.slice none 0 0) 30 by
    have := Box.new ((w.alloc (.cells #[.int .i64 t.k, .int .i64 t.n, .int .i64 t.e, .string t.s, .slice a t.kids.length cap] 30)).alloc (.cells #[.int .i64 0, .int .i64 0, .int .i64 0, .string ⟨#[]⟩, .slice none 0 0] 30)) t.k t.n t.e t.s (.slice none 0 0) 30
    rwa [show ((w.alloc (.cells #[.int .i64 t.k, .int .i64 t.n, .int .i64 t.e, .string t.s, .slice a t.kids.length cap] 30)).alloc (.cells #[.int .i64 0, .int .i64 0, .int .i64 0, .string ⟨#[]⟩, .slice none 0 0] 30)).heap.size = w.heap.size + 1 + 1 by simp] at this)
  clear ih hel ha hc hm hN hr hwf hlen hts hsz hright hY
  unfold V.agg
  generalize trn (byF by0) t = TR at *
  generalize t.k = k at *
  generalize t.n = n at *
  generalize t.e = e at *
  generalize t.s = s at *
  generalize t.kids = ts at *
  go_enter Tryd.func118, Tryd.ntmps118
  go_wp2_with fail
  have HBW := Lib.hid (show Below w.heap.size w (((w.alloc (.cells #[.int .i64 k, .int .i64 n, .int .i64 e, .string s, .slice a ts.length cap] 30)).alloc (.cells #[.int .i64 0, .int .i64 0, .int .i64 0, .string ⟨#[]⟩, .slice none 0 0] 30)).alloc (.cells #[.int .i64 k, .int .i64 n, .int .i64 e, .string s, .slice none 0 0] 30)) from (by (repeat' (first | with_reducible exact Below.refl _ _ | with_reducible refine below_alloc ?_ _ ?_ | with_reducible refine Below.setCell ?_ ?_ _ | with_reducible refine Below.drew ?_ | with_reducible refine below_drewN ?_ _ | with_reducible refine below_step ?_ (by assumption) ?_ | with_reducible refine below_mark ?_ (by assumption) ?_)); all_goals (first | omega | (simp; done) | (simp; omega))))
  have HZW := Lib.hid (show (((w.alloc (.cells #[.int .i64 k, .int .i64 n, .int .i64 e, .string s, .slice a ts.length cap] 30)).alloc (.cells #[.int .i64 0, .int .i64 0, .int .i64 0, .string ⟨#[]⟩, .slice none 0 0] 30)).alloc (.cells #[.int .i64 k, .int .i64 n, .int .i64 e, .string s, .slice none 0 0] 30)).heap.size = w.heap.size + 1 + 1 + 1 by simp)
  generalize (((w.alloc (.cells #[.int .i64 k, .int .i64 n, .int .i64 e, .string s, .slice a ts.length cap] 30)).alloc (.cells #[.int .i64 0, .int .i64 0, .int .i64 0, .string ⟨#[]⟩, .slice none 0 0] 30)).alloc (.cells #[.int .i64 k, .int .i64 n, .int .i64 e, .string s, .slice none 0 0] 30)) = W3 at *
  go_loopw [15, 7, 8, 9] (fun i _ _ _ wr => ∃ (j : Nat) (G : Nat → Prop) (o : Value) (L1 : List V), j ≤ ts.length ∧ i = .int .i64 j ∧ trns (byF by0) (decide (k = 8)) 0 (ts.take j) = some L1 ∧ Acc W3 wr (w.heap.size + 1 + 1) (w.heap.size + 1 + 1 + 1) k n e s L1 o G) (fun i _ _ _ _ => ts.length - (intOf i).toNat)
  case atStart => exact ⟨0, _, _, [], by omega, rfl, by rw [List.take_zero, trns], Acc.nil BO.out (Below.refl _ _)⟩
  case round =>
    obtain ⟨j, G, o, L1, hj, rfl, htr, hacc⟩ := hrel
    have HACC := Lib.hid hacc; have HTR := Lib.hid htr; clear hacc htr
    have HBL := Lib.hid (HBW.out.trans (HACC.out.2.2.mono (by omega)))
    have hz9 := HACC.out.2.2.size
    rw [HZW.out] at hz9
    have BXw := Lib.hid (show Box wr w.heap.size k n e s (.slice a ts.length cap) 30 from (HACC.out.2.2.block w.heap.size (by omega)).trans BX.out)
    obtain ⟨q0, q1, q2, q3, q4⟩ := BXw.out.cells
    by_cases hlt : j < ts.length
    · have hne : ts ≠ [] := by intro e; rw [e] at hlt; simp at hlt
      obtain ⟨rfl, hbw⟩ := HA.out hne
      have HWR := Lib.hid (HW.out.trans (HBL.out.mono HW.out.size))
      obtain ⟨c0, c1', c2, c3, c4⟩ := (HE.out j hlt).1.keep (HWR.out.block b hbw)
      have VJ := Lib.hid (fun (W : World) (hW : Below wr.heap.size wr W) => V1.out j hlt W (below_step HWR.out hW (by have := HWR.out.size; omega)))
      have YJ := Lib.hid (fun hk (W : World) (hW : Below wr.heap.size wr W) => Y1.out j hlt hk W (below_step HWR.out hW (by have := HWR.out.size; omega)))
      have HTJ0 := Lib.hid (HT.out j hlt)
      rw [HTR.out, Option.bind_some] at HTJ0
      have HLEN := Lib.hid (show L1.length ≤ 1048576 by have := (trns_get _ _ _ _ _ HTR.out).1; rw [this, List.length_take]; omega)
      have HSTK := Lib.hid (show trns (byF by0) (decide (k = 8)) 0 (ts.take (j + 1)) = none → trns (byF by0) (decide (k = 8)) 0 ts = none from trns_none _ _ _ _)
      have HUS := Lib.hid (show ∀ (b : Bool) (t : V) (r : Option V), byF by0 b t r = if b then by0 t else r from fun _ _ _ => rfl)
      have HKYJ := Lib.hid (fun h8 h2 => HKY.out j hlt h8 h2)
      obtain ⟨a3, cap3, hs3⟩ := (HE.out j hlt).2.2.slice
      rw [hs3] at c4 VJ YJ
      clear hs3 V1 Y1 HT HKY HR
      unfold V.agg at VJ YJ
      have hw0n : w.heap.size ≠ wr.heap.size := by omega
      have hw0s : wr.heap.size ≠ w.heap.size := by omega
      have hw0l : w.heap.size < wr.heap.size := by omega
      generalize htu : trn (byF by0) ts[j] = ou at *
      clear htu
      generalize ts[j] = tk at *
      have key : (k = 8 ∧ j % 2 = 0) ∨ ¬ (k = 8 ∧ j % 2 = 0) := Classical.em _
      -- what the call gives, and the truth of the test
      have CALL : ∃ o1 : Option V, Hid (byF by0 (decide (k = 8) && decide (j % 2 = 0)) tk ou = o1) := ⟨_, Lib.hid rfl⟩
      obtain ⟨o1, HO1⟩ := CALL
      rw [HO1.out] at HTJ0
      cases ho1 : o1 with
      | none =>
        have HNO := Lib.hid (HPN.out (HSTK.out (by rw [HTJ0.out, ho1]; rfl)))
        rcases key with hkey | hkey
        · have t1 : (k == 8) = true := by simpa using hkey.1
          have t2 : ((j : Int) % 2 == 0) = true := by have := hkey.2; simp; omega
          have YK := Lib.hid (YJ.out (HKYJ.out hkey.1 hkey.2))
          have hx : by0 tk = none := by have := HO1.out; rw [HUS.out, if_pos (by simp [hkey.1, hkey.2]), ho1] at this; exact this
          rw [hx] at YK
          clear hx hkey HO1 HUS HKYJ YJ VJ HSTK HTJ0 HPS HTR ho1
          go_wp2_with fail
          refine (YK.out _ ((by (repeat' (first | with_reducible exact Below.refl _ _ | with_reducible refine below_alloc ?_ _ ?_ | with_reducible refine Below.setCell ?_ ?_ _ | with_reducible refine Below.drew ?_ | with_reducible refine below_drewN ?_ _ | with_reducible refine below_step ?_ (by assumption) ?_ | with_reducible refine below_mark ?_ (by assumption) ?_)); all_goals (first | omega | (simp; done) | (simp; omega))))).mono ?_
          rintro x w1 ⟨t', sa, sn, sc, rfl, hb1⟩
          unfold V.agg
          have hz1 := hb1.size
          simp at hz1
          have BKW := Lib.hid ((Box.new wr tk.k tk.n tk.e tk.s (.slice a3 tk.kids.length cap3) 30).stay hb1)
          obtain ⟨y0, y1, y2, y3, y4⟩ := BKW.out.cells
          have yf0 := BKW.out.free (i := 0); have yf1 := BKW.out.free (i := 1); have yf2 := BKW.out.free (i := 2); have yf3 := BKW.out.free (i := 3); have yf4 := BKW.out.free (i := 4)
          have hbw1 : Below wr.heap.size wr w1 := (by (repeat' (first | with_reducible exact Below.refl _ _ | with_reducible refine below_alloc ?_ _ ?_ | with_reducible refine Below.setCell ?_ ?_ _ | with_reducible refine Below.drew ?_ | with_reducible refine below_drewN ?_ _ | with_reducible refine below_step ?_ (by assumption) ?_ | with_reducible refine below_mark ?_ (by assumption) ?_)); all_goals (first | omega | (simp; done) | (simp; omega)))
          have BZr := Lib.hid ((show Box wr (w.heap.size + 1) 0 0 0 ⟨#[]⟩ (.slice none 0 0) 30 from (HACC.out.2.2.block (w.heap.size + 1) (by omega)).trans BZ.out).stay hbw1)
          obtain ⟨z0, z1, z2, z3, z4⟩ := BZr.out.cells
          have zf0 := BZr.out.free (i := 0); have zf1 := BZr.out.free (i := 1); have zf2 := BZr.out.free (i := 2); have zf3 := BZr.out.free (i := 3); have zf4 := BZr.out.free (i := 4)
          have hw2n : w.heap.size + 1 ≠ wr.heap.size := by omega
          have hw2s : wr.heap.size ≠ w.heap.size + 1 := by omega
          clear q0 q1 q2 q3 q4 c0 c1' c2 c3 c4 hb1
          go_wp2_with fail
          refine bodyPost_ret (v := .tuple #[.agg #[.int .i64 0, .int .i64 0, .int .i64 0, .string ⟨#[]⟩, .slice none 0 0], .bool false]) (by simp [results, Tryd.results118, go_sem, z0, z1, z2, z3, z4, hw2n, hw2s]) rfl (HNO.out _ _ ⟨.mk 0 0 0 ⟨#[]⟩ [], _, _, _, rfl, ?_⟩)
          have hbl9 := HBL.out
          exact (by (repeat' (first | with_reducible exact Below.refl _ _ | with_reducible refine below_alloc ?_ _ ?_ | with_reducible refine Below.setCell ?_ ?_ _ | with_reducible refine Below.drew ?_ | with_reducible refine below_drewN ?_ _ | with_reducible refine below_step ?_ (by assumption) ?_ | with_reducible refine below_mark ?_ (by assumption) ?_)); all_goals (first | omega | (simp; done) | (simp; omega)))
        · have tt : (k == 8) = false ∨ ((k == 8) = true ∧ (((j : Int) % 2 == 0) = false)) := by
            by_cases h8 : k = 8
            · exact .inr ⟨by simpa using h8, by have : ¬ j % 2 = 0 := fun e => hkey ⟨h8, e⟩
                                                simp; omega⟩
            · exact .inl (by simpa using h8)
          have hx : ou = none := by have := HO1.out; rw [HUS.out, if_neg (by simp only [Bool.and_eq_true, decide_eq_true_eq]; exact hkey), ho1] at this; exact this
          rw [hx] at VJ
          clear hx hkey HO1 HUS HKYJ YJ HSTK HTJ0 HPS HTR ho1
          rcases tt with t1 | ⟨t1, t2⟩
          all_goals go_wp2_with fail
          all_goals refine (VJ.out _ ((by (repeat' (first | with_reducible exact Below.refl _ _ | with_reducible refine below_alloc ?_ _ ?_ | with_reducible refine Below.setCell ?_ ?_ _ | with_reducible refine Below.drew ?_ | with_reducible refine below_drewN ?_ _ | with_reducible refine below_step ?_ (by assumption) ?_ | with_reducible refine below_mark ?_ (by assumption) ?_)); all_goals (first | omega | (simp; done) | (simp; omega))))).mono ?_
          all_goals
            rintro x w1 ⟨t', sa, sn, sc, rfl, hb1⟩
            unfold V.agg
            have hz1 := hb1.size
            simp at hz1
            have BKW := Lib.hid ((Box.new wr tk.k tk.n tk.e tk.s (.slice a3 tk.kids.length cap3) 30).stay hb1)
            obtain ⟨y0, y1, y2, y3, y4⟩ := BKW.out.cells
            have yf0 := BKW.out.free (i := 0); have yf1 := BKW.out.free (i := 1); have yf2 := BKW.out.free (i := 2); have yf3 := BKW.out.free (i := 3); have yf4 := BKW.out.free (i := 4)
            have hbw1 : Below wr.heap.size wr w1 := (by (repeat' (first | with_reducible exact Below.refl _ _ | with_reducible refine below_alloc ?_ _ ?_ | with_reducible refine Below.setCell ?_ ?_ _ | with_reducible refine Below.drew ?_ | with_reducible refine below_drewN ?_ _ | with_reducible refine below_step ?_ (by assumption) ?_ | with_reducible refine below_mark ?_ (by assumption) ?_)); all_goals (first | omega | (simp; done) | (simp; omega)))
            have BZr := Lib.hid ((show Box wr (w.heap.size + 1) 0 0 0 ⟨#[]⟩ (.slice none 0 0) 30 from (HACC.out.2.2.block (w.heap.size + 1) (by omega)).trans BZ.out).stay hbw1)
            obtain ⟨z0, z1, z2, z3, z4⟩ := BZr.out.cells
            have zf0 := BZr.out.free (i := 0); have zf1 := BZr.out.free (i := 1); have zf2 := BZr.out.free (i := 2); have zf3 := BZr.out.free (i := 3); have zf4 := BZr.out.free (i := 4)
            have hw2n : w.heap.size + 1 ≠ wr.heap.size := by omega
            have hw2s : wr.heap.size ≠ w.heap.size + 1 := by omega
            clear q0 q1 q2 q3 q4 c0 c1' c2 c3 c4 hb1
            go_wp2_with fail
            refine bodyPost_ret (v := .tuple #[.agg #[.int .i64 0, .int .i64 0, .int .i64 0, .string ⟨#[]⟩, .slice none 0 0], .bool false]) (by simp [results, Tryd.results118, go_sem, z0, z1, z2, z3, z4, hw2n, hw2s]) rfl (HNO.out _ _ ⟨.mk 0 0 0 ⟨#[]⟩ [], _, _, _, rfl, ?_⟩)
            have hbl9 := HBL.out
            exact (by (repeat' (first | with_reducible exact Below.refl _ _ | with_reducible refine below_alloc ?_ _ ?_ | with_reducible refine Below.setCell ?_ ?_ _ | with_reducible refine Below.drew ?_ | with_reducible refine below_drewN ?_ _ | with_reducible refine below_step ?_ (by assumption) ?_ | with_reducible refine below_mark ?_ (by assumption) ?_)); all_goals (first | omega | (simp; done) | (simp; omega)))
      | some u =>
        have HTJ : Hid (trns (byF by0) (decide (k = 8)) 0 (ts.take (j + 1)) = some (L1 ++ [u])) := Lib.hid (by rw [HTJ0.out, ho1]; rfl)
        rcases key with hkey | hkey
        · have t1 : (k == 8) = true := by simpa using hkey.1
          have t2 : ((j : Int) % 2 == 0) = true := by have := hkey.2; simp; omega
          have YK := Lib.hid (YJ.out (HKYJ.out hkey.1 hkey.2))
          have hx : by0 tk = some u := by have := HO1.out; rw [HUS.out, if_pos (by simp [hkey.1, hkey.2]), ho1] at this; exact this
          rw [hx] at YK
          clear hx hkey HO1 HUS HKYJ YJ VJ HSTK HTJ0 HPS HPN HTR ho1
          go_wp2_with fail
          refine (YK.out _ ((by (repeat' (first | with_reducible exact Below.refl _ _ | with_reducible refine below_alloc ?_ _ ?_ | with_reducible refine Below.setCell ?_ ?_ _ | with_reducible refine Below.drew ?_ | with_reducible refine below_drewN ?_ _ | with_reducible refine below_step ?_ (by assumption) ?_ | with_reducible refine below_mark ?_ (by assumption) ?_)); all_goals (first | omega | (simp; done) | (simp; omega))))).mono ?_
          rintro x w1 ⟨s2, rfl, twf, ho, hb1⟩
          obtain ⟨sa, sn, sc, rfl⟩ : ∃ sa sn sc, s2 = .slice sa sn sc := by obtain ⟨p, q, e⟩ := ho.slice; exact ⟨p, _, q, e⟩
          unfold V.agg
          have hz1 := hb1.size
          simp at hz1
          have HO := Lib.hid ((ho.bound).mono (F' := fun x => wr.heap.size ≤ x ∧ x < w1.heap.size) (fun x hx => ⟨by have := hx.1; simp at this; omega, hx.2⟩)); 
          have HO2 := Lib.hid (ho.bound)
          clear ho
          have HWF := Lib.hid twf; clear twf
          have BKW := Lib.hid ((Box.new wr tk.k tk.n tk.e tk.s (.slice a3 tk.kids.length cap3) 30).stay hb1)
          obtain ⟨y0, y1, y2, y3, y4⟩ := BKW.out.cells
          have yf0 := BKW.out.free (i := 0); have yf1 := BKW.out.free (i := 1); have yf2 := BKW.out.free (i := 2); have yf3 := BKW.out.free (i := 3); have yf4 := BKW.out.free (i := 4)
          have hbw1 : Below wr.heap.size wr w1 := (by (repeat' (first | with_reducible exact Below.refl _ _ | with_reducible refine below_alloc ?_ _ ?_ | with_reducible refine Below.setCell ?_ ?_ _ | with_reducible refine Below.drew ?_ | with_reducible refine below_drewN ?_ _ | with_reducible refine below_step ?_ (by assumption) ?_ | with_reducible refine below_mark ?_ (by assumption) ?_)); all_goals (first | omega | (simp; done) | (simp; omega)))
          obtain ⟨p0, p1, p2, p3, p4⟩ := (BXw.out.stay hbw1).cells
          obtain ⟨g0, g1, g2, g3, g4⟩ := (HACC.out.1.stay hbw1).cells
          have hw1m : w.heap.size + 1 + 1 ≠ wr.heap.size := by omega
          have hw1t : wr.heap.size ≠ w.heap.size + 1 + 1 := by omega
          have hw1k : w.heap.size + 1 + 1 < wr.heap.size := by omega
          clear q0 q1 q2 q3 q4 c0 c1' c2 c3 c4 hb1
          go_wp2_with (at_builtin; refine app_own rfl _ _ rfl (w.heap.size + 1 + 1 + 1) G (fun x => (wr.alloc (.cells #[.int .i64 tk.k, .int .i64 tk.n, .int .i64 tk.e, .string tk.s, .slice a3 tk.kids.length cap3] 30)).heap.size ≤ x ∧ x < w1.heap.size) _ L1 rfl ((HACC.out.stay ((by (repeat' (first | with_reducible exact Below.refl _ _ | with_reducible refine below_alloc ?_ _ ?_ | with_reducible refine Below.setCell ?_ ?_ _ | with_reducible refine Below.drew ?_ | with_reducible refine below_drewN ?_ _ | with_reducible refine below_step ?_ (by assumption) ?_ | with_reducible refine below_mark ?_ (by assumption) ?_)); all_goals (first | omega | (simp; done) | (simp; omega))))).2.1) u (.slice sa sn sc) _ rfl (by first | exact heap_alloc_here _ (by simp) | exact heap_alloc_here _ rfl) HWF.out (OwnS.keep HO2.out (fun x hx hxs => (heap_alloc_old _ _ (by simp; omega)).trans (by (repeat rw [heap_setCell_other _ _ _ _ (fun e => by have h1 := hx.1; have e2 : x = wr.heap.size := e; simp at h1; omega)])))) (fun x hx => by have h1 := hx.1; have h2 := hx.2; simp at h1; exact ⟨by omega, by simp; omega, fun hG => by have := (HACC.out.2.1.inG x hG).2; omega, fun e => by have := (HACC.out.2.1.lt x e).2; omega⟩) (by have := HLEN.out; omega) (by simp; omega) ?_; intro v2 w2 hrow2 hg2 hfr2; obtain ⟨va, vn, vc, rfl⟩ := hrow2.slice3; have HG2 := Lib.hid hg2; have HR2 := Lib.hid hrow2; have HB2 := Lib.hid (show Box w2 (w.heap.size + 1 + 1) k n e s o 30 from (hg2.block (w.heap.size + 1 + 1) (by simp; omega) (fun e => by have := (HACC.out.2.1.lt _ e.symm).1; omega)).trans (HACC.out.stay ((by (repeat' (first | with_reducible exact Below.refl _ _ | with_reducible refine below_alloc ?_ _ ?_ | with_reducible refine Below.setCell ?_ ?_ _ | with_reducible refine Below.drew ?_ | with_reducible refine below_drewN ?_ _ | with_reducible refine below_step ?_ (by assumption) ?_ | with_reducible refine below_mark ?_ (by assumption) ?_)); all_goals (first | omega | (simp; done) | (simp; omega))))).1); have hfz := HB2.out.free (i := 4); have hcc := HB2.out.cells.2.2.2.2; clear hrow2 hg2 hfr2)
          go_roundw
          case rel => exact ⟨j + 1, _, _, _, by omega, by go_num, HTJ.out, HACC.out.put (by omega) ((by (repeat' (first | with_reducible exact Below.refl _ _ | with_reducible refine below_alloc ?_ _ ?_ | with_reducible refine Below.setCell ?_ ?_ _ | with_reducible refine Below.drew ?_ | with_reducible refine below_drewN ?_ _ | with_reducible refine below_step ?_ (by assumption) ?_ | with_reducible refine below_mark ?_ (by assumption) ?_)); all_goals (first | omega | (simp; done) | (simp; omega)))) HG2.out HR2.out⟩
          case measure => simp [intOf]; omega
        · have tt : (k == 8) = false ∨ ((k == 8) = true ∧ (((j : Int) % 2 == 0) = false)) := by
            by_cases h8 : k = 8
            · exact .inr ⟨by simpa using h8, by have : ¬ j % 2 = 0 := fun e => hkey ⟨h8, e⟩
                                                simp; omega⟩
            · exact .inl (by simpa using h8)
          have hx : ou = some u := by have := HO1.out; rw [HUS.out, if_neg (by simp only [Bool.and_eq_true, decide_eq_true_eq]; exact hkey), ho1] at this; exact this
          rw [hx] at VJ
          clear hx hkey HO1 HUS HKYJ YJ HSTK HTJ0 HPS HPN HTR ho1
          rcases tt with t1 | ⟨t1, t2⟩
          all_goals go_wp2_with fail
          all_goals refine (VJ.out _ ((by (repeat' (first | with_reducible exact Below.refl _ _ | with_reducible refine below_alloc ?_ _ ?_ | with_reducible refine Below.setCell ?_ ?_ _ | with_reducible refine Below.drew ?_ | with_reducible refine below_drewN ?_ _ | with_reducible refine below_step ?_ (by assumption) ?_ | with_reducible refine below_mark ?_ (by assumption) ?_)); all_goals (first | omega | (simp; done) | (simp; omega))))).mono ?_
          all_goals
            rintro x w1 ⟨s2, rfl, twf, ho, hb1⟩
            obtain ⟨sa, sn, sc, rfl⟩ : ∃ sa sn sc, s2 = .slice sa sn sc := by obtain ⟨p, q, e⟩ := ho.slice; exact ⟨p, _, q, e⟩
            unfold V.agg
            have hz1 := hb1.size
            simp at hz1
            have HO := Lib.hid ((ho.bound).mono (F' := fun x => wr.heap.size ≤ x ∧ x < w1.heap.size) (fun x hx => ⟨by have := hx.1; simp at this; omega, hx.2⟩)); 
            have HO2 := Lib.hid (ho.bound)
            clear ho
            have HWF := Lib.hid twf; clear twf
            have BKW := Lib.hid ((Box.new wr tk.k tk.n tk.e tk.s (.slice a3 tk.kids.length cap3) 30).stay hb1)
            obtain ⟨y0, y1, y2, y3, y4⟩ := BKW.out.cells
            have yf0 := BKW.out.free (i := 0); have yf1 := BKW.out.free (i := 1); have yf2 := BKW.out.free (i := 2); have yf3 := BKW.out.free (i := 3); have yf4 := BKW.out.free (i := 4)
            have hbw1 : Below wr.heap.size wr w1 := (by (repeat' (first | with_reducible exact Below.refl _ _ | with_reducible refine below_alloc ?_ _ ?_ | with_reducible refine Below.setCell ?_ ?_ _ | with_reducible refine Below.drew ?_ | with_reducible refine below_drewN ?_ _ | with_reducible refine below_step ?_ (by assumption) ?_ | with_reducible refine below_mark ?_ (by assumption) ?_)); all_goals (first | omega | (simp; done) | (simp; omega)))
            obtain ⟨p0, p1, p2, p3, p4⟩ := (BXw.out.stay hbw1).cells
            obtain ⟨g0, g1, g2, g3, g4⟩ := (HACC.out.1.stay hbw1).cells
            have hw1m : w.heap.size + 1 + 1 ≠ wr.heap.size := by omega
            have hw1t : wr.heap.size ≠ w.heap.size + 1 + 1 := by omega
            have hw1k : w.heap.size + 1 + 1 < wr.heap.size := by omega
            clear q0 q1 q2 q3 q4 c0 c1' c2 c3 c4 hb1
            go_wp2_with (at_builtin; refine app_own rfl _ _ rfl (w.heap.size + 1 + 1 + 1) G (fun x => (wr.alloc (.cells #[.int .i64 tk.k, .int .i64 tk.n, .int .i64 tk.e, .string tk.s, .slice a3 tk.kids.length cap3] 30)).heap.size ≤ x ∧ x < w1.heap.size) _ L1 rfl ((HACC.out.stay ((by (repeat' (first | with_reducible exact Below.refl _ _ | with_reducible refine below_alloc ?_ _ ?_ | with_reducible refine Below.setCell ?_ ?_ _ | with_reducible refine Below.drew ?_ | with_reducible refine below_drewN ?_ _ | with_reducible refine below_step ?_ (by assumption) ?_ | with_reducible refine below_mark ?_ (by assumption) ?_)); all_goals (first | omega | (simp; done) | (simp; omega))))).2.1) u (.slice sa sn sc) _ rfl (by first | exact heap_alloc_here _ (by simp) | exact heap_alloc_here _ rfl) HWF.out (OwnS.keep HO2.out (fun x hx hxs => (heap_alloc_old _ _ (by simp; omega)).trans (by (repeat rw [heap_setCell_other _ _ _ _ (fun e => by have h1 := hx.1; have e2 : x = wr.heap.size := e; simp at h1; omega)])))) (fun x hx => by have h1 := hx.1; have h2 := hx.2; simp at h1; exact ⟨by omega, by simp; omega, fun hG => by have := (HACC.out.2.1.inG x hG).2; omega, fun e => by have := (HACC.out.2.1.lt x e).2; omega⟩) (by have := HLEN.out; omega) (by simp; omega) ?_; intro v2 w2 hrow2 hg2 hfr2; obtain ⟨va, vn, vc, rfl⟩ := hrow2.slice3; have HG2 := Lib.hid hg2; have HR2 := Lib.hid hrow2; have HB2 := Lib.hid (show Box w2 (w.heap.size + 1 + 1) k n e s o 30 from (hg2.block (w.heap.size + 1 + 1) (by simp; omega) (fun e => by have := (HACC.out.2.1.lt _ e.symm).1; omega)).trans (HACC.out.stay ((by (repeat' (first | with_reducible exact Below.refl _ _ | with_reducible refine below_alloc ?_ _ ?_ | with_reducible refine Below.setCell ?_ ?_ _ | with_reducible refine Below.drew ?_ | with_reducible refine below_drewN ?_ _ | with_reducible refine below_step ?_ (by assumption) ?_ | with_reducible refine below_mark ?_ (by assumption) ?_)); all_goals (first | omega | (simp; done) | (simp; omega))))).1); have hfz := HB2.out.free (i := 4); have hcc := HB2.out.cells.2.2.2.2; clear hrow2 hg2 hfr2)
            go_roundw
            case rel => exact ⟨j + 1, _, _, _, by omega, by go_num, HTJ.out, HACC.out.put (by omega) ((by (repeat' (first | with_reducible exact Below.refl _ _ | with_reducible refine below_alloc ?_ _ ?_ | with_reducible refine Below.setCell ?_ ?_ _ | with_reducible refine Below.drew ?_ | with_reducible refine below_drewN ?_ _ | with_reducible refine below_step ?_ (by assumption) ?_ | with_reducible refine below_mark ?_ (by assumption) ?_)); all_goals (first | omega | (simp; done) | (simp; omega)))) HG2.out HR2.out⟩
            case measure => simp [intOf]; omega
    · have H := Lib.hid (show ts.take j = ts from List.take_of_length_le (by omega))
      have HTE := Lib.hid (show trns (byF by0) (decide (k = 8)) 0 ts = some L1 by have := HTR.out; rwa [H.out] at this)
      obtain ⟨oa, on, oc, rfl⟩ := HACC.out.2.1.slice3
      obtain ⟨g0, g1, g2, g3, g4⟩ := HACC.out.1.cells
      have BZr := Lib.hid (show Box wr (w.heap.size + 1) 0 0 0 ⟨#[]⟩ (.slice none 0 0) 30 from (HACC.out.2.2.block (w.heap.size + 1) (by omega)).trans BZ.out)
      obtain ⟨z0, z1, z2, z3, z4⟩ := BZr.out.cells
      have zf0 := BZr.out.free (i := 0); have zf1 := BZr.out.free (i := 1); have zf2 := BZr.out.free (i := 2); have zf3 := BZr.out.free (i := 3); have zf4 := BZr.out.free (i := 4)
      have HO := Lib.hid (show OwnS wr (fun x => w.heap.size + 1 + 1 + 1 ≤ x) (.slice oa on oc) L1 from HACC.out.own)
      have HPY := Lib.hid (HPS.out L1 HTE.out)
      clear H HE HA V1 HT BX BO BZ BZr HACC HPN HTR HTE HPS
      go_wp2_with fail
      refine bodyPost_ret (v := .tuple #[.agg #[.int .i64 k, .int .i64 n, .int .i64 e, .string s, .slice oa on oc], .bool true]) (by simp [results, Tryd.results118, go_sem, z0, z1, z2, z3, z4]) rfl (HPY.out _ _ ⟨_, rfl, ?_, ?_⟩)
      · refine OwnS.mono (F := fun x => w.heap.size + 1 + 1 + 1 ≤ x) ?_ (fun x hx => by omega)
        repeat refine OwnS.set ?_ _ _ (by first | omega | (simp; done) | (simp; omega))
        exact HO.out
      · repeat' (refine Below.setCell ?_ ?_ _)
        all_goals (first | exact HBL.out | (simp; done) | (simp; omega))
end Go.Proofs.YtllngpnhhpnjoaaDoor
