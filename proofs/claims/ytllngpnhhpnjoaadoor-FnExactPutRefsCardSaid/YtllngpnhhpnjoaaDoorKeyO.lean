/- The program's turnKeys: by any function value that turns keys. The program's MapKeys and UnmapKeys, and the reference's. MapKeys and UnmapKeys, whole: the program's and the reference's. UnmapKeys of the program; MapKeys and UnmapKeys of the reference. -/
import Derived.Test.YtllngpnhhpnjoaaDoorKeyU
import Derived.Test.YtllngpnhhpnjoaaDoorIsValue
import Derived.Test.YtllngpnhhpnjoaaDoorRight
import Derived.Test.YtllngpnhhpnjoaaDoorRefM
namespace Go.Proofs.YtllngpnhhpnjoaaDoor
set_option linter.unusedVariables false
set_option maxRecDepth 100000
open Go.RowKit
def byF (by0 : V → Option V) : Bool → V → Option V → Option V := fun b t r => if b then by0 t else r
set_option maxHeartbeats 2000000 in
theorem turnKeys_any (w0 : World) (F : FuncId) (c1 : Value) (hF : ∀ (args : Array Value) (w : World), (callFunc F args).run Tryd.prog w = .ok (.enter F args) w) (by0 : V → Option V)
    (hY : ∀ (t : V) (sl : Value) (w : World), t.wf → t.kids = [] → isKeyB t = true → RepS w0 sl t.kids → Below w0.heap.size w0 w → Calls Tryd.prog F #[t.agg sl, c1] w (ByRet (by0 t) w)) :
    ∀ (N : Nat) (v : Value) (t : V) (d : Int), t.sz < N → rightB t d = true → Rep w0 v t → t.sz ≤ 1048576 → ∀ (w : World), Below w0.heap.size w0 w →
    Calls Tryd.prog 118 #[v, .func (.func F) #[] #[c1]] w (ByRet (trn (byF by0) t) w) := by
  intro N
  induction N with
  | zero => intro v t d h; omega
  | succ N ih =>
  intro v t d hN hright h hsz w hw
  obtain ⟨sl, rfl, hwf, hr⟩ := h
  have hts := V.sz_eq t
  have hlen := szs_length t.kids
  have HPS := Lib.hid (show ∀ us, trns (byF by0) (decide (t.k = 8)) 0 t.kids = some us → ∀ e w', (∃ sl, e = .returned (.tuple #[.agg #[.int .i64 t.k, .int .i64 t.n, .int .i64 t.e, .string t.s, sl], .bool true]) ∧ OwnS w' (fun x => w.heap.size ≤ x) sl us ∧ Below w.heap.size w w') → ByRet (trn (byF by0) t) w e w' from
    fun us hu e w' ⟨sl, h1, h2, h3⟩ => by rw [trn_eq, hu]; exact ⟨sl, h1, hwf, h2, h3⟩)
  have HPN := Lib.hid (show trns (byF by0) (decide (t.k = 8)) 0 t.kids = none → ∀ e w', (∃ t' a n c, e = .returned (.tuple #[V.agg t' (.slice a n c), .bool false]) ∧ Below w.heap.size w w') → ByRet (trn (byF by0) t) w e w' from
    fun hu e w' h => by rw [trn_eq, hu]; exact h)
  obtain ⟨a, b, off, cap, rfl, ha, hc, hm, sls, hel⟩ := hr.opened
  have HA := Lib.hid ha; have HE := Lib.hid hel; have HW := Lib.hid hw
  have HR := Lib.hid (fun (j : Nat) (hj : j < t.kids.length) => rightsB_at (right_kids hright) j hj)
  have HKY := Lib.hid (fun (j : Nat) (hj : j < t.kids.length) (h8 : t.k = 8) (h2 : j % 2 = 0) => key_at hright h8 j hj h2)
  have V1 := Lib.hid (fun (j : Nat) (hj : j < t.kids.length) (W : World) (hW : Below w0.heap.size w0 W) => ih (t.kids[j].agg (sls j)) t.kids[j] (d - 1) (by have h1 := szs_mem (List.getElem_mem hj); omega) (HR.out j hj) ⟨sls j, rfl, (HE.out j hj).2.1, (HE.out j hj).2.2⟩ (by have h1 := szs_mem (List.getElem_mem hj); omega) W hW)
  have HT := Lib.hid (fun (j : Nat) (hj : j < t.kids.length) => trns_take (byF by0) (decide (t.k = 8)) t.kids j hj)
  have hl : t.kids.length ≤ 1048576 := by omega
  have Y1 := Lib.hid (fun (j : Nat) (hj : j < t.kids.length) (hk : isKeyB t.kids[j] = true) (W : World) (hW : Below w0.heap.size w0 W) => hY t.kids[j] (sls j) W (HE.out j hj).2.1 (key_leaf (HR.out j hj) hk) hk (HE.out j hj).2.2 hW)
  have BX := Lib.hid (show Box (((w.alloc (.cells #[.int .i64 t.k, .int .i64 t.n, .int .i64 t.e, .string t.s, .slice a t.kids.length cap] 30)).alloc (.cells #[.int .i64 0, .int .i64 0, .int .i64 0, .string ⟨#[]⟩, .slice none 0 0] 30)).alloc (.cells #[.int .i64 t.k, .int .i64 t.n, .int .i64 t.e, .string t.s, .slice none 0 0] 30)) w.heap.size t.k t.n t.e t.s (.slice a t.kids.length cap) 30 from ((Box.new w _ _ _ _ _ _).alloc _).alloc _)
  have BZ := Lib.hid (show Box (((w.alloc (.cells #[.int .i64 t.k, .int .i64 t.n, .int .i64 t.e, .string t.s, .slice a t.kids.length cap] 30)).alloc (.cells #[.int .i64 0, .int .i64 0, .int .i64 0, .string ⟨#[]⟩, .slice none 0 0] 30)).alloc (.cells #[.int .i64 t.k, .int .i64 t.n, .int .i64 t.e, .string t.s, .slice none 0 0] 30)) (w.heap.size + 1) 0 0 0 ⟨#[]⟩ (.slice none 0 0) 30 by
    have := (Box.new (w.alloc (.cells #[.int .i64 t.k, .int .i64 t.n, .int .i64 t.e, .string t.s, .slice a t.kids.length cap] 30)) 0 0 0 ⟨#[]⟩ (.slice none 0 0) 30).alloc (.cells #[.int .i64 t.k, .int .i64 t.n, .int .i64 t.e, .string t.s, .slice none 0 0] 30)
    rwa [show (w.alloc (.cells #[.int .i64 t.k, .int .i64 t.n, .int .i64 t.e, .string t.s, .slice a t.kids.length cap] 30)).heap.size = w.heap.size + 1 by simp] at this)
  have BO := Lib.hid (show Box (((w.alloc (.cells #[.int .i64 t.k, .int .i64 t.n, .int .i64 t.e, .string t.s, .slice a t.kids.length cap] 30)).alloc (.cells #[.int .i64 0, .int .i64 0, .int .i64 0, .string ⟨#[]⟩, .slice none 0 0] 30)).alloc (.cells #[.int .i64 t.k, .int .i64 t.n, .int .i64 t.e, .string t.s, .slice none 0 0] 30)) (w.heap.size + 1 + 1) t.k t.n t.e t.s (.slice none 0 0) 30 by
    have := Box.new ((w.alloc (.cells #[.int .i64 t.k, .int .i64 t.n, .int .i64 t.e, .string t.s, .slice a t.kids.length cap] 30)).alloc (.cells #[.int .i64 0, .int .i64 0, .int .i64 0, .string ⟨#[]⟩, .slice none 0 0] 30)) t.k t.n t.e t.s (.slice none 0 0) 30
    rwa [show ((w.alloc (.cells #[.int .i64 t.k, .int .i64 t.n, .int .i64 t.e, .string t.s, .slice a t.kids.length cap] 30)).alloc (.cells #[.int .i64 0, .int .i64 0, .int .i64 0, .string ⟨#[]⟩, .slice none 0 0] 30)).heap.size = w.heap.size + 1 + 1 by simp] at this)
  clear ih hel ha hc hm hN hr hwf hlen hts hsz hright hY
  unfold V.agg
  generalize trn (byF by0) t = TR at *
  generalize t.k = k at *
  generalize t.n = n at *
  generalize t.e = e at *
  generalize t.s = s at *
  generalize t.kids = ts at *
  go_enter Tryd.func118, Tryd.ntmps118
  go_wp2_with fail
  have HBW := Lib.hid (show Below w.heap.size w (((w.alloc (.cells #[.int .i64 k, .int .i64 n, .int .i64 e, .string s, .slice a ts.length cap] 30)).alloc (.cells #[.int .i64 0, .int .i64 0, .int .i64 0, .string ⟨#[]⟩, .slice none 0 0] 30)).alloc (.cells #[.int .i64 k, .int .i64 n, .int .i64 e, .string s, .slice none 0 0] 30)) from (by (repeat' (first | with_reducible exact Below.refl _ _ | with_reducible refine below_alloc ?_ _ ?_ | with_reducible refine Below.setCell ?_ ?_ _ | with_reducible refine Below.drew ?_ | with_reducible refine below_drewN ?_ _ | with_reducible refine below_step ?_ (by assumption) ?_ | with_reducible refine below_mark ?_ (by assumption) ?_)); all_goals (first | omega | (simp; done) | (simp; omega))))
  have HZW := Lib.hid (show (((w.alloc (.cells #[.int .i64 k, .int .i64 n, .int .i64 e, .string s, .slice a ts.length cap] 30)).alloc (.cells #[.int .i64 0, .int .i64 0, .int .i64 0, .string ⟨#[]⟩, .slice none 0 0] 30)).alloc (.cells #[.int .i64 k, .int .i64 n, .int .i64 e, .string s, .slice none 0 0] 30)).heap.size = w.heap.size + 1 + 1 + 1 by simp)
  generalize (((w.alloc (.cells #[.int .i64 k, .int .i64 n, .int .i64 e, .string s, .slice a ts.length cap] 30)).alloc (.cells #[.int .i64 0, .int .i64 0, .int .i64 0, .string ⟨#[]⟩, .slice none 0 0] 30)).alloc (.cells #[.int .i64 k, .int .i64 n, .int .i64 e, .string s, .slice none 0 0] 30)) = W3 at *
  go_loopw [15, 7, 8, 9] (fun i _ _ _ wr => ∃ (j : Nat) (G : Nat → Prop) (o : Value) (L1 : List V), j ≤ ts.length ∧ i = .int .i64 j ∧ trns (byF by0) (decide (k = 8)) 0 (ts.take j) = some L1 ∧ Acc W3 wr (w.heap.size + 1 + 1) (w.heap.size + 1 + 1 + 1) k n e s L1 o G) (fun i _ _ _ _ => ts.length - (intOf i).toNat)
  case atStart => exact ⟨0, _, _, [], by omega, rfl, by rw [List.take_zero, trns], Acc.nil BO.out (Below.refl _ _)⟩
  case round =>
    obtain ⟨j, G, o, L1, hj, rfl, htr, hacc⟩ := hrel
    have HACC := Lib.hid hacc; have HTR := Lib.hid htr; clear hacc htr
    have HBL := Lib.hid (HBW.out.trans (HACC.out.2.2.mono (by omega)))
    have hz9 := HACC.out.2.2.size
    rw [HZW.out] at hz9
    have BXw := Lib.hid (show Box wr w.heap.size k n e s (.slice a ts.length cap) 30 from (HACC.out.2.2.block w.heap.size (by omega)).trans BX.out)
    obtain ⟨q0, q1, q2, q3, q4⟩ := BXw.out.cells
    by_cases hlt : j < ts.length
    · have hne : ts ≠ [] := by intro e; rw [e] at hlt; simp at hlt
      obtain ⟨rfl, hbw⟩ := HA.out hne
      have HWR := Lib.hid (HW.out.trans (HBL.out.mono HW.out.size))
      obtain ⟨c0, c1', c2, c3, c4⟩ := (HE.out j hlt).1.keep (HWR.out.block b hbw)
      have VJ := Lib.hid (fun (W : World) (hW : Below wr.heap.size wr W) => V1.out j hlt W (below_step HWR.out hW (by have := HWR.out.size; omega)))
      have YJ := Lib.hid (fun hk (W : World) (hW : Below wr.heap.size wr W) => Y1.out j hlt hk W (below_step HWR.out hW (by have := HWR.out.size; omega)))
      have HTJ0 := Lib.hid (HT.out j hlt)
      rw [HTR.out, Option.bind_some] at HTJ0
      have HLEN := Lib.hid (show L1.length ≤ 1048576 by have := (trns_get _ _ _ _ _ HTR.out).1; rw [this, List.length_take]; omega)
      have HSTK := Lib.hid (show trns (byF by0) (decide (k = 8)) 0 (ts.take (j + 1)) = none → trns (byF by0) (decide (k = 8)) 0 ts = none from trns_none _ _ _ _)
      have HUS := Lib.hid (show ∀ (b : Bool) (t : V) (r : Option V), byF by0 b t r = if b then by0 t else r from fun _ _ _ => rfl)
      have HKYJ := Lib.hid (fun h8 h2 => HKY.out j hlt h8 h2)
      obtain ⟨a3, cap3, hs3⟩ := (HE.out j hlt).2.2.slice
      rw [hs3] at c4 VJ YJ
      clear hs3 V1 Y1 HT HKY HR
      unfold V.agg at VJ YJ
      have hw0n : w.heap.size ≠ wr.heap.size := by omega
      have hw0s : wr.heap.size ≠ w.heap.size := by omega
      have hw0l : w.heap.size < wr.heap.size := by omega
      generalize htu : trn (byF by0) ts[j] = ou at *
      clear htu
      generalize ts[j] = tk at *
      have key : (k = 8 ∧ j % 2 = 0) ∨ ¬ (k = 8 ∧ j % 2 = 0) := Classical.em _
      -- what the call gives, and the truth of the test
      have CALL : ∃ o1 : Option V, Hid (byF by0 (decide (k = 8) && decide (j % 2 = 0)) tk ou = o1) := ⟨_, Lib.hid rfl⟩
      obtain ⟨o1, HO1⟩ := CALL
      rw [HO1.out] at HTJ0
      cases ho1 : o1 with
      | none =>
        have HNO := Lib.hid (HPN.out (HSTK.out (by rw [HTJ0.out, ho1]; rfl)))
        rcases key with hkey | hkey
        · have t1 : (k == 8) = true := by simpa using hkey.1
          have t2 : ((j : Int) % 2 == 0) = true := by have := hkey.2; simp; omega
          have YK := Lib.hid (YJ.out (HKYJ.out hkey.1 hkey.2))
          have hx : by0 tk = none := by have := HO1.out; rw [HUS.out, if_pos (by simp [hkey.1, hkey.2]), ho1] at this; exact this
          rw [hx] at YK
          clear hx hkey HO1 HUS HKYJ YJ VJ HSTK HTJ0 HPS HTR ho1
          go_wp2_with fail
          refine (YK.out _ ((by (repeat' (first | with_reducible exact Below.refl _ _ | with_reducible refine below_alloc ?_ _ ?_ | with_reducible refine Below.setCell ?_ ?_ _ | with_reducible refine Below.drew ?_ | with_reducible refine below_drewN ?_ _ | with_reducible refine below_step ?_ (by assumption) ?_ | with_reducible refine below_mark ?_ (by assumption) ?_)); all_goals (first | omega | (simp; done) | (simp; omega))))).mono ?_
          rintro x w1 ⟨t', sa, sn, sc, rfl, hb1⟩
          unfold V.agg
          have hz1 := hb1.size
          simp at hz1
          have BKW := Lib.hid ((Box.new wr tk.k tk.n tk.e tk.s (.slice a3 tk.kids.length cap3) 30).stay hb1)
          obtain ⟨y0, y1, y2, y3, y4⟩ := BKW.out.cells
          have yf0 := BKW.out.free (i := 0); have yf1 := BKW.out.free (i := 1); have yf2 := BKW.out.free (i := 2); have yf3 := BKW.out.free (i := 3); have yf4 := BKW.out.free (i := 4)
          have hbw1 : Below wr.heap.size wr w1 := (by (repeat' (first | with_reducible exact Below.refl _ _ | with_reducible refine below_alloc ?_ _ ?_ | with_reducible refine Below.setCell ?_ ?_ _ | with_reducible refine Below.drew ?_ | with_reducible refine below_drewN ?_ _ | with_reducible refine below_step ?_ (by assumption) ?_ | with_reducible refine below_mark ?_ (by assumption) ?_)); all_goals (first | omega | (simp; done) | (simp; omega)))
          have BZr := Lib.hid ((show Box wr (w.heap.size + 1) 0 0 0 ⟨#[]⟩ (.slice none 0 0) 30 from (HACC.out.2.2.block (w.heap.size + 1) (by omega)).trans BZ.out).stay hbw1)
          obtain ⟨z0, z1, z2, z3, z4⟩ := BZr.out.cells
          have zf0 := BZr.out.free (i := 0); have zf1 := BZr.out.free (i := 1); have zf2 := BZr.out.free (i := 2); have zf3 := BZr.out.free (i := 3); have zf4 := BZr.out.free (i := 4)
          have hw2n : w.heap.size + 1 ≠ wr.heap.size := by omega
          have hw2s : wr.heap.size ≠ w.heap.size + 1 := by omega
          clear q0 q1 q2 q3 q4 c0 c1' c2 c3 c4 hb1
          go_wp2_with fail
          refine bodyPost_ret (v := .tuple #[.agg #[.int .i64 0, .int .i64 0, .int .i64 0, .string ⟨#[]⟩, .slice none 0 0], .bool false]) (by simp [results, Tryd.results118, go_sem, z0, z1, z2, z3, z4, hw2n, hw2s]) rfl (HNO.out _ _ ⟨.mk 0 0 0 ⟨#[]⟩ [], _, _, _, rfl, ?_⟩)
          have hbl9 := HBL.out
          exact (by (repeat' (first | with_reducible exact Below.refl _ _ | with_reducible refine below_alloc ?_ _ ?_ | with_reducible refine Below.setCell ?_ ?_ _ | with_reducible refine Below.drew ?_ | with_reducible refine below_drewN ?_ _ | with_reducible refine below_step ?_ (by assumption) ?_ | with_reducible refine below_mark ?_ (by assumption) ?_)); all_goals (first | omega | (simp; done) | (simp; omega)))
        · have tt : (k == 8) = false ∨ ((k == 8) = true ∧ (((j : Int) % 2 == 0) = false)) := by
            by_cases h8 : k = 8
            · exact .inr ⟨by simpa using h8, by have : ¬ j % 2 = 0 := fun e => hkey ⟨h8, e⟩
                                                simp; omega⟩
            · exact .inl (by simpa using h8)
          have hx : ou = none := by have := HO1.out; rw [HUS.out, if_neg (by simp only [Bool.and_eq_true, decide_eq_true_eq]; exact hkey), ho1] at this; exact this
          rw [hx] at VJ
          clear hx hkey HO1 HUS HKYJ YJ HSTK HTJ0 HPS HTR ho1
          rcases tt with t1 | ⟨t1, t2⟩
          all_goals go_wp2_with fail
          all_goals refine (VJ.out _ ((by (repeat' (first | with_reducible exact Below.refl _ _ | with_reducible refine below_alloc ?_ _ ?_ | with_reducible refine Below.setCell ?_ ?_ _ | with_reducible refine Below.drew ?_ | with_reducible refine below_drewN ?_ _ | with_reducible refine below_step ?_ (by assumption) ?_ | with_reducible refine below_mark ?_ (by assumption) ?_)); all_goals (first | omega | (simp; done) | (simp; omega))))).mono ?_
          all_goals
            rintro x w1 ⟨t', sa, sn, sc, rfl, hb1⟩
            unfold V.agg
            have hz1 := hb1.size
            simp at hz1
            have BKW := Lib.hid ((Box.new wr tk.k tk.n tk.e tk.s (.slice a3 tk.kids.length cap3) 30).stay hb1)
            obtain ⟨y0, y1, y2, y3, y4⟩ := BKW.out.cells
            have yf0 := BKW.out.free (i := 0); have yf1 := BKW.out.free (i := 1); have yf2 := BKW.out.free (i := 2); have yf3 := BKW.out.free (i := 3); have yf4 := BKW.out.free (i := 4)
            have hbw1 : Below wr.heap.size wr w1 := (by (repeat' (first | with_reducible exact Below.refl _ _ | with_reducible refine below_alloc ?_ _ ?_ | with_reducible refine Below.setCell ?_ ?_ _ | with_reducible refine Below.drew ?_ | with_reducible refine below_drewN ?_ _ | with_reducible refine below_step ?_ (by assumption) ?_ | with_reducible refine below_mark ?_ (by assumption) ?_)); all_goals (first | omega | (simp; done) | (simp; omega)))
            have BZr := Lib.hid ((show Box wr (w.heap.size + 1) 0 0 0 ⟨#[]⟩ (.slice none 0 0) 30 from (HACC.out.2.2.block (w.heap.size + 1) (by omega)).trans BZ.out).stay hbw1)
            obtain ⟨z0, z1, z2, z3, z4⟩ := BZr.out.cells
            have zf0 := BZr.out.free (i := 0); have zf1 := BZr.out.free (i := 1); have zf2 := BZr.out.free (i := 2); have zf3 := BZr.out.free (i := 3); have zf4 := BZr.out.free (i := 4)
            have hw2n : w.heap.size + 1 ≠ wr.heap.size := by omega
            have hw2s : wr.heap.size ≠ w.heap.size + 1 := by omega
            clear q0 q1 q2 q3 q4 c0 c1' c2 c3 c4 hb1
            go_wp2_with fail
            refine bodyPost_ret (v := .tuple #[.agg #[.int .i64 0, .int .i64 0, .int .i64 0, .string ⟨#[]⟩, .slice none 0 0], .bool false]) (by simp [results, Tryd.results118, go_sem, z0, z1, z2, z3, z4, hw2n, hw2s]) rfl (HNO.out _ _ ⟨.mk 0 0 0 ⟨#[]⟩ [], _, _, _, rfl, ?_⟩)
            have hbl9 := HBL.out
            exact (by (repeat' (first | with_reducible exact Below.refl _ _ | with_reducible refine below_alloc ?_ _ ?_ | with_reducible refine Below.setCell ?_ ?_ _ | with_reducible refine Below.drew ?_ | with_reducible refine below_drewN ?_ _ | with_reducible refine below_step ?_ (by assumption) ?_ | with_reducible refine below_mark ?_ (by assumption) ?_)); all_goals (first | omega | (simp; done) | (simp; omega)))
      | some u =>
        have HTJ : Hid (trns (byF by0) (decide (k = 8)) 0 (ts.take (j + 1)) = some (L1 ++ [u])) := Lib.hid (by rw [HTJ0.out, ho1]; rfl)
        rcases key with hkey | hkey
        · have t1 : (k == 8) = true := by simpa using hkey.1
          have t2 : ((j : Int) % 2 == 0) = true := by have := hkey.2; simp; omega
          have YK := Lib.hid (YJ.out (HKYJ.out hkey.1 hkey.2))
          have hx : by0 tk = some u := by have := HO1.out; rw [HUS.out, if_pos (by simp [hkey.1, hkey.2]), ho1] at this; exact this
          rw [hx] at YK
          clear hx hkey HO1 HUS HKYJ YJ VJ HSTK HTJ0 HPS HPN HTR ho1
          go_wp2_with fail
          refine (YK.out _ ((by (repeat' (first | with_reducible exact Below.refl _ _ | with_reducible refine below_alloc ?_ _ ?_ | with_reducible refine Below.setCell ?_ ?_ _ | with_reducible refine Below.drew ?_ | with_reducible refine below_drewN ?_ _ | with_reducible refine below_step ?_ (by assumption) ?_ | with_reducible refine below_mark ?_ (by assumption) ?_)); all_goals (first | omega | (simp; done) | (simp; omega))))).mono ?_
          rintro x w1 ⟨s2, rfl, twf, ho, hb1⟩
          obtain ⟨sa, sn, sc, rfl⟩ : ∃ sa sn sc, s2 = .slice sa sn sc := by obtain ⟨p, q, e⟩ := ho.slice; exact ⟨p, _, q, e⟩
          unfold V.agg
          have hz1 := hb1.size
          simp at hz1
          have HO := Lib.hid ((ho.bound).mono (F' := fun x => wr.heap.size ≤ x ∧ x < w1.heap.size) (fun x hx => ⟨by have := hx.1; simp at this; omega, hx.2⟩)); 
          have HO2 := Lib.hid (ho.bound)
          clear ho
          have HWF := Lib.hid twf; clear twf
          have BKW := Lib.hid ((Box.new wr tk.k tk.n tk.e tk.s (.slice a3 tk.kids.length cap3) 30).stay hb1)
          obtain ⟨y0, y1, y2, y3, y4⟩ := BKW.out.cells
          have yf0 := BKW.out.free (i := 0); have yf1 := BKW.out.free (i := 1); have yf2 := BKW.out.free (i := 2); have yf3 := BKW.out.free (i := 3); have yf4 := BKW.out.free (i := 4)
          have hbw1 : Below wr.heap.size wr w1 := (by (repeat' (first | with_reducible exact Below.refl _ _ | with_reducible refine below_alloc ?_ _ ?_ | with_reducible refine Below.setCell ?_ ?_ _ | with_reducible refine Below.drew ?_ | with_reducible refine below_drewN ?_ _ | with_reducible refine below_step ?_ (by assumption) ?_ | with_reducible refine below_mark ?_ (by assumption) ?_)); all_goals (first | omega | (simp; done) | (simp; omega)))
          obtain ⟨p0, p1, p2, p3, p4⟩ := (BXw.out.stay hbw1).cells
          obtain ⟨g0, g1, g2, g3, g4⟩ := (HACC.out.1.stay hbw1).cells
          have hw1m : w.heap.size + 1 + 1 ≠ wr.heap.size := by omega
          have hw1t : wr.heap.size ≠ w.heap.size + 1 + 1 := by omega
          have hw1k : w.heap.size + 1 + 1 < wr.heap.size := by omega
          clear q0 q1 q2 q3 q4 c0 c1' c2 c3 c4 hb1
          go_wp2_with (at_builtin; refine app_own rfl _ _ rfl (w.heap.size + 1 + 1 + 1) G (fun x => (wr.alloc (.cells #[.int .i64 tk.k, .int .i64 tk.n, .int .i64 tk.e, .string tk.s, .slice a3 tk.kids.length cap3] 30)).heap.size ≤ x ∧ x < w1.heap.size) _ L1 rfl ((HACC.out.stay ((by (repeat' (first | with_reducible exact Below.refl _ _ | with_reducible refine below_alloc ?_ _ ?_ | with_reducible refine Below.setCell ?_ ?_ _ | with_reducible refine Below.drew ?_ | with_reducible refine below_drewN ?_ _ | with_reducible refine below_step ?_ (by assumption) ?_ | with_reducible refine below_mark ?_ (by assumption) ?_)); all_goals (first | omega | (simp; done) | (simp; omega))))).2.1) u (.slice sa sn sc) _ rfl (by first | exact heap_alloc_here _ (by simp) | exact heap_alloc_here _ rfl) HWF.out (OwnS.keep HO2.out (fun x hx hxs => (heap_alloc_old _ _ (by simp; omega)).trans (by (repeat rw [heap_setCell_other _ _ _ _ (fun e => by have h1 := hx.1; have e2 : x = wr.heap.size := e; simp at h1; omega)])))) (fun x hx => by have h1 := hx.1; have h2 := hx.2; simp at h1; exact ⟨by omega, by simp; omega, fun hG => by have := (HACC.out.2.1.inG x hG).2; omega, fun e => by have := (HACC.out.2.1.lt x e).2; omega⟩) (by have := HLEN.out; omega) (by simp; omega) ?_; intro v2 w2 hrow2 hg2 hfr2; obtain ⟨va, vn, vc, rfl⟩ := hrow2.slice3; have HG2 := Lib.hid hg2; have HR2 := Lib.hid hrow2; have HB2 := Lib.hid (show Box w2 (w.heap.size + 1 + 1) k n e s o 30 from (hg2.block (w.heap.size + 1 + 1) (by simp; omega) (fun e => by have := (HACC.out.2.1.lt _ e.symm).1; omega)).trans (HACC.out.stay ((by (repeat' (first | with_reducible exact Below.refl _ _ | with_reducible refine below_alloc ?_ _ ?_ | with_reducible refine Below.setCell ?_ ?_ _ | with_reducible refine Below.drew ?_ | with_reducible refine below_drewN ?_ _ | with_reducible refine below_step ?_ (by assumption) ?_ | with_reducible refine below_mark ?_ (by assumption) ?_)); all_goals (first | omega | (simp; done) | (simp; omega))))).1); have hfz := HB2.out.free (i := 4); have hcc := HB2.out.cells.2.2.2.2; clear hrow2 hg2 hfr2)
          go_roundw
          case rel => exact ⟨j + 1, _, _, _, by omega, by go_num, HTJ.out, HACC.out.put (by omega) ((by (repeat' (first | with_reducible exact Below.refl _ _ | with_reducible refine below_alloc ?_ _ ?_ | with_reducible refine Below.setCell ?_ ?_ _ | with_reducible refine Below.drew ?_ | with_reducible refine below_drewN ?_ _ | with_reducible refine below_step ?_ (by assumption) ?_ | with_reducible refine below_mark ?_ (by assumption) ?_)); all_goals (first | omega | (simp; done) | (simp; omega)))) HG2.out HR2.out⟩
          case measure => simp [intOf]; omega
        · have tt : (k == 8) = false ∨ ((k == 8) = true ∧ (((j : Int) % 2 == 0) = false)) := by
            by_cases h8 : k = 8
            · exact .inr ⟨by simpa using h8, by have : ¬ j % 2 = 0 := fun e => hkey ⟨h8, e⟩
                                                simp; omega⟩
            · exact .inl (by simpa using h8)
          have hx : ou = some u := by have := HO1.out; rw [HUS.out, if_neg (by simp only [Bool.and_eq_true, decide_eq_true_eq]; exact hkey), ho1] at this; exact this
          rw [hx] at VJ
          clear hx hkey HO1 HUS HKYJ YJ HSTK HTJ0 HPS HPN HTR ho1
          rcases tt with t1 | ⟨t1, t2⟩
          all_goals go_wp2_with fail
          all_goals refine (VJ.out _ ((by (repeat' (first | with_reducible exact Below.refl _ _ | with_reducible refine below_alloc ?_ _ ?_ | with_reducible refine Below.setCell ?_ ?_ _ | with_reducible refine Below.drew ?_ | with_reducible refine below_drewN ?_ _ | with_reducible refine below_step ?_ (by assumption) ?_ | with_reducible refine below_mark ?_ (by assumption) ?_)); all_goals (first | omega | (simp; done) | (simp; omega))))).mono ?_
          all_goals
            rintro x w1 ⟨s2, rfl, twf, ho, hb1⟩
            obtain ⟨sa, sn, sc, rfl⟩ : ∃ sa sn sc, s2 = .slice sa sn sc := by obtain ⟨p, q, e⟩ := ho.slice; exact ⟨p, _, q, e⟩
            unfold V.agg
            have hz1 := hb1.size
            simp at hz1
            have HO := Lib.hid ((ho.bound).mono (F' := fun x => wr.heap.size ≤ x ∧ x < w1.heap.size) (fun x hx => ⟨by have := hx.1; simp at this; omega, hx.2⟩)); 
            have HO2 := Lib.hid (ho.bound)
            clear ho
            have HWF := Lib.hid twf; clear twf
            have BKW := Lib.hid ((Box.new wr tk.k tk.n tk.e tk.s (.slice a3 tk.kids.length cap3) 30).stay hb1)
            obtain ⟨y0, y1, y2, y3, y4⟩ := BKW.out.cells
            have yf0 := BKW.out.free (i := 0); have yf1 := BKW.out.free (i := 1); have yf2 := BKW.out.free (i := 2); have yf3 := BKW.out.free (i := 3); have yf4 := BKW.out.free (i := 4)
            have hbw1 : Below wr.heap.size wr w1 := (by (repeat' (first | with_reducible exact Below.refl _ _ | with_reducible refine below_alloc ?_ _ ?_ | with_reducible refine Below.setCell ?_ ?_ _ | with_reducible refine Below.drew ?_ | with_reducible refine below_drewN ?_ _ | with_reducible refine below_step ?_ (by assumption) ?_ | with_reducible refine below_mark ?_ (by assumption) ?_)); all_goals (first | omega | (simp; done) | (simp; omega)))
            obtain ⟨p0, p1, p2, p3, p4⟩ := (BXw.out.stay hbw1).cells
            obtain ⟨g0, g1, g2, g3, g4⟩ := (HACC.out.1.stay hbw1).cells
            have hw1m : w.heap.size + 1 + 1 ≠ wr.heap.size := by omega
            have hw1t : wr.heap.size ≠ w.heap.size + 1 + 1 := by omega
            have hw1k : w.heap.size + 1 + 1 < wr.heap.size := by omega
            clear q0 q1 q2 q3 q4 c0 c1' c2 c3 c4 hb1
            go_wp2_with (at_builtin; refine app_own rfl _ _ rfl (w.heap.size + 1 + 1 + 1) G (fun x => (wr.alloc (.cells #[.int .i64 tk.k, .int .i64 tk.n, .int .i64 tk.e, .string tk.s, .slice a3 tk.kids.length cap3] 30)).heap.size ≤ x ∧ x < w1.heap.size) _ L1 rfl ((HACC.out.stay ((by (repeat' (first | with_reducible exact Below.refl _ _ | with_reducible refine below_alloc ?_ _ ?_ | with_reducible refine Below.setCell ?_ ?_ _ | with_reducible refine Below.drew ?_ | with_reducible refine below_drewN ?_ _ | with_reducible refine below_step ?_ (by assumption) ?_ | with_reducible refine below_mark ?_ (by assumption) ?_)); all_goals (first | omega | (simp; done) | (simp; omega))))).2.1) u (.slice sa sn sc) _ rfl (by first | exact heap_alloc_here _ (by simp) | exact heap_alloc_here _ rfl) HWF.out (OwnS.keep HO2.out (fun x hx hxs => (heap_alloc_old _ _ (by simp; omega)).trans (by (repeat rw [heap_setCell_other _ _ _ _ (fun e => by have h1 := hx.1; have e2 : x = wr.heap.size := e; simp at h1; omega)])))) (fun x hx => by have h1 := hx.1; have h2 := hx.2; simp at h1; exact ⟨by omega, by simp; omega, fun hG => by have := (HACC.out.2.1.inG x hG).2; omega, fun e => by have := (HACC.out.2.1.lt x e).2; omega⟩) (by have := HLEN.out; omega) (by simp; omega) ?_; intro v2 w2 hrow2 hg2 hfr2; obtain ⟨va, vn, vc, rfl⟩ := hrow2.slice3; have HG2 := Lib.hid hg2; have HR2 := Lib.hid hrow2; have HB2 := Lib.hid (show Box w2 (w.heap.size + 1 + 1) k n e s o 30 from (hg2.block (w.heap.size + 1 + 1) (by simp; omega) (fun e => by have := (HACC.out.2.1.lt _ e.symm).1; omega)).trans (HACC.out.stay ((by (repeat' (first | with_reducible exact Below.refl _ _ | with_reducible refine below_alloc ?_ _ ?_ | with_reducible refine Below.setCell ?_ ?_ _ | with_reducible refine Below.drew ?_ | with_reducible refine below_drewN ?_ _ | with_reducible refine below_step ?_ (by assumption) ?_ | with_reducible refine below_mark ?_ (by assumption) ?_)); all_goals (first | omega | (simp; done) | (simp; omega))))).1); have hfz := HB2.out.free (i := 4); have hcc := HB2.out.cells.2.2.2.2; clear hrow2 hg2 hfr2)
            go_roundw
            case rel => exact ⟨j + 1, _, _, _, by omega, by go_num, HTJ.out, HACC.out.put (by omega) ((by (repeat' (first | with_reducible exact Below.refl _ _ | with_reducible refine below_alloc ?_ _ ?_ | with_reducible refine Below.setCell ?_ ?_ _ | with_reducible refine Below.drew ?_ | with_reducible refine below_drewN ?_ _ | with_reducible refine below_step ?_ (by assumption) ?_ | with_reducible refine below_mark ?_ (by assumption) ?_)); all_goals (first | omega | (simp; done) | (simp; omega)))) HG2.out HR2.out⟩
            case measure => simp [intOf]; omega
    · have H := Lib.hid (show ts.take j = ts from List.take_of_length_le (by omega))
      have HTE := Lib.hid (show trns (byF by0) (decide (k = 8)) 0 ts = some L1 by have := HTR.out; rwa [H.out] at this)
      obtain ⟨oa, on, oc, rfl⟩ := HACC.out.2.1.slice3
      obtain ⟨g0, g1, g2, g3, g4⟩ := HACC.out.1.cells
      have BZr := Lib.hid (show Box wr (w.heap.size + 1) 0 0 0 ⟨#[]⟩ (.slice none 0 0) 30 from (HACC.out.2.2.block (w.heap.size + 1) (by omega)).trans BZ.out)
      obtain ⟨z0, z1, z2, z3, z4⟩ := BZr.out.cells
      have zf0 := BZr.out.free (i := 0); have zf1 := BZr.out.free (i := 1); have zf2 := BZr.out.free (i := 2); have zf3 := BZr.out.free (i := 3); have zf4 := BZr.out.free (i := 4)
      have HO := Lib.hid (show OwnS wr (fun x => w.heap.size + 1 + 1 + 1 ≤ x) (.slice oa on oc) L1 from HACC.out.own)
      have HPY := Lib.hid (HPS.out L1 HTE.out)
      clear H HE HA V1 HT BX BO BZ BZr HACC HPN HTR HTE HPS
      go_wp2_with fail
      refine bodyPost_ret (v := .tuple #[.agg #[.int .i64 k, .int .i64 n, .int .i64 e, .string s, .slice oa on oc], .bool true]) (by simp [results, Tryd.results118, go_sem, z0, z1, z2, z3, z4]) rfl (HPY.out _ _ ⟨_, rfl, ?_, ?_⟩)
      · refine OwnS.mono (F := fun x => w.heap.size + 1 + 1 + 1 ≤ x) ?_ (fun x hx => by omega)
        repeat refine OwnS.set ?_ _ _ (by first | omega | (simp; done) | (simp; omega))
        exact HO.out
      · repeat' (refine Below.setCell ?_ ?_ _)
        all_goals (first | exact HBL.out | (simp; done) | (simp; omega))
end Go.Proofs.YtllngpnhhpnjoaaDoor
namespace Go.Proofs.YtllngpnhhpnjoaaDoor
set_option linter.unusedVariables false
set_option maxRecDepth 100000
open Go.RowKit
/-- a value in memory of its own, and a truth -/
def VBRet (w : World) (t : V) (b : Bool) (e : Ending) (w' : World) : Prop := ∃ sl, e = .returned (.tuple #[t.agg sl, .bool b]) ∧ t.wf ∧ OwnS w' (fun x => w.heap.size ≤ x) sl t.kids ∧ Below w.heap.size w w'
def kyR (by0 : V → Option V) (l : List ByteArray) (t : V) : Option V := if okT t && namesB l then (trn (byF by0) t).filter (fun u => okT u) else none
/-- a name's cell, and what stands in it -/
def NameAt (w : World) (c : Nat) (nv : Value) : Prop := w.heap[c]? = some (.cells #[nv] 40 (0, 0))
theorem key5 {t : V} (hk : t.kids = []) (h : isKeyB t = true) (h5 : t.k = 5) : True := trivial
set_option maxHeartbeats 1000000 in
theorem MapKeys1_any (w0 : World) (nv : Value) (l : List ByteArray) (hl : RepSs w0 nv l) (c : Nat) (hc : NameAt w0 c nv) (t : V) (sl : Value) (w : World) (hwf : t.wf) (hk : t.kids = []) (hr : RepS w0 sl t.kids) (hw : Below w0.heap.size w0 w) :
    Calls Tryd.prog 80 #[t.agg sl, .pointer (some ⟨c, 0, none⟩)] w (ByRet (byMap l t) w) := by
  have IX := Lib.hid (fun (W : World) (hW : Below w.heap.size w W) => IndexN_any w0 nv l t.s hl W (hw.trans (hW.mono hw.size)))
  have hclt := lt_of_heap hc
  have D1 := Lib.hid (fun (W : World) (hW : Below w.heap.size w W) => show W.cell? ⟨c, 0, none⟩ = some nv from cell_of_one ((hW.block c (Nat.lt_of_lt_of_le hclt hw.size)).trans ((hw.block c hclt).trans hc)))
  have hclw : c < w.heap.size := Nat.lt_of_lt_of_le hclt hw.size
  have hcn : c ≠ w.heap.size := by omega
  have hcm : c ≠ w.heap.size + 1 := by omega
  obtain ⟨na, nn, nc, rfl⟩ : ∃ a n c, nv = .slice a n c := by obtain ⟨a, _, _, c, h, _⟩ := hl; exact ⟨a, _, c, h⟩
  have HIN : In64 (atS l t.s) := by
    rcases Int.lt_or_le (atS l t.s) 0 with h | h
    · have := atS_lo l t.s; exact ⟨by omega, by omega⟩
    · obtain ⟨k, hk, e, _⟩ := atS_at h
      obtain ⟨_, _, _, _, _, _, hc, hm, _⟩ := hl
      exact ⟨by omega, by omega⟩
  have HY := Lib.hid (show t.k = 5 → 0 ≤ atS l t.s → ∀ e w', (e = .returned (.tuple #[.agg #[.int .i64 3, .int .i64 (atS l t.s), .int .i64 0, .string ⟨#[]⟩, .slice none 0 0], .bool true]) ∧ Below w.heap.size w w') → ByRet (byMap l t) w e w' from fun h5 h0 e w' ⟨h1, h2⟩ => by
    unfold byMap; rw [if_pos h5]; unfold keyM; rw [if_pos ⟨rfl, h5, h0⟩]
    exact ⟨.slice none 0 0, h1, zero5_wf 3 _ ⟨#[]⟩ ⟨by omega, by omega⟩ HIN (by simp [ByteArray.size]), OwnS.nil _ _, h2⟩)
  have HZ := Lib.hid (show t.k = 5 → ¬ 0 ≤ atS l t.s → ∀ e w', (e = .returned (.tuple #[t.agg sl, .bool true]) ∧ Below w.heap.size w w') → ByRet (byMap l t) w e w' from fun h5 h0 e w' ⟨h1, h2⟩ => by
    unfold byMap; rw [if_pos h5]; unfold keyM; rw [if_neg (fun e => h0 e.2.2)]
    refine ⟨sl, h1, hwf, ?_, h2⟩
    rw [hk] at hr ⊢
    exact ((hr.keep hw).keep h2).empty _)
  have HN := Lib.hid (show ¬ t.k = 5 → ∀ e w', ((∃ a n c, e = .returned (.tuple #[t.agg (.slice a n c), .bool false])) ∧ Below w.heap.size w w') → ByRet (byMap l t) w e w' from fun h5 e w' ⟨⟨a, n, c, h1⟩, h2⟩ => by
    unfold byMap; rw [if_neg h5]; exact ⟨t, a, n, c, h1, h2⟩)
  obtain ⟨sa, sc, rfl⟩ := hr.slice
  clear hr hk hwf hl hc hclt hw
  unfold V.agg at *
  generalize byMap l t = R at *
  generalize atS l t.s = q at *
  generalize t.k = k at *
  generalize t.n = n at *
  generalize t.e = e at *
  generalize t.s = s at *
  generalize t.kids.length = len at *
  have d1 := D1.out w (Below.refl _ _)
  by_cases h5 : k = 5
  · have t2 : (k == 5) = true := by simpa using h5
    by_cases h0 : 0 ≤ q
    · have t1 : decide (0 ≤ q) = true := decide_eq_true h0
      have H := Lib.hid (HY.out h5 h0)
      clear HY HZ HN h5 h0
      go_enter Tryd.func80, Tryd.ntmps80
      go_wp2_with fail
      refine (IX.out _ ((by (repeat' (first | with_reducible exact Below.refl _ _ | with_reducible refine below_alloc ?_ _ ?_ | with_reducible refine Below.setCell ?_ ?_ _ | with_reducible refine Below.drew ?_ | with_reducible refine below_drewN ?_ _ | with_reducible refine below_step ?_ (by assumption) ?_ | with_reducible refine below_mark ?_ (by assumption) ?_)); all_goals (first | omega | (simp; done) | (simp; omega))))).mono ?_
      rintro x w1 ⟨rfl, rfl⟩
      go_wp2_with fail
      refine bodyPost_ret (v := .tuple #[.agg #[.int .i64 3, .int .i64 q, .int .i64 0, .string ⟨#[]⟩, .slice none 0 0], .bool true]) (by simp [results, Tryd.results80, go_sem]) rfl (H.out _ _ ⟨rfl, ?_⟩)
      exact (by (repeat' (first | with_reducible exact Below.refl _ _ | with_reducible refine below_alloc ?_ _ ?_ | with_reducible refine Below.setCell ?_ ?_ _ | with_reducible refine Below.drew ?_ | with_reducible refine below_drewN ?_ _ | with_reducible refine below_step ?_ (by assumption) ?_ | with_reducible refine below_mark ?_ (by assumption) ?_)); all_goals (first | omega | (simp; done) | (simp; omega)))
    · have t1 : decide (0 ≤ q) = false := decide_eq_false h0
      have H := Lib.hid (HZ.out h5 h0)
      clear HY HZ HN h5 h0
      go_enter Tryd.func80, Tryd.ntmps80
      go_wp2_with fail
      refine (IX.out _ ((by (repeat' (first | with_reducible exact Below.refl _ _ | with_reducible refine below_alloc ?_ _ ?_ | with_reducible refine Below.setCell ?_ ?_ _ | with_reducible refine Below.drew ?_ | with_reducible refine below_drewN ?_ _ | with_reducible refine below_step ?_ (by assumption) ?_ | with_reducible refine below_mark ?_ (by assumption) ?_)); all_goals (first | omega | (simp; done) | (simp; omega))))).mono ?_
      rintro x w1 ⟨rfl, rfl⟩
      go_wp2_with fail
      go_region
      all_goals go_wp2_with fail
      all_goals refine bodyPost_ret (v := .tuple #[.agg #[.int .i64 k, .int .i64 n, .int .i64 e, .string s, .slice sa len sc], .bool true]) (by simp [results, Tryd.results80, go_sem]) rfl (H.out _ _ ⟨rfl, ?_⟩)
      all_goals exact (by (repeat' (first | with_reducible exact Below.refl _ _ | with_reducible refine below_alloc ?_ _ ?_ | with_reducible refine Below.setCell ?_ ?_ _ | with_reducible refine Below.drew ?_ | with_reducible refine below_drewN ?_ _ | with_reducible refine below_step ?_ (by assumption) ?_ | with_reducible refine below_mark ?_ (by assumption) ?_)); all_goals (first | omega | (simp; done) | (simp; omega)))
  · have t2 : (k == 5) = false := by simpa using h5
    have H := Lib.hid (HN.out h5)
    by_cases h0 : 0 ≤ q
    · have t1 : decide (0 ≤ q) = true := decide_eq_true h0
      clear HY HZ HN h5 h0
      go_enter Tryd.func80, Tryd.ntmps80
      go_wp2_with fail
      refine (IX.out _ ((by (repeat' (first | with_reducible exact Below.refl _ _ | with_reducible refine below_alloc ?_ _ ?_ | with_reducible refine Below.setCell ?_ ?_ _ | with_reducible refine Below.drew ?_ | with_reducible refine below_drewN ?_ _ | with_reducible refine below_step ?_ (by assumption) ?_ | with_reducible refine below_mark ?_ (by assumption) ?_)); all_goals (first | omega | (simp; done) | (simp; omega))))).mono ?_
      rintro x w1 ⟨rfl, rfl⟩
      go_wp2_with fail
      go_region
      all_goals go_wp2_with fail
      all_goals refine bodyPost_ret (v := .tuple #[.agg #[.int .i64 k, .int .i64 n, .int .i64 e, .string s, .slice sa len sc], .bool false]) (by simp [results, Tryd.results80, go_sem]) rfl (H.out _ _ ⟨⟨_, _, _, rfl⟩, ?_⟩)
      all_goals exact (by (repeat' (first | with_reducible exact Below.refl _ _ | with_reducible refine below_alloc ?_ _ ?_ | with_reducible refine Below.setCell ?_ ?_ _ | with_reducible refine Below.drew ?_ | with_reducible refine below_drewN ?_ _ | with_reducible refine below_step ?_ (by assumption) ?_ | with_reducible refine below_mark ?_ (by assumption) ?_)); all_goals (first | omega | (simp; done) | (simp; omega)))
    · have t1 : decide (0 ≤ q) = false := decide_eq_false h0
      clear HY HZ HN h5 h0
      go_enter Tryd.func80, Tryd.ntmps80
      go_wp2_with fail
      refine (IX.out _ ((by (repeat' (first | with_reducible exact Below.refl _ _ | with_reducible refine below_alloc ?_ _ ?_ | with_reducible refine Below.setCell ?_ ?_ _ | with_reducible refine Below.drew ?_ | with_reducible refine below_drewN ?_ _ | with_reducible refine below_step ?_ (by assumption) ?_ | with_reducible refine below_mark ?_ (by assumption) ?_)); all_goals (first | omega | (simp; done) | (simp; omega))))).mono ?_
      rintro x w1 ⟨rfl, rfl⟩
      go_wp2_with fail
      go_region
      all_goals go_wp2_with fail
      all_goals refine bodyPost_ret (v := .tuple #[.agg #[.int .i64 k, .int .i64 n, .int .i64 e, .string s, .slice sa len sc], .bool false]) (by simp [results, Tryd.results80, go_sem]) rfl (H.out _ _ ⟨⟨_, _, _, rfl⟩, ?_⟩)
      all_goals exact (by (repeat' (first | with_reducible exact Below.refl _ _ | with_reducible refine below_alloc ?_ _ ?_ | with_reducible refine Below.setCell ?_ ?_ _ | with_reducible refine Below.drew ?_ | with_reducible refine below_drewN ?_ _ | with_reducible refine below_step ?_ (by assumption) ?_ | with_reducible refine below_mark ?_ (by assumption) ?_)); all_goals (first | omega | (simp; done) | (simp; omega)))
theorem within_any (n lo hi : Int) (w : World) : Calls Tryd.prog 84 #[.int .i64 n, .int .i64 lo, .int .i64 hi] w fun e w' => e = .returned (.bool (decide (lo ≤ n ∧ n ≤ hi))) ∧ w' = w := by
  by_cases h : lo ≤ n ∧ n ≤ hi
  · rw [decide_eq_true h]; exact within_yes n lo hi w h.1 h.2
  · rw [decide_eq_false h]; exact within_no n lo hi w (by omega)
set_option maxHeartbeats 1000000 in
theorem UnmapKeys1_any (w0 : World) (nv : Value) (l : List ByteArray) (hl : RepSs w0 nv l) (c : Nat) (hc : NameAt w0 c nv) (t : V) (sl : Value) (w : World) (hwf : t.wf) (hk : t.kids = []) (hr : RepS w0 sl t.kids) (hw : Below w0.heap.size w0 w) :
    Calls Tryd.prog 83 #[t.agg sl, .pointer (some ⟨c, 0, none⟩)] w (ByRet (byUn l t) w) := by
  have hclt := lt_of_heap hc
  have d1 : w.cell? ⟨c, 0, none⟩ = some nv := cell_of_one ((hw.block c hclt).trans hc)
  have hclw : c < w.heap.size := Nat.lt_of_lt_of_le hclt hw.size
  have hcn : c ≠ w.heap.size := by omega
  have hcm : c ≠ w.heap.size + 1 := by omega
  have LK := Lib.hid (fun (a : Option Addr) (n k : Nat) (h : nv = .slice a n k) => show n = l.length ∧ l.length ≤ 9223372036854775807 ∧ _ from (by have := hl.keep hw; rw [h] at this; exact this.getB : _))
  obtain ⟨na, nn, nc, rfl⟩ : ∃ a n c, nv = .slice a n c := by obtain ⟨a, _, _, c, h, _⟩ := hl; exact ⟨a, _, c, h⟩
  have LK2 := Lib.hid ((hl.keep hw).getB)
  have HZ := Lib.hid (show t.k = 5 → ∀ e w', (e = .returned (.tuple #[t.agg sl, .bool true]) ∧ Below w.heap.size w w') → ByRet (byUn l t) w e w' from fun h5 e w' ⟨h1, h2⟩ => by
    unfold byUn; rw [if_pos h5]
    refine ⟨sl, h1, hwf, ?_, h2⟩
    rw [hk] at hr ⊢
    exact ((hr.keep hw).keep h2).empty _)
  have HY := Lib.hid (show ¬ t.k = 5 → ∀ (hin : 0 ≤ t.n ∧ t.n ≤ (l.length : Int) - 1) (s : ByteArray), l.getD t.n.toNat ⟨#[]⟩ = s → s.size ≤ 9223372036854775807 → ∀ e w', (e = .returned (.tuple #[.agg #[.int .i64 5, .int .i64 0, .int .i64 0, .string s, .slice none 0 0], .bool true]) ∧ Below w.heap.size w w') → ByRet (byUn l t) w e w' from fun h5 hin s hs hsz e w' ⟨h1, h2⟩ => by
    unfold byUn; rw [if_neg h5]; unfold unkey; rw [if_pos hin, hs]
    exact ⟨.slice none 0 0, h1, zero5_wf 5 0 s ⟨by omega, by omega⟩ ⟨by omega, by omega⟩ hsz, OwnS.nil _ _, h2⟩)
  have HN := Lib.hid (show ¬ t.k = 5 → ¬ (0 ≤ t.n ∧ t.n ≤ (l.length : Int) - 1) → ∀ e w', (e = .returned (.tuple #[.agg #[.int .i64 0, .int .i64 0, .int .i64 0, .string ⟨#[]⟩, .slice none 0 0], .bool false]) ∧ Below w.heap.size w w') → ByRet (byUn l t) w e w' from fun h5 hin e w' ⟨h1, h2⟩ => by
    unfold byUn; rw [if_neg h5]; unfold unkey; rw [if_neg hin]; exact ⟨.mk 0 0 0 ⟨#[]⟩ [], none, 0, 0, h1, h2⟩)
  obtain ⟨sa, sc, rfl⟩ := hr.slice
  have hn64 : In64 t.n := hwf.2.1
  clear hr hk hwf hl hc hclt hw LK
  unfold V.agg at *
  generalize byUn l t = R at *
  generalize t.k = k at *
  generalize t.n = n at *
  generalize t.e = e at *
  generalize t.s = s at *
  generalize t.kids.length = len at *
  obtain ⟨rfl, hl63, LG⟩ := LK2.out
  have LG := Lib.hid LG
  clear LK2
  have hm1 : wrap64 ((l.length : Int) - 1) = (l.length : Int) - 1 := by unfold wrap64; omega
  by_cases h5 : k = 5
  · have t2 : (k == 5) = true := by simpa using h5
    have H := Lib.hid (HZ.out h5)
    clear HY HZ HN h5
    go_enter Tryd.func83, Tryd.ntmps83
    go_wp2_with fail
    refine bodyPost_ret (v := .tuple #[.agg #[.int .i64 k, .int .i64 n, .int .i64 e, .string s, .slice sa len sc], .bool true]) (by simp [results, Tryd.results83, go_sem]) rfl (H.out _ _ ⟨rfl, ?_⟩)
    exact (by (repeat' (first | with_reducible exact Below.refl _ _ | with_reducible refine below_alloc ?_ _ ?_ | with_reducible refine Below.setCell ?_ ?_ _ | with_reducible refine Below.drew ?_ | with_reducible refine below_drewN ?_ _ | with_reducible refine below_step ?_ (by assumption) ?_ | with_reducible refine below_mark ?_ (by assumption) ?_)); all_goals (first | omega | (simp; done) | (simp; omega)))
  · have t2 : (k == 5) = false := by simpa using h5
    have WI := Lib.hid (fun W => within_any n 0 ((l.length : Int) - 1) W)
    by_cases hin : 0 ≤ n ∧ n ≤ (l.length : Int) - 1
    · have hix : n.toNat < l.length := by omega
      obtain ⟨nb, noff, rfl, hcell, hsz2⟩ := LG.out _ hix
      have e9 : l.getD n.toNat ⟨#[]⟩ = l[n.toNat] := by rw [List.getD_eq_getElem?_getD, List.getElem?_eq_getElem hix]; rfl
      have H := Lib.hid (HY.out h5 hin _ e9 hsz2)
      have hnb : nb < w.heap.size := World.block_lt_of_cell? _ _ hcell
      have hnb2 : nb ≠ w.heap.size := by omega
      have hnb3 : nb ≠ w.heap.size + 1 := by omega
      have hi1 := hin.1
      have hi2 : n < (l.length : Int) := by omega
      rw [decide_eq_true hin] at WI
      clear HY HZ HN h5 LG hin e9
      generalize l[n.toNat] = ls at *
      go_enter Tryd.func83, Tryd.ntmps83
      go_wp2_with fail
      refine (WI.out _).mono ?_
      rintro x w1 ⟨rfl, rfl⟩
      go_wp2_with fail
      refine bodyPost_ret (v := .tuple #[.agg #[.int .i64 5, .int .i64 0, .int .i64 0, .string ls, .slice none 0 0], .bool true]) (by simp [results, Tryd.results83, go_sem]) rfl (H.out _ _ ⟨rfl, ?_⟩)
      exact (by (repeat' (first | with_reducible exact Below.refl _ _ | with_reducible refine below_alloc ?_ _ ?_ | with_reducible refine Below.setCell ?_ ?_ _ | with_reducible refine Below.drew ?_ | with_reducible refine below_drewN ?_ _ | with_reducible refine below_step ?_ (by assumption) ?_ | with_reducible refine below_mark ?_ (by assumption) ?_)); all_goals (first | omega | (simp; done) | (simp; omega)))
    · have H := Lib.hid (HN.out h5 hin)
      rw [decide_eq_false hin] at WI
      clear HY HZ HN h5 LG hin
      go_enter Tryd.func83, Tryd.ntmps83
      go_wp2_with fail
      refine (WI.out _).mono ?_
      rintro x w1 ⟨rfl, rfl⟩
      go_wp2_with fail
      refine bodyPost_ret (v := .tuple #[.agg #[.int .i64 0, .int .i64 0, .int .i64 0, .string ⟨#[]⟩, .slice none 0 0], .bool false]) (by simp [results, Tryd.results83, go_sem]) rfl (H.out _ _ ⟨rfl, ?_⟩)
      exact (by (repeat' (first | with_reducible exact Below.refl _ _ | with_reducible refine below_alloc ?_ _ ?_ | with_reducible refine Below.setCell ?_ ?_ _ | with_reducible refine Below.drew ?_ | with_reducible refine below_drewN ?_ _ | with_reducible refine below_step ?_ (by assumption) ?_ | with_reducible refine below_mark ?_ (by assumption) ?_)); all_goals (first | omega | (simp; done) | (simp; omega)))
set_option maxHeartbeats 2000000 in
theorem keyed_any (w0 : World) (hE : Env w0) (v : Value) (t : V) (h : Rep w0 v t) (hsz : t.sz ≤ 1048576) (nv : Value) (l : List ByteArray) (hl : RepSs w0 nv l) (hlz : szl l ≤ 1048576) (fv : Value) (by0 : V → Option V) (w : World) (hw : Below w0.heap.size w0 w)
    (TK : okT t = true → ∀ W : World, Below w.heap.size w W → Calls Tryd.prog 118 #[v, fv] W (ByRet (trn (byF by0) t) W)) (hsm : okT t = true → namesB l = true → ∀ u, trn (byF by0) t = some u → u.sz ≤ 1048576) :
    Calls Tryd.prog 79 #[v, nv, fv] w (VBRet w ((kyR by0 l t).getD t) (kyR by0 l t).isSome) := by
  have VO := Lib.hid (fun (W : World) (hW : Below w.heap.size w W) => ValueOk_impl w0 hE v t h hsz W (hw.trans (hW.mono hw.size)))
  have NO := Lib.hid (fun (W : World) (hW : Below w.heap.size w W) => NamesOk_impl w0 nv l hl hlz W (hw.trans (hW.mono hw.size)) hE)
  have OW := Lib.hid (fun (W : World) (hW : Below w.heap.size w W) => own_any w0 v t h hsz W (hw.trans (hW.mono hw.size)))
  have VU := Lib.hid (fun (u : V) (x : Value) (W W2 : World) (hu : okT t = true) (hn : namesB l = true) (e : trn (byF by0) t = some u) (hW : Below w.heap.size w W) (hr : Rep W x u) (hW2 : Below W.heap.size W W2) => ValueOk_impl W (Env.keep (Env.keep hE hw) hW) x u hr (hsm hu hn u e) W2 hW2)
  have HP := Lib.hid (show kyR by0 l t = none → ∀ e w', (∃ sl, e = .returned (.tuple #[t.agg sl, .bool false]) ∧ OwnS w' (fun x => w.heap.size ≤ x) sl t.kids ∧ Below w.heap.size w w') → VBRet w ((kyR by0 l t).getD t) (kyR by0 l t).isSome e w' from fun hn e w' ⟨sl, h1, h2, h3⟩ => by
    rw [hn]; obtain ⟨_, _, hwf, _⟩ := h; exact ⟨sl, h1, hwf, h2, h3⟩)
  have HS := Lib.hid (show ∀ u, kyR by0 l t = some u → u.wf → ∀ e w', (∃ sl, e = .returned (.tuple #[u.agg sl, .bool true]) ∧ OwnS w' (fun x => w.heap.size ≤ x) sl u.kids ∧ Below w.heap.size w w') → VBRet w ((kyR by0 l t).getD t) (kyR by0 l t).isSome e w' from fun u hn hwf e w' ⟨sl, h1, h2, h3⟩ => by
    rw [hn]; exact ⟨sl, h1, hwf, h2, h3⟩)
  have HK := Lib.hid (show kyR by0 l t = if okT t && namesB l then (trn (byF by0) t).filter (fun u => okT u) else none from rfl)
  have TK := Lib.hid TK
  obtain ⟨na, nn, nc, rfl⟩ : ∃ a n c, nv = .slice a n c := by obtain ⟨a, _, _, c, h, _⟩ := hl; exact ⟨a, _, c, h⟩
  obtain ⟨sl, rfl, hwf, hr⟩ := h
  obtain ⟨sa, sc, rfl⟩ := hr.slice
  have BX := Lib.hid (Box.new w t.k t.n t.e t.s (.slice sa t.kids.length sc) 30)
  clear hr hwf hE hl hlz hsz hsm
  unfold ValRet at OW
  unfold V.agg at *
  generalize kyR by0 l t = KR at *
  generalize hb : okT t = b at *
  clear hb
  generalize namesB l = nb at *
  generalize trn (byF by0) t = ou at *
  generalize t.k = k at *
  generalize t.n = n at *
  generalize t.e = e at *
  generalize t.s = s at *
  generalize t.kids = ts at *
  have BZ := Lib.hid (show Box ((w.alloc (.cells #[.int .i64 k, .int .i64 n, .int .i64 e, .string s, .slice sa ts.length sc] 30)).alloc (.cells #[.int .i64 0, .int .i64 0, .int .i64 0, .string ⟨#[]⟩, .slice none 0 0] 30)) (w.heap.size + 1) 0 0 0 ⟨#[]⟩ (.slice none 0 0) 30 by
    have := Box.new (w.alloc (.cells #[.int .i64 k, .int .i64 n, .int .i64 e, .string s, .slice sa ts.length sc] 30)) 0 0 0 ⟨#[]⟩ (.slice none 0 0) 30
    rwa [show (w.alloc (.cells #[.int .i64 k, .int .i64 n, .int .i64 e, .string s, .slice sa ts.length sc] 30)).heap.size = w.heap.size + 1 by simp] at this)
  cases b
  · have H := Lib.hid (HP.out (by rw [HK.out]; rfl))
    clear HP HS HK VU TK NO
    go_enter Tryd.func79, Tryd.ntmps79
    go_wp2_with fail
    refine (VO.out _ ((by (repeat' (first | with_reducible exact Below.refl _ _ | with_reducible refine below_alloc ?_ _ ?_ | with_reducible refine Below.setCell ?_ ?_ _ | with_reducible refine Below.drew ?_ | with_reducible refine below_drewN ?_ _ | with_reducible refine below_step ?_ (by assumption) ?_ | with_reducible refine below_mark ?_ (by assumption) ?_)); all_goals (first | omega | (simp; done) | (simp; omega))))).mono ?_
    rintro x w1 ⟨rfl, hb1⟩
    have hz1 := hb1.size
    simp at hz1
    obtain ⟨p0, p1, p2, p3, p4⟩ := ((BX.out.alloc _).stay hb1).cells
    go_wp2_with fail
    refine (OW.out _ ((by (repeat' (first | with_reducible exact Below.refl _ _ | with_reducible refine below_alloc ?_ _ ?_ | with_reducible refine Below.setCell ?_ ?_ _ | with_reducible refine Below.drew ?_ | with_reducible refine below_drewN ?_ _ | with_reducible refine below_step ?_ (by assumption) ?_ | with_reducible refine below_mark ?_ (by assumption) ?_)); all_goals (first | omega | (simp; done) | (simp; omega))))).mono ?_
    rintro x w9 ⟨s9, rfl, wf9, ho9, hb9⟩
    obtain ⟨oa, on, oc, rfl⟩ : ∃ sa sn sc, s9 = .slice sa sn sc := by obtain ⟨p, q, e⟩ := ho9.slice; exact ⟨p, _, q, e⟩
    have hz9 := hb9.size
    try simp at hz9
    have HO := Lib.hid (show OwnS w9 (fun x => w.heap.size + 1 + 1 ≤ x) (.slice oa on oc) ts from ho9.mono (fun x hx => Nat.le_trans (by first | omega | (simp; omega)) hx)); clear ho9
    have BZ9 := Lib.hid (BZ.out.stay (show Below ((w.alloc (.cells #[.int .i64 k, .int .i64 n, .int .i64 e, .string s, .slice sa ts.length sc] 30)).alloc (.cells #[.int .i64 0, .int .i64 0, .int .i64 0, .string ⟨#[]⟩, .slice none 0 0] 30)).heap.size ((w.alloc (.cells #[.int .i64 k, .int .i64 n, .int .i64 e, .string s, .slice sa ts.length sc] 30)).alloc (.cells #[.int .i64 0, .int .i64 0, .int .i64 0, .string ⟨#[]⟩, .slice none 0 0] 30)) w9 from (by (repeat' (first | with_reducible exact Below.refl _ _ | with_reducible refine below_alloc ?_ _ ?_ | with_reducible refine Below.setCell ?_ ?_ _ | with_reducible refine Below.drew ?_ | with_reducible refine below_drewN ?_ _ | with_reducible refine below_step ?_ (by assumption) ?_ | with_reducible refine below_mark ?_ (by assumption) ?_)); all_goals (first | omega | (simp; done) | (simp; omega)))))
    obtain ⟨z0, z1, z2, z3, z4⟩ := BZ9.out.cells
    have zf0 := BZ9.out.free (i := 0); have zf1 := BZ9.out.free (i := 1); have zf2 := BZ9.out.free (i := 2); have zf3 := BZ9.out.free (i := 3); have zf4 := BZ9.out.free (i := 4)
    go_wp2_with fail
    refine bodyPost_ret (v := .tuple #[.agg #[.int .i64 k, .int .i64 n, .int .i64 e, .string s, .slice oa on oc], .bool false]) (by simp [results, Tryd.results79, go_sem, z0, z1, z2, z3, z4]) rfl (H.out _ _ ⟨_, rfl, ?_, (by (repeat' (first | with_reducible exact Below.refl _ _ | with_reducible refine below_alloc ?_ _ ?_ | with_reducible refine Below.setCell ?_ ?_ _ | with_reducible refine Below.drew ?_ | with_reducible refine below_drewN ?_ _ | with_reducible refine below_step ?_ (by assumption) ?_ | with_reducible refine below_mark ?_ (by assumption) ?_)); all_goals (first | omega | (simp; done) | (simp; omega)))⟩)
    refine OwnS.mono (F := fun x => w.heap.size + 1 + 1 ≤ x) ?_ (fun x hx => by omega)
    repeat refine OwnS.set ?_ _ _ (by first | omega | (simp; done) | (simp; omega))
    exact HO.out
  · cases nb
    · have H := Lib.hid (HP.out (by rw [HK.out]; rfl))
      clear HP HS HK VU TK
      go_enter Tryd.func79, Tryd.ntmps79
      go_wp2_with fail
      refine (VO.out _ ((by (repeat' (first | with_reducible exact Below.refl _ _ | with_reducible refine below_alloc ?_ _ ?_ | with_reducible refine Below.setCell ?_ ?_ _ | with_reducible refine Below.drew ?_ | with_reducible refine below_drewN ?_ _ | with_reducible refine below_step ?_ (by assumption) ?_ | with_reducible refine below_mark ?_ (by assumption) ?_)); all_goals (first | omega | (simp; done) | (simp; omega))))).mono ?_
      rintro x w1 ⟨rfl, hb1⟩
      have hz1 := hb1.size
      simp at hz1
      go_wp2_with fail
      refine (NO.out _ ((by (repeat' (first | with_reducible exact Below.refl _ _ | with_reducible refine below_alloc ?_ _ ?_ | with_reducible refine Below.setCell ?_ ?_ _ | with_reducible refine Below.drew ?_ | with_reducible refine below_drewN ?_ _ | with_reducible refine below_step ?_ (by assumption) ?_ | with_reducible refine below_mark ?_ (by assumption) ?_)); all_goals (first | omega | (simp; done) | (simp; omega))))).mono ?_
      rintro x w2 ⟨rfl, hb2⟩
      have hz2 := hb2.size
      obtain ⟨p0, p1, p2, p3, p4⟩ := (((BX.out.alloc _).stay hb1).stay hb2).cells
      go_wp2_with fail
      refine (OW.out _ ((by (repeat' (first | with_reducible exact Below.refl _ _ | with_reducible refine below_alloc ?_ _ ?_ | with_reducible refine Below.setCell ?_ ?_ _ | with_reducible refine Below.drew ?_ | with_reducible refine below_drewN ?_ _ | with_reducible refine below_step ?_ (by assumption) ?_ | with_reducible refine below_mark ?_ (by assumption) ?_)); all_goals (first | omega | (simp; done) | (simp; omega))))).mono ?_
      rintro x w9 ⟨s9, rfl, wf9, ho9, hb9⟩
      obtain ⟨oa, on, oc, rfl⟩ : ∃ sa sn sc, s9 = .slice sa sn sc := by obtain ⟨p, q, e⟩ := ho9.slice; exact ⟨p, _, q, e⟩
      have hz9 := hb9.size
      try simp at hz9
      have HO := Lib.hid (show OwnS w9 (fun x => w.heap.size + 1 + 1 ≤ x) (.slice oa on oc) ts from ho9.mono (fun x hx => Nat.le_trans (by first | omega | (simp; omega)) hx)); clear ho9
      have BZ9 := Lib.hid (BZ.out.stay (show Below ((w.alloc (.cells #[.int .i64 k, .int .i64 n, .int .i64 e, .string s, .slice sa ts.length sc] 30)).alloc (.cells #[.int .i64 0, .int .i64 0, .int .i64 0, .string ⟨#[]⟩, .slice none 0 0] 30)).heap.size ((w.alloc (.cells #[.int .i64 k, .int .i64 n, .int .i64 e, .string s, .slice sa ts.length sc] 30)).alloc (.cells #[.int .i64 0, .int .i64 0, .int .i64 0, .string ⟨#[]⟩, .slice none 0 0] 30)) w9 from (by (repeat' (first | with_reducible exact Below.refl _ _ | with_reducible refine below_alloc ?_ _ ?_ | with_reducible refine Below.setCell ?_ ?_ _ | with_reducible refine Below.drew ?_ | with_reducible refine below_drewN ?_ _ | with_reducible refine below_step ?_ (by assumption) ?_ | with_reducible refine below_mark ?_ (by assumption) ?_)); all_goals (first | omega | (simp; done) | (simp; omega)))))
      obtain ⟨z0, z1, z2, z3, z4⟩ := BZ9.out.cells
      have zf0 := BZ9.out.free (i := 0); have zf1 := BZ9.out.free (i := 1); have zf2 := BZ9.out.free (i := 2); have zf3 := BZ9.out.free (i := 3); have zf4 := BZ9.out.free (i := 4)
      go_wp2_with fail
      refine bodyPost_ret (v := .tuple #[.agg #[.int .i64 k, .int .i64 n, .int .i64 e, .string s, .slice oa on oc], .bool false]) (by simp [results, Tryd.results79, go_sem, z0, z1, z2, z3, z4]) rfl (H.out _ _ ⟨_, rfl, ?_, (by (repeat' (first | with_reducible exact Below.refl _ _ | with_reducible refine below_alloc ?_ _ ?_ | with_reducible refine Below.setCell ?_ ?_ _ | with_reducible refine Below.drew ?_ | with_reducible refine below_drewN ?_ _ | with_reducible refine below_step ?_ (by assumption) ?_ | with_reducible refine below_mark ?_ (by assumption) ?_)); all_goals (first | omega | (simp; done) | (simp; omega)))⟩)
      refine OwnS.mono (F := fun x => w.heap.size + 1 + 1 ≤ x) ?_ (fun x hx => by omega)
      repeat refine OwnS.set ?_ _ _ (by first | omega | (simp; done) | (simp; omega))
      exact HO.out
    · go_enter Tryd.func79, Tryd.ntmps79
      go_wp2_with fail
      refine (VO.out _ ((by (repeat' (first | with_reducible exact Below.refl _ _ | with_reducible refine below_alloc ?_ _ ?_ | with_reducible refine Below.setCell ?_ ?_ _ | with_reducible refine Below.drew ?_ | with_reducible refine below_drewN ?_ _ | with_reducible refine below_step ?_ (by assumption) ?_ | with_reducible refine below_mark ?_ (by assumption) ?_)); all_goals (first | omega | (simp; done) | (simp; omega))))).mono ?_
      rintro x w1 ⟨rfl, hb1⟩
      have hz1 := hb1.size
      simp at hz1
      go_wp2_with fail
      refine (NO.out _ ((by (repeat' (first | with_reducible exact Below.refl _ _ | with_reducible refine below_alloc ?_ _ ?_ | with_reducible refine Below.setCell ?_ ?_ _ | with_reducible refine Below.drew ?_ | with_reducible refine below_drewN ?_ _ | with_reducible refine below_step ?_ (by assumption) ?_ | with_reducible refine below_mark ?_ (by assumption) ?_)); all_goals (first | omega | (simp; done) | (simp; omega))))).mono ?_
      rintro x w2 ⟨rfl, hb2⟩
      have hz2 := hb2.size
      have BX2 := Lib.hid (((BX.out.alloc (.cells #[.int .i64 0, .int .i64 0, .int .i64 0, .string ⟨#[]⟩, .slice none 0 0] 30)).stay hb1).stay hb2)
      obtain ⟨p0, p1, p2, p3, p4⟩ := BX2.out.cells
      go_wp2_with fail
      refine (TK.out (by trivial) _ ((by (repeat' (first | with_reducible exact Below.refl _ _ | with_reducible refine below_alloc ?_ _ ?_ | with_reducible refine Below.setCell ?_ ?_ _ | with_reducible refine Below.drew ?_ | with_reducible refine below_drewN ?_ _ | with_reducible refine below_step ?_ (by assumption) ?_ | with_reducible refine below_mark ?_ (by assumption) ?_)); all_goals (first | omega | (simp; done) | (simp; omega))))).mono ?_
      rintro x w3 hret
      cases hou : ou with
      | none =>
        have H := Lib.hid (HP.out (by rw [HK.out, hou]; rfl))
        rw [hou] at hret
        obtain ⟨t', ta, tn, tc, rfl, hb3⟩ := hret
        unfold V.agg
        have hz3 := hb3.size
        clear p0 p1 p2 p3 p4
        obtain ⟨p0, p1, p2, p3, p4⟩ := (BX2.out.stay hb3).cells
        have hn3 : w.heap.size ≠ w3.heap.size := by omega
        have hn4 : w3.heap.size ≠ w.heap.size := by omega
        have hn5 : w.heap.size < w3.heap.size := by omega
        clear HP HS HK VU TK VO NO hou
        go_wp2_with fail
        refine (OW.out _ ((by (repeat' (first | with_reducible exact Below.refl _ _ | with_reducible refine below_alloc ?_ _ ?_ | with_reducible refine Below.setCell ?_ ?_ _ | with_reducible refine Below.drew ?_ | with_reducible refine below_drewN ?_ _ | with_reducible refine below_step ?_ (by assumption) ?_ | with_reducible refine below_mark ?_ (by assumption) ?_)); all_goals (first | omega | (simp; done) | (simp; omega))))).mono ?_
        rintro x w9 ⟨s9, rfl, wf9, ho9, hb9⟩
        obtain ⟨oa, on, oc, rfl⟩ : ∃ sa sn sc, s9 = .slice sa sn sc := by obtain ⟨p, q, e⟩ := ho9.slice; exact ⟨p, _, q, e⟩
        have hz9 := hb9.size
        try simp at hz9
        have HO := Lib.hid (show OwnS w9 (fun x => w.heap.size + 1 + 1 ≤ x) (.slice oa on oc) ts from ho9.mono (fun x hx => Nat.le_trans (by first | omega | (simp; omega)) hx)); clear ho9
        have BZ9 := Lib.hid (BZ.out.stay (show Below ((w.alloc (.cells #[.int .i64 k, .int .i64 n, .int .i64 e, .string s, .slice sa ts.length sc] 30)).alloc (.cells #[.int .i64 0, .int .i64 0, .int .i64 0, .string ⟨#[]⟩, .slice none 0 0] 30)).heap.size ((w.alloc (.cells #[.int .i64 k, .int .i64 n, .int .i64 e, .string s, .slice sa ts.length sc] 30)).alloc (.cells #[.int .i64 0, .int .i64 0, .int .i64 0, .string ⟨#[]⟩, .slice none 0 0] 30)) w9 from (by (repeat' (first | with_reducible exact Below.refl _ _ | with_reducible refine below_alloc ?_ _ ?_ | with_reducible refine Below.setCell ?_ ?_ _ | with_reducible refine Below.drew ?_ | with_reducible refine below_drewN ?_ _ | with_reducible refine below_step ?_ (by assumption) ?_ | with_reducible refine below_mark ?_ (by assumption) ?_)); all_goals (first | omega | (simp; done) | (simp; omega)))))
        obtain ⟨z0, z1, z2, z3, z4⟩ := BZ9.out.cells
        have zf0 := BZ9.out.free (i := 0); have zf1 := BZ9.out.free (i := 1); have zf2 := BZ9.out.free (i := 2); have zf3 := BZ9.out.free (i := 3); have zf4 := BZ9.out.free (i := 4)
        go_wp2_with fail
        refine bodyPost_ret (v := .tuple #[.agg #[.int .i64 k, .int .i64 n, .int .i64 e, .string s, .slice oa on oc], .bool false]) (by simp [results, Tryd.results79, go_sem, z0, z1, z2, z3, z4]) rfl (H.out _ _ ⟨_, rfl, ?_, (by (repeat' (first | with_reducible exact Below.refl _ _ | with_reducible refine below_alloc ?_ _ ?_ | with_reducible refine Below.setCell ?_ ?_ _ | with_reducible refine Below.drew ?_ | with_reducible refine below_drewN ?_ _ | with_reducible refine below_step ?_ (by assumption) ?_ | with_reducible refine below_mark ?_ (by assumption) ?_)); all_goals (first | omega | (simp; done) | (simp; omega)))⟩)
        refine OwnS.mono (F := fun x => w.heap.size + 1 + 1 ≤ x) ?_ (fun x hx => by omega)
        repeat refine OwnS.set ?_ _ _ (by first | omega | (simp; done) | (simp; omega))
        exact HO.out
      | some u =>
        rw [hou] at hret
        obtain ⟨us, rfl, uwf, uo, hb3⟩ := hret
        obtain ⟨ua, un, uc, rfl⟩ : ∃ a n c, us = .slice a n c := by obtain ⟨p, q, e⟩ := uo.slice; exact ⟨p, _, q, e⟩
        have hz3 := hb3.size
        have HU := Lib.hid (show Rep w3 (u.agg (.slice ua un uc)) u from ⟨_, rfl, uwf, uo.rep⟩)
        have UO := Lib.hid uo.bound; clear uo
        have VUX := Lib.hid (fun (W2 : World) (hW2 : Below w3.heap.size w3 W2) => VU.out u _ w3 W2 (by trivial) (by trivial) hou ((by (repeat' (first | with_reducible exact Below.refl _ _ | with_reducible refine below_alloc ?_ _ ?_ | with_reducible refine Below.setCell ?_ ?_ _ | with_reducible refine Below.drew ?_ | with_reducible refine below_drewN ?_ _ | with_reducible refine below_step ?_ (by assumption) ?_ | with_reducible refine below_mark ?_ (by assumption) ?_)); all_goals (first | omega | (simp; done) | (simp; omega)))) HU.out hW2)
        clear p0 p1 p2 p3 p4
        obtain ⟨p0, p1, p2, p3, p4⟩ := (BX2.out.stay hb3).cells
        have hn3 : w.heap.size ≠ w3.heap.size := by omega
        have hn4 : w3.heap.size ≠ w.heap.size := by omega
        have hn5 : w.heap.size < w3.heap.size := by omega
        have BU := Lib.hid (Box.new w3 u.k u.n u.e u.s (.slice ua un uc) 30)
        have HSU := Lib.hid (fun h => HS.out u h uwf)
        unfold V.agg at *
        clear VU HU TK VO NO HS
        go_wp2_with fail
        refine (VUX.out _ ((by (repeat' (first | with_reducible exact Below.refl _ _ | with_reducible refine below_alloc ?_ _ ?_ | with_reducible refine Below.setCell ?_ ?_ _ | with_reducible refine Below.drew ?_ | with_reducible refine below_drewN ?_ _ | with_reducible refine below_step ?_ (by assumption) ?_ | with_reducible refine below_mark ?_ (by assumption) ?_)); all_goals (first | omega | (simp; done) | (simp; omega))))).mono ?_
        rintro x w4 ⟨rfl, hb4⟩
        have hz4 := hb4.size
        simp at hz4
        clear p0 p1 p2 p3 p4
        cases hok : okT u
        · have H := Lib.hid (HP.out (by rw [HK.out, hou]; simp [Option.filter, hok]))
          obtain ⟨p0, p1, p2, p3, p4⟩ := (((BX2.out.stay hb3).alloc _).stay hb4).cells
          clear HP HSU HK VUX hok hou
          go_wp2_with fail
          refine (OW.out _ ((by (repeat' (first | with_reducible exact Below.refl _ _ | with_reducible refine below_alloc ?_ _ ?_ | with_reducible refine Below.setCell ?_ ?_ _ | with_reducible refine Below.drew ?_ | with_reducible refine below_drewN ?_ _ | with_reducible refine below_step ?_ (by assumption) ?_ | with_reducible refine below_mark ?_ (by assumption) ?_)); all_goals (first | omega | (simp; done) | (simp; omega))))).mono ?_
          rintro x w9 ⟨s9, rfl, wf9, ho9, hb9⟩
          obtain ⟨oa, on, oc, rfl⟩ : ∃ sa sn sc, s9 = .slice sa sn sc := by obtain ⟨p, q, e⟩ := ho9.slice; exact ⟨p, _, q, e⟩
          have hz9 := hb9.size
          try simp at hz9
          have HO := Lib.hid (show OwnS w9 (fun x => w.heap.size + 1 + 1 ≤ x) (.slice oa on oc) ts from ho9.mono (fun x hx => Nat.le_trans (by first | omega | (simp; omega)) hx)); clear ho9
          have BZ9 := Lib.hid (BZ.out.stay (show Below ((w.alloc (.cells #[.int .i64 k, .int .i64 n, .int .i64 e, .string s, .slice sa ts.length sc] 30)).alloc (.cells #[.int .i64 0, .int .i64 0, .int .i64 0, .string ⟨#[]⟩, .slice none 0 0] 30)).heap.size ((w.alloc (.cells #[.int .i64 k, .int .i64 n, .int .i64 e, .string s, .slice sa ts.length sc] 30)).alloc (.cells #[.int .i64 0, .int .i64 0, .int .i64 0, .string ⟨#[]⟩, .slice none 0 0] 30)) w9 from (by (repeat' (first | with_reducible exact Below.refl _ _ | with_reducible refine below_alloc ?_ _ ?_ | with_reducible refine Below.setCell ?_ ?_ _ | with_reducible refine Below.drew ?_ | with_reducible refine below_drewN ?_ _ | with_reducible refine below_step ?_ (by assumption) ?_ | with_reducible refine below_mark ?_ (by assumption) ?_)); all_goals (first | omega | (simp; done) | (simp; omega)))))
          obtain ⟨z0, z1, z2, z3, z4⟩ := BZ9.out.cells
          have zf0 := BZ9.out.free (i := 0); have zf1 := BZ9.out.free (i := 1); have zf2 := BZ9.out.free (i := 2); have zf3 := BZ9.out.free (i := 3); have zf4 := BZ9.out.free (i := 4)
          go_wp2_with fail
          refine bodyPost_ret (v := .tuple #[.agg #[.int .i64 k, .int .i64 n, .int .i64 e, .string s, .slice oa on oc], .bool false]) (by simp [results, Tryd.results79, go_sem, z0, z1, z2, z3, z4]) rfl (H.out _ _ ⟨_, rfl, ?_, (by (repeat' (first | with_reducible exact Below.refl _ _ | with_reducible refine below_alloc ?_ _ ?_ | with_reducible refine Below.setCell ?_ ?_ _ | with_reducible refine Below.drew ?_ | with_reducible refine below_drewN ?_ _ | with_reducible refine below_step ?_ (by assumption) ?_ | with_reducible refine below_mark ?_ (by assumption) ?_)); all_goals (first | omega | (simp; done) | (simp; omega)))⟩)
          refine OwnS.mono (F := fun x => w.heap.size + 1 + 1 ≤ x) ?_ (fun x hx => by omega)
          repeat refine OwnS.set ?_ _ _ (by first | omega | (simp; done) | (simp; omega))
          exact HO.out
        · have H := Lib.hid (HSU.out (by rw [HK.out, hou]; simp [Option.filter, hok]))
          obtain ⟨p0, p1, p2, p3, p4⟩ := (BU.out.stay hb4).cells
          have BZ9 := Lib.hid (BZ.out.stay (show Below ((w.alloc (.cells #[.int .i64 k, .int .i64 n, .int .i64 e, .string s, .slice sa ts.length sc] 30)).alloc (.cells #[.int .i64 0, .int .i64 0, .int .i64 0, .string ⟨#[]⟩, .slice none 0 0] 30)).heap.size ((w.alloc (.cells #[.int .i64 k, .int .i64 n, .int .i64 e, .string s, .slice sa ts.length sc] 30)).alloc (.cells #[.int .i64 0, .int .i64 0, .int .i64 0, .string ⟨#[]⟩, .slice none 0 0] 30)) w4 from (by (repeat' (first | with_reducible exact Below.refl _ _ | with_reducible refine below_alloc ?_ _ ?_ | with_reducible refine Below.setCell ?_ ?_ _ | with_reducible refine Below.drew ?_ | with_reducible refine below_drewN ?_ _ | with_reducible refine below_step ?_ (by assumption) ?_ | with_reducible refine below_mark ?_ (by assumption) ?_)); all_goals (first | omega | (simp; done) | (simp; omega)))))
          obtain ⟨z0, z1, z2, z3, z4⟩ := BZ9.out.cells
          have zf0 := BZ9.out.free (i := 0); have zf1 := BZ9.out.free (i := 1); have zf2 := BZ9.out.free (i := 2); have zf3 := BZ9.out.free (i := 3); have zf4 := BZ9.out.free (i := 4)
          have HO := Lib.hid (show OwnS w4 (fun x => w.heap.size + 1 + 1 ≤ x) (.slice ua un uc) u.kids from (UO.out.keep (fun x hx hxs => (show Below w3.heap.size w3 w4 from (by (repeat' (first | with_reducible exact Below.refl _ _ | with_reducible refine below_alloc ?_ _ ?_ | with_reducible refine Below.setCell ?_ ?_ _ | with_reducible refine Below.drew ?_ | with_reducible refine below_drewN ?_ _ | with_reducible refine below_step ?_ (by assumption) ?_ | with_reducible refine below_mark ?_ (by assumption) ?_)); all_goals (first | omega | (simp; done) | (simp; omega)))).block x hxs)).mono (fun x hx => by have := hx.1; omega))
          clear HP HSU HK VUX hok hou
          go_wp2_with fail
          refine bodyPost_ret (v := .tuple #[.agg #[.int .i64 u.k, .int .i64 u.n, .int .i64 u.e, .string u.s, .slice ua un uc], .bool true]) (by simp [results, Tryd.results79, go_sem, z0, z1, z2, z3, z4]) rfl (H.out _ _ ⟨_, rfl, ?_, (by (repeat' (first | with_reducible exact Below.refl _ _ | with_reducible refine below_alloc ?_ _ ?_ | with_reducible refine Below.setCell ?_ ?_ _ | with_reducible refine Below.drew ?_ | with_reducible refine below_drewN ?_ _ | with_reducible refine below_step ?_ (by assumption) ?_ | with_reducible refine below_mark ?_ (by assumption) ?_)); all_goals (first | omega | (simp; done) | (simp; omega)))⟩)
          refine OwnS.mono (F := fun x => w.heap.size + 1 + 1 ≤ x) ?_ (fun x hx => by omega)
          repeat refine OwnS.set ?_ _ _ (by first | omega | (simp; done) | (simp; omega))
          exact HO.out
end Go.Proofs.YtllngpnhhpnjoaaDoor
namespace Go.Proofs.YtllngpnhhpnjoaaDoor
set_option linter.unusedVariables false
set_option maxRecDepth 100000
open Go.RowKit
theorem names_small {l : List ByteArray} (h : namesB l = true) : ∀ s ∈ l, s.size ≤ 100 := by
  simp only [namesB, Bool.and_eq_true] at h
  have key : ∀ k, k ≤ l.length → namesGo (l.take k) (l.drop k) = true := by
    intro k
    induction k with
    | zero => intro _; simpa using h.2
    | succ k ih =>
      intro hk
      have h1 := ih (by omega)
      rw [namesGo_step l k (by omega)] at h1
      simp only [Bool.and_eq_true] at h1
      exact h1.2
  intro s hs
  obtain ⟨k, hk, rfl⟩ := List.getElem_of_mem hs
  have h1 := key k (by omega)
  rw [namesGo_step l k hk] at h1
  simp only [Bool.and_eq_true, decide_eq_true_eq] at h1
  exact h1.1.1.1
theorem szs_small : ∀ us : List V, (∀ j (h : j < us.length), us[j].sz + 1 ≤ 2001 * us[j].nodes) → szs us ≤ 2001 * nodess us
  | [], _ => by simp [szs]
  | u :: us, h => by
    have h0 : u.sz + 1 ≤ 2001 * u.nodes := h 0 (by simp)
    have h1 := szs_small us (fun j hj => h (j + 1) (by simpa using hj))
    rw [szs, nodess]; omega
theorem un_small (l : List ByteArray) (hl : ∀ s ∈ l, s.size ≤ 100) : ∀ (N : Nat) (t u : V) (d : Int), t.nodes ≤ N → rightB t d = true → trn (unI l) t = some u → u.nodes = t.nodes ∧ u.sz + 1 ≤ 2001 * u.nodes := by
  intro N
  induction N with
  | zero => intro t u d h; rw [V.nodes_eq] at h; omega
  | succ N ih =>
    intro t u d hN hr hu
    have hk := right_kids hr
    rw [trn_eq] at hu
    cases hx : trns (unI l) (decide (t.k = 8)) 0 t.kids with
    | none => rw [hx] at hu; simp at hu
    | some us =>
      rw [hx] at hu
      simp only [Option.map_some, Option.some.injEq] at hu
      subst hu
      obtain ⟨hl2, hg⟩ := trns_get _ _ _ _ _ hx
      have el : ∀ j (hj : j < t.kids.length) (hj' : j < us.length), us[j].nodes = t.kids[j].nodes ∧ us[j].sz + 1 ≤ 2001 * us[j].nodes := by
        intro j hj hj'
        have h1 := hg j hj hj'
        rw [Nat.zero_add] at h1
        by_cases hb : (decide (t.k = 8) && decide (j % 2 = 0)) = true
        · have hb' := hb
          simp only [Bool.and_eq_true, decide_eq_true_eq] at hb'
          have hrj := rightsB_at hk j hj
          have hlf := key_leaf hrj (key_at hr hb'.1 j hj hb'.2)
          rw [hb] at h1
          simp only [unI, byUn, if_true] at h1
          split at h1
          · rw [← Option.some.inj h1]; exact ⟨rfl, right_small _ _ hrj⟩
          · unfold unkey at h1
            split at h1
            · rename_i hin
              rw [← Option.some.inj h1]
              have hix : t.kids[j].n.toNat < l.length := by omega
              have hs := hl _ (List.getElem_mem hix)
              have e9 : l.getD t.kids[j].n.toNat ⟨#[]⟩ = l[t.kids[j].n.toNat] := by rw [List.getD_eq_getElem?_getD, List.getElem?_eq_getElem hix]; rfl
              rw [e9]
              refine ⟨by rw [V.nodes_eq, V.nodes_eq, hlf]; rfl, ?_⟩
              rw [V.sz_eq, V.nodes_eq]
              show l[t.kids[j].n.toNat].size + 0 + 1 ≤ 2001 * (1 + 0)
              omega
            · simp at h1
        · rw [Bool.not_eq_true] at hb
          rw [hb] at h1
          simp only [unI, Bool.false_eq_true, if_false] at h1
          exact ih _ _ (d - 1) (by have := nodes_mem (List.getElem_mem hj); rw [V.nodes_eq] at hN; omega) (rightsB_at hk j hj) h1
      have hns := nodess_congr hl2 (fun j hj hj' => (el j hj' hj).1)
      have hss := szs_small us (fun j hj => (el j (by omega) hj).2)
      have hs := node_small (rightB_leaf hr).1
      refine ⟨?_, ?_⟩
      · rw [V.nodes_eq, V.nodes_eq]
        show 1 + nodess us = 1 + nodess t.kids
        rw [hns]
      · rw [V.nodes_eq, V.sz_eq]
        show t.s.size + szs us + 1 ≤ 2001 * (1 + nodess us)
        omega
theorem map_sz (l : List ByteArray) {t u : V} (h : okT t = true) (hu : trn (byF (byMap l)) t = some u) : u.sz ≤ 1048576 := by
  have := (ok_small (map_ok l h hu)).1; omega
theorem un_sz (l : List ByteArray) (hl : namesB l = true) {t u : V} (h : okT t = true) (hu : trn (byF (byUn l)) t = some u) : u.sz ≤ 1048576 := by
  have h2 := ok_small h
  simp only [okT, Bool.and_eq_true] at h
  have := un_small l (fun s hs => names_small hl s hs) _ t u 12 (Nat.le_refl _) h.1 hu
  omega
theorem kyR_sz (f : V → Option V) (l : List ByteArray) {t : V} (h : t.sz ≤ 1048576) : ((kyR f l t).getD t).sz ≤ 1048576 := by
  cases hk : kyR f l t with
  | none => exact h
  | some u =>
    unfold kyR at hk
    split at hk
    · rw [Option.filter_eq_some_iff] at hk
      have := (ok_small hk.2).1
      simp only [Option.getD_some]; omega
    · cases hk
def mkB (l : List ByteArray) (t : V) : Bool := okT t && namesB l && !whole t
theorem kyR_map (l : List ByteArray) (t : V) : kyR (byMap l) l t = if mkB l t then some (mapT l t) else none := by
  unfold kyR mkB
  by_cases h : (okT t && namesB l) = true
  · rw [if_pos h, h, Bool.true_and]
    have hok : okT t = true := by simp only [Bool.and_eq_true] at h; exact h.1
    have hr := hok
    simp only [okT, Bool.and_eq_true] at hr
    have hm := map_same l _ t 12 (Nat.le_refl _) hr.1
    have hm2 : trn (byF (byMap l)) t = if whole t then none else some (mapT l t) := hm
    rw [hm2]
    cases hw : whole t with
    | true => rfl
    | false =>
      have hu : trn (mapI l) t = some (mapT l t) := by rw [hm, hw]; rfl
      have := map_ok l hok hu
      simp [Option.filter, this]
  · rw [if_neg h, Bool.not_eq_true] at *
    rw [h]; rfl
theorem kyR_un (l : List ByteArray) (t : V) : kyR (byUn l) l t = if okT t && namesB l then (trn (unS l) t).filter (fun u => okT u) else none := by
  unfold kyR
  by_cases h : (okT t && namesB l) = true
  · rw [if_pos h, if_pos h]
    simp only [Bool.and_eq_true, okT] at h
    have : trn (byF (byUn l)) t = trn (unS l) t := un_same l h.1.1
    rw [this]
  · rw [if_neg h, if_neg h]
theorem enters_MapKeys1 : ∀ (args : Array Value) (w : World), (callFunc 80 args).run Tryd.prog w = .ok (.enter 80 args) w := by
  intro args w
  have h1 : (Tryd.f80.name == "runtime.NumGoroutine") = false := by kernel_rfl
  have h2 : Tryd.f80.body.isNone = false := by kernel_rfl
  have h1' : ¬ Tryd.f80.name = "runtime.NumGoroutine" := by simpa using h1
  have h2' : ¬ Tryd.f80.body = none := by intro e; rw [e] at h2; cases h2
  simp [callFunc, Tryd.func80, go_sem, h1', h2']
set_option maxHeartbeats 1000000 in
theorem MapKeys_impl (w0 : World) (v : Value) (t : V) (h : Rep w0 v t) (hsz : t.sz ≤ 1048576) (nv : Value) (l : List ByteArray) (hl : RepSs w0 nv l) (hlz : szl l ≤ 1048576) (w : World) (hw : Below w0.heap.size w0 w) (hE : Env w0) :
    Calls Tryd.prog 31 #[v, nv] w (VBRet w ((kyR (byMap l) l t).getD t) (kyR (byMap l) l t).isSome) := by
  have KY := Lib.hid (fun (c : Nat) (W : World) (hW : Below w.heap.size w W) (hc : NameAt W c nv) => keyed_any W (Env.keep (Env.keep hE hw) hW) v t ((h.keep hw).keep hW) hsz nv l ((hl.keep hw).keep hW) hlz (.func (.func 80) #[] #[.pointer (some ⟨c, 0, none⟩)]) (byMap l) W (Below.refl _ _)
    (fun hok W2 hW2 => turnKeys_any W 80 _ enters_MapKeys1 (byMap l) (fun t sl w hwf hk _ hr hw2 => MapKeys1_any W nv l ((hl.keep hw).keep hW) c hc t sl w hwf hk hr hw2) _ v t 12 (Nat.lt_succ_self _) (by simp only [okT, Bool.and_eq_true] at hok; exact hok.1) ((h.keep hw).keep hW) hsz W2 hW2)
    (fun hok _ u hu => map_sz l hok hu))
  have HP := Lib.hid (show ∀ W (hW : Below w.heap.size w W) e w', VBRet W ((kyR (byMap l) l t).getD t) (kyR (byMap l) l t).isSome e w' → ∃ sl, e = .returned (.tuple #[((kyR (byMap l) l t).getD t).agg sl, .bool (kyR (byMap l) l t).isSome]) ∧ ((kyR (byMap l) l t).getD t).wf ∧ OwnS w' (fun x => W.heap.size ≤ x) sl ((kyR (byMap l) l t).getD t).kids ∧ Below W.heap.size W w' from fun _ _ _ _ h => h)
  generalize (kyR (byMap l) l t).getD t = r at *
  generalize (kyR (byMap l) l t).isSome = b at *
  obtain ⟨sl, rfl, -, hr⟩ := h
  obtain ⟨sa, sc, rfl⟩ := hr.slice
  obtain ⟨na, nn, nc, rfl⟩ : ∃ a n c, nv = .slice a n c := by obtain ⟨a, _, _, c, h, _⟩ := hl; exact ⟨a, _, c, h⟩
  clear hr hl hE hsz hlz
  unfold V.agg at KY ⊢
  generalize t.k = k at *
  generalize t.n = n at *
  generalize t.e = e at *
  generalize t.s = s at *
  generalize t.kids.length = len at *
  go_enter Tryd.func31, Tryd.ntmps31
  go_wp2_with fail
  refine (KY.out (w.heap.size + 1) _ ((by (repeat' (first | with_reducible exact Below.refl _ _ | with_reducible refine below_alloc ?_ _ ?_ | with_reducible refine Below.setCell ?_ ?_ _ | with_reducible refine Below.drew ?_ | with_reducible refine below_drewN ?_ _ | with_reducible refine below_step ?_ (by assumption) ?_ | with_reducible refine below_mark ?_ (by assumption) ?_)); all_goals (first | omega | (simp; done) | (simp; omega)))) ?_).mono ?_
  · have := heap_alloc_new (w.alloc (.cells #[.int .i64 k, .int .i64 n, .int .i64 e, .string s, .slice sa len sc] 30)) (.cells #[.slice na nn nc] 40)
    unfold NameAt
    rw [heap_alloc_old _ _ (by simp)]
    rwa [show (w.alloc (.cells #[.int .i64 k, .int .i64 n, .int .i64 e, .string s, .slice sa len sc] 30)).heap.size = w.heap.size + 1 by simp] at this
  · rintro x w9 hret
    obtain ⟨s9, rfl, wf9, ho9, hb9⟩ := HP.out _ ((by (repeat' (first | with_reducible exact Below.refl _ _ | with_reducible refine below_alloc ?_ _ ?_ | with_reducible refine Below.setCell ?_ ?_ _ | with_reducible refine Below.drew ?_ | with_reducible refine below_drewN ?_ _ | with_reducible refine below_step ?_ (by assumption) ?_ | with_reducible refine below_mark ?_ (by assumption) ?_)); all_goals (first | omega | (simp; done) | (simp; omega)))) _ _ hret
    obtain ⟨oa, on, oc, rfl⟩ : ∃ sa sn sc, s9 = .slice sa sn sc := by obtain ⟨p, q, e⟩ := ho9.slice; exact ⟨p, _, q, e⟩
    clear hret
    unfold V.agg
    have hz9 := hb9.size
    simp at hz9
    obtain ⟨hc, hf⟩ := bcell hb9
    have HO := Lib.hid (show OwnS w9 (fun x => w.heap.size + 1 + 1 + 1 ≤ x) (.slice oa on oc) r.kids from ho9.mono (fun x hx => Nat.le_trans (by first | omega | (simp; done) | (simp; omega)) hx)); clear ho9
    go_wp2_with fail
    refine bodyPost_ret (v := .tuple #[.agg #[.int .i64 r.k, .int .i64 r.n, .int .i64 r.e, .string r.s, .slice oa on oc], .bool b]) (by simp [results, Tryd.results31, go_sem, hc, hz9]) rfl ⟨_, rfl, wf9, ?_, (by (repeat' (first | with_reducible exact Below.refl _ _ | with_reducible refine below_alloc ?_ _ ?_ | with_reducible refine Below.setCell ?_ ?_ _ | with_reducible refine Below.drew ?_ | with_reducible refine below_drewN ?_ _ | with_reducible refine below_step ?_ (by assumption) ?_ | with_reducible refine below_mark ?_ (by assumption) ?_)); all_goals (first | omega | (simp; done) | (simp; omega)))⟩
    refine OwnS.mono (F := fun x => w.heap.size + 1 + 1 + 1 ≤ x) ?_ (fun x hx => by omega)
    repeat refine OwnS.set ?_ _ _ (by first | omega | (simp; done) | (simp; omega))
    exact HO.out
end Go.Proofs.YtllngpnhhpnjoaaDoor
namespace Go.Proofs.YtllngpnhhpnjoaaDoor
set_option linter.unusedVariables false
set_option maxRecDepth 100000
open Go.RowKit
theorem enters_UnmapKeys1 : ∀ (args : Array Value) (w : World), (callFunc 83 args).run Tryd.prog w = .ok (.enter 83 args) w := by
  intro args w
  have h1 : (Tryd.f83.name == "runtime.NumGoroutine") = false := by kernel_rfl
  have h2 : Tryd.f83.body.isNone = false := by kernel_rfl
  have h1' : ¬ Tryd.f83.name = "runtime.NumGoroutine" := by simpa using h1
  have h2' : ¬ Tryd.f83.body = none := by intro e; rw [e] at h2; cases h2
  simp [callFunc, Tryd.func83, go_sem, h1', h2']
set_option maxHeartbeats 1000000 in
theorem UnmapKeys_impl (w0 : World) (v : Value) (t : V) (h : Rep w0 v t) (hsz : t.sz ≤ 1048576) (nv : Value) (l : List ByteArray) (hl : RepSs w0 nv l) (hlz : szl l ≤ 1048576) (w : World) (hw : Below w0.heap.size w0 w) (hE : Env w0) :
    Calls Tryd.prog 35 #[v, nv] w (VBRet w ((kyR (byUn l) l t).getD t) (kyR (byUn l) l t).isSome) := by
  have KY := Lib.hid (fun (c : Nat) (W : World) (hW : Below w.heap.size w W) (hc : NameAt W c nv) => keyed_any W (Env.keep (Env.keep hE hw) hW) v t ((h.keep hw).keep hW) hsz nv l ((hl.keep hw).keep hW) hlz (.func (.func 83) #[] #[.pointer (some ⟨c, 0, none⟩)]) (byUn l) W (Below.refl _ _)
    (fun hok W2 hW2 => turnKeys_any W 83 _ enters_UnmapKeys1 (byUn l) (fun t sl w hwf hk _ hr hw2 => UnmapKeys1_any W nv l ((hl.keep hw).keep hW) c hc t sl w hwf hk hr hw2) _ v t 12 (Nat.lt_succ_self _) (by simp only [okT, Bool.and_eq_true] at hok; exact hok.1) ((h.keep hw).keep hW) hsz W2 hW2)
    (fun hok hn u hu => un_sz l hn hok hu))
  have HP := Lib.hid (show ∀ W (hW : Below w.heap.size w W) e w', VBRet W ((kyR (byUn l) l t).getD t) (kyR (byUn l) l t).isSome e w' → ∃ sl, e = .returned (.tuple #[((kyR (byUn l) l t).getD t).agg sl, .bool (kyR (byUn l) l t).isSome]) ∧ ((kyR (byUn l) l t).getD t).wf ∧ OwnS w' (fun x => W.heap.size ≤ x) sl ((kyR (byUn l) l t).getD t).kids ∧ Below W.heap.size W w' from fun _ _ _ _ h => h)
  generalize (kyR (byUn l) l t).getD t = r at *
  generalize (kyR (byUn l) l t).isSome = b at *
  obtain ⟨sl, rfl, -, hr⟩ := h
  obtain ⟨sa, sc, rfl⟩ := hr.slice
  obtain ⟨na, nn, nc, rfl⟩ : ∃ a n c, nv = .slice a n c := by obtain ⟨a, _, _, c, h, _⟩ := hl; exact ⟨a, _, c, h⟩
  clear hr hl hE hsz hlz
  unfold V.agg at KY ⊢
  generalize t.k = k at *
  generalize t.n = n at *
  generalize t.e = e at *
  generalize t.s = s at *
  generalize t.kids.length = len at *
  go_enter Tryd.func35, Tryd.ntmps35
  go_wp2_with fail
  refine (KY.out (w.heap.size + 1) _ ((by (repeat' (first | with_reducible exact Below.refl _ _ | with_reducible refine below_alloc ?_ _ ?_ | with_reducible refine Below.setCell ?_ ?_ _ | with_reducible refine Below.drew ?_ | with_reducible refine below_drewN ?_ _ | with_reducible refine below_step ?_ (by assumption) ?_ | with_reducible refine below_mark ?_ (by assumption) ?_)); all_goals (first | omega | (simp; done) | (simp; omega)))) ?_).mono ?_
  · have := heap_alloc_new (w.alloc (.cells #[.int .i64 k, .int .i64 n, .int .i64 e, .string s, .slice sa len sc] 30)) (.cells #[.slice na nn nc] 40)
    unfold NameAt
    rw [heap_alloc_old _ _ (by simp)]
    rwa [show (w.alloc (.cells #[.int .i64 k, .int .i64 n, .int .i64 e, .string s, .slice sa len sc] 30)).heap.size = w.heap.size + 1 by simp] at this
  · rintro x w9 hret
    obtain ⟨s9, rfl, wf9, ho9, hb9⟩ := HP.out _ ((by (repeat' (first | with_reducible exact Below.refl _ _ | with_reducible refine below_alloc ?_ _ ?_ | with_reducible refine Below.setCell ?_ ?_ _ | with_reducible refine Below.drew ?_ | with_reducible refine below_drewN ?_ _ | with_reducible refine below_step ?_ (by assumption) ?_ | with_reducible refine below_mark ?_ (by assumption) ?_)); all_goals (first | omega | (simp; done) | (simp; omega)))) _ _ hret
    obtain ⟨oa, on, oc, rfl⟩ : ∃ sa sn sc, s9 = .slice sa sn sc := by obtain ⟨p, q, e⟩ := ho9.slice; exact ⟨p, _, q, e⟩
    clear hret
    unfold V.agg
    have hz9 := hb9.size
    simp at hz9
    obtain ⟨hc, hf⟩ := bcell hb9
    have HO := Lib.hid (show OwnS w9 (fun x => w.heap.size + 1 + 1 + 1 ≤ x) (.slice oa on oc) r.kids from ho9.mono (fun x hx => Nat.le_trans (by first | omega | (simp; done) | (simp; omega)) hx)); clear ho9
    go_wp2_with fail
    refine bodyPost_ret (v := .tuple #[.agg #[.int .i64 r.k, .int .i64 r.n, .int .i64 r.e, .string r.s, .slice oa on oc], .bool b]) (by simp [results, Tryd.results35, go_sem, hc, hz9]) rfl ⟨_, rfl, wf9, ?_, (by (repeat' (first | with_reducible exact Below.refl _ _ | with_reducible refine below_alloc ?_ _ ?_ | with_reducible refine Below.setCell ?_ ?_ _ | with_reducible refine Below.drew ?_ | with_reducible refine below_drewN ?_ _ | with_reducible refine below_step ?_ (by assumption) ?_ | with_reducible refine below_mark ?_ (by assumption) ?_)); all_goals (first | omega | (simp; done) | (simp; omega)))⟩
    refine OwnS.mono (F := fun x => w.heap.size + 1 + 1 + 1 ≤ x) ?_ (fun x hx => by omega)
    repeat refine OwnS.set ?_ _ _ (by first | omega | (simp; done) | (simp; omega))
    exact HO.out
set_option maxHeartbeats 2000000 in
theorem MapKeys_spec (w0 : World) (v : Value) (t : V) (h : Rep w0 v t) (hsz : t.sz ≤ 1048576) (nv : Value) (l : List ByteArray) (hl : RepSs w0 nv l) (hlz : szl l ≤ 1048576) (w : World) (hw : Below w0.heap.size w0 w) :
    Calls Tryd.prog 29 #[v, nv] w (VBRet w ((kyR (byMap l) l t).getD t) (kyR (byMap l) l t).isSome) := by
  have VO := Lib.hid (fun (W : World) (hW : Below w.heap.size w W) => ValueOk_spec w0 v t h hsz W (hw.trans (hW.mono hw.size)))
  have NO := Lib.hid (fun (W : World) (hW : Below w.heap.size w W) => NamesOk_spec w0 nv l hl hlz W (hw.trans (hW.mono hw.size)))
  have OW := Lib.hid (fun (W : World) (hW : Below w.heap.size w W) => copy_any w0 v t h hsz W (hw.trans (hW.mono hw.size)))
  have WH := Lib.hid (fun (W : World) (hW : Below w.heap.size w W) => l11Whole_any w0 _ v t (Nat.lt_succ_self _) h hsz W (hw.trans (hW.mono hw.size)))
  have LM := Lib.hid (fun (W : World) (hW : Below w.heap.size w W) => l11Map_any w0 nv l hl _ v t (Nat.lt_succ_self _) h hsz W (hw.trans (hW.mono hw.size)))
  have HP := Lib.hid (show mkB l t = false → ∀ e w', (∃ sl, e = .returned (.tuple #[t.agg sl, .bool false]) ∧ OwnS w' (fun x => w.heap.size ≤ x) sl t.kids ∧ Below w.heap.size w w') → VBRet w ((kyR (byMap l) l t).getD t) (kyR (byMap l) l t).isSome e w' from fun hn e w' ⟨sl, h1, h2, h3⟩ => by
    rw [kyR_map, hn]; obtain ⟨_, _, hwf, _⟩ := h; exact ⟨sl, h1, hwf, h2, h3⟩)
  have HS := Lib.hid (show mkB l t = true → (mapT l t).wf → ∀ e w', (∃ sl, e = .returned (.tuple #[(mapT l t).agg sl, .bool true]) ∧ OwnS w' (fun x => w.heap.size ≤ x) sl (mapT l t).kids ∧ Below w.heap.size w w') → VBRet w ((kyR (byMap l) l t).getD t) (kyR (byMap l) l t).isSome e w' from fun hn hwf e w' ⟨sl, h1, h2, h3⟩ => by
    rw [kyR_map, hn]; exact ⟨sl, h1, hwf, h2, h3⟩)
  have HK := Lib.hid (show mkB l t = (okT t && namesB l && !whole t) from rfl)
  obtain ⟨na, nn, nc, rfl⟩ : ∃ a n c, nv = .slice a n c := by obtain ⟨a, _, _, c, h, _⟩ := hl; exact ⟨a, _, c, h⟩
  obtain ⟨sl, rfl, hwf, hr⟩ := h
  obtain ⟨sa, sc, rfl⟩ := hr.slice
  clear hr hwf hl hlz hsz
  unfold ValRet at OW LM
  unfold V.agg at *
  generalize kyR (byMap l) l t = KR at *
  generalize mkB l t = mb at *
  generalize mapT l t = u at *
  generalize okT t = b at *
  generalize namesB l = nb at *
  generalize whole t = wb at *
  generalize t.k = k at *
  generalize t.n = n at *
  generalize t.e = e at *
  generalize t.s = s at *
  generalize t.kids = ts at *
  have BX := Lib.hid (show Box ((w.alloc (.cells #[.int .i64 k, .int .i64 n, .int .i64 e, .string s, .slice sa ts.length sc] 30)).alloc (.cells #[.int .i64 0, .int .i64 0, .int .i64 0, .string ⟨#[]⟩, .slice none 0 0] 30)) w.heap.size k n e s (.slice sa ts.length sc) 30 from (Box.new w _ _ _ _ _ _).alloc _)
  have BZ := Lib.hid (show Box ((w.alloc (.cells #[.int .i64 k, .int .i64 n, .int .i64 e, .string s, .slice sa ts.length sc] 30)).alloc (.cells #[.int .i64 0, .int .i64 0, .int .i64 0, .string ⟨#[]⟩, .slice none 0 0] 30)) (w.heap.size + 1) 0 0 0 ⟨#[]⟩ (.slice none 0 0) 30 by
    have := Box.new (w.alloc (.cells #[.int .i64 k, .int .i64 n, .int .i64 e, .string s, .slice sa ts.length sc] 30)) 0 0 0 ⟨#[]⟩ (.slice none 0 0) 30
    rwa [show (w.alloc (.cells #[.int .i64 k, .int .i64 n, .int .i64 e, .string s, .slice sa ts.length sc] 30)).heap.size = w.heap.size + 1 by simp] at this)
  cases b
  · have H := Lib.hid (HP.out (by rw [HK.out]; rfl))
    clear HP HS HK LM WH NO
    go_enter Tryd.func29, Tryd.ntmps29
    go_wp2_with fail
    refine (VO.out _ ((by (repeat' (first | with_reducible exact Below.refl _ _ | with_reducible refine below_alloc ?_ _ ?_ | with_reducible refine Below.setCell ?_ ?_ _ | with_reducible refine Below.drew ?_ | with_reducible refine below_drewN ?_ _ | with_reducible refine below_step ?_ (by assumption) ?_ | with_reducible refine below_mark ?_ (by assumption) ?_)); all_goals (first | omega | (simp; done) | (simp; omega))))).mono ?_
    rintro x w1 ⟨rfl, hb1⟩
    have hz1 := hb1.size
    try simp at hz1
    obtain ⟨p0, p1, p2, p3, p4⟩ := (BX.out.stay hb1).cells
    go_wp2_with fail
    refine (OW.out _ ((by (repeat' (first | with_reducible exact Below.refl _ _ | with_reducible refine below_alloc ?_ _ ?_ | with_reducible refine Below.setCell ?_ ?_ _ | with_reducible refine Below.drew ?_ | with_reducible refine below_drewN ?_ _ | with_reducible refine below_step ?_ (by assumption) ?_ | with_reducible refine below_mark ?_ (by assumption) ?_)); all_goals (first | omega | (simp; done) | (simp; omega))))).mono ?_
    rintro x w9 ⟨s9, rfl, wf9, ho9, hb9⟩
    obtain ⟨oa, on, oc, rfl⟩ : ∃ sa sn sc, s9 = .slice sa sn sc := by obtain ⟨p, q, e⟩ := ho9.slice; exact ⟨p, _, q, e⟩
    have hz9 := hb9.size
    try simp at hz9
    have HO := Lib.hid (show OwnS w9 (fun x => w.heap.size + 1 + 1 ≤ x) (.slice oa on oc) ts from ho9.mono (fun x hx => Nat.le_trans (by first | omega | (simp; omega)) hx)); clear ho9
    have BZ9 := Lib.hid (BZ.out.stay (show Below ((w.alloc (.cells #[.int .i64 k, .int .i64 n, .int .i64 e, .string s, .slice sa ts.length sc] 30)).alloc (.cells #[.int .i64 0, .int .i64 0, .int .i64 0, .string ⟨#[]⟩, .slice none 0 0] 30)).heap.size ((w.alloc (.cells #[.int .i64 k, .int .i64 n, .int .i64 e, .string s, .slice sa ts.length sc] 30)).alloc (.cells #[.int .i64 0, .int .i64 0, .int .i64 0, .string ⟨#[]⟩, .slice none 0 0] 30)) w9 from (by (repeat' (first | with_reducible exact Below.refl _ _ | with_reducible refine below_alloc ?_ _ ?_ | with_reducible refine Below.setCell ?_ ?_ _ | with_reducible refine Below.drew ?_ | with_reducible refine below_drewN ?_ _ | with_reducible refine below_step ?_ (by assumption) ?_ | with_reducible refine below_mark ?_ (by assumption) ?_)); all_goals (first | omega | (simp; done) | (simp; omega)))))
    obtain ⟨z0, z1, z2, z3, z4⟩ := BZ9.out.cells
    have zf0 := BZ9.out.free (i := 0); have zf1 := BZ9.out.free (i := 1); have zf2 := BZ9.out.free (i := 2); have zf3 := BZ9.out.free (i := 3); have zf4 := BZ9.out.free (i := 4)
    try unfold V.agg
    go_wp2_with fail
    refine bodyPost_ret (v := .tuple #[.agg #[.int .i64 k, .int .i64 n, .int .i64 e, .string s, .slice oa on oc], .bool false]) (by simp [results, Tryd.results29, go_sem, z0, z1, z2, z3, z4]) rfl (H.out _ _ ⟨_, rfl, ?_, (by (repeat' (first | with_reducible exact Below.refl _ _ | with_reducible refine below_alloc ?_ _ ?_ | with_reducible refine Below.setCell ?_ ?_ _ | with_reducible refine Below.drew ?_ | with_reducible refine below_drewN ?_ _ | with_reducible refine below_step ?_ (by assumption) ?_ | with_reducible refine below_mark ?_ (by assumption) ?_)); all_goals (first | omega | (simp; done) | (simp; omega)))⟩)
    refine OwnS.mono (F := fun x => w.heap.size + 1 + 1 ≤ x) ?_ (fun x hx => by omega)
    repeat refine OwnS.set ?_ _ _ (by first | omega | (simp; done) | (simp; omega))
    exact HO.out
  · cases nb
    · have H := Lib.hid (HP.out (by rw [HK.out]; rfl))
      clear HP HS HK LM WH
      go_enter Tryd.func29, Tryd.ntmps29
      go_wp2_with fail
      refine (VO.out _ ((by (repeat' (first | with_reducible exact Below.refl _ _ | with_reducible refine below_alloc ?_ _ ?_ | with_reducible refine Below.setCell ?_ ?_ _ | with_reducible refine Below.drew ?_ | with_reducible refine below_drewN ?_ _ | with_reducible refine below_step ?_ (by assumption) ?_ | with_reducible refine below_mark ?_ (by assumption) ?_)); all_goals (first | omega | (simp; done) | (simp; omega))))).mono ?_
      rintro x w1 ⟨rfl, hb1⟩
      have hz1 := hb1.size
      try simp at hz1
      obtain ⟨p0, p1, p2, p3, p4⟩ := (BX.out.stay hb1).cells
      go_wp2_with fail
      refine (NO.out _ ((by (repeat' (first | with_reducible exact Below.refl _ _ | with_reducible refine below_alloc ?_ _ ?_ | with_reducible refine Below.setCell ?_ ?_ _ | with_reducible refine Below.drew ?_ | with_reducible refine below_drewN ?_ _ | with_reducible refine below_step ?_ (by assumption) ?_ | with_reducible refine below_mark ?_ (by assumption) ?_)); all_goals (first | omega | (simp; done) | (simp; omega))))).mono ?_
      rintro x w2 ⟨rfl, hb2⟩
      have hz2 := hb2.size
      try simp at hz2
      clear p0 p1 p2 p3 p4
      obtain ⟨p0, p1, p2, p3, p4⟩ := ((BX.out.stay hb1).stay hb2).cells
      go_wp2_with fail
      refine (OW.out _ ((by (repeat' (first | with_reducible exact Below.refl _ _ | with_reducible refine below_alloc ?_ _ ?_ | with_reducible refine Below.setCell ?_ ?_ _ | with_reducible refine Below.drew ?_ | with_reducible refine below_drewN ?_ _ | with_reducible refine below_step ?_ (by assumption) ?_ | with_reducible refine below_mark ?_ (by assumption) ?_)); all_goals (first | omega | (simp; done) | (simp; omega))))).mono ?_
      rintro x w9 ⟨s9, rfl, wf9, ho9, hb9⟩
      obtain ⟨oa, on, oc, rfl⟩ : ∃ sa sn sc, s9 = .slice sa sn sc := by obtain ⟨p, q, e⟩ := ho9.slice; exact ⟨p, _, q, e⟩
      have hz9 := hb9.size
      try simp at hz9
      have HO := Lib.hid (show OwnS w9 (fun x => w.heap.size + 1 + 1 ≤ x) (.slice oa on oc) ts from ho9.mono (fun x hx => Nat.le_trans (by first | omega | (simp; omega)) hx)); clear ho9
      have BZ9 := Lib.hid (BZ.out.stay (show Below ((w.alloc (.cells #[.int .i64 k, .int .i64 n, .int .i64 e, .string s, .slice sa ts.length sc] 30)).alloc (.cells #[.int .i64 0, .int .i64 0, .int .i64 0, .string ⟨#[]⟩, .slice none 0 0] 30)).heap.size ((w.alloc (.cells #[.int .i64 k, .int .i64 n, .int .i64 e, .string s, .slice sa ts.length sc] 30)).alloc (.cells #[.int .i64 0, .int .i64 0, .int .i64 0, .string ⟨#[]⟩, .slice none 0 0] 30)) w9 from (by (repeat' (first | with_reducible exact Below.refl _ _ | with_reducible refine below_alloc ?_ _ ?_ | with_reducible refine Below.setCell ?_ ?_ _ | with_reducible refine Below.drew ?_ | with_reducible refine below_drewN ?_ _ | with_reducible refine below_step ?_ (by assumption) ?_ | with_reducible refine below_mark ?_ (by assumption) ?_)); all_goals (first | omega | (simp; done) | (simp; omega)))))
      obtain ⟨z0, z1, z2, z3, z4⟩ := BZ9.out.cells
      have zf0 := BZ9.out.free (i := 0); have zf1 := BZ9.out.free (i := 1); have zf2 := BZ9.out.free (i := 2); have zf3 := BZ9.out.free (i := 3); have zf4 := BZ9.out.free (i := 4)
      try unfold V.agg
      go_wp2_with fail
      refine bodyPost_ret (v := .tuple #[.agg #[.int .i64 k, .int .i64 n, .int .i64 e, .string s, .slice oa on oc], .bool false]) (by simp [results, Tryd.results29, go_sem, z0, z1, z2, z3, z4]) rfl (H.out _ _ ⟨_, rfl, ?_, (by (repeat' (first | with_reducible exact Below.refl _ _ | with_reducible refine below_alloc ?_ _ ?_ | with_reducible refine Below.setCell ?_ ?_ _ | with_reducible refine Below.drew ?_ | with_reducible refine below_drewN ?_ _ | with_reducible refine below_step ?_ (by assumption) ?_ | with_reducible refine below_mark ?_ (by assumption) ?_)); all_goals (first | omega | (simp; done) | (simp; omega)))⟩)
      refine OwnS.mono (F := fun x => w.heap.size + 1 + 1 ≤ x) ?_ (fun x hx => by omega)
      repeat refine OwnS.set ?_ _ _ (by first | omega | (simp; done) | (simp; omega))
      exact HO.out
    · cases wb
      · have HSU := Lib.hid (HS.out (by rw [HK.out]; rfl))
        clear HP HS HK OW
        go_enter Tryd.func29, Tryd.ntmps29
        go_wp2_with fail
        refine (VO.out _ ((by (repeat' (first | with_reducible exact Below.refl _ _ | with_reducible refine below_alloc ?_ _ ?_ | with_reducible refine Below.setCell ?_ ?_ _ | with_reducible refine Below.drew ?_ | with_reducible refine below_drewN ?_ _ | with_reducible refine below_step ?_ (by assumption) ?_ | with_reducible refine below_mark ?_ (by assumption) ?_)); all_goals (first | omega | (simp; done) | (simp; omega))))).mono ?_
        rintro x w1 ⟨rfl, hb1⟩
        have hz1 := hb1.size
        try simp at hz1
        obtain ⟨p0, p1, p2, p3, p4⟩ := (BX.out.stay hb1).cells
        go_wp2_with fail
        refine (NO.out _ ((by (repeat' (first | with_reducible exact Below.refl _ _ | with_reducible refine below_alloc ?_ _ ?_ | with_reducible refine Below.setCell ?_ ?_ _ | with_reducible refine Below.drew ?_ | with_reducible refine below_drewN ?_ _ | with_reducible refine below_step ?_ (by assumption) ?_ | with_reducible refine below_mark ?_ (by assumption) ?_)); all_goals (first | omega | (simp; done) | (simp; omega))))).mono ?_
        rintro x w2 ⟨rfl, hb2⟩
        have hz2 := hb2.size
        try simp at hz2
        clear p0 p1 p2 p3 p4
        obtain ⟨p0, p1, p2, p3, p4⟩ := ((BX.out.stay hb1).stay hb2).cells
        go_wp2_with fail
        refine (WH.out _ ((by (repeat' (first | with_reducible exact Below.refl _ _ | with_reducible refine below_alloc ?_ _ ?_ | with_reducible refine Below.setCell ?_ ?_ _ | with_reducible refine Below.drew ?_ | with_reducible refine below_drewN ?_ _ | with_reducible refine below_step ?_ (by assumption) ?_ | with_reducible refine below_mark ?_ (by assumption) ?_)); all_goals (first | omega | (simp; done) | (simp; omega))))).mono ?_
        rintro x w3 ⟨rfl, hb3⟩
        have hz3 := hb3.size
        try simp at hz3
        clear p0 p1 p2 p3 p4
        obtain ⟨p0, p1, p2, p3, p4⟩ := (((BX.out.stay hb1).stay hb2).stay hb3).cells
        go_wp2_with fail
        refine (LM.out _ ((by (repeat' (first | with_reducible exact Below.refl _ _ | with_reducible refine below_alloc ?_ _ ?_ | with_reducible refine Below.setCell ?_ ?_ _ | with_reducible refine Below.drew ?_ | with_reducible refine below_drewN ?_ _ | with_reducible refine below_step ?_ (by assumption) ?_ | with_reducible refine below_mark ?_ (by assumption) ?_)); all_goals (first | omega | (simp; done) | (simp; omega))))).mono ?_
        rintro x w9 ⟨s9, rfl, wf9, ho9, hb9⟩
        obtain ⟨oa, on, oc, rfl⟩ : ∃ sa sn sc, s9 = .slice sa sn sc := by obtain ⟨p, q, e⟩ := ho9.slice; exact ⟨p, _, q, e⟩
        have hz9 := hb9.size
        try simp at hz9
        have HO := Lib.hid (show OwnS w9 (fun x => w.heap.size + 1 + 1 ≤ x) (.slice oa on oc) u.kids from ho9.mono (fun x hx => Nat.le_trans (by first | omega | (simp; omega)) hx)); clear ho9
        have BZ9 := Lib.hid (BZ.out.stay (show Below ((w.alloc (.cells #[.int .i64 k, .int .i64 n, .int .i64 e, .string s, .slice sa ts.length sc] 30)).alloc (.cells #[.int .i64 0, .int .i64 0, .int .i64 0, .string ⟨#[]⟩, .slice none 0 0] 30)).heap.size ((w.alloc (.cells #[.int .i64 k, .int .i64 n, .int .i64 e, .string s, .slice sa ts.length sc] 30)).alloc (.cells #[.int .i64 0, .int .i64 0, .int .i64 0, .string ⟨#[]⟩, .slice none 0 0] 30)) w9 from (by (repeat' (first | with_reducible exact Below.refl _ _ | with_reducible refine below_alloc ?_ _ ?_ | with_reducible refine Below.setCell ?_ ?_ _ | with_reducible refine Below.drew ?_ | with_reducible refine below_drewN ?_ _ | with_reducible refine below_step ?_ (by assumption) ?_ | with_reducible refine below_mark ?_ (by assumption) ?_)); all_goals (first | omega | (simp; done) | (simp; omega)))))
        obtain ⟨z0, z1, z2, z3, z4⟩ := BZ9.out.cells
        have zf0 := BZ9.out.free (i := 0); have zf1 := BZ9.out.free (i := 1); have zf2 := BZ9.out.free (i := 2); have zf3 := BZ9.out.free (i := 3); have zf4 := BZ9.out.free (i := 4)
        try unfold V.agg
        go_wp2_with fail
        refine bodyPost_ret (v := .tuple #[.agg #[.int .i64 u.k, .int .i64 u.n, .int .i64 u.e, .string u.s, .slice oa on oc], .bool true]) (by simp [results, Tryd.results29, go_sem, z0, z1, z2, z3, z4]) rfl (HSU.out wf9 _ _ ⟨_, rfl, ?_, (by (repeat' (first | with_reducible exact Below.refl _ _ | with_reducible refine below_alloc ?_ _ ?_ | with_reducible refine Below.setCell ?_ ?_ _ | with_reducible refine Below.drew ?_ | with_reducible refine below_drewN ?_ _ | with_reducible refine below_step ?_ (by assumption) ?_ | with_reducible refine below_mark ?_ (by assumption) ?_)); all_goals (first | omega | (simp; done) | (simp; omega)))⟩)
        refine OwnS.mono (F := fun x => w.heap.size + 1 + 1 ≤ x) ?_ (fun x hx => by omega)
        repeat refine OwnS.set ?_ _ _ (by first | omega | (simp; done) | (simp; omega))
        exact HO.out
      · have H := Lib.hid (HP.out (by rw [HK.out]; rfl))
        clear HP HS HK LM
        go_enter Tryd.func29, Tryd.ntmps29
        go_wp2_with fail
        refine (VO.out _ ((by (repeat' (first | with_reducible exact Below.refl _ _ | with_reducible refine below_alloc ?_ _ ?_ | with_reducible refine Below.setCell ?_ ?_ _ | with_reducible refine Below.drew ?_ | with_reducible refine below_drewN ?_ _ | with_reducible refine below_step ?_ (by assumption) ?_ | with_reducible refine below_mark ?_ (by assumption) ?_)); all_goals (first | omega | (simp; done) | (simp; omega))))).mono ?_
        rintro x w1 ⟨rfl, hb1⟩
        have hz1 := hb1.size
        try simp at hz1
        obtain ⟨p0, p1, p2, p3, p4⟩ := (BX.out.stay hb1).cells
        go_wp2_with fail
        refine (NO.out _ ((by (repeat' (first | with_reducible exact Below.refl _ _ | with_reducible refine below_alloc ?_ _ ?_ | with_reducible refine Below.setCell ?_ ?_ _ | with_reducible refine Below.drew ?_ | with_reducible refine below_drewN ?_ _ | with_reducible refine below_step ?_ (by assumption) ?_ | with_reducible refine below_mark ?_ (by assumption) ?_)); all_goals (first | omega | (simp; done) | (simp; omega))))).mono ?_
        rintro x w2 ⟨rfl, hb2⟩
        have hz2 := hb2.size
        try simp at hz2
        clear p0 p1 p2 p3 p4
        obtain ⟨p0, p1, p2, p3, p4⟩ := ((BX.out.stay hb1).stay hb2).cells
        go_wp2_with fail
        refine (WH.out _ ((by (repeat' (first | with_reducible exact Below.refl _ _ | with_reducible refine below_alloc ?_ _ ?_ | with_reducible refine Below.setCell ?_ ?_ _ | with_reducible refine Below.drew ?_ | with_reducible refine below_drewN ?_ _ | with_reducible refine below_step ?_ (by assumption) ?_ | with_reducible refine below_mark ?_ (by assumption) ?_)); all_goals (first | omega | (simp; done) | (simp; omega))))).mono ?_
        rintro x w3 ⟨rfl, hb3⟩
        have hz3 := hb3.size
        try simp at hz3
        clear p0 p1 p2 p3 p4
        obtain ⟨p0, p1, p2, p3, p4⟩ := (((BX.out.stay hb1).stay hb2).stay hb3).cells
        go_wp2_with fail
        refine (OW.out _ ((by (repeat' (first | with_reducible exact Below.refl _ _ | with_reducible refine below_alloc ?_ _ ?_ | with_reducible refine Below.setCell ?_ ?_ _ | with_reducible refine Below.drew ?_ | with_reducible refine below_drewN ?_ _ | with_reducible refine below_step ?_ (by assumption) ?_ | with_reducible refine below_mark ?_ (by assumption) ?_)); all_goals (first | omega | (simp; done) | (simp; omega))))).mono ?_
        rintro x w9 ⟨s9, rfl, wf9, ho9, hb9⟩
        obtain ⟨oa, on, oc, rfl⟩ : ∃ sa sn sc, s9 = .slice sa sn sc := by obtain ⟨p, q, e⟩ := ho9.slice; exact ⟨p, _, q, e⟩
        have hz9 := hb9.size
        try simp at hz9
        have HO := Lib.hid (show OwnS w9 (fun x => w.heap.size + 1 + 1 ≤ x) (.slice oa on oc) ts from ho9.mono (fun x hx => Nat.le_trans (by first | omega | (simp; omega)) hx)); clear ho9
        have BZ9 := Lib.hid (BZ.out.stay (show Below ((w.alloc (.cells #[.int .i64 k, .int .i64 n, .int .i64 e, .string s, .slice sa ts.length sc] 30)).alloc (.cells #[.int .i64 0, .int .i64 0, .int .i64 0, .string ⟨#[]⟩, .slice none 0 0] 30)).heap.size ((w.alloc (.cells #[.int .i64 k, .int .i64 n, .int .i64 e, .string s, .slice sa ts.length sc] 30)).alloc (.cells #[.int .i64 0, .int .i64 0, .int .i64 0, .string ⟨#[]⟩, .slice none 0 0] 30)) w9 from (by (repeat' (first | with_reducible exact Below.refl _ _ | with_reducible refine below_alloc ?_ _ ?_ | with_reducible refine Below.setCell ?_ ?_ _ | with_reducible refine Below.drew ?_ | with_reducible refine below_drewN ?_ _ | with_reducible refine below_step ?_ (by assumption) ?_ | with_reducible refine below_mark ?_ (by assumption) ?_)); all_goals (first | omega | (simp; done) | (simp; omega)))))
        obtain ⟨z0, z1, z2, z3, z4⟩ := BZ9.out.cells
        have zf0 := BZ9.out.free (i := 0); have zf1 := BZ9.out.free (i := 1); have zf2 := BZ9.out.free (i := 2); have zf3 := BZ9.out.free (i := 3); have zf4 := BZ9.out.free (i := 4)
        try unfold V.agg
        go_wp2_with fail
        refine bodyPost_ret (v := .tuple #[.agg #[.int .i64 k, .int .i64 n, .int .i64 e, .string s, .slice oa on oc], .bool false]) (by simp [results, Tryd.results29, go_sem, z0, z1, z2, z3, z4]) rfl (H.out _ _ ⟨_, rfl, ?_, (by (repeat' (first | with_reducible exact Below.refl _ _ | with_reducible refine below_alloc ?_ _ ?_ | with_reducible refine Below.setCell ?_ ?_ _ | with_reducible refine Below.drew ?_ | with_reducible refine below_drewN ?_ _ | with_reducible refine below_step ?_ (by assumption) ?_ | with_reducible refine below_mark ?_ (by assumption) ?_)); all_goals (first | omega | (simp; done) | (simp; omega)))⟩)
        refine OwnS.mono (F := fun x => w.heap.size + 1 + 1 ≤ x) ?_ (fun x hx => by omega)
        repeat refine OwnS.set ?_ _ _ (by first | omega | (simp; done) | (simp; omega))
        exact HO.out
set_option maxHeartbeats 2000000 in
theorem UnmapKeys_spec (w0 : World) (v : Value) (t : V) (h : Rep w0 v t) (hsz : t.sz ≤ 1048576) (nv : Value) (l : List ByteArray) (hl : RepSs w0 nv l) (hlz : szl l ≤ 1048576) (w : World) (hw : Below w0.heap.size w0 w) :
    Calls Tryd.prog 34 #[v, nv] w (VBRet w ((kyR (byUn l) l t).getD t) (kyR (byUn l) l t).isSome) := by
  have VO := Lib.hid (fun (W : World) (hW : Below w.heap.size w W) => ValueOk_spec w0 v t h hsz W (hw.trans (hW.mono hw.size)))
  have NO := Lib.hid (fun (W : World) (hW : Below w.heap.size w W) => NamesOk_spec w0 nv l hl hlz W (hw.trans (hW.mono hw.size)))
  have OW := Lib.hid (fun (W : World) (hW : Below w.heap.size w W) => copy_any w0 v t h hsz W (hw.trans (hW.mono hw.size)))
  have TK := Lib.hid (fun (hok : okT t = true) (W : World) (hW : Below w.heap.size w W) => l11Unmap_any w0 nv l hl _ v t 12 (Nat.lt_succ_self _) (by simp only [okT, Bool.and_eq_true] at hok; exact hok.1) h hsz W (hw.trans (hW.mono hw.size)))
  have VU := Lib.hid (fun (u : V) (x : Value) (W W2 : World) (hok : okT t = true) (hn : namesB l = true) (e : trn (unS l) t = some u) (hr : Rep W x u) (hW2 : Below W.heap.size W W2) => ValueOk_spec W x u hr (un_sz l hn hok (by rw [← e]; simp only [okT, Bool.and_eq_true] at hok; exact un_same l hok.1)) W2 hW2)
  have HP := Lib.hid (show kyR (byUn l) l t = none → ∀ e w', (∃ sl, e = .returned (.tuple #[t.agg sl, .bool false]) ∧ OwnS w' (fun x => w.heap.size ≤ x) sl t.kids ∧ Below w.heap.size w w') → VBRet w ((kyR (byUn l) l t).getD t) (kyR (byUn l) l t).isSome e w' from fun hn e w' ⟨sl, h1, h2, h3⟩ => by
    rw [hn]; obtain ⟨_, _, hwf, _⟩ := h; exact ⟨sl, h1, hwf, h2, h3⟩)
  have HS := Lib.hid (show ∀ u, kyR (byUn l) l t = some u → u.wf → ∀ e w', (∃ sl, e = .returned (.tuple #[u.agg sl, .bool true]) ∧ OwnS w' (fun x => w.heap.size ≤ x) sl u.kids ∧ Below w.heap.size w w') → VBRet w ((kyR (byUn l) l t).getD t) (kyR (byUn l) l t).isSome e w' from fun u hn hwf e w' ⟨sl, h1, h2, h3⟩ => by
    rw [hn]; exact ⟨sl, h1, hwf, h2, h3⟩)
  have HK := Lib.hid (kyR_un l t)
  obtain ⟨na, nn, nc, rfl⟩ : ∃ a n c, nv = .slice a n c := by obtain ⟨a, _, _, c, h, _⟩ := hl; exact ⟨a, _, c, h⟩
  obtain ⟨sl, rfl, hwf, hr⟩ := h
  obtain ⟨sa, sc, rfl⟩ := hr.slice
  clear hr hwf hl hlz hsz
  unfold ValRet at OW
  unfold V.agg at *
  generalize kyR (byUn l) l t = KR at *
  generalize hb : okT t = b at *
  clear hb
  generalize namesB l = nb at *
  generalize trn (unS l) t = ou at *
  generalize t.k = k at *
  generalize t.n = n at *
  generalize t.e = e at *
  generalize t.s = s at *
  generalize t.kids = ts at *
  have BX := Lib.hid (show Box ((w.alloc (.cells #[.int .i64 k, .int .i64 n, .int .i64 e, .string s, .slice sa ts.length sc] 30)).alloc (.cells #[.int .i64 0, .int .i64 0, .int .i64 0, .string ⟨#[]⟩, .slice none 0 0] 30)) w.heap.size k n e s (.slice sa ts.length sc) 30 from (Box.new w _ _ _ _ _ _).alloc _)
  have BZ := Lib.hid (show Box ((w.alloc (.cells #[.int .i64 k, .int .i64 n, .int .i64 e, .string s, .slice sa ts.length sc] 30)).alloc (.cells #[.int .i64 0, .int .i64 0, .int .i64 0, .string ⟨#[]⟩, .slice none 0 0] 30)) (w.heap.size + 1) 0 0 0 ⟨#[]⟩ (.slice none 0 0) 30 by
    have := Box.new (w.alloc (.cells #[.int .i64 k, .int .i64 n, .int .i64 e, .string s, .slice sa ts.length sc] 30)) 0 0 0 ⟨#[]⟩ (.slice none 0 0) 30
    rwa [show (w.alloc (.cells #[.int .i64 k, .int .i64 n, .int .i64 e, .string s, .slice sa ts.length sc] 30)).heap.size = w.heap.size + 1 by simp] at this)
  cases b
  · have H := Lib.hid (HP.out (by rw [HK.out]; rfl))
    clear HP HS HK VU TK NO
    go_enter Tryd.func34, Tryd.ntmps34
    go_wp2_with fail
    refine (VO.out _ ((by (repeat' (first | with_reducible exact Below.refl _ _ | with_reducible refine below_alloc ?_ _ ?_ | with_reducible refine Below.setCell ?_ ?_ _ | with_reducible refine Below.drew ?_ | with_reducible refine below_drewN ?_ _ | with_reducible refine below_step ?_ (by assumption) ?_ | with_reducible refine below_mark ?_ (by assumption) ?_)); all_goals (first | omega | (simp; done) | (simp; omega))))).mono ?_
    rintro x w1 ⟨rfl, hb1⟩
    have hz1 := hb1.size
    try simp at hz1
    obtain ⟨p0, p1, p2, p3, p4⟩ := (BX.out.stay hb1).cells
    go_wp2_with fail
    refine (OW.out _ ((by (repeat' (first | with_reducible exact Below.refl _ _ | with_reducible refine below_alloc ?_ _ ?_ | with_reducible refine Below.setCell ?_ ?_ _ | with_reducible refine Below.drew ?_ | with_reducible refine below_drewN ?_ _ | with_reducible refine below_step ?_ (by assumption) ?_ | with_reducible refine below_mark ?_ (by assumption) ?_)); all_goals (first | omega | (simp; done) | (simp; omega))))).mono ?_
    rintro x w9 ⟨s9, rfl, wf9, ho9, hb9⟩
    obtain ⟨oa, on, oc, rfl⟩ : ∃ sa sn sc, s9 = .slice sa sn sc := by obtain ⟨p, q, e⟩ := ho9.slice; exact ⟨p, _, q, e⟩
    have hz9 := hb9.size
    try simp at hz9
    have HO := Lib.hid (show OwnS w9 (fun x => w.heap.size + 1 + 1 ≤ x) (.slice oa on oc) ts from ho9.mono (fun x hx => Nat.le_trans (by first | omega | (simp; omega)) hx)); clear ho9
    have BZ9 := Lib.hid (BZ.out.stay (show Below ((w.alloc (.cells #[.int .i64 k, .int .i64 n, .int .i64 e, .string s, .slice sa ts.length sc] 30)).alloc (.cells #[.int .i64 0, .int .i64 0, .int .i64 0, .string ⟨#[]⟩, .slice none 0 0] 30)).heap.size ((w.alloc (.cells #[.int .i64 k, .int .i64 n, .int .i64 e, .string s, .slice sa ts.length sc] 30)).alloc (.cells #[.int .i64 0, .int .i64 0, .int .i64 0, .string ⟨#[]⟩, .slice none 0 0] 30)) w9 from (by (repeat' (first | with_reducible exact Below.refl _ _ | with_reducible refine below_alloc ?_ _ ?_ | with_reducible refine Below.setCell ?_ ?_ _ | with_reducible refine Below.drew ?_ | with_reducible refine below_drewN ?_ _ | with_reducible refine below_step ?_ (by assumption) ?_ | with_reducible refine below_mark ?_ (by assumption) ?_)); all_goals (first | omega | (simp; done) | (simp; omega)))))
    obtain ⟨z0, z1, z2, z3, z4⟩ := BZ9.out.cells
    have zf0 := BZ9.out.free (i := 0); have zf1 := BZ9.out.free (i := 1); have zf2 := BZ9.out.free (i := 2); have zf3 := BZ9.out.free (i := 3); have zf4 := BZ9.out.free (i := 4)
    try unfold V.agg
    go_wp2_with fail
    refine bodyPost_ret (v := .tuple #[.agg #[.int .i64 k, .int .i64 n, .int .i64 e, .string s, .slice oa on oc], .bool false]) (by simp [results, Tryd.results34, go_sem, z0, z1, z2, z3, z4]) rfl (H.out _ _ ⟨_, rfl, ?_, (by (repeat' (first | with_reducible exact Below.refl _ _ | with_reducible refine below_alloc ?_ _ ?_ | with_reducible refine Below.setCell ?_ ?_ _ | with_reducible refine Below.drew ?_ | with_reducible refine below_drewN ?_ _ | with_reducible refine below_step ?_ (by assumption) ?_ | with_reducible refine below_mark ?_ (by assumption) ?_)); all_goals (first | omega | (simp; done) | (simp; omega)))⟩)
    refine OwnS.mono (F := fun x => w.heap.size + 1 + 1 ≤ x) ?_ (fun x hx => by omega)
    repeat refine OwnS.set ?_ _ _ (by first | omega | (simp; done) | (simp; omega))
    exact HO.out
  · cases nb
    · have H := Lib.hid (HP.out (by rw [HK.out]; rfl))
      clear HP HS HK VU TK
      go_enter Tryd.func34, Tryd.ntmps34
      go_wp2_with fail
      refine (VO.out _ ((by (repeat' (first | with_reducible exact Below.refl _ _ | with_reducible refine below_alloc ?_ _ ?_ | with_reducible refine Below.setCell ?_ ?_ _ | with_reducible refine Below.drew ?_ | with_reducible refine below_drewN ?_ _ | with_reducible refine below_step ?_ (by assumption) ?_ | with_reducible refine below_mark ?_ (by assumption) ?_)); all_goals (first | omega | (simp; done) | (simp; omega))))).mono ?_
      rintro x w1 ⟨rfl, hb1⟩
      have hz1 := hb1.size
      try simp at hz1
      go_wp2_with fail
      refine (NO.out _ ((by (repeat' (first | with_reducible exact Below.refl _ _ | with_reducible refine below_alloc ?_ _ ?_ | with_reducible refine Below.setCell ?_ ?_ _ | with_reducible refine Below.drew ?_ | with_reducible refine below_drewN ?_ _ | with_reducible refine below_step ?_ (by assumption) ?_ | with_reducible refine below_mark ?_ (by assumption) ?_)); all_goals (first | omega | (simp; done) | (simp; omega))))).mono ?_
      rintro x w2 ⟨rfl, hb2⟩
      have hz2 := hb2.size
      try simp at hz2
      obtain ⟨p0, p1, p2, p3, p4⟩ := ((BX.out.stay hb1).stay hb2).cells
      go_wp2_with fail
      refine (OW.out _ ((by (repeat' (first | with_reducible exact Below.refl _ _ | with_reducible refine below_alloc ?_ _ ?_ | with_reducible refine Below.setCell ?_ ?_ _ | with_reducible refine Below.drew ?_ | with_reducible refine below_drewN ?_ _ | with_reducible refine below_step ?_ (by assumption) ?_ | with_reducible refine below_mark ?_ (by assumption) ?_)); all_goals (first | omega | (simp; done) | (simp; omega))))).mono ?_
      rintro x w9 ⟨s9, rfl, wf9, ho9, hb9⟩
      obtain ⟨oa, on, oc, rfl⟩ : ∃ sa sn sc, s9 = .slice sa sn sc := by obtain ⟨p, q, e⟩ := ho9.slice; exact ⟨p, _, q, e⟩
      have hz9 := hb9.size
      try simp at hz9
      have HO := Lib.hid (show OwnS w9 (fun x => w.heap.size + 1 + 1 ≤ x) (.slice oa on oc) ts from ho9.mono (fun x hx => Nat.le_trans (by first | omega | (simp; omega)) hx)); clear ho9
      have BZ9 := Lib.hid (BZ.out.stay (show Below ((w.alloc (.cells #[.int .i64 k, .int .i64 n, .int .i64 e, .string s, .slice sa ts.length sc] 30)).alloc (.cells #[.int .i64 0, .int .i64 0, .int .i64 0, .string ⟨#[]⟩, .slice none 0 0] 30)).heap.size ((w.alloc (.cells #[.int .i64 k, .int .i64 n, .int .i64 e, .string s, .slice sa ts.length sc] 30)).alloc (.cells #[.int .i64 0, .int .i64 0, .int .i64 0, .string ⟨#[]⟩, .slice none 0 0] 30)) w9 from (by (repeat' (first | with_reducible exact Below.refl _ _ | with_reducible refine below_alloc ?_ _ ?_ | with_reducible refine Below.setCell ?_ ?_ _ | with_reducible refine Below.drew ?_ | with_reducible refine below_drewN ?_ _ | with_reducible refine below_step ?_ (by assumption) ?_ | with_reducible refine below_mark ?_ (by assumption) ?_)); all_goals (first | omega | (simp; done) | (simp; omega)))))
      obtain ⟨z0, z1, z2, z3, z4⟩ := BZ9.out.cells
      have zf0 := BZ9.out.free (i := 0); have zf1 := BZ9.out.free (i := 1); have zf2 := BZ9.out.free (i := 2); have zf3 := BZ9.out.free (i := 3); have zf4 := BZ9.out.free (i := 4)
      try unfold V.agg
      go_wp2_with fail
      refine bodyPost_ret (v := .tuple #[.agg #[.int .i64 k, .int .i64 n, .int .i64 e, .string s, .slice oa on oc], .bool false]) (by simp [results, Tryd.results34, go_sem, z0, z1, z2, z3, z4]) rfl (H.out _ _ ⟨_, rfl, ?_, (by (repeat' (first | with_reducible exact Below.refl _ _ | with_reducible refine below_alloc ?_ _ ?_ | with_reducible refine Below.setCell ?_ ?_ _ | with_reducible refine Below.drew ?_ | with_reducible refine below_drewN ?_ _ | with_reducible refine below_step ?_ (by assumption) ?_ | with_reducible refine below_mark ?_ (by assumption) ?_)); all_goals (first | omega | (simp; done) | (simp; omega)))⟩)
      refine OwnS.mono (F := fun x => w.heap.size + 1 + 1 ≤ x) ?_ (fun x hx => by omega)
      repeat refine OwnS.set ?_ _ _ (by first | omega | (simp; done) | (simp; omega))
      exact HO.out
    · go_enter Tryd.func34, Tryd.ntmps34
      go_wp2_with fail
      refine (VO.out _ ((by (repeat' (first | with_reducible exact Below.refl _ _ | with_reducible refine below_alloc ?_ _ ?_ | with_reducible refine Below.setCell ?_ ?_ _ | with_reducible refine Below.drew ?_ | with_reducible refine below_drewN ?_ _ | with_reducible refine below_step ?_ (by assumption) ?_ | with_reducible refine below_mark ?_ (by assumption) ?_)); all_goals (first | omega | (simp; done) | (simp; omega))))).mono ?_
      rintro x w1 ⟨rfl, hb1⟩
      have hz1 := hb1.size
      try simp at hz1
      go_wp2_with fail
      refine (NO.out _ ((by (repeat' (first | with_reducible exact Below.refl _ _ | with_reducible refine below_alloc ?_ _ ?_ | with_reducible refine Below.setCell ?_ ?_ _ | with_reducible refine Below.drew ?_ | with_reducible refine below_drewN ?_ _ | with_reducible refine below_step ?_ (by assumption) ?_ | with_reducible refine below_mark ?_ (by assumption) ?_)); all_goals (first | omega | (simp; done) | (simp; omega))))).mono ?_
      rintro x w2 ⟨rfl, hb2⟩
      have hz2 := hb2.size
      try simp at hz2
      have BX2 := Lib.hid ((BX.out.stay hb1).stay hb2)
      obtain ⟨p0, p1, p2, p3, p4⟩ := BX2.out.cells
      go_wp2_with fail
      refine (TK.out (by trivial) _ ((by (repeat' (first | with_reducible exact Below.refl _ _ | with_reducible refine below_alloc ?_ _ ?_ | with_reducible refine Below.setCell ?_ ?_ _ | with_reducible refine Below.drew ?_ | with_reducible refine below_drewN ?_ _ | with_reducible refine below_step ?_ (by assumption) ?_ | with_reducible refine below_mark ?_ (by assumption) ?_)); all_goals (first | omega | (simp; done) | (simp; omega))))).mono ?_
      rintro x w3 hret
      cases hou : ou with
      | none =>
        have H := Lib.hid (HP.out (by rw [HK.out, hou]; rfl))
        rw [hou] at hret
        obtain ⟨t', ta, tn, tc, rfl, hb3⟩ := hret
        unfold V.agg
        have hz3 := hb3.size
        clear p0 p1 p2 p3 p4
        obtain ⟨p0, p1, p2, p3, p4⟩ := (BX2.out.stay hb3).cells
        have hn3 : w.heap.size ≠ w3.heap.size := by omega
        have hn4 : w3.heap.size ≠ w.heap.size := by omega
        have hn5 : w.heap.size < w3.heap.size := by omega
        clear HP HS HK VU TK VO NO hou
        go_wp2_with fail
        refine (OW.out _ ((by (repeat' (first | with_reducible exact Below.refl _ _ | with_reducible refine below_alloc ?_ _ ?_ | with_reducible refine Below.setCell ?_ ?_ _ | with_reducible refine Below.drew ?_ | with_reducible refine below_drewN ?_ _ | with_reducible refine below_step ?_ (by assumption) ?_ | with_reducible refine below_mark ?_ (by assumption) ?_)); all_goals (first | omega | (simp; done) | (simp; omega))))).mono ?_
        rintro x w9 ⟨s9, rfl, wf9, ho9, hb9⟩
        obtain ⟨oa, on, oc, rfl⟩ : ∃ sa sn sc, s9 = .slice sa sn sc := by obtain ⟨p, q, e⟩ := ho9.slice; exact ⟨p, _, q, e⟩
        have hz9 := hb9.size
        try simp at hz9
        have HO := Lib.hid (show OwnS w9 (fun x => w.heap.size + 1 + 1 ≤ x) (.slice oa on oc) ts from ho9.mono (fun x hx => Nat.le_trans (by first | omega | (simp; omega)) hx)); clear ho9
        have BZ9 := Lib.hid (BZ.out.stay (show Below ((w.alloc (.cells #[.int .i64 k, .int .i64 n, .int .i64 e, .string s, .slice sa ts.length sc] 30)).alloc (.cells #[.int .i64 0, .int .i64 0, .int .i64 0, .string ⟨#[]⟩, .slice none 0 0] 30)).heap.size ((w.alloc (.cells #[.int .i64 k, .int .i64 n, .int .i64 e, .string s, .slice sa ts.length sc] 30)).alloc (.cells #[.int .i64 0, .int .i64 0, .int .i64 0, .string ⟨#[]⟩, .slice none 0 0] 30)) w9 from (by (repeat' (first | with_reducible exact Below.refl _ _ | with_reducible refine below_alloc ?_ _ ?_ | with_reducible refine Below.setCell ?_ ?_ _ | with_reducible refine Below.drew ?_ | with_reducible refine below_drewN ?_ _ | with_reducible refine below_step ?_ (by assumption) ?_ | with_reducible refine below_mark ?_ (by assumption) ?_)); all_goals (first | omega | (simp; done) | (simp; omega)))))
        obtain ⟨z0, z1, z2, z3, z4⟩ := BZ9.out.cells
        have zf0 := BZ9.out.free (i := 0); have zf1 := BZ9.out.free (i := 1); have zf2 := BZ9.out.free (i := 2); have zf3 := BZ9.out.free (i := 3); have zf4 := BZ9.out.free (i := 4)
        try unfold V.agg
        go_wp2_with fail
        refine bodyPost_ret (v := .tuple #[.agg #[.int .i64 k, .int .i64 n, .int .i64 e, .string s, .slice oa on oc], .bool false]) (by simp [results, Tryd.results34, go_sem, z0, z1, z2, z3, z4]) rfl (H.out _ _ ⟨_, rfl, ?_, (by (repeat' (first | with_reducible exact Below.refl _ _ | with_reducible refine below_alloc ?_ _ ?_ | with_reducible refine Below.setCell ?_ ?_ _ | with_reducible refine Below.drew ?_ | with_reducible refine below_drewN ?_ _ | with_reducible refine below_step ?_ (by assumption) ?_ | with_reducible refine below_mark ?_ (by assumption) ?_)); all_goals (first | omega | (simp; done) | (simp; omega)))⟩)
        refine OwnS.mono (F := fun x => w.heap.size + 1 + 1 ≤ x) ?_ (fun x hx => by omega)
        repeat refine OwnS.set ?_ _ _ (by first | omega | (simp; done) | (simp; omega))
        exact HO.out
      | some u =>
        rw [hou] at hret
        obtain ⟨us, rfl, uwf, uo, hb3⟩ := hret
        obtain ⟨ua, un, uc, rfl⟩ : ∃ a n c, us = .slice a n c := by obtain ⟨p, q, e⟩ := uo.slice; exact ⟨p, _, q, e⟩
        have hz3 := hb3.size
        have HU := Lib.hid (show Rep w3 (u.agg (.slice ua un uc)) u from ⟨_, rfl, uwf, uo.rep⟩)
        have UO := Lib.hid uo.bound; clear uo
        have VUX := Lib.hid (fun (W2 : World) (hW2 : Below w3.heap.size w3 W2) => VU.out u _ w3 W2 (by trivial) (by trivial) hou HU.out hW2)
        clear p0 p1 p2 p3 p4
        obtain ⟨p0, p1, p2, p3, p4⟩ := (BX2.out.stay hb3).cells
        have hn3 : w.heap.size ≠ w3.heap.size := by omega
        have hn4 : w3.heap.size ≠ w.heap.size := by omega
        have hn5 : w.heap.size < w3.heap.size := by omega
        have BU := Lib.hid (Box.new w3 u.k u.n u.e u.s (.slice ua un uc) 30)
        have HSU := Lib.hid (fun h => HS.out u h uwf)
        unfold V.agg at *
        clear VU HU TK VO NO HS
        go_wp2_with fail
        refine (VUX.out _ ((by (repeat' (first | with_reducible exact Below.refl _ _ | with_reducible refine below_alloc ?_ _ ?_ | with_reducible refine Below.setCell ?_ ?_ _ | with_reducible refine Below.drew ?_ | with_reducible refine below_drewN ?_ _ | with_reducible refine below_step ?_ (by assumption) ?_ | with_reducible refine below_mark ?_ (by assumption) ?_)); all_goals (first | omega | (simp; done) | (simp; omega))))).mono ?_
        rintro x w4 ⟨rfl, hb4⟩
        have hz4 := hb4.size
        simp at hz4
        clear p0 p1 p2 p3 p4
        cases hok : okT u
        · have H := Lib.hid (HP.out (by rw [HK.out, hou]; simp [Option.filter, hok]))
          obtain ⟨p0, p1, p2, p3, p4⟩ := (((BX2.out.stay hb3).alloc _).stay hb4).cells
          clear HP HSU HK VUX hok hou
          go_wp2_with fail
          refine (OW.out _ ((by (repeat' (first | with_reducible exact Below.refl _ _ | with_reducible refine below_alloc ?_ _ ?_ | with_reducible refine Below.setCell ?_ ?_ _ | with_reducible refine Below.drew ?_ | with_reducible refine below_drewN ?_ _ | with_reducible refine below_step ?_ (by assumption) ?_ | with_reducible refine below_mark ?_ (by assumption) ?_)); all_goals (first | omega | (simp; done) | (simp; omega))))).mono ?_
          rintro x w9 ⟨s9, rfl, wf9, ho9, hb9⟩
          obtain ⟨oa, on, oc, rfl⟩ : ∃ sa sn sc, s9 = .slice sa sn sc := by obtain ⟨p, q, e⟩ := ho9.slice; exact ⟨p, _, q, e⟩
          have hz9 := hb9.size
          try simp at hz9
          have HO := Lib.hid (show OwnS w9 (fun x => w.heap.size + 1 + 1 ≤ x) (.slice oa on oc) ts from ho9.mono (fun x hx => Nat.le_trans (by first | omega | (simp; omega)) hx)); clear ho9
          have BZ9 := Lib.hid (BZ.out.stay (show Below ((w.alloc (.cells #[.int .i64 k, .int .i64 n, .int .i64 e, .string s, .slice sa ts.length sc] 30)).alloc (.cells #[.int .i64 0, .int .i64 0, .int .i64 0, .string ⟨#[]⟩, .slice none 0 0] 30)).heap.size ((w.alloc (.cells #[.int .i64 k, .int .i64 n, .int .i64 e, .string s, .slice sa ts.length sc] 30)).alloc (.cells #[.int .i64 0, .int .i64 0, .int .i64 0, .string ⟨#[]⟩, .slice none 0 0] 30)) w9 from (by (repeat' (first | with_reducible exact Below.refl _ _ | with_reducible refine below_alloc ?_ _ ?_ | with_reducible refine Below.setCell ?_ ?_ _ | with_reducible refine Below.drew ?_ | with_reducible refine below_drewN ?_ _ | with_reducible refine below_step ?_ (by assumption) ?_ | with_reducible refine below_mark ?_ (by assumption) ?_)); all_goals (first | omega | (simp; done) | (simp; omega)))))
          obtain ⟨z0, z1, z2, z3, z4⟩ := BZ9.out.cells
          have zf0 := BZ9.out.free (i := 0); have zf1 := BZ9.out.free (i := 1); have zf2 := BZ9.out.free (i := 2); have zf3 := BZ9.out.free (i := 3); have zf4 := BZ9.out.free (i := 4)
          try unfold V.agg
          go_wp2_with fail
          refine bodyPost_ret (v := .tuple #[.agg #[.int .i64 k, .int .i64 n, .int .i64 e, .string s, .slice oa on oc], .bool false]) (by simp [results, Tryd.results34, go_sem, z0, z1, z2, z3, z4]) rfl (H.out _ _ ⟨_, rfl, ?_, (by (repeat' (first | with_reducible exact Below.refl _ _ | with_reducible refine below_alloc ?_ _ ?_ | with_reducible refine Below.setCell ?_ ?_ _ | with_reducible refine Below.drew ?_ | with_reducible refine below_drewN ?_ _ | with_reducible refine below_step ?_ (by assumption) ?_ | with_reducible refine below_mark ?_ (by assumption) ?_)); all_goals (first | omega | (simp; done) | (simp; omega)))⟩)
          refine OwnS.mono (F := fun x => w.heap.size + 1 + 1 ≤ x) ?_ (fun x hx => by omega)
          repeat refine OwnS.set ?_ _ _ (by first | omega | (simp; done) | (simp; omega))
          exact HO.out
        · have H := Lib.hid (HSU.out (by rw [HK.out, hou]; simp [Option.filter, hok]))
          obtain ⟨p0, p1, p2, p3, p4⟩ := (BU.out.stay hb4).cells
          have BZ9 := Lib.hid (BZ.out.stay (show Below ((w.alloc (.cells #[.int .i64 k, .int .i64 n, .int .i64 e, .string s, .slice sa ts.length sc] 30)).alloc (.cells #[.int .i64 0, .int .i64 0, .int .i64 0, .string ⟨#[]⟩, .slice none 0 0] 30)).heap.size ((w.alloc (.cells #[.int .i64 k, .int .i64 n, .int .i64 e, .string s, .slice sa ts.length sc] 30)).alloc (.cells #[.int .i64 0, .int .i64 0, .int .i64 0, .string ⟨#[]⟩, .slice none 0 0] 30)) w4 from (by (repeat' (first | with_reducible exact Below.refl _ _ | with_reducible refine below_alloc ?_ _ ?_ | with_reducible refine Below.setCell ?_ ?_ _ | with_reducible refine Below.drew ?_ | with_reducible refine below_drewN ?_ _ | with_reducible refine below_step ?_ (by assumption) ?_ | with_reducible refine below_mark ?_ (by assumption) ?_)); all_goals (first | omega | (simp; done) | (simp; omega)))))
          obtain ⟨z0, z1, z2, z3, z4⟩ := BZ9.out.cells
          have zf0 := BZ9.out.free (i := 0); have zf1 := BZ9.out.free (i := 1); have zf2 := BZ9.out.free (i := 2); have zf3 := BZ9.out.free (i := 3); have zf4 := BZ9.out.free (i := 4)
          have HO := Lib.hid (show OwnS w4 (fun x => w.heap.size + 1 + 1 ≤ x) (.slice ua un uc) u.kids from (UO.out.keep (fun x hx hxs => (show Below w3.heap.size w3 w4 from (by (repeat' (first | with_reducible exact Below.refl _ _ | with_reducible refine below_alloc ?_ _ ?_ | with_reducible refine Below.setCell ?_ ?_ _ | with_reducible refine Below.drew ?_ | with_reducible refine below_drewN ?_ _ | with_reducible refine below_step ?_ (by assumption) ?_ | with_reducible refine below_mark ?_ (by assumption) ?_)); all_goals (first | omega | (simp; done) | (simp; omega)))).block x hxs)).mono (fun x hx => by have := hx.1; omega))
          clear HP HSU HK VUX hok hou
          go_wp2_with fail
          refine bodyPost_ret (v := .tuple #[.agg #[.int .i64 u.k, .int .i64 u.n, .int .i64 u.e, .string u.s, .slice ua un uc], .bool true]) (by simp [results, Tryd.results34, go_sem, z0, z1, z2, z3, z4]) rfl (H.out _ _ ⟨_, rfl, ?_, (by (repeat' (first | with_reducible exact Below.refl _ _ | with_reducible refine below_alloc ?_ _ ?_ | with_reducible refine Below.setCell ?_ ?_ _ | with_reducible refine Below.drew ?_ | with_reducible refine below_drewN ?_ _ | with_reducible refine below_step ?_ (by assumption) ?_ | with_reducible refine below_mark ?_ (by assumption) ?_)); all_goals (first | omega | (simp; done) | (simp; omega)))⟩)
          refine OwnS.mono (F := fun x => w.heap.size + 1 + 1 ≤ x) ?_ (fun x hx => by omega)
          repeat refine OwnS.set ?_ _ _ (by first | omega | (simp; done) | (simp; omega))
          exact HO.out
end Go.Proofs.YtllngpnhhpnjoaaDoor
