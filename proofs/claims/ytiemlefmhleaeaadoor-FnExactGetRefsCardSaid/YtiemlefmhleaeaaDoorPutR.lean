/- The program's impl.memory.kids: the kids of a value, each by a function beside a memory. The program's references: impl.tag, impl.memory.shrunk. The program's PutRefs. The reference's PutRefs. -/
import Derived.Test.YtiemlefmhleaeaaDoorPutS
import Derived.Test.YtiemlefmhleaeaaDoorNote
import Derived.WalkSpells
import Derived.Lib.Hide
import Derived.Test.YtiemlefmhleaeaaDoorFind
import Derived.Test.YtiemlefmhleaeaaDoorSame
import Derived.Test.YtiemlefmhleaeaaDoorCborI
import Derived.Test.YtiemlefmhleaeaaDoorKeyO
namespace Go.Proofs.YtiemlefmhleaeaaDoor
set_option linter.unusedVariables false
set_option maxRecDepth 100000
open Go.RowKit
set_option maxHeartbeats 2000000 in
theorem kids_any (B m : Nat) (F : FuncId) (hF : ∀ (args : Array Value) (w : World), (callFunc F args).run Tryd.prog w = .ok (.enter F args) w) (f : V → List V × Bool → V × (List V × Bool)) (hf : ∀ t S, (f t S).2.1.length ≤ S.1.length + t.nodes)
    (w0 : World) (hB : w0.heap.size ≤ B) (v : Value) (t : V) (h : Rep w0 v t) (hsz : t.sz ≤ 1048576) (hkey : ∀ j (hj : j < t.kids.length), t.k = 8 → j % 2 = 0 → t.kids[j].kids = [])
    (hBy : ∀ (j : Nat) (hj : j < t.kids.length) (x : Value) (S : List V × Bool) (om : Value) (W : World), Rep w0 x t.kids[j] → Below w0.heap.size w0 W → MOf B m S.1 S.2 om W → S.1.length + t.kids[j].nodes ≤ 1000000 →
      Calls Tryd.prog F #[.pointer (some ⟨m, 0, none⟩), x] W (MemRet B m om W (f t.kids[j] S)))
    (S : List V × Bool) (om : Value) (w : World) (hw : Below w0.heap.size w0 w) (hm : MOf B m S.1 S.2 om w) (hS : S.1.length + t.nodes ≤ 1000000) :
    Calls Tryd.prog 130 #[.pointer (some ⟨m, 0, none⟩), v, .func (.func F) #[.pointer (some ⟨m, 0, none⟩)] #[]] w
      (MemRet B m om w (.mk t.k t.n t.e t.s (kdS f (decide (t.k = 8)) 0 t.kids S).1, (kdS f (decide (t.k = 8)) 0 t.kids S).2)) := by
  obtain ⟨sl, rfl, hwf, hr⟩ := h
  have hts := V.sz_eq t
  have hlen := szs_length t.kids
  have HP := Lib.hid (show ∀ e w', (∃ sl om', e = .returned (.agg #[.int .i64 t.k, .int .i64 t.n, .int .i64 t.e, .string t.s, sl]) ∧ OwnS w' (fun x => w.heap.size ≤ x ∧ ¬ ownM m om' x) sl (kdS f (decide (t.k = 8)) 0 t.kids S).1 ∧ MOf B m (kdS f (decide (t.k = 8)) 0 t.kids S).2.1 (kdS f (decide (t.k = 8)) 0 t.kids S).2.2 om' w' ∧ Touch (ownM m om) (ownM m om') w w') →
      MemRet B m om w (.mk t.k t.n t.e t.s (kdS f (decide (t.k = 8)) 0 t.kids S).1, (kdS f (decide (t.k = 8)) 0 t.kids S).2) e w' from fun e w' ⟨sl, om', h1, h2, h3, h4⟩ => ⟨sl, om', h1, hwf, h2, h3, h4⟩)
  obtain ⟨a, b, off, cap, rfl, ha, hc, hmx, sls, hel⟩ := hr.opened
  have HA := Lib.hid ha; have HE := Lib.hid hel; have HW := Lib.hid hw; have HM := Lib.hid hm
  have HMLT := Lib.hid (show ∀ x, ownM m om x → B ≤ x ∧ x < w.heap.size from hm.lt)
  have V1 := Lib.hid (fun (j : Nat) (hj : j < t.kids.length) (S' : List V × Bool) (om' : Value) (W : World) (hW : Below w0.heap.size w0 W) (hm' : MOf B m S'.1 S'.2 om' W) (hS' : S'.1.length + t.kids[j].nodes ≤ 1000000) =>
    hBy j hj (t.kids[j].agg (sls j)) S' om' W ⟨sls j, rfl, (HE.out j hj).2.1, (HE.out j hj).2.2⟩ hW hm' hS')
  have HKY := Lib.hid hkey
  have HBD := Lib.hid (fun (j : Nat) (hj : j < t.kids.length) => show (kdS f (decide (t.k = 8)) 0 (t.kids.take j) S).2.1.length + t.kids[j].nodes ≤ 1000000 by
    have h1 := kdS_bound f hf (decide (t.k = 8)) (t.kids.take j) 0 S
    have h2 : nodess (t.kids.take j) + t.kids[j].nodes ≤ nodess t.kids := by
      have h3 := nodess_append (t.kids.take j) (t.kids.drop j)
      rw [List.take_append_drop, List.drop_eq_getElem_cons hj, nodess] at h3
      omega
    have h4 := V.nodes_eq t
    omega)
  have HT := Lib.hid (fun (j : Nat) (hj : j < t.kids.length) => kdS_take f (decide (t.k = 8)) t.kids S j hj)
  have HLN := Lib.hid (fun (j : Nat) => kdS_len f (decide (t.k = 8)) (t.kids.take j) 0 S)
  have hl : t.kids.length ≤ 1048576 := by omega
  have BX := Lib.hid (show Box (((w.alloc (.cells #[.int .i64 t.k, .int .i64 t.n, .int .i64 t.e, .string t.s, .slice a t.kids.length cap] 28)).alloc (.cells #[.int .i64 0, .int .i64 0, .int .i64 0, .string ⟨#[]⟩, .slice none 0 0] 28)).alloc (.cells #[.int .i64 t.k, .int .i64 t.n, .int .i64 t.e, .string t.s, .slice none 0 0] 28)) w.heap.size t.k t.n t.e t.s (.slice a t.kids.length cap) 28 from ((Box.new w _ _ _ _ _ _).alloc _).alloc _)
  have BZ := Lib.hid (show Box (((w.alloc (.cells #[.int .i64 t.k, .int .i64 t.n, .int .i64 t.e, .string t.s, .slice a t.kids.length cap] 28)).alloc (.cells #[.int .i64 0, .int .i64 0, .int .i64 0, .string ⟨#[]⟩, .slice none 0 0] 28)).alloc (.cells #[.int .i64 t.k, .int .i64 t.n, .int .i64 t.e, .string t.s, .slice none 0 0] 28)) (w.heap.size + 1) 0 0 0 ⟨#[]⟩ (.slice none 0 0) 28 by
    have := (Box.new (w.alloc (.cells #[.int .i64 t.k, .int .i64 t.n, .int .i64 t.e, .string t.s, .slice a t.kids.length cap] 28)) 0 0 0 ⟨#[]⟩ (.slice none 0 0) 28).alloc (.cells #[.int .i64 t.k, .int .i64 t.n, .int .i64 t.e, .string t.s, .slice none 0 0] 28)
    rwa [show (w.alloc (.cells #[.int .i64 t.k, .int .i64 t.n, .int .i64 t.e, .string t.s, .slice a t.kids.length cap] 28)).heap.size = w.heap.size + 1 by simp] at this)
  have BO := Lib.hid (show Box (((w.alloc (.cells #[.int .i64 t.k, .int .i64 t.n, .int .i64 t.e, .string t.s, .slice a t.kids.length cap] 28)).alloc (.cells #[.int .i64 0, .int .i64 0, .int .i64 0, .string ⟨#[]⟩, .slice none 0 0] 28)).alloc (.cells #[.int .i64 t.k, .int .i64 t.n, .int .i64 t.e, .string t.s, .slice none 0 0] 28)) (w.heap.size + 1 + 1) t.k t.n t.e t.s (.slice none 0 0) 28 by
    have := Box.new ((w.alloc (.cells #[.int .i64 t.k, .int .i64 t.n, .int .i64 t.e, .string t.s, .slice a t.kids.length cap] 28)).alloc (.cells #[.int .i64 0, .int .i64 0, .int .i64 0, .string ⟨#[]⟩, .slice none 0 0] 28)) t.k t.n t.e t.s (.slice none 0 0) 28
    rwa [show ((w.alloc (.cells #[.int .i64 t.k, .int .i64 t.n, .int .i64 t.e, .string t.s, .slice a t.kids.length cap] 28)).alloc (.cells #[.int .i64 0, .int .i64 0, .int .i64 0, .string ⟨#[]⟩, .slice none 0 0] 28)).heap.size = w.heap.size + 1 + 1 by simp] at this)
  clear hel ha hc hmx hr hwf hlen hts hsz hkey hBy hm hS hf
  unfold V.agg
  generalize t.k = k at *
  generalize t.n = n at *
  generalize t.e = e at *
  generalize t.s = s at *
  generalize t.kids = ts at *
  obtain ⟨LR, SR, hLR⟩ : ∃ LR SR, kdS f (decide (k = 8)) 0 ts S = (LR, SR) := ⟨_, _, rfl⟩
  rw [hLR] at HP ⊢
  go_enter Tryd.func130, Tryd.ntmps130
  go_wp2_with fail
  have HBW := Lib.hid (show Below w.heap.size w (((w.alloc (.cells #[.int .i64 k, .int .i64 n, .int .i64 e, .string s, .slice a ts.length cap] 28)).alloc (.cells #[.int .i64 0, .int .i64 0, .int .i64 0, .string ⟨#[]⟩, .slice none 0 0] 28)).alloc (.cells #[.int .i64 k, .int .i64 n, .int .i64 e, .string s, .slice none 0 0] 28)) from (by (repeat' (first | with_reducible exact Below.refl _ _ | with_reducible refine below_alloc ?_ _ ?_ | with_reducible refine Below.setCell ?_ ?_ _ | with_reducible refine Below.drew ?_ | with_reducible refine below_drewN ?_ _ | with_reducible refine below_step ?_ (by assumption) ?_ | with_reducible refine below_mark ?_ (by assumption) ?_)); all_goals (first | omega | (simp; done) | (simp; omega))))
  have HZW := Lib.hid (show (((w.alloc (.cells #[.int .i64 k, .int .i64 n, .int .i64 e, .string s, .slice a ts.length cap] 28)).alloc (.cells #[.int .i64 0, .int .i64 0, .int .i64 0, .string ⟨#[]⟩, .slice none 0 0] 28)).alloc (.cells #[.int .i64 k, .int .i64 n, .int .i64 e, .string s, .slice none 0 0] 28)).heap.size = w.heap.size + 1 + 1 + 1 by simp)
  generalize (((w.alloc (.cells #[.int .i64 k, .int .i64 n, .int .i64 e, .string s, .slice a ts.length cap] 28)).alloc (.cells #[.int .i64 0, .int .i64 0, .int .i64 0, .string ⟨#[]⟩, .slice none 0 0] 28)).alloc (.cells #[.int .i64 k, .int .i64 n, .int .i64 e, .string s, .slice none 0 0] 28)) = W3 at *
  go_loopw [15, 8, 9, 20, 32] (fun i _ _ _ _ wr => ∃ (j : Nat) (G : Nat → Prop) (o : Value) (L1 : List V) (S' : List V × Bool) (om' : Value), j ≤ ts.length ∧ i = .int .i64 j ∧ kdS f (decide (k = 8)) 0 (ts.take j) S = (L1, S') ∧ KAcc W3 wr (w.heap.size + 1 + 1) B m k n e s L1 o G S' om om') (fun i _ _ _ _ _ => ts.length - (intOf i).toNat)
  case atStart => exact ⟨0, _, _, [], S, om, by omega, rfl, by rw [List.take_zero, kdS], KAcc.nil HM.out HBW.out BO.out (by omega) HZW.out⟩
  case round =>
    obtain ⟨j, G, o, L1, S1, om1, hj, rfl, hkd, hacc⟩ := hrel
    have HACC := Lib.hid hacc; have HKD := Lib.hid hkd; clear hacc hkd
    have hz9 := HACC.out.touch.size
    rw [HZW.out] at hz9
    have HDN := Lib.hid (HACC.out.done HBW.out (by omega))
    have HBL := Lib.hid (show Below w0.heap.size w wr from HDN.out.below (fun x hx => Nat.le_trans hB (HMLT.out x hx).1) HW.out.size)
    have BXw := Lib.hid (show Box wr w.heap.size k n e s (.slice a ts.length cap) 28 from (HACC.out.block (by omega) (fun e => by have := (HMLT.out _ e).2; omega)).trans BX.out)
    have BZw := Lib.hid (show Box wr (w.heap.size + 1) 0 0 0 ⟨#[]⟩ (.slice none 0 0) 28 from (HACC.out.block (by omega) (fun e => by have := (HMLT.out _ e).2; omega)).trans BZ.out)
    by_cases hlt : j < ts.length
    · have hne : ts ≠ [] := by intro e; rw [e] at hlt; simp at hlt
      obtain ⟨rfl, hbw⟩ := HA.out hne
      have HWR := Lib.hid (HW.out.trans HBL.out)
      obtain ⟨c0, c1, c2, c3, c4⟩ := (HE.out j hlt).1.keep (HWR.out.block b hbw)
      have hR1 : S1.1.length + ts[j].nodes ≤ 1000000 := by have := HBD.out j hlt; rw [HKD.out] at this; exact this
      have VJ := Lib.hid (fun (W : World) (hW : Below wr.heap.size wr W) => V1.out j hlt S1 om1 W (below_step HWR.out hW (by have := HWR.out.size; omega)) (HACC.out.mem.stay hW) hR1)
      have NJ := Lib.hid (fun (W : World) (hW : Below wr.heap.size wr W) => note_any B m S1.1 S1.2 om1 ts[j] (sls j) W (HACC.out.mem.stay hW) (by omega) (HE.out j hlt).2.1)
      have HTJ := Lib.hid (HT.out j hlt)
      rw [HKD.out] at HTJ
      have HLEN := Lib.hid (show L1.length ≤ 1048576 by have := HLN.out j; rw [HKD.out] at this; rw [this, List.length_take]; omega)
      have HKJ := Lib.hid (fun h8 h2 => HKY.out j hlt h8 h2)
      have HNO := Lib.hid (fun (h : ts[j].kids = []) (W : World) (FF : Nat → Prop) => show OwnS W FF (sls j) ts[j].kids by rw [h]; exact RepS.ownAny (show RepS w0 (sls j) [] from h ▸ (HE.out j hlt).2.2) W FF)
      have HWF0 := Lib.hid ((HE.out j hlt).2.1)
      obtain ⟨a3, cap3, hs3⟩ := (HE.out j hlt).2.2.slice
      rw [hs3] at c4 VJ NJ HNO
      clear hs3 V1 HT HKY HLN HBD hR1
      unfold V.agg at VJ NJ
      have hw0n : w.heap.size ≠ wr.heap.size := by omega
      have hw0s : wr.heap.size ≠ w.heap.size := by omega
      have hw0l : w.heap.size < wr.heap.size := by omega
      generalize ts[j] = tk at *
      obtain ⟨q0, q1, q2, q3, q4⟩ := BXw.out.cells
      by_cases hcase : k = 8 ∧ j % 2 = 0
      · have t1 : (k != 8) = false := by simpa using hcase.1
        have t2 : ((j : Int) % 2 == 1) = false := by have := hcase.2; simp; omega
        have HNX := Lib.hid (HNO.out (HKJ.out hcase.1 hcase.2))
        have hT : (decide (k = 8) && decide (j % 2 = 0)) = true := by simp [hcase.1, hcase.2]
        rw [hT] at HTJ
        clear hT hcase VJ HKJ HNO
        have HNO := HNX
        clear HNX
        by_cases htx : tk.k = 5 ∨ tk.k = 6
        · have hq : decide (tk.k = 5 ∨ tk.k = 6) = true := decide_eq_true htx
          have HTK := Lib.hid (show kdT f true tk S1 = (tk, (keepR S1.1 tk, S1.2)) by unfold kdT keyG keyR isTx; rw [if_pos rfl, if_pos hq])
          rw [HTK.out] at HTJ
          clear HTK htx
          go_wp2_with fail
          refine (isText_any _ _ _ _ _ _).mono ?_
          rintro x w0' ⟨h1, hb0⟩
          rw [hq] at h1
          subst h1
          have hz0 := hb0.size
          simp at hz0
          obtain ⟨d0, d1, d2, d3, d4⟩ := ((Box.new wr tk.k tk.n tk.e tk.s (.slice a3 tk.kids.length cap3) 28).stay hb0).cells
          go_wp2_with fail
          refine (NJ.out _ ((by (repeat' (first | with_reducible exact Below.refl _ _ | with_reducible refine below_alloc ?_ _ ?_ | with_reducible refine Below.setCell ?_ ?_ _ | with_reducible refine Below.drew ?_ | with_reducible refine below_drewN ?_ _ | with_reducible refine below_step ?_ (by assumption) ?_ | with_reducible refine below_mark ?_ (by assumption) ?_)); all_goals (first | omega | (simp; done) | (simp; omega))))).mono ?_
          rintro x w1 ⟨rfl, om2, hm2, ht2⟩
          have hz1 := ht2.size
          have hbn : Below wr.heap.size wr w0' := (by (repeat' (first | with_reducible exact Below.refl _ _ | with_reducible refine below_alloc ?_ _ ?_ | with_reducible refine Below.setCell ?_ ?_ _ | with_reducible refine Below.drew ?_ | with_reducible refine below_drewN ?_ _ | with_reducible refine below_step ?_ (by assumption) ?_ | with_reducible refine below_mark ?_ (by assumption) ?_)); all_goals (first | omega | (simp; done) | (simp; omega)))
          have HACC2 := Lib.hid ((HACC.out.stay hbn).over (S' := (keepR S1.1 tk, S1.2)) ht2 hm2)
          have BKW := Lib.hid (show Box w1 wr.heap.size tk.k tk.n tk.e tk.s (.slice a3 tk.kids.length cap3) 28 from (ht2.block wr.heap.size (by omega) (fun h => by have := (HACC.out.mem.lt _ h).2; omega)).trans ((Box.new wr _ _ _ _ _ _).stay hb0))
          obtain ⟨y0, y1, y2, y3, y4⟩ := BKW.out.cells
          obtain ⟨g0, g1, g2, g3, g4⟩ := HACC2.out.box.cells
          have HWF := HWF0
          clear q0 q1 q2 q3 q4 c0 c1 c2 c3 c4 d0 d1 d2 d3 d4 hb0 hm2 ht2 NJ HWF0 hbn
          go_wp2_with (at_builtin; go_loud (refine app_own rfl _ _ rfl (w.heap.size + 1 + 1 + 1) G (fun _ => False) _ L1 rfl ((HACC2.out.stay ((by (repeat' (first | with_reducible exact Below.refl _ _ | with_reducible refine below_alloc ?_ _ ?_ | with_reducible refine Below.setCell ?_ ?_ _ | with_reducible refine Below.drew ?_ | with_reducible refine below_drewN ?_ _ | with_reducible refine below_step ?_ (by assumption) ?_ | with_reducible refine below_mark ?_ (by assumption) ?_)); all_goals (first | omega | (simp; done) | (simp; omega))))).rows) tk (.slice a3 tk.kids.length cap3) _ rfl (by first | exact heap_alloc_here _ (by simp) | exact heap_alloc_here _ rfl) HWF.out (HNO.out _ _) (fun x hx => hx.elim) (by have := HLEN.out; omega) (by simp; omega) ?_); intro v2 w2 hrow2 hg2 hfr2; obtain ⟨va, vn, vc, rfl⟩ := hrow2.slice3; have HG2 := Lib.hid hg2; have HR2 := Lib.hid hrow2; have HF2 := Lib.hid hfr2; have HB2 := Lib.hid (show Box w2 (w.heap.size + 1 + 1) k n e s o 28 from (hg2.block (w.heap.size + 1 + 1) (by simp; omega) (fun e => by have := (HACC.out.rows.lt _ e.symm).1; omega)).trans (HACC2.out.stay ((by (repeat' (first | with_reducible exact Below.refl _ _ | with_reducible refine below_alloc ?_ _ ?_ | with_reducible refine Below.setCell ?_ ?_ _ | with_reducible refine Below.drew ?_ | with_reducible refine below_drewN ?_ _ | with_reducible refine below_step ?_ (by assumption) ?_ | with_reducible refine below_mark ?_ (by assumption) ?_)); all_goals (first | omega | (simp; done) | (simp; omega))))).box); have hfz := HB2.out.free (i := 4); have hcc := HB2.out.cells.2.2.2.2; clear hrow2 hg2 hfr2)
          go_roundw
          case rel => exact ⟨j + 1, _, _, _, _, _, by omega, by go_num, HTJ.out, HACC2.out.put ((by (repeat' (first | with_reducible exact Below.refl _ _ | with_reducible refine below_alloc ?_ _ ?_ | with_reducible refine Below.setCell ?_ ?_ _ | with_reducible refine Below.drew ?_ | with_reducible refine below_drewN ?_ _ | with_reducible refine below_step ?_ (by assumption) ?_ | with_reducible refine below_mark ?_ (by assumption) ?_)); all_goals (first | omega | (simp; done) | (simp; omega)))) HG2.out HF2.out HR2.out (fun x hx => hx.elim .inl (fun h => h.elim))⟩
          case measure => simp [intOf]; omega
        · have hq : decide (tk.k = 5 ∨ tk.k = 6) = false := decide_eq_false htx
          have HTK := Lib.hid (show kdT f true tk S1 = (tk, S1) by unfold kdT keyG keyR isTx; rw [if_pos rfl, if_neg (by rw [hq]; simp)])
          rw [HTK.out] at HTJ
          clear HTK htx NJ
          go_wp2_with fail
          refine (isText_any _ _ _ _ _ _).mono ?_
          rintro x w1 ⟨h1, hb0⟩
          rw [hq] at h1
          subst h1
          have hz0 := hb0.size
          simp at hz0
          have hbn : Below wr.heap.size wr w1 := (by (repeat' (first | with_reducible exact Below.refl _ _ | with_reducible refine below_alloc ?_ _ ?_ | with_reducible refine Below.setCell ?_ ?_ _ | with_reducible refine Below.drew ?_ | with_reducible refine below_drewN ?_ _ | with_reducible refine below_step ?_ (by assumption) ?_ | with_reducible refine below_mark ?_ (by assumption) ?_)); all_goals (first | omega | (simp; done) | (simp; omega)))
          have HACC2 := Lib.hid (HACC.out.stay hbn)
          obtain ⟨y0, y1, y2, y3, y4⟩ := ((Box.new wr tk.k tk.n tk.e tk.s (.slice a3 tk.kids.length cap3) 28).stay hb0).cells
          obtain ⟨g0, g1, g2, g3, g4⟩ := HACC2.out.box.cells
          have HWF := HWF0
          clear q0 q1 q2 q3 q4 c0 c1 c2 c3 c4 hb0 HWF0 hbn
          go_wp2_with (at_builtin; go_loud (refine app_own rfl _ _ rfl (w.heap.size + 1 + 1 + 1) G (fun _ => False) _ L1 rfl ((HACC2.out.stay ((by (repeat' (first | with_reducible exact Below.refl _ _ | with_reducible refine below_alloc ?_ _ ?_ | with_reducible refine Below.setCell ?_ ?_ _ | with_reducible refine Below.drew ?_ | with_reducible refine below_drewN ?_ _ | with_reducible refine below_step ?_ (by assumption) ?_ | with_reducible refine below_mark ?_ (by assumption) ?_)); all_goals (first | omega | (simp; done) | (simp; omega))))).rows) tk (.slice a3 tk.kids.length cap3) _ rfl (by first | exact heap_alloc_here _ (by simp) | exact heap_alloc_here _ rfl) HWF.out (HNO.out _ _) (fun x hx => hx.elim) (by have := HLEN.out; omega) (by simp; omega) ?_); intro v2 w2 hrow2 hg2 hfr2; obtain ⟨va, vn, vc, rfl⟩ := hrow2.slice3; have HG2 := Lib.hid hg2; have HR2 := Lib.hid hrow2; have HF2 := Lib.hid hfr2; have HB2 := Lib.hid (show Box w2 (w.heap.size + 1 + 1) k n e s o 28 from (hg2.block (w.heap.size + 1 + 1) (by simp; omega) (fun e => by have := (HACC.out.rows.lt _ e.symm).1; omega)).trans (HACC2.out.stay ((by (repeat' (first | with_reducible exact Below.refl _ _ | with_reducible refine below_alloc ?_ _ ?_ | with_reducible refine Below.setCell ?_ ?_ _ | with_reducible refine Below.drew ?_ | with_reducible refine below_drewN ?_ _ | with_reducible refine below_step ?_ (by assumption) ?_ | with_reducible refine below_mark ?_ (by assumption) ?_)); all_goals (first | omega | (simp; done) | (simp; omega))))).box); have hfz := HB2.out.free (i := 4); have hcc := HB2.out.cells.2.2.2.2; clear hrow2 hg2 hfr2)
          go_roundw
          case rel => exact ⟨j + 1, _, _, _, _, _, by omega, by go_num, HTJ.out, HACC2.out.put ((by (repeat' (first | with_reducible exact Below.refl _ _ | with_reducible refine below_alloc ?_ _ ?_ | with_reducible refine Below.setCell ?_ ?_ _ | with_reducible refine Below.drew ?_ | with_reducible refine below_drewN ?_ _ | with_reducible refine below_step ?_ (by assumption) ?_ | with_reducible refine below_mark ?_ (by assumption) ?_)); all_goals (first | omega | (simp; done) | (simp; omega)))) HG2.out HF2.out HR2.out (fun x hx => hx.elim .inl (fun h => h.elim))⟩
          case measure => simp [intOf]; omega
      · have tt : (k != 8) = true ∨ ((k != 8) = false ∧ (((j : Int) % 2 == 1) = true)) := by
          by_cases h8 : k = 8
          · exact .inr ⟨by simpa using h8, by have : ¬ j % 2 = 0 := fun e => hcase ⟨h8, e⟩
                                              simp; omega⟩
          · exact .inl (by simpa using h8)
        have hT : (decide (k = 8) && decide (j % 2 = 0)) = false := by
          cases hb : (decide (k = 8) && decide (j % 2 = 0)) with
          | false => rfl
          | true => simp only [Bool.and_eq_true, decide_eq_true_eq] at hb; exact absurd hb hcase
        rw [hT] at HTJ
        have HTK := Lib.hid (show kdT f false tk S1 = f tk S1 from rfl)
        rw [HTK.out] at HTJ
        clear hT hcase HTK NJ HNO HKJ HWF0
        obtain ⟨u, S2, hr2⟩ : ∃ u S2, f tk S1 = (u, S2) := ⟨_, _, rfl⟩
        rw [hr2] at VJ HTJ
        clear hr2
        rcases tt with t1 | ⟨t1, t2⟩
        all_goals go_wp2_with fail
        all_goals refine (VJ.out _ ((by (repeat' (first | with_reducible exact Below.refl _ _ | with_reducible refine below_alloc ?_ _ ?_ | with_reducible refine Below.setCell ?_ ?_ _ | with_reducible refine Below.drew ?_ | with_reducible refine below_drewN ?_ _ | with_reducible refine below_step ?_ (by assumption) ?_ | with_reducible refine below_mark ?_ (by assumption) ?_)); all_goals (first | omega | (simp; done) | (simp; omega))))).mono ?_
        all_goals
          rintro x w1 ⟨s2, om2, rfl, uwf, ho, hm2, ht2⟩
          obtain ⟨sa, sn, sc, rfl⟩ : ∃ sa sn sc, s2 = .slice sa sn sc := by obtain ⟨p, q, e⟩ := ho.slice; exact ⟨p, _, q, e⟩
          unfold V.agg
          have hz1 := ht2.size
          simp at hz1
          have hnm : ¬ ownM m om2 wr.heap.size := fun h => by
            rcases ht2.new _ h with h1 | h1
            · have := (HACC.out.mem.lt _ h1).2; omega
            · simp at h1; omega
          have hbn : Below wr.heap.size wr (wr.alloc (.cells #[.int .i64 tk.k, .int .i64 tk.n, .int .i64 tk.e, .string tk.s, .slice a3 tk.kids.length cap3] 28)) := (by (repeat' (first | with_reducible exact Below.refl _ _ | with_reducible refine below_alloc ?_ _ ?_ | with_reducible refine Below.setCell ?_ ?_ _ | with_reducible refine Below.drew ?_ | with_reducible refine below_drewN ?_ _ | with_reducible refine below_step ?_ (by assumption) ?_ | with_reducible refine below_mark ?_ (by assumption) ?_)); all_goals (first | omega | (simp; done) | (simp; omega)))
          have HACC1 := Lib.hid ((HACC.out.stay hbn).over (S' := S2) ht2 hm2)
          have BKW := Lib.hid (show Box w1 wr.heap.size tk.k tk.n tk.e tk.s (.slice a3 tk.kids.length cap3) 28 from (ht2.block wr.heap.size (by simp) (fun h => by have := (HACC.out.mem.lt _ h).2; omega)).trans (Box.new wr _ _ _ _ _ _))
          obtain ⟨y0, y1, y2, y3, y4⟩ := BKW.out.cells
          have yf0 := BKW.out.free (i := 0); have yf1 := BKW.out.free (i := 1); have yf2 := BKW.out.free (i := 2); have yf3 := BKW.out.free (i := 3); have yf4 := BKW.out.free (i := 4)
          have HACC2 := Lib.hid (HACC1.out.aside wr.heap.size (by omega) (fun h => by have := (HACC.out.rows.inG _ h).2; omega) (fun h => by have := (HACC.out.rows.lt _ h).2; omega) hnm (by have := HZW.out; omega) (.int .i64 u.k) (.int .i64 u.n) (.int .i64 u.e) (.string u.s) (.slice sa sn sc))
          have HO2 := Lib.hid (OwnS.set5 ho.bound wr.heap.size (fun h => by have h1 := h.1.1; simp at h1; omega) (.int .i64 u.k) (.int .i64 u.n) (.int .i64 u.e) (.string u.s) (.slice sa sn sc))
          have HWF := Lib.hid uwf
          obtain ⟨g0, g1, g2, g3, g4⟩ := HACC1.out.box.cells
          have hw1m : w.heap.size + 1 + 1 ≠ wr.heap.size := by omega
          have hw1t : wr.heap.size ≠ w.heap.size + 1 + 1 := by omega
          have hw1k : w.heap.size + 1 + 1 < wr.heap.size := by omega
          clear q0 q1 q2 q3 q4 c0 c1 c2 c3 c4 uwf ho hm2 ht2 hnm VJ hbn
          go_wp2_with (at_builtin; go_loud (refine app_own rfl _ _ rfl (w.heap.size + 1 + 1 + 1) G (fun x => ((wr.alloc (.cells #[.int .i64 tk.k, .int .i64 tk.n, .int .i64 tk.e, .string tk.s, .slice a3 tk.kids.length cap3] 28)).heap.size ≤ x ∧ ¬ ownM m om2 x) ∧ x < w1.heap.size) _ L1 rfl ((HACC2.out.stay ((by (repeat' (first | with_reducible exact Below.refl _ _ | with_reducible refine below_alloc ?_ _ ?_ | with_reducible refine Below.setCell ?_ ?_ _ | with_reducible refine Below.drew ?_ | with_reducible refine below_drewN ?_ _ | with_reducible refine below_step ?_ (by assumption) ?_ | with_reducible refine below_mark ?_ (by assumption) ?_)); all_goals (first | omega | (simp; done) | (simp; omega))))).rows) u (.slice sa sn sc) _ rfl (by first | exact heap_alloc_here _ (by simp) | exact heap_alloc_here _ rfl) HWF.out (HO2.out.alloc _) (fun x hx => by have h1 := hx.1.1; have h2 := hx.2; simp at h1; exact ⟨by omega, by simp; omega, fun hG => by have := (HACC.out.rows.inG x hG).2; omega, fun e => by have := (HACC.out.rows.lt x e).2; omega⟩) (by have := HLEN.out; omega) (by simp; omega) ?_); intro v2 w2 hrow2 hg2 hfr2; obtain ⟨va, vn, vc, rfl⟩ := hrow2.slice3; have HG2 := Lib.hid hg2; have HR2 := Lib.hid hrow2; have HF2 := Lib.hid hfr2; have HB2 := Lib.hid (show Box w2 (w.heap.size + 1 + 1) k n e s o 28 from (hg2.block (w.heap.size + 1 + 1) (by simp; omega) (fun e => by have := (HACC.out.rows.lt _ e.symm).1; omega)).trans (HACC2.out.stay ((by (repeat' (first | with_reducible exact Below.refl _ _ | with_reducible refine below_alloc ?_ _ ?_ | with_reducible refine Below.setCell ?_ ?_ _ | with_reducible refine Below.drew ?_ | with_reducible refine below_drewN ?_ _ | with_reducible refine below_step ?_ (by assumption) ?_ | with_reducible refine below_mark ?_ (by assumption) ?_)); all_goals (first | omega | (simp; done) | (simp; omega))))).box); have hfz := HB2.out.free (i := 4); have hcc := HB2.out.cells.2.2.2.2; clear hrow2 hg2 hfr2)
          go_roundw
          case rel => exact ⟨j + 1, _, _, _, _, _, by omega, by go_num, HTJ.out, HACC2.out.put ((by (repeat' (first | with_reducible exact Below.refl _ _ | with_reducible refine below_alloc ?_ _ ?_ | with_reducible refine Below.setCell ?_ ?_ _ | with_reducible refine Below.drew ?_ | with_reducible refine below_drewN ?_ _ | with_reducible refine below_step ?_ (by assumption) ?_ | with_reducible refine below_mark ?_ (by assumption) ?_)); all_goals (first | omega | (simp; done) | (simp; omega)))) HG2.out HF2.out HR2.out (fun x hx => hx.imp id (fun h => h.1.2))⟩
          case measure => simp [intOf]; omega
    · have H := Lib.hid (show ts.take j = ts from List.take_of_length_le (by omega))
      have HE2 := Lib.hid (show kdS f (decide (k = 8)) 0 ts S = (L1, S1) by have := HKD.out; rwa [H.out] at this)
      obtain ⟨rfl, rfl⟩ : LR = L1 ∧ SR = S1 := by have := hLR.symm.trans HE2.out; simpa using this
      obtain ⟨oa, on, oc, rfl⟩ := HACC.out.rows.slice3
      obtain ⟨g0, g1, g2, g3, g4⟩ := HACC.out.box.cells
      obtain ⟨z0, z1, z2, z3, z4⟩ := BZw.out.cells
      have zf0 := BZw.out.free (i := 0); have zf1 := BZw.out.free (i := 1); have zf2 := BZw.out.free (i := 2); have zf3 := BZw.out.free (i := 3); have zf4 := BZw.out.free (i := 4)
      have hnz : ¬ ownM m om1 (w.heap.size + 1) := fun h => by
        rcases HACC.out.touch.new _ (.inr h) with (h1 | h1) | h1
        · omega
        · have := (HMLT.out _ h1).2; omega
        · have := HZW.out; omega
      have HX := Lib.hid (HACC.out.own.set5 (w.heap.size + 1) (fun h => by have := h.1; omega) (.int .i64 k) (.int .i64 n) (.int .i64 e) (.string s) (.slice oa on oc))
      have HY := Lib.hid (HACC.out.mem.set5 (w.heap.size + 1) hnz (.int .i64 k) (.int .i64 n) (.int .i64 e) (.string s) (.slice oa on oc))
      have HV := Lib.hid (HDN.out.set5 (w.heap.size + 1) (by omega) (.int .i64 k) (.int .i64 n) (.int .i64 e) (.string s) (.slice oa on oc))
      clear H HE HA V1 HT BX BO BZ BZw BXw HACC HE2 HKD HDN hnz HBL HKY HLN HBD
      go_wp2_with fail
      refine bodyPost_ret (v := .agg #[.int .i64 k, .int .i64 n, .int .i64 e, .string s, .slice oa on oc]) (by simp [results, Tryd.results130, go_sem, z0, z1, z2, z3, z4]) rfl (HP.out _ _ ⟨_, om1, rfl, HX.out.mono (fun x hx => ⟨by have := hx.1; omega, hx.2⟩), HY.out, HV.out⟩)
end Go.Proofs.YtiemlefmhleaeaaDoor
namespace Go.Proofs.YtiemlefmhleaeaaDoor
set_option linter.unusedVariables false
set_option maxRecDepth 100000
open Go.RowKit
set_option maxHeartbeats 1000000 in
theorem index1_any (w0 : World) (F : FuncId) (c1 : Value) (hF : ∀ (args : Array Value) (w : World), (callFunc F args).run Tryd.prog w = .ok (.enter F args) w) (v : Value) (ts : List V) (h : RepS w0 v ts) (I J : Nat → World → Prop)
    (hI0 : ∀ i w, I i w → Below w0.heap.size w0 w)
    (hY : ∀ i (hi : i < ts.length) (sl : Value) (w : World), RepS w0 sl ts[i].kids → ts[i].wf → I i w → Calls Tryd.prog F #[ts[i].agg sl, c1] w (PredRet (I (i + 1)) (J i))) (w : World) (hw : I 0 w) :
    Calls Tryd.prog 196 #[v, .func (.func F) #[] #[c1]] w (IdxRet I J ts.length) := by
  obtain ⟨a, b, off, cap, rfl, ha, hc, hm, sls, hel⟩ := h.opened
  have HA := Lib.hid ha; have HE := Lib.hid hel; have HY := Lib.hid hY; have HI := Lib.hid hI0; have HW := Lib.hid hw
  have hl63 : ts.length ≤ 9223372036854775807 := by omega
  have HP1 := Lib.hid (show ∀ w', I ts.length w' → IdxRet I J ts.length (.returned (.int .i64 (-1))) w' from fun w' h => .inl ⟨rfl, h⟩)
  have HP2 := Lib.hid (show ∀ i w', i < ts.length → J i w' → IdxRet I J ts.length (.returned (.int .i64 (i : Nat))) w' from fun i w' h1 h2 => .inr ⟨i, h1, rfl, h2⟩)
  clear ha hel hY hI0 hw hc hm h
  go_enter Tryd.func196, Tryd.ntmps196
  go_wp2_with fail
  go_loopw [8] (fun i wr => ∃ k : Nat, k ≤ ts.length ∧ i = .int .i64 k ∧ Hid (I k wr)) (fun i _ => ts.length - (intOf i).toNat)
  case atStart => exact ⟨0, by omega, rfl, HW⟩
  case round =>
    obtain ⟨k, hk, rfl, HK⟩ := hrel
    by_cases hlt : k < ts.length
    · have hne : ts ≠ [] := by intro e; rw [e] at hlt; simp at hlt
      obtain ⟨rfl, hbw⟩ := HA.out hne
      have HWR := Lib.hid (HI.out k wr HK.out)
      obtain ⟨c0, c1', c2', c3, c4⟩ := (HE.out k hlt).1.keep (HWR.out.block b hbw)
      have Y1 := Lib.hid (HY.out k hlt (sls k) wr (HE.out k hlt).2.2 (HE.out k hlt).2.1 HK.out)
      obtain ⟨a3, cap3, hs3⟩ := (HE.out k hlt).2.2.slice
      rw [hs3] at c4 Y1
      unfold V.agg at Y1
      clear hs3
      generalize ts[k].k = xk at *
      generalize ts[k].n = xn at *
      generalize ts[k].e = xe at *
      generalize ts[k].s = xs at *
      go_wp2_with fail
      refine Y1.out.mono ?_
      rintro e1 w1 hpost
      rcases hpost with ⟨rfl, hi1⟩ | ⟨rfl, hj1⟩
      · have HI1 := Lib.hid hi1; clear hi1
        go_wp2_with fail
        go_roundw
        case rel => exact ⟨k + 1, by omega, by go_num, HI1⟩
        case measure => simp [intOf]; omega
      · have HP := Lib.hid (HP2.out k w1 hlt hj1); clear hj1
        go_wp2_with fail
        go_ret
        exact HP.out
    · have hkl : k = ts.length := by omega
      subst hkl
      have HP := Lib.hid (HP1.out wr HK.out)
      go_wp2_with fail
      go_ret
      exact HP.out
/-- by a predicate that is a plain one -/
theorem index1_at (w : World) (F : FuncId) (c1 : Value) (hF : ∀ (args : Array Value) (w : World), (callFunc F args).run Tryd.prog w = .ok (.enter F args) w) (p : V → Bool) (v : Value) (ts : List V) (h : RepS w v ts)
    (hY : ∀ i (hi : i < ts.length) (sl : Value) (W : World), RepS w sl ts[i].kids → ts[i].wf → Below w.heap.size w W → Calls Tryd.prog F #[ts[i].agg sl, c1] W (BoolRet (p ts[i]) W)) :
    Calls Tryd.prog 196 #[v, .func (.func F) #[] #[c1]] w fun e w' => e = .returned (.int .i64 (idxI p 0 ts)) ∧ Below w.heap.size w w' := by
  refine (index1_any w F c1 hF v ts h (fun i W => (∀ j (hj : j < ts.length), j < i → p ts[j] = false) ∧ Below w.heap.size w W) (fun i W => (∃ hi : i < ts.length, (∀ j (hj : j < ts.length), j < i → p ts[j] = false) ∧ p ts[i] = true) ∧ Below w.heap.size w W) (fun _ _ h => h.2) (fun i hi sl W h1 h2 h3 => ?_) w ⟨fun j _ h => absurd h (by omega), Below.refl _ _⟩).mono ?_
  · refine (hY i hi sl W h1 h2 h3.2).mono ?_
    rintro e W' ⟨rfl, hb⟩
    have hbb : Below w.heap.size w W' := h3.2.trans (hb.mono h3.2.size)
    cases hp : p ts[i] with
    | false => exact .inl ⟨rfl, fun j hj hji => by
        by_cases e : j = i
        · subst e; exact hp
        · exact h3.1 j hj (by omega), hbb⟩
    | true => exact .inr ⟨rfl, ⟨hi, h3.1, hp⟩, hbb⟩
  · rintro e W (⟨rfl, h1, h2⟩ | ⟨i, hi, rfl, ⟨hi', h1, h3⟩, h2⟩)
    · exact ⟨by rw [idxI_none p ts 0 (fun x hx => by obtain ⟨j, hj, rfl⟩ := List.getElem_of_mem hx; exact h1 j hj hj)], h2⟩
    · exact ⟨by rw [idxI_found p ts 0 i hi (fun j hj => h1 j (by omega) hj) h3, Nat.zero_add], h2⟩
/-- a tag of one value, its kid's row a new block -/
def TagRet (F : Nat → Prop) (n : Int) (u : V) (w : World) (e : Ending) (w' : World) : Prop := ∃ b, e = .returned ((tagV n u).agg (.slice (some ⟨b, 0, none⟩) 1 1)) ∧ w.heap.size ≤ b ∧ OwnS w' (fun x => F x ∨ x = b) (.slice (some ⟨b, 0, none⟩) 1 1) [u] ∧ Below w.heap.size w w'
set_option maxHeartbeats 1000000 in
theorem tag_any (F : Nat → Prop) (n : Int) (u : V) (sl : Value) (w : World) (hwf : u.wf) (h : OwnS w F sl u.kids) (hF : ∀ x, F x → x < w.heap.size) : Calls Tryd.prog 132 #[.int .i64 n, u.agg sl] w (TagRet F n u w) := by
  obtain ⟨sa, sc, rfl⟩ := h.slice
  have HO := Lib.hid h
  have HP := Lib.hid (show ∀ b e w', e = .returned (.agg #[.int .i64 9, .int .i64 n, .int .i64 0, .string ⟨#[]⟩, .slice (some ⟨b, 0, none⟩) 1 1]) → w.heap.size ≤ b → OwnS w' (fun x => F x ∨ x = b) (.slice (some ⟨b, 0, none⟩) 1 1) [u] → Below w.heap.size w w' → TagRet F n u w e w' from fun b e w' h1 h2 h3 h4 => ⟨b, h1, h2, h3, h4⟩)
  clear h
  unfold V.agg
  go_enter Tryd.func132, Tryd.ntmps132
  go_wp2_with fail
  refine bodyPost_ret (v := .agg #[.int .i64 9, .int .i64 n, .int .i64 0, .string ⟨#[]⟩, .slice (some ⟨w.heap.size + 1 + 1, 0, none⟩) 1 1]) (by simp [results, Tryd.results132, go_sem]) rfl (HP.out (w.heap.size + 1 + 1) _ _ rfl (by omega) ?_ ((by (repeat' (first | with_reducible exact Below.refl _ _ | with_reducible refine below_alloc ?_ _ ?_ | with_reducible refine Below.setCell ?_ ?_ _ | with_reducible refine Below.drew ?_ | with_reducible refine below_drewN ?_ _ | with_reducible refine below_step ?_ (by assumption) ?_ | with_reducible refine below_mark ?_ (by assumption) ?_)); all_goals (first | omega | (simp; done) | (simp; omega)))))
  refine own_one (E := 28) (sl := .slice sa u.kids.length sc) ?_ hwf ?_ (fun h => by have := hF _ h; omega)
  · exact heap_alloc_here _ (by simp)
  · refine HO.out.keep (fun x hx hs => ?_)
    rw [heap_alloc_old _ _ (by simp; omega), heap_alloc_old _ _ (by simp; omega), heap_alloc_old _ _ hs]
set_option maxHeartbeats 1000000 in
theorem shrunk1_any (w : World) (c : Nat) (t x : V) (sl sm : Value) (hc : Box w c t.k t.n t.e t.s sl 28) (ht : t.wf) (hr : RepS w sl t.kids) (hx : x.wf) (hm : RepS w sm x.kids) (W : World) (hW : Below w.heap.size w W) :
    Calls Tryd.prog 197 #[x.agg sm, .pointer (some ⟨c, 0, none⟩)] W (BoolRet (decide (x = t)) W) := by
  have SM := Lib.hid (fun (W' : World) (hW' : Below w.heap.size w W') => same_any w (x.agg sm) (t.agg sl) x t ⟨sm, rfl, hx, hm⟩ ⟨sl, rfl, ht, hr⟩ W' hW')
  obtain ⟨xa, xc, rfl⟩ := hm.slice
  obtain ⟨ta, tc, rfl⟩ := hr.slice
  have BC := Lib.hid (Box.stay hc hW)
  have HW := Lib.hid hW
  have hz := hW.size
  have hcl := Box.lt hc
  obtain ⟨c0, c1, c2, c3, c4⟩ := BC.out.cells
  have hn1 : c ≠ W.heap.size := by omega
  have hn2 : W.heap.size ≠ c := by omega
  have hn3 : c < W.heap.size := by omega
  generalize decide (x = t) = b at *
  clear hr hm hc ht hx hW
  unfold V.agg at *
  go_enter Tryd.func197, Tryd.ntmps197
  go_wp2_with fail
  refine (SM.out _ (below_step HW.out ((by (repeat' (first | with_reducible exact Below.refl _ _ | with_reducible refine below_alloc ?_ _ ?_ | with_reducible refine Below.setCell ?_ ?_ _ | with_reducible refine Below.drew ?_ | with_reducible refine below_drewN ?_ _ | with_reducible refine below_step ?_ (by assumption) ?_ | with_reducible refine below_mark ?_ (by assumption) ?_)); all_goals (first | omega | (simp; done) | (simp; omega)))) (by have := HW.out.size; omega))).mono ?_
  rintro e w1 ⟨rfl, hb1⟩
  go_wp2_with fail
  go_ret
  exact ⟨rfl, (by (repeat' (first | with_reducible exact Below.refl _ _ | with_reducible refine below_alloc ?_ _ ?_ | with_reducible refine Below.setCell ?_ ?_ _ | with_reducible refine Below.drew ?_ | with_reducible refine below_drewN ?_ _ | with_reducible refine below_step ?_ (by assumption) ?_ | with_reducible refine below_mark ?_ (by assumption) ?_)); all_goals (first | omega | (simp; done) | (simp; omega)))⟩
theorem enters_shrunk1 : ∀ (args : Array Value) (w : World), (callFunc 197 args).run Tryd.prog w = .ok (.enter 197 args) w := by
  intro args w
  have h1 : (Tryd.f197.name == "runtime.NumGoroutine") = false := by kernel_rfl
  have h2 : Tryd.f197.body.isNone = false := by kernel_rfl
  have h1' : ¬ Tryd.f197.name = "runtime.NumGoroutine" := by simpa using h1
  have h2' : ¬ Tryd.f197.body = none := by intro e; rw [e] at h2; cases h2
  simp [callFunc, Tryd.func197, go_sem, h1', h2']
theorem enters_shrunk : ∀ (args : Array Value) (w : World), (callFunc 133 args).run Tryd.prog w = .ok (.enter 133 args) w := by
  intro args w
  have h1 : (Tryd.f133.name == "runtime.NumGoroutine") = false := by kernel_rfl
  have h2 : Tryd.f133.body.isNone = false := by kernel_rfl
  have h1' : ¬ Tryd.f133.name = "runtime.NumGoroutine" := by simpa using h1
  have h2' : ¬ Tryd.f133.body = none := by intro e; rw [e] at h2; cases h2
  simp [callFunc, Tryd.func133, go_sem, h1', h2']
/-- the function of the kids -/
def putF (t : V) (S : List V × Bool) : V × (List V × Bool) := ((putI t S.1).1, ((putI t S.1).2, S.2))
theorem putF_kids {t : V} (S : List V × Bool) (h : isTx t = false) : putF t S = (.mk t.k t.n t.e t.s (kdS putF (decide (t.k = 8)) 0 t.kids S).1, (kdS putF (decide (t.k = 8)) 0 t.kids S).2) := by
  obtain ⟨R, b⟩ := S
  have := kdS_put (decide (t.k = 8)) t.kids 0 R b
  unfold putF at *
  rw [this, putI_eq, if_neg (by rw [h]; simp)]
theorem putF_bound (t : V) (S : List V × Bool) : (putF t S).2.1.length ≤ S.1.length + t.nodes := (putI_bound t S.1).2
theorem atW_lo (R : List V) (t : V) : -1 ≤ atW R t ∧ atW R t < R.length := by
  have key : ∀ (p : V → Bool) (l : List V) (i : Nat), -1 ≤ idxI p i l ∧ idxI p i l < (i + l.length : Nat) := by
    intro p l
    induction l with
    | nil => intro i; rw [idxI]; simp; omega
    | cons x l ih =>
      intro i
      rw [idxI]
      split
      · simp; omega
      · have := ih (i + 1); simp at this ⊢; omega
  have := key (fun x => decide (x = t)) R 0
  simpa [atW] using this
set_option maxHeartbeats 2000000 in
theorem shrunk_any (B m : Nat) (w0 : World) (hB : w0.heap.size ≤ B) : ∀ (N : Nat) (v : Value) (t : V) (d : Int), t.sz < N → rightB t d = true → Rep w0 v t → t.sz ≤ 1048576 → ∀ (S : List V × Bool) (om : Value) (w : World), Below w0.heap.size w0 w → MOf B m S.1 S.2 om w → S.1.length + t.nodes ≤ 1000000 →
    Calls Tryd.prog 133 #[.pointer (some ⟨m, 0, none⟩), v] w (MemRet B m om w (putF t S)) := by
  intro N
  induction N with
  | zero => intro v t d h; omega
  | succ N ih =>
  intro v t d hN hright h hsz S om w hw hm hS
  have hts := V.sz_eq t
  have h0 := h
  obtain ⟨sl, rfl, hwf, hr⟩ := h
  have HMLT := Lib.hid (show ∀ x, ownM m om x → B ≤ x ∧ x < w.heap.size from hm.lt)
  have hws := hw.size
  have KD := Lib.hid (fun (W : World) (hW : Below w.heap.size w W) => kids_any B m 133 enters_shrunk putF putF_bound w0 hB (t.agg sl) t h0 hsz (fun j hj h8 h2 => key_leaf (rightsB_at (right_kids hright) j hj) (key_at hright h8 j hj h2))
    (fun j hj x S' om' W' hx hW' hm' hS' => ih x t.kids[j] (d - 1) (by have h1 := szs_mem (List.getElem_mem hj); omega) (rightsB_at (right_kids hright) j hj) hx (by have h1 := szs_mem (List.getElem_mem hj); omega) S' om' W' hW' hm' hS') S om W (hw.trans (hW.mono hws)) (hm.stay hW) hS)
  by_cases htx : isTx t = true
  · have hkids := rightB_text hright htx
    have hq : decide (t.k = 5 ∨ t.k = 6) = true := htx
    have HF := Lib.hid (show putF t S = if 0 ≤ atW S.1 t then (tagV 25 (intV (atW S.1 t)), S) else (t, (keepR S.1 t, S.2)) by
      unfold putF; rw [putI_eq, if_pos htx]; split <;> rfl)
    have IX := Lib.hid (fun (W : World) (hW : Below w.heap.size w W) (hc : Box W w.heap.size t.k t.n t.e t.s sl 28) => index1_at W 197 (.pointer (some ⟨w.heap.size, 0, none⟩)) enters_shrunk1 (fun x => decide (x = t)) om S.1 (hm.stay hW).hr.rep
      (fun i hi sm W' h1 h2 h3 => shrunk1_any W w.heap.size t S.1[i] sl sm hc hwf ((hr.keep hw).keep hW) h2 h1 W' h3))
    have HAT := Lib.hid (show idxI (fun x => decide (x = t)) 0 S.1 = atW S.1 t from rfl)
    have hlo := atW_lo S.1 t
    have NT := Lib.hid (fun (W : World) (hW : Below w.heap.size w W) => note_any B m S.1 S.2 om t sl W (hm.stay hW) (by omega) hwf)
    have HM := Lib.hid hm
    have TG := Lib.hid (fun (q : Int) (hq : In64 q) (W : World) => show Calls Tryd.prog 132 #[.int .i64 25, .agg #[.int .i64 3, .int .i64 q, .int .i64 0, .string ⟨#[]⟩, .slice none 0 0]] W (TagRet (fun _ => False) 25 (intV q) W) from tag_any (fun _ => False) 25 (intV q) (.slice none 0 0) W ⟨⟨by show (-9223372036854775808 : Int) ≤ 3; omega, by show (3 : Int) ≤ _; omega⟩, hq, ⟨by show (-9223372036854775808 : Int) ≤ 0; omega, by show (0 : Int) ≤ _; omega⟩, by show ByteArray.size ⟨#[]⟩ ≤ _; simp [ByteArray.size]⟩ (OwnS.nil _ _) (fun _ h => h.elim))
    have HOWN := Lib.hid (fun (W : World) (F : Nat → Prop) => show OwnS W F sl t.kids by rw [hkids]; exact RepS.ownAny (show RepS w0 sl [] from hkids ▸ hr) W F)
    have HWF := Lib.hid hwf
    have BX := Lib.hid (Box.new w t.k t.n t.e t.s sl 28)
    rw [HF.out]
    have hlen : S.1.length ≤ 1000000 := by omega
    obtain ⟨mg, mcap, rfl⟩ := hm.hr.slice
    obtain ⟨sa, sn, sc, rfl⟩ : ∃ sa sn sc, sl = .slice sa sn sc := by obtain ⟨p, q, e⟩ := hr.slice; exact ⟨p, _, q, e⟩
    have HM0 := Lib.hid hm.hm
    clear HF KD ih hright h0 hr hwf hm hts hsz hkids htx hN
    generalize atW S.1 t = q at *
    rw [HAT.out] at IX
    clear HAT
    by_cases hq0 : 0 ≤ q
    · rw [if_pos hq0]
      have t2 : decide (0 ≤ q) = true := decide_eq_true hq0
      have HIN := Lib.hid (show In64 q from ⟨by omega, by omega⟩)
      have HP := Lib.hid (show ∀ b e w', e = .returned (.agg #[.int .i64 9, .int .i64 25, .int .i64 0, .string ⟨#[]⟩, .slice (some ⟨b, 0, none⟩) 1 1]) → OwnS w' (fun x => w.heap.size ≤ x ∧ ¬ ownM m (.slice mg S.1.length mcap) x) (.slice (some ⟨b, 0, none⟩) 1 1) [intV q] → MOf B m S.1 S.2 (.slice mg S.1.length mcap) w' → Touch (ownM m (.slice mg S.1.length mcap)) (ownM m (.slice mg S.1.length mcap)) w w' → MemRet B m (.slice mg S.1.length mcap) w (tagV 25 (intV q), S) e w' from
        fun b e w' h1 h2 h3 h4 => ⟨_, _, h1, ⟨⟨by show (-9223372036854775808 : Int) ≤ 9; omega, by show (9 : Int) ≤ _; omega⟩, ⟨by show (-9223372036854775808 : Int) ≤ 25; omega, by show (25 : Int) ≤ _; omega⟩, ⟨by show (-9223372036854775808 : Int) ≤ 0; omega, by show (0 : Int) ≤ _; omega⟩, by show ByteArray.size ⟨#[]⟩ ≤ _; simp [ByteArray.size]⟩, h2, h3, h4⟩)
      clear NT HOWN HWF HM0
      unfold V.agg
      go_enter Tryd.func133, Tryd.ntmps133
      go_wp2_with fail
      refine (isText_any _ _ _ _ _ _).mono ?_
      rintro x w1 ⟨h1, hb1⟩
      rw [hq] at h1
      subst h1
      have hz1 := hb1.size
      simp at hz1
      have hbw1 : Below w.heap.size w w1 := (by (repeat' (first | with_reducible exact Below.refl _ _ | with_reducible refine below_alloc ?_ _ ?_ | with_reducible refine Below.setCell ?_ ?_ _ | with_reducible refine Below.drew ?_ | with_reducible refine below_drewN ?_ _ | with_reducible refine below_step ?_ (by assumption) ?_ | with_reducible refine below_mark ?_ (by assumption) ?_)); all_goals (first | omega | (simp; done) | (simp; omega)))
      have B1 := Lib.hid ((BX.out.alloc (.cells #[.int .i64 0, .int .i64 0, .int .i64 0, .string ⟨#[]⟩, .slice none 0 0] 28)).stay hb1)
      have Z1 := Lib.hid (Box.stay (show Box ((w.alloc (.cells #[.int .i64 t.k, .int .i64 t.n, .int .i64 t.e, .string t.s, .slice sa sn sc] 28)).alloc (.cells #[.int .i64 0, .int .i64 0, .int .i64 0, .string ⟨#[]⟩, .slice none 0 0] 28)) (w.heap.size + 1) 0 0 0 ⟨#[]⟩ (.slice none 0 0) 28 by
        have := Box.new (w.alloc (.cells #[.int .i64 t.k, .int .i64 t.n, .int .i64 t.e, .string t.s, .slice sa sn sc] 28)) 0 0 0 ⟨#[]⟩ (.slice none 0 0) 28
        rwa [show (w.alloc (.cells #[.int .i64 t.k, .int .i64 t.n, .int .i64 t.e, .string t.s, .slice sa sn sc] 28)).heap.size = w.heap.size + 1 by simp] at this) hb1)
      obtain ⟨p0, p1, p2, p3, p4⟩ := B1.out.cells
      have hb9 := (HM.out.stay hbw1).hm
      have d0 : w1.cell? ⟨m, 0, none⟩ = some (.slice mg S.1.length mcap) := by rw [cell_of_row _ _ _ _ _ (0, 0) hb9]; rfl
      clear hb9
      go_wp2_with fail
      refine (IX.out _ hbw1 B1.out).mono ?_
      rintro x w2 ⟨rfl, hb2⟩
      have hz2 := hb2.size
      have hbw2 : Below w.heap.size w w2 := hbw1.trans (hb2.mono (by omega))
      have B2 := Lib.hid (B1.out.stay hb2)
      have Z2 := Lib.hid (Z1.out.stay hb2)
      clear p0 p1 p2 p3 p4 d0
      obtain ⟨p0, p1, p2, p3, p4⟩ := B2.out.cells
      go_wp2_with fail
      refine (TG.out q HIN.out _).mono ?_
      rintro x w3 ⟨b, h1, hbg, ho, hb3⟩
      have h1' : x = .returned (.agg #[.int .i64 9, .int .i64 25, .int .i64 0, .string ⟨#[]⟩, .slice (some ⟨b, 0, none⟩) 1 1]) := h1
      subst h1'
      clear h1
      have hz3 := hb3.size
      have hbw3 : Below w.heap.size w w3 := hbw2.trans (hb3.mono (by omega))
      have Z3 := Lib.hid (Z2.out.stay hb3)
      obtain ⟨z0, z1, z2, z3, z4⟩ := Z3.out.cells
      have zf0 := Z3.out.free (i := 0); have zf1 := Z3.out.free (i := 1); have zf2 := Z3.out.free (i := 2); have zf3 := Z3.out.free (i := 3); have zf4 := Z3.out.free (i := 4)
      have hnz : ¬ ownM m (.slice mg S.1.length mcap) (w.heap.size + 1) := fun h => by have := (HMLT.out _ h).2; omega
      have HX := Lib.hid ((OwnS.mono ho (F' := fun x => x = b) (fun x hx => hx.elim False.elim id)).set5 (w.heap.size + 1) (fun h => by omega) (.int .i64 9) (.int .i64 25) (.int .i64 0) (.string ⟨#[]⟩) (.slice (some ⟨b, 0, none⟩) 1 1))
      have HY := Lib.hid ((HM.out.stay hbw3).set5 (w.heap.size + 1) hnz (.int .i64 9) (.int .i64 25) (.int .i64 0) (.string ⟨#[]⟩) (.slice (some ⟨b, 0, none⟩) 1 1))
      have HV := Lib.hid ((Touch.of_below (A := ownM m (.slice mg S.1.length mcap)) hbw3).set5 (w.heap.size + 1) (by omega) (.int .i64 9) (.int .i64 25) (.int .i64 0) (.string ⟨#[]⟩) (.slice (some ⟨b, 0, none⟩) 1 1))
      have HB := Lib.hid (show w.heap.size ≤ b ∧ ¬ ownM m (.slice mg S.1.length mcap) b from ⟨by omega, fun h => by have := (HMLT.out _ h).2; omega⟩)
      clear ho hb1 hb2 hb3 hbw1 hbw2 hbw3 p0 p1 p2 p3 p4 IX TG HM HMLT hnz B1 B2 Z1 Z2 Z3 BX
      go_wp2_with fail
      refine bodyPost_ret (v := .agg #[.int .i64 9, .int .i64 25, .int .i64 0, .string ⟨#[]⟩, .slice (some ⟨b, 0, none⟩) 1 1]) (by simp [results, Tryd.results133, go_sem, z0, z1, z2, z3, z4]) rfl (HP.out b _ _ rfl (HX.out.mono (fun x hx => by have hx' : x = b := hx; rw [hx']; exact HB.out)) HY.out HV.out)
    · rw [if_neg hq0]
      have t2 : decide (0 ≤ q) = false := decide_eq_false hq0
      have HP := Lib.hid (show ∀ om' e w', e = .returned (.agg #[.int .i64 t.k, .int .i64 t.n, .int .i64 t.e, .string t.s, .slice sa sn sc]) → MOf B m (keepR S.1 t) S.2 om' w' → Touch (ownM m (.slice mg S.1.length mcap)) (ownM m om') w w' → MemRet B m (.slice mg S.1.length mcap) w (t, (keepR S.1 t, S.2)) e w' from
        fun om' e w' h1 h2 h3 => ⟨_, om', h1, HWF.out, HOWN.out _ _, h2, h3⟩)
      clear TG HOWN HWF HM0
      unfold V.agg at NT ⊢
      go_enter Tryd.func133, Tryd.ntmps133
      go_wp2_with fail
      refine (isText_any _ _ _ _ _ _).mono ?_
      rintro x w1 ⟨h1, hb1⟩
      rw [hq] at h1
      subst h1
      have hz1 := hb1.size
      simp at hz1
      have hbw1 : Below w.heap.size w w1 := (by (repeat' (first | with_reducible exact Below.refl _ _ | with_reducible refine below_alloc ?_ _ ?_ | with_reducible refine Below.setCell ?_ ?_ _ | with_reducible refine Below.drew ?_ | with_reducible refine below_drewN ?_ _ | with_reducible refine below_step ?_ (by assumption) ?_ | with_reducible refine below_mark ?_ (by assumption) ?_)); all_goals (first | omega | (simp; done) | (simp; omega)))
      have B1 := Lib.hid ((BX.out.alloc (.cells #[.int .i64 0, .int .i64 0, .int .i64 0, .string ⟨#[]⟩, .slice none 0 0] 28)).stay hb1)
      have Z1 := Lib.hid (Box.stay (show Box ((w.alloc (.cells #[.int .i64 t.k, .int .i64 t.n, .int .i64 t.e, .string t.s, .slice sa sn sc] 28)).alloc (.cells #[.int .i64 0, .int .i64 0, .int .i64 0, .string ⟨#[]⟩, .slice none 0 0] 28)) (w.heap.size + 1) 0 0 0 ⟨#[]⟩ (.slice none 0 0) 28 by
        have := Box.new (w.alloc (.cells #[.int .i64 t.k, .int .i64 t.n, .int .i64 t.e, .string t.s, .slice sa sn sc] 28)) 0 0 0 ⟨#[]⟩ (.slice none 0 0) 28
        rwa [show (w.alloc (.cells #[.int .i64 t.k, .int .i64 t.n, .int .i64 t.e, .string t.s, .slice sa sn sc] 28)).heap.size = w.heap.size + 1 by simp] at this) hb1)
      obtain ⟨p0, p1, p2, p3, p4⟩ := B1.out.cells
      have hb9 := (HM.out.stay hbw1).hm
      have d0 : w1.cell? ⟨m, 0, none⟩ = some (.slice mg S.1.length mcap) := by rw [cell_of_row _ _ _ _ _ (0, 0) hb9]; rfl
      clear hb9
      go_wp2_with fail
      refine (IX.out _ hbw1 B1.out).mono ?_
      rintro x w2 ⟨rfl, hb2⟩
      have hz2 := hb2.size
      have hbw2 : Below w.heap.size w w2 := hbw1.trans (hb2.mono (by omega))
      have B2 := Lib.hid (B1.out.stay hb2)
      have Z2 := Lib.hid (Z1.out.stay hb2)
      clear p0 p1 p2 p3 p4 d0
      obtain ⟨p0, p1, p2, p3, p4⟩ := B2.out.cells
      go_wp2_with fail
      refine (NT.out _ hbw2).mono ?_
      rintro x w3 ⟨rfl, om3, hm3, ht3⟩
      have hz3 := ht3.size
      have Z3 := Lib.hid (show Box w3 (w.heap.size + 1) 0 0 0 ⟨#[]⟩ (.slice none 0 0) 28 from (ht3.block _ (by omega) (fun h => by have := (HMLT.out _ h).2; omega)).trans Z2.out)
      have B3 := Lib.hid (show Box w3 w.heap.size t.k t.n t.e t.s (.slice sa sn sc) 28 from (ht3.block _ (by omega) (fun h => by have := (HMLT.out _ h).2; omega)).trans B2.out)
      obtain ⟨z0, z1, z2, z3, z4⟩ := Z3.out.cells
      have zf0 := Z3.out.free (i := 0); have zf1 := Z3.out.free (i := 1); have zf2 := Z3.out.free (i := 2); have zf3 := Z3.out.free (i := 3); have zf4 := Z3.out.free (i := 4)
      clear p0 p1 p2 p3 p4
      obtain ⟨p0, p1, p2, p3, p4⟩ := B3.out.cells
      have hnz : ¬ ownM m om3 (w.heap.size + 1) := fun h => by
        rcases ht3.new _ h with h | h
        · have := (HMLT.out _ h).2; omega
        · omega
      have HY := Lib.hid (hm3.set5 (w.heap.size + 1) hnz (.int .i64 t.k) (.int .i64 t.n) (.int .i64 t.e) (.string t.s) (.slice sa sn sc))
      have HV := Lib.hid (((Touch.of_below (A := ownM m (.slice mg S.1.length mcap)) hbw2).trans ht3).set5 (w.heap.size + 1) (by omega) (.int .i64 t.k) (.int .i64 t.n) (.int .i64 t.e) (.string t.s) (.slice sa sn sc))
      clear hm3 ht3 hb1 hb2 hbw1 hbw2 IX NT HM HMLT hnz B1 B2 B3 Z1 Z2 Z3 BX
      go_wp2_with fail
      refine bodyPost_ret (v := .agg #[.int .i64 t.k, .int .i64 t.n, .int .i64 t.e, .string t.s, .slice sa sn sc]) (by simp [results, Tryd.results133, go_sem, z0, z1, z2, z3, z4]) rfl (HP.out om3 _ _ rfl HY.out HV.out)
  · rw [Bool.not_eq_true] at htx
    have hq : decide (t.k = 5 ∨ t.k = 6) = false := htx
    rw [← putF_kids S htx] at KD
    generalize putF t S = r at *
    have BX := Lib.hid (Box.new w t.k t.n t.e t.s sl 28)
    obtain ⟨sa, sn, sc, rfl⟩ : ∃ sa sn sc, sl = .slice sa sn sc := by obtain ⟨p, q, e⟩ := hr.slice; exact ⟨p, _, q, e⟩
    clear ih hright h0 hr hwf hm hts hsz hN htx
    unfold V.agg at KD ⊢
    go_enter Tryd.func133, Tryd.ntmps133
    go_wp2_with fail
    refine (isText_any _ _ _ _ _ _).mono ?_
    rintro x w1 ⟨h1, hb1⟩
    rw [hq] at h1
    subst h1
    have hz1 := hb1.size
    simp at hz1
    have hbw1 : Below w.heap.size w w1 := (by (repeat' (first | with_reducible exact Below.refl _ _ | with_reducible refine below_alloc ?_ _ ?_ | with_reducible refine Below.setCell ?_ ?_ _ | with_reducible refine Below.drew ?_ | with_reducible refine below_drewN ?_ _ | with_reducible refine below_step ?_ (by assumption) ?_ | with_reducible refine below_mark ?_ (by assumption) ?_)); all_goals (first | omega | (simp; done) | (simp; omega)))
    have B1 := Lib.hid ((BX.out.alloc (.cells #[.int .i64 0, .int .i64 0, .int .i64 0, .string ⟨#[]⟩, .slice none 0 0] 28)).stay hb1)
    have Z1 := Lib.hid (Box.stay (show Box ((w.alloc (.cells #[.int .i64 t.k, .int .i64 t.n, .int .i64 t.e, .string t.s, .slice sa sn sc] 28)).alloc (.cells #[.int .i64 0, .int .i64 0, .int .i64 0, .string ⟨#[]⟩, .slice none 0 0] 28)) (w.heap.size + 1) 0 0 0 ⟨#[]⟩ (.slice none 0 0) 28 by
      have := Box.new (w.alloc (.cells #[.int .i64 t.k, .int .i64 t.n, .int .i64 t.e, .string t.s, .slice sa sn sc] 28)) 0 0 0 ⟨#[]⟩ (.slice none 0 0) 28
      rwa [show (w.alloc (.cells #[.int .i64 t.k, .int .i64 t.n, .int .i64 t.e, .string t.s, .slice sa sn sc] 28)).heap.size = w.heap.size + 1 by simp] at this) hb1)
    obtain ⟨p0, p1, p2, p3, p4⟩ := B1.out.cells
    go_wp2_with fail
    refine (KD.out _ hbw1).mono ?_
    rintro x w3 ⟨s2, om3, rfl, uwf, ho, hm3, ht3⟩
    obtain ⟨oa, on, oc, rfl⟩ : ∃ sa sn sc, s2 = .slice sa sn sc := by obtain ⟨p, q, e⟩ := ho.slice; exact ⟨p, _, q, e⟩
    unfold V.agg
    have hz3 := ht3.size
    have Z3 := Lib.hid (show Box w3 (w.heap.size + 1) 0 0 0 ⟨#[]⟩ (.slice none 0 0) 28 from (ht3.block _ (by omega) (fun h => by have := (HMLT.out _ h).2; omega)).trans Z1.out)
    obtain ⟨z0, z1, z2, z3, z4⟩ := Z3.out.cells
    have zf0 := Z3.out.free (i := 0); have zf1 := Z3.out.free (i := 1); have zf2 := Z3.out.free (i := 2); have zf3 := Z3.out.free (i := 3); have zf4 := Z3.out.free (i := 4)
    have hnz : ¬ ownM m om3 (w.heap.size + 1) := fun h => by
      rcases ht3.new _ h with h | h
      · have := (HMLT.out _ h).2; omega
      · omega
    have HX := Lib.hid (ho.set5 (w.heap.size + 1) (fun h => by have := h.1; omega) (.int .i64 r.1.k) (.int .i64 r.1.n) (.int .i64 r.1.e) (.string r.1.s) (.slice oa on oc))
    have HY := Lib.hid (hm3.set5 (w.heap.size + 1) hnz (.int .i64 r.1.k) (.int .i64 r.1.n) (.int .i64 r.1.e) (.string r.1.s) (.slice oa on oc))
    have HV := Lib.hid (((Touch.of_below (A := ownM m om) hbw1).trans ht3).set5 (w.heap.size + 1) (by omega) (.int .i64 r.1.k) (.int .i64 r.1.n) (.int .i64 r.1.e) (.string r.1.s) (.slice oa on oc))
    have HL := Lib.hid (show w.heap.size ≤ w1.heap.size by omega)
    clear hm3 ht3 hb1 hbw1 KD HMLT hnz B1 Z1 Z3 BX ho p0 p1 p2 p3 p4
    go_wp2_with fail
    refine bodyPost_ret (v := .agg #[.int .i64 r.1.k, .int .i64 r.1.n, .int .i64 r.1.e, .string r.1.s, .slice oa on oc]) (by simp [results, Tryd.results133, go_sem, z0, z1, z2, z3, z4]) rfl ⟨_, om3, rfl, uwf, HX.out.mono (fun x hx => ⟨Nat.le_trans HL.out hx.1, hx.2⟩), HY.out, HV.out⟩
end Go.Proofs.YtiemlefmhleaeaaDoor
namespace Go.Proofs.YtiemlefmhleaeaaDoor
set_option linter.unusedVariables false
set_option maxRecDepth 100000
open Go.RowKit
theorem any_or (p qa qb : V → Bool) : ∀ l : List V, l.any (fun x => p x && (qa x || qb x)) = (l.any (fun x => p x && qa x) || l.any (fun x => p x && qb x))
  | [] => rfl
  | x :: l => by
    rw [List.any_cons, List.any_cons, List.any_cons, any_or p qa qb l]
    cases p x <;> cases qa x <;> cases qb x <;> simp
theorem hasT_or (a b : Int) (t : V) : hasT a b t = (hasT a a t || hasT b b t) := by
  rw [hasT_pre, hasT_pre, hasT_pre]
  simp only [Bool.or_self]
  exact any_or (fun x => decide (x.k = 9)) (fun x => decide (x.n = a)) (fun x => decide (x.n = b)) t.pre
def prU (t : V) : V := tagV 256 (putI t []).1
def prR (t : V) : Option V := if okT t && !(hasT 25 25 t || hasT 256 256 t) then (if okT (prU t) then some (prU t) else none) else none
theorem tagV_sz (n : Int) (u : V) : (tagV n u).sz = u.sz + 1 := by
  rw [tagV, V.sz, szs, szs]; simp [ByteArray.size]; omega
theorem prU_sz {t : V} (h : okT t = true) : (prU t).sz ≤ 1048576 := by
  have h1 := ok_small h
  have h2 := (putI_bound t []).1
  unfold prU; rw [tagV_sz]; omega
theorem prR_sz {t : V} (h : t.sz ≤ 1048576) : ((prR t).getD t).sz ≤ 1048576 := by
  unfold prR
  split
  · split
    · rename_i h1 _
      simp only [Bool.and_eq_true] at h1
      exact prU_sz h1.1
    · exact h
  · exact h
theorem tagV_wf {n : Int} {u : V} (hn : In64 n) : (tagV n u).wf :=
  ⟨⟨by show (-9223372036854775808 : Int) ≤ 9; omega, by show (9 : Int) ≤ _; omega⟩, hn, ⟨by show (-9223372036854775808 : Int) ≤ 0; omega, by show (0 : Int) ≤ _; omega⟩, by show ByteArray.size ⟨#[]⟩ ≤ _; simp [ByteArray.size]⟩
theorem mof_new (W : World) (B : Nat) (hB : B ≤ W.heap.size) : MOf B W.heap.size [] false (.slice none 0 0) (W.alloc (.cells #[.slice none 0 0, .bool false] 79)) :=
  { bm := hB, hm := heap_alloc_new W _, hr := PRow.nil _ _, om := by simp [Value.ownBlock] }
set_option maxHeartbeats 2000000 in
theorem PutRefs_impl (w0 : World) (v : Value) (t : V) (h : Rep w0 v t) (hsz : t.sz ≤ 1048576) (w : World) (hw : Below w0.heap.size w0 w) (hE : Env w0) : Calls Tryd.prog 89 #[v] w (VBRet w ((prR t).getD t) (prR t).isSome) := by
  have VO := Lib.hid (fun (W : World) (hW : Below w.heap.size w W) => ValueOk_impl w0 hE v t h hsz W (hw.trans (hW.mono hw.size)))
  have T1 := Lib.hid (fun (W : World) (hW : Below w.heap.size w W) => hasTag_any w0 v t h hsz 25 W (hw.trans (hW.mono hw.size)))
  have T2 := Lib.hid (fun (W : World) (hW : Below w.heap.size w W) => hasTag_any w0 v t h hsz 256 W (hw.trans (hW.mono hw.size)))
  have OW := Lib.hid (fun (W : World) (hW : Below w.heap.size w W) => own_any w0 v t h hsz W (hw.trans (hW.mono hw.size)))
  have SH := Lib.hid (fun (hok : okT t = true) (m : Nat) (W : World) (hW : Below w.heap.size w W) (hm : MOf w.heap.size m [] false (.slice none 0 0) W) => show Calls Tryd.prog 133 #[.pointer (some ⟨m, 0, none⟩), v] W (MemRet w.heap.size m (.slice none 0 0) W ((putI t []).1, ((putI t []).2, false))) from
    shrunk_any w.heap.size m w (Nat.le_refl _) _ v t 12 (Nat.lt_succ_self _) (by simp only [okT, Bool.and_eq_true] at hok; exact hok.1) (h.keep hw) hsz ([], false) (.slice none 0 0) W hW hm (by have := (ok_small hok).2; simp; omega))
  have VU := Lib.hid (fun (x : Value) (W W2 : World) (hu : okT t = true) (hW : Below w.heap.size w W) (hr : Rep W x (prU t)) (hW2 : Below W.heap.size W W2) => ValueOk_impl W (Env.keep (Env.keep hE hw) hW) x (prU t) hr (prU_sz hu) W2 hW2)
  have HP := Lib.hid (show prR t = none → ∀ e w', (∃ sl, e = .returned (.tuple #[t.agg sl, .bool false]) ∧ OwnS w' (fun x => w.heap.size ≤ x) sl t.kids ∧ Below w.heap.size w w') → VBRet w ((prR t).getD t) (prR t).isSome e w' from fun hn e w' ⟨sl, h1, h2, h3⟩ => by
    rw [hn]; obtain ⟨_, _, hwf, _⟩ := h; exact ⟨sl, h1, hwf, h2, h3⟩)
  have HS := Lib.hid (show prR t = some (prU t) → ∀ e w', (∃ sl, e = .returned (.tuple #[(prU t).agg sl, .bool true]) ∧ OwnS w' (fun x => w.heap.size ≤ x) sl (prU t).kids ∧ Below w.heap.size w w') → VBRet w ((prR t).getD t) (prR t).isSome e w' from fun hn e w' ⟨sl, h1, h2, h3⟩ => by
    rw [hn]; exact ⟨sl, h1, tagV_wf ⟨by omega, by omega⟩, h2, h3⟩)
  have HK := Lib.hid (show prR t = if okT t && !(hasT 25 25 t || hasT 256 256 t) then (if okT (prU t) then some (prU t) else none) else none from rfl)
  have HU := Lib.hid (show prU t = tagV 256 (putI t []).1 from rfl)
  obtain ⟨sl, rfl, hwf, hr⟩ := h
  obtain ⟨sa, sc, rfl⟩ := hr.slice
  have BX := Lib.hid (Box.new w t.k t.n t.e t.s (.slice sa t.kids.length sc) 28)
  clear hr hwf hE hsz
  unfold ValRet at OW
  unfold BoolRet at T1 T2
  unfold V.agg at *
  generalize prR t = KR at *
  generalize prU t = U at *
  generalize putI t [] = pt at *
  generalize okT t = b1 at *
  generalize hasT 25 25 t = b2 at *
  generalize hasT 256 256 t = b3 at *
  generalize t.k = k at *
  generalize t.n = n at *
  generalize t.e = e at *
  generalize t.s = s at *
  generalize t.kids = ts at *
  have BZ := Lib.hid (show Box ((w.alloc (.cells #[.int .i64 k, .int .i64 n, .int .i64 e, .string s, .slice sa ts.length sc] 28)).alloc (.cells #[.int .i64 0, .int .i64 0, .int .i64 0, .string ⟨#[]⟩, .slice none 0 0] 28)) (w.heap.size + 1) 0 0 0 ⟨#[]⟩ (.slice none 0 0) 28 by
    have := Box.new (w.alloc (.cells #[.int .i64 k, .int .i64 n, .int .i64 e, .string s, .slice sa ts.length sc] 28)) 0 0 0 ⟨#[]⟩ (.slice none 0 0) 28
    rwa [show (w.alloc (.cells #[.int .i64 k, .int .i64 n, .int .i64 e, .string s, .slice sa ts.length sc] 28)).heap.size = w.heap.size + 1 by simp] at this)
  cases b1
  · have H := Lib.hid (HP.out (by rw [HK.out]; rfl))
    clear HP HS HK VU HU SH
    go_enter Tryd.func89, Tryd.ntmps89
    go_wp2_with fail
    refine (VO.out _ ((by (repeat' (first | with_reducible exact Below.refl _ _ | with_reducible refine below_alloc ?_ _ ?_ | with_reducible refine Below.setCell ?_ ?_ _ | with_reducible refine Below.drew ?_ | with_reducible refine below_drewN ?_ _ | with_reducible refine below_step ?_ (by assumption) ?_ | with_reducible refine below_mark ?_ (by assumption) ?_)); all_goals (first | omega | (simp; done) | (simp; omega))))).mono ?_
    rintro x w1 ⟨rfl, hb1⟩
    have hz1 := hb1.size
    try simp at hz1
    have hbw1 : Below w.heap.size w w1 := (by (repeat' (first | with_reducible exact Below.refl _ _ | with_reducible refine below_alloc ?_ _ ?_ | with_reducible refine Below.setCell ?_ ?_ _ | with_reducible refine Below.drew ?_ | with_reducible refine below_drewN ?_ _ | with_reducible refine below_step ?_ (by assumption) ?_ | with_reducible refine below_mark ?_ (by assumption) ?_)); all_goals (first | omega | (simp; done) | (simp; omega)))
    have BX1 := Lib.hid ((BX.out.alloc _).stay hb1)
    have BZ1 := Lib.hid (BZ.out.stay hb1)
    obtain ⟨p0, p1, p2, p3, p4⟩ := BX1.out.cells
    go_wp2_with fail
    refine (OW.out _ hbw1).mono ?_
    rintro x w9 ⟨s9, rfl, wf9, ho9, hb9⟩
    obtain ⟨oa, on, oc, rfl⟩ : ∃ sa sn sc, s9 = .slice sa sn sc := by obtain ⟨p, q, e⟩ := ho9.slice; exact ⟨p, _, q, e⟩
    have hz9 := hb9.size
    have HO := Lib.hid (show OwnS w9 (fun x => w.heap.size + 1 + 1 ≤ x) (.slice oa on oc) ts from ho9.mono (fun x hx => Nat.le_trans (by first | omega | (simp; omega)) hx)); clear ho9
    have BZ9 := Lib.hid (BZ1.out.stay hb9)
    have hbw9 : Below w.heap.size w w9 := hbw1.trans (hb9.mono (by omega))
    obtain ⟨z0, z1, z2, z3, z4⟩ := BZ9.out.cells
    have zf0 := BZ9.out.free (i := 0); have zf1 := BZ9.out.free (i := 1); have zf2 := BZ9.out.free (i := 2); have zf3 := BZ9.out.free (i := 3); have zf4 := BZ9.out.free (i := 4)
    go_wp2_with fail
    refine bodyPost_ret (v := .tuple #[.agg #[.int .i64 k, .int .i64 n, .int .i64 e, .string s, .slice oa on oc], .bool false]) (by simp [results, Tryd.results89, go_sem, z0, z1, z2, z3, z4]) rfl (H.out _ _ ⟨_, rfl, ?_, (hbw9.trans ((below_set5 w9 (w.heap.size + 1) _ _ _ _ _).mono (by omega)))⟩)
    refine OwnS.mono (F := fun x => w.heap.size + 1 + 1 ≤ x) ?_ (fun x hx => by omega)
    exact HO.out.set5 _ (by omega) _ _ _ _ _
  · cases b2
    · cases b3
      · go_enter Tryd.func89, Tryd.ntmps89
        go_wp2_with fail
        refine (VO.out _ ((by (repeat' (first | with_reducible exact Below.refl _ _ | with_reducible refine below_alloc ?_ _ ?_ | with_reducible refine Below.setCell ?_ ?_ _ | with_reducible refine Below.drew ?_ | with_reducible refine below_drewN ?_ _ | with_reducible refine below_step ?_ (by assumption) ?_ | with_reducible refine below_mark ?_ (by assumption) ?_)); all_goals (first | omega | (simp; done) | (simp; omega))))).mono ?_
        rintro x w1 ⟨rfl, hb1⟩
        have hz1 := hb1.size
        try simp at hz1
        have hbw1 : Below w.heap.size w w1 := (by (repeat' (first | with_reducible exact Below.refl _ _ | with_reducible refine below_alloc ?_ _ ?_ | with_reducible refine Below.setCell ?_ ?_ _ | with_reducible refine Below.drew ?_ | with_reducible refine below_drewN ?_ _ | with_reducible refine below_step ?_ (by assumption) ?_ | with_reducible refine below_mark ?_ (by assumption) ?_)); all_goals (first | omega | (simp; done) | (simp; omega)))
        have BX1 := Lib.hid ((BX.out.alloc _).stay hb1)
        have BZ1 := Lib.hid (BZ.out.stay hb1)
        obtain ⟨p0, p1, p2, p3, p4⟩ := BX1.out.cells
        go_wp2_with fail
        refine (T1.out _ ((by (repeat' (first | with_reducible exact Below.refl _ _ | with_reducible refine below_alloc ?_ _ ?_ | with_reducible refine Below.setCell ?_ ?_ _ | with_reducible refine Below.drew ?_ | with_reducible refine below_drewN ?_ _ | with_reducible refine below_step ?_ (by assumption) ?_ | with_reducible refine below_mark ?_ (by assumption) ?_)); all_goals (first | omega | (simp; done) | (simp; omega))))).mono ?_
        rintro x w2 ⟨rfl, hb2⟩
        have hz2 := hb2.size
        try simp at hz2
        have hbw2 : Below w.heap.size w w2 := (by (repeat' (first | with_reducible exact Below.refl _ _ | with_reducible refine below_alloc ?_ _ ?_ | with_reducible refine Below.setCell ?_ ?_ _ | with_reducible refine Below.drew ?_ | with_reducible refine below_drewN ?_ _ | with_reducible refine below_step ?_ (by assumption) ?_ | with_reducible refine below_mark ?_ (by assumption) ?_)); all_goals (first | omega | (simp; done) | (simp; omega)))
        have BX2 := Lib.hid (BX1.out.stay hb2)
        have BZ2 := Lib.hid (BZ1.out.stay hb2)
        clear p0 p1 p2 p3 p4
        obtain ⟨p0, p1, p2, p3, p4⟩ := BX2.out.cells
        go_wp2_with fail
        refine (T2.out _ ((by (repeat' (first | with_reducible exact Below.refl _ _ | with_reducible refine below_alloc ?_ _ ?_ | with_reducible refine Below.setCell ?_ ?_ _ | with_reducible refine Below.drew ?_ | with_reducible refine below_drewN ?_ _ | with_reducible refine below_step ?_ (by assumption) ?_ | with_reducible refine below_mark ?_ (by assumption) ?_)); all_goals (first | omega | (simp; done) | (simp; omega))))).mono ?_
        rintro x w3 ⟨rfl, hb3⟩
        have hz3 := hb3.size
        try simp at hz3
        have hbw3 : Below w.heap.size w w3 := (by (repeat' (first | with_reducible exact Below.refl _ _ | with_reducible refine below_alloc ?_ _ ?_ | with_reducible refine Below.setCell ?_ ?_ _ | with_reducible refine Below.drew ?_ | with_reducible refine below_drewN ?_ _ | with_reducible refine below_step ?_ (by assumption) ?_ | with_reducible refine below_mark ?_ (by assumption) ?_)); all_goals (first | omega | (simp; done) | (simp; omega)))
        have BX3 := Lib.hid (BX2.out.stay hb3)
        have BZ3 := Lib.hid (BZ2.out.stay hb3)
        clear p0 p1 p2 p3 p4
        obtain ⟨p0, p1, p2, p3, p4⟩ := BX3.out.cells
        have hn1 : w.heap.size ≠ w3.heap.size := by omega
        have hn2 : w3.heap.size ≠ w.heap.size := by omega
        have hn3 : w.heap.size < w3.heap.size := by omega
        go_wp2_with fail
        have hA3 : Below w.heap.size w (w3.alloc (.cells #[.slice none 0 0, .bool false] 79)) := (by (repeat' (first | with_reducible exact Below.refl _ _ | with_reducible refine below_alloc ?_ _ ?_ | with_reducible refine Below.setCell ?_ ?_ _ | with_reducible refine Below.drew ?_ | with_reducible refine below_drewN ?_ _ | with_reducible refine below_step ?_ (by assumption) ?_ | with_reducible refine below_mark ?_ (by assumption) ?_)); all_goals (first | omega | (simp; done) | (simp; omega)))
        refine (SH.out (by trivial) w3.heap.size _ hA3 (mof_new w3 w.heap.size (by omega))).mono ?_
        rintro x w4 ⟨us, om, rfl, uwf, uo, hm4, ht4⟩
        obtain ⟨u, R9⟩ := pt
        obtain ⟨ua, un, uc, rfl⟩ : ∃ a n c, us = .slice a n c := by obtain ⟨p, q, e⟩ := uo.slice; exact ⟨p, _, q, e⟩
        have hz4 := ht4.size
        try simp at hz4
        have hno : ∀ x, x < w3.heap.size → ¬ ownM w3.heap.size (.slice none 0 0) x := fun x hx h => by
          rcases h with h | h
          · omega
          · simp [Value.ownBlock] at h
        have hbw4 : Below w.heap.size w w4 := hA3.trans (ht4.below (fun x hx => by
          rcases hx with h | h
          · omega
          · simp [Value.ownBlock] at h) (by simp; omega))
        have BX4 := Lib.hid (show Box w4 w.heap.size k n e s (.slice sa ts.length sc) 28 from (ht4.block _ (by simp; omega) (hno _ (by omega))).trans (BX3.out.alloc _))
        have BZ4 := Lib.hid (show Box w4 (w.heap.size + 1) 0 0 0 ⟨#[]⟩ (.slice none 0 0) 28 from (ht4.block _ (by simp; omega) (hno _ (by omega))).trans (BZ3.out.alloc _))
        have TG := Lib.hid (tag_any _ 256 u (.slice ua un uc) w4 uwf uo.bound (fun x hx => hx.2))
        clear p0 p1 p2 p3 p4 uo hm4 ht4 hno hA3 SH
        unfold V.agg at *
        go_wp2_with fail
        refine TG.out.mono ?_
        rintro x w5 ⟨b5, h1, hbg5, ho5, hb5⟩
        have h1' : x = .returned (.agg #[.int .i64 9, .int .i64 256, .int .i64 0, .string ⟨#[]⟩, .slice (some ⟨b5, 0, none⟩) 1 1]) := h1
        subst h1'
        clear h1 TG
        have hz5 := hb5.size
        have hbw5 : Below w.heap.size w w5 := hbw4.trans (hb5.mono (by omega))
        have BX5 := Lib.hid (BX4.out.stay hb5)
        have BZ5 := Lib.hid (BZ4.out.stay hb5)
        have BU5 := Lib.hid (Box.new w5 9 256 0 ⟨#[]⟩ (.slice (some ⟨b5, 0, none⟩) 1 1) 28)
        have HRU := Lib.hid (show Rep w5 (.agg #[.int .i64 9, .int .i64 256, .int .i64 0, .string ⟨#[]⟩, .slice (some ⟨b5, 0, none⟩) 1 1]) U by rw [HU.out]; exact ⟨_, rfl, tagV_wf ⟨by omega, by omega⟩, ho5.rep⟩)
        have VUX := Lib.hid (fun (W2 : World) (hW2 : Below w5.heap.size w5 W2) => VU.out _ w5 W2 (by trivial) hbw5 HRU.out hW2)
        have HO5 := Lib.hid (show OwnS w5 (fun x => w.heap.size + 1 + 1 ≤ x) (.slice (some ⟨b5, 0, none⟩) 1 1) U.kids by
          rw [HU.out]
          refine OwnS.mono ho5 (fun x hx => ?_)
          rcases hx with h | h
          · have := h.1.1
            simp at this
            omega
          · omega)
        clear ho5 HRU VU
        go_wp2_with fail
        refine (VUX.out _ ((by (repeat' (first | with_reducible exact Below.refl _ _ | with_reducible refine below_alloc ?_ _ ?_ | with_reducible refine Below.setCell ?_ ?_ _ | with_reducible refine Below.drew ?_ | with_reducible refine below_drewN ?_ _ | with_reducible refine below_step ?_ (by assumption) ?_ | with_reducible refine below_mark ?_ (by assumption) ?_)); all_goals (first | omega | (simp; done) | (simp; omega))))).mono ?_
        rintro x w6 ⟨rfl, hb6⟩
        have hz6 := hb6.size
        try simp at hz6
        have hb56 : Below w5.heap.size w5 w6 := (by (repeat' (first | with_reducible exact Below.refl _ _ | with_reducible refine below_alloc ?_ _ ?_ | with_reducible refine Below.setCell ?_ ?_ _ | with_reducible refine Below.drew ?_ | with_reducible refine below_drewN ?_ _ | with_reducible refine below_step ?_ (by assumption) ?_ | with_reducible refine below_mark ?_ (by assumption) ?_)); all_goals (first | omega | (simp; done) | (simp; omega)))
        have hbw6 : Below w.heap.size w w6 := hbw5.trans (hb56.mono (by omega))
        have BX6 := Lib.hid ((BX5.out.alloc _).stay hb6)
        have BZ6 := Lib.hid ((BZ5.out.alloc _).stay hb6)
        have BU6 := Lib.hid (BU5.out.stay hb6)
        have HO6 := Lib.hid (HO5.out.keep (fun x hx hxs => hb56.block x hxs))
        cases hok : okT U
        · have H := Lib.hid (HP.out (by rw [HK.out, hok]; rfl))
          obtain ⟨p0, p1, p2, p3, p4⟩ := BX6.out.cells
          go_wp2_with fail
          refine (OW.out _ hbw6).mono ?_
          rintro x w9 ⟨s9, rfl, wf9, ho9, hb9⟩
          obtain ⟨oa, on, oc, rfl⟩ : ∃ sa sn sc, s9 = .slice sa sn sc := by obtain ⟨p, q, e⟩ := ho9.slice; exact ⟨p, _, q, e⟩
          have hz9 := hb9.size
          have HO := Lib.hid (show OwnS w9 (fun x => w.heap.size + 1 + 1 ≤ x) (.slice oa on oc) ts from ho9.mono (fun x hx => Nat.le_trans (by first | omega | (simp; omega)) hx)); clear ho9
          have BZ9 := Lib.hid (BZ6.out.stay hb9)
          have hbw9 : Below w.heap.size w w9 := hbw6.trans (hb9.mono (by omega))
          obtain ⟨z0, z1, z2, z3, z4⟩ := BZ9.out.cells
          have zf0 := BZ9.out.free (i := 0); have zf1 := BZ9.out.free (i := 1); have zf2 := BZ9.out.free (i := 2); have zf3 := BZ9.out.free (i := 3); have zf4 := BZ9.out.free (i := 4)
          go_wp2_with fail
          refine bodyPost_ret (v := .tuple #[.agg #[.int .i64 k, .int .i64 n, .int .i64 e, .string s, .slice oa on oc], .bool false]) (by simp [results, Tryd.results89, go_sem, z0, z1, z2, z3, z4]) rfl (H.out _ _ ⟨_, rfl, ?_, (hbw9.trans ((below_set5 w9 (w.heap.size + 1) _ _ _ _ _).mono (by omega)))⟩)
          refine OwnS.mono (F := fun x => w.heap.size + 1 + 1 ≤ x) ?_ (fun x hx => by omega)
          exact HO.out.set5 _ (by omega) _ _ _ _ _
        · have H := Lib.hid (HS.out (by rw [HK.out, hok]; rfl))
          obtain ⟨p0, p1, p2, p3, p4⟩ := BU6.out.cells
          have BZ9 := BZ6
          obtain ⟨z0, z1, z2, z3, z4⟩ := BZ9.out.cells
          have zf0 := BZ9.out.free (i := 0); have zf1 := BZ9.out.free (i := 1); have zf2 := BZ9.out.free (i := 2); have zf3 := BZ9.out.free (i := 3); have zf4 := BZ9.out.free (i := 4)
          rw [HU.out] at H HO6
          clear HP HS HK HU VUX VO T1 T2 OW
          go_wp2_with fail
          refine bodyPost_ret (v := .tuple #[.agg #[.int .i64 9, .int .i64 256, .int .i64 0, .string ⟨#[]⟩, .slice (some ⟨b5, 0, none⟩) 1 1], .bool true]) (by simp [results, Tryd.results89, go_sem, z0, z1, z2, z3, z4]) rfl (H.out _ _ ⟨_, rfl, ?_, (hbw6.trans ((below_set5 w6 (w.heap.size + 1) _ _ _ _ _).mono (by omega)))⟩)
          refine OwnS.mono (F := fun x => w.heap.size + 1 + 1 ≤ x) ?_ (fun x hx => by omega)
          exact HO6.out.set5 _ (by omega) _ _ _ _ _
      · have H := Lib.hid (HP.out (by rw [HK.out]; rfl))
        clear HP HS HK VU HU SH
        go_enter Tryd.func89, Tryd.ntmps89
        go_wp2_with fail
        refine (VO.out _ ((by (repeat' (first | with_reducible exact Below.refl _ _ | with_reducible refine below_alloc ?_ _ ?_ | with_reducible refine Below.setCell ?_ ?_ _ | with_reducible refine Below.drew ?_ | with_reducible refine below_drewN ?_ _ | with_reducible refine below_step ?_ (by assumption) ?_ | with_reducible refine below_mark ?_ (by assumption) ?_)); all_goals (first | omega | (simp; done) | (simp; omega))))).mono ?_
        rintro x w1 ⟨rfl, hb1⟩
        have hz1 := hb1.size
        try simp at hz1
        have hbw1 : Below w.heap.size w w1 := (by (repeat' (first | with_reducible exact Below.refl _ _ | with_reducible refine below_alloc ?_ _ ?_ | with_reducible refine Below.setCell ?_ ?_ _ | with_reducible refine Below.drew ?_ | with_reducible refine below_drewN ?_ _ | with_reducible refine below_step ?_ (by assumption) ?_ | with_reducible refine below_mark ?_ (by assumption) ?_)); all_goals (first | omega | (simp; done) | (simp; omega)))
        have BX1 := Lib.hid ((BX.out.alloc _).stay hb1)
        have BZ1 := Lib.hid (BZ.out.stay hb1)
        obtain ⟨p0, p1, p2, p3, p4⟩ := BX1.out.cells
        go_wp2_with fail
        refine (T1.out _ ((by (repeat' (first | with_reducible exact Below.refl _ _ | with_reducible refine below_alloc ?_ _ ?_ | with_reducible refine Below.setCell ?_ ?_ _ | with_reducible refine Below.drew ?_ | with_reducible refine below_drewN ?_ _ | with_reducible refine below_step ?_ (by assumption) ?_ | with_reducible refine below_mark ?_ (by assumption) ?_)); all_goals (first | omega | (simp; done) | (simp; omega))))).mono ?_
        rintro x w2 ⟨rfl, hb2⟩
        have hz2 := hb2.size
        try simp at hz2
        have hbw2 : Below w.heap.size w w2 := (by (repeat' (first | with_reducible exact Below.refl _ _ | with_reducible refine below_alloc ?_ _ ?_ | with_reducible refine Below.setCell ?_ ?_ _ | with_reducible refine Below.drew ?_ | with_reducible refine below_drewN ?_ _ | with_reducible refine below_step ?_ (by assumption) ?_ | with_reducible refine below_mark ?_ (by assumption) ?_)); all_goals (first | omega | (simp; done) | (simp; omega)))
        have BX2 := Lib.hid (BX1.out.stay hb2)
        have BZ2 := Lib.hid (BZ1.out.stay hb2)
        clear p0 p1 p2 p3 p4
        obtain ⟨p0, p1, p2, p3, p4⟩ := BX2.out.cells
        go_wp2_with fail
        refine (T2.out _ ((by (repeat' (first | with_reducible exact Below.refl _ _ | with_reducible refine below_alloc ?_ _ ?_ | with_reducible refine Below.setCell ?_ ?_ _ | with_reducible refine Below.drew ?_ | with_reducible refine below_drewN ?_ _ | with_reducible refine below_step ?_ (by assumption) ?_ | with_reducible refine below_mark ?_ (by assumption) ?_)); all_goals (first | omega | (simp; done) | (simp; omega))))).mono ?_
        rintro x w3 ⟨rfl, hb3⟩
        have hz3 := hb3.size
        try simp at hz3
        have hbw3 : Below w.heap.size w w3 := (by (repeat' (first | with_reducible exact Below.refl _ _ | with_reducible refine below_alloc ?_ _ ?_ | with_reducible refine Below.setCell ?_ ?_ _ | with_reducible refine Below.drew ?_ | with_reducible refine below_drewN ?_ _ | with_reducible refine below_step ?_ (by assumption) ?_ | with_reducible refine below_mark ?_ (by assumption) ?_)); all_goals (first | omega | (simp; done) | (simp; omega)))
        have BX3 := Lib.hid (BX2.out.stay hb3)
        have BZ3 := Lib.hid (BZ2.out.stay hb3)
        clear p0 p1 p2 p3 p4
        obtain ⟨p0, p1, p2, p3, p4⟩ := BX3.out.cells
        go_wp2_with fail
        refine (OW.out _ hbw3).mono ?_
        rintro x w9 ⟨s9, rfl, wf9, ho9, hb9⟩
        obtain ⟨oa, on, oc, rfl⟩ : ∃ sa sn sc, s9 = .slice sa sn sc := by obtain ⟨p, q, e⟩ := ho9.slice; exact ⟨p, _, q, e⟩
        have hz9 := hb9.size
        have HO := Lib.hid (show OwnS w9 (fun x => w.heap.size + 1 + 1 ≤ x) (.slice oa on oc) ts from ho9.mono (fun x hx => Nat.le_trans (by first | omega | (simp; omega)) hx)); clear ho9
        have BZ9 := Lib.hid (BZ3.out.stay hb9)
        have hbw9 : Below w.heap.size w w9 := hbw3.trans (hb9.mono (by omega))
        obtain ⟨z0, z1, z2, z3, z4⟩ := BZ9.out.cells
        have zf0 := BZ9.out.free (i := 0); have zf1 := BZ9.out.free (i := 1); have zf2 := BZ9.out.free (i := 2); have zf3 := BZ9.out.free (i := 3); have zf4 := BZ9.out.free (i := 4)
        go_wp2_with fail
        refine bodyPost_ret (v := .tuple #[.agg #[.int .i64 k, .int .i64 n, .int .i64 e, .string s, .slice oa on oc], .bool false]) (by simp [results, Tryd.results89, go_sem, z0, z1, z2, z3, z4]) rfl (H.out _ _ ⟨_, rfl, ?_, (hbw9.trans ((below_set5 w9 (w.heap.size + 1) _ _ _ _ _).mono (by omega)))⟩)
        refine OwnS.mono (F := fun x => w.heap.size + 1 + 1 ≤ x) ?_ (fun x hx => by omega)
        exact HO.out.set5 _ (by omega) _ _ _ _ _
    · have H := Lib.hid (HP.out (by rw [HK.out]; rfl))
      clear HP HS HK VU HU SH
      go_enter Tryd.func89, Tryd.ntmps89
      go_wp2_with fail
      refine (VO.out _ ((by (repeat' (first | with_reducible exact Below.refl _ _ | with_reducible refine below_alloc ?_ _ ?_ | with_reducible refine Below.setCell ?_ ?_ _ | with_reducible refine Below.drew ?_ | with_reducible refine below_drewN ?_ _ | with_reducible refine below_step ?_ (by assumption) ?_ | with_reducible refine below_mark ?_ (by assumption) ?_)); all_goals (first | omega | (simp; done) | (simp; omega))))).mono ?_
      rintro x w1 ⟨rfl, hb1⟩
      have hz1 := hb1.size
      try simp at hz1
      have hbw1 : Below w.heap.size w w1 := (by (repeat' (first | with_reducible exact Below.refl _ _ | with_reducible refine below_alloc ?_ _ ?_ | with_reducible refine Below.setCell ?_ ?_ _ | with_reducible refine Below.drew ?_ | with_reducible refine below_drewN ?_ _ | with_reducible refine below_step ?_ (by assumption) ?_ | with_reducible refine below_mark ?_ (by assumption) ?_)); all_goals (first | omega | (simp; done) | (simp; omega)))
      have BX1 := Lib.hid ((BX.out.alloc _).stay hb1)
      have BZ1 := Lib.hid (BZ.out.stay hb1)
      obtain ⟨p0, p1, p2, p3, p4⟩ := BX1.out.cells
      go_wp2_with fail
      refine (T1.out _ ((by (repeat' (first | with_reducible exact Below.refl _ _ | with_reducible refine below_alloc ?_ _ ?_ | with_reducible refine Below.setCell ?_ ?_ _ | with_reducible refine Below.drew ?_ | with_reducible refine below_drewN ?_ _ | with_reducible refine below_step ?_ (by assumption) ?_ | with_reducible refine below_mark ?_ (by assumption) ?_)); all_goals (first | omega | (simp; done) | (simp; omega))))).mono ?_
      rintro x w2 ⟨rfl, hb2⟩
      have hz2 := hb2.size
      try simp at hz2
      have hbw2 : Below w.heap.size w w2 := (by (repeat' (first | with_reducible exact Below.refl _ _ | with_reducible refine below_alloc ?_ _ ?_ | with_reducible refine Below.setCell ?_ ?_ _ | with_reducible refine Below.drew ?_ | with_reducible refine below_drewN ?_ _ | with_reducible refine below_step ?_ (by assumption) ?_ | with_reducible refine below_mark ?_ (by assumption) ?_)); all_goals (first | omega | (simp; done) | (simp; omega)))
      have BX2 := Lib.hid (BX1.out.stay hb2)
      have BZ2 := Lib.hid (BZ1.out.stay hb2)
      clear p0 p1 p2 p3 p4
      obtain ⟨p0, p1, p2, p3, p4⟩ := BX2.out.cells
      go_wp2_with fail
      refine (OW.out _ hbw2).mono ?_
      rintro x w9 ⟨s9, rfl, wf9, ho9, hb9⟩
      obtain ⟨oa, on, oc, rfl⟩ : ∃ sa sn sc, s9 = .slice sa sn sc := by obtain ⟨p, q, e⟩ := ho9.slice; exact ⟨p, _, q, e⟩
      have hz9 := hb9.size
      have HO := Lib.hid (show OwnS w9 (fun x => w.heap.size + 1 + 1 ≤ x) (.slice oa on oc) ts from ho9.mono (fun x hx => Nat.le_trans (by first | omega | (simp; omega)) hx)); clear ho9
      have BZ9 := Lib.hid (BZ2.out.stay hb9)
      have hbw9 : Below w.heap.size w w9 := hbw2.trans (hb9.mono (by omega))
      obtain ⟨z0, z1, z2, z3, z4⟩ := BZ9.out.cells
      have zf0 := BZ9.out.free (i := 0); have zf1 := BZ9.out.free (i := 1); have zf2 := BZ9.out.free (i := 2); have zf3 := BZ9.out.free (i := 3); have zf4 := BZ9.out.free (i := 4)
      go_wp2_with fail
      refine bodyPost_ret (v := .tuple #[.agg #[.int .i64 k, .int .i64 n, .int .i64 e, .string s, .slice oa on oc], .bool false]) (by simp [results, Tryd.results89, go_sem, z0, z1, z2, z3, z4]) rfl (H.out _ _ ⟨_, rfl, ?_, (hbw9.trans ((below_set5 w9 (w.heap.size + 1) _ _ _ _ _).mono (by omega)))⟩)
      refine OwnS.mono (F := fun x => w.heap.size + 1 + 1 ≤ x) ?_ (fun x hx => by omega)
      exact HO.out.set5 _ (by omega) _ _ _ _ _
end Go.Proofs.YtiemlefmhleaeaaDoor
namespace Go.Proofs.YtiemlefmhleaeaaDoor
set_option linter.unusedVariables false
set_option maxRecDepth 100000
open Go.RowKit
theorem repF_empty (W : World) (G : Nat → Prop) (a : Option Addr) : RepF W G (.slice a 0 0) [] :=
  .mk a 0 0 0 [] (fun _ => undef) (by simp) (by simp) (by omega) (by simp) (by simp) (by simp) (by simp)
theorem prU_put {t : V} (h : okT t = true) : prU t = tagV 256 (putT t false []).1 := by
  simp only [okT, Bool.and_eq_true] at h
  unfold prU
  rw [(put_same t 12 [] h.1 (fun x hx => by simp at hx)).1]
set_option maxHeartbeats 2000000 in
theorem PutRefs_spec (w0 : World) (v : Value) (t : V) (h : Rep w0 v t) (hsz : t.sz ≤ 1048576) (w : World) (hw : Below w0.heap.size w0 w) : Calls Tryd.prog 87 #[v] w (VBRet w ((prR t).getD t) (prR t).isSome) := by
  have VO := Lib.hid (fun (W : World) (hW : Below w.heap.size w W) => ValueOk_spec w0 v t h hsz W (hw.trans (hW.mono hw.size)))
  have T1 := Lib.hid (fun (W : World) (hW : Below w.heap.size w W) => l10Tag_any w0 25 256 _ v t (Nat.lt_succ_self _) h hsz W (hw.trans (hW.mono hw.size)))
  have OW := Lib.hid (fun (W : World) (hW : Below w.heap.size w W) => copy_any w0 v t h hsz W (hw.trans (hW.mono hw.size)))
  have PU := Lib.hid (fun (hok : okT t = true) (a : Option Addr) (W : World) (hW : Below w.heap.size w W) => l10Put_any w0 _ v t 12 (Nat.lt_succ_self _) (by simp only [okT, Bool.and_eq_true] at hok; exact hok.1) h hsz (fun _ => False) (.slice a 0 0) [] false W (hw.trans (hW.mono hw.size)) (repF_empty _ _ _) (by have := (ok_small hok).2; simp; omega))
  have VU := Lib.hid (fun (x : Value) (W W2 : World) (hu : okT t = true) (hr : Rep W x (prU t)) (hW2 : Below W.heap.size W W2) => ValueOk_spec W x (prU t) hr (prU_sz hu) W2 hW2)
  have HP := Lib.hid (show prR t = none → ∀ e w', (∃ sl, e = .returned (.tuple #[t.agg sl, .bool false]) ∧ OwnS w' (fun x => w.heap.size ≤ x) sl t.kids ∧ Below w.heap.size w w') → VBRet w ((prR t).getD t) (prR t).isSome e w' from fun hn e w' ⟨sl, h1, h2, h3⟩ => by
    rw [hn]; obtain ⟨_, _, hwf, _⟩ := h; exact ⟨sl, h1, hwf, h2, h3⟩)
  have HS := Lib.hid (show prR t = some (prU t) → ∀ e w', (∃ sl, e = .returned (.tuple #[(prU t).agg sl, .bool true]) ∧ OwnS w' (fun x => w.heap.size ≤ x) sl (prU t).kids ∧ Below w.heap.size w w') → VBRet w ((prR t).getD t) (prR t).isSome e w' from fun hn e w' ⟨sl, h1, h2, h3⟩ => by
    rw [hn]; exact ⟨sl, h1, tagV_wf ⟨by omega, by omega⟩, h2, h3⟩)
  have HK := Lib.hid (show prR t = if okT t && !(hasT 25 256 t) then (if okT (prU t) then some (prU t) else none) else none by rw [hasT_or]; rfl)
  have HU := Lib.hid (fun (h : okT t = true) => prU_put h)
  obtain ⟨sl, rfl, hwf, hr⟩ := h
  obtain ⟨sa, sc, rfl⟩ := hr.slice
  have BX := Lib.hid (Box.new w t.k t.n t.e t.s (.slice sa t.kids.length sc) 28)
  clear hr hwf hsz
  unfold ValRet at OW
  unfold BoolRet at T1
  unfold PutSRet at PU
  unfold V.agg at *
  generalize prR t = KR at *
  generalize prU t = U at *
  generalize putT t false [] = pt at *
  generalize okT t = b1 at *
  generalize hasT 25 256 t = b2 at *
  generalize t.k = k at *
  generalize t.n = n at *
  generalize t.e = e at *
  generalize t.s = s at *
  generalize t.kids = ts at *
  have BZ := Lib.hid (show Box ((w.alloc (.cells #[.int .i64 k, .int .i64 n, .int .i64 e, .string s, .slice sa ts.length sc] 28)).alloc (.cells #[.int .i64 0, .int .i64 0, .int .i64 0, .string ⟨#[]⟩, .slice none 0 0] 28)) (w.heap.size + 1) 0 0 0 ⟨#[]⟩ (.slice none 0 0) 28 by
    have := Box.new (w.alloc (.cells #[.int .i64 k, .int .i64 n, .int .i64 e, .string s, .slice sa ts.length sc] 28)) 0 0 0 ⟨#[]⟩ (.slice none 0 0) 28
    rwa [show (w.alloc (.cells #[.int .i64 k, .int .i64 n, .int .i64 e, .string s, .slice sa ts.length sc] 28)).heap.size = w.heap.size + 1 by simp] at this)
  cases b1
  · have H := Lib.hid (HP.out (by rw [HK.out]; rfl))
    clear HP HS HK VU HU PU
    go_enter Tryd.func87, Tryd.ntmps87
    go_wp2_with fail
    refine (VO.out _ ((by (repeat' (first | with_reducible exact Below.refl _ _ | with_reducible refine below_alloc ?_ _ ?_ | with_reducible refine Below.setCell ?_ ?_ _ | with_reducible refine Below.drew ?_ | with_reducible refine below_drewN ?_ _ | with_reducible refine below_step ?_ (by assumption) ?_ | with_reducible refine below_mark ?_ (by assumption) ?_)); all_goals (first | omega | (simp; done) | (simp; omega))))).mono ?_
    rintro x w1 ⟨rfl, hb1⟩
    have hz1 := hb1.size
    try simp at hz1
    have hbw1 : Below w.heap.size w w1 := (by (repeat' (first | with_reducible exact Below.refl _ _ | with_reducible refine below_alloc ?_ _ ?_ | with_reducible refine Below.setCell ?_ ?_ _ | with_reducible refine Below.drew ?_ | with_reducible refine below_drewN ?_ _ | with_reducible refine below_step ?_ (by assumption) ?_ | with_reducible refine below_mark ?_ (by assumption) ?_)); all_goals (first | omega | (simp; done) | (simp; omega)))
    have BX1 := Lib.hid ((BX.out.alloc _).stay hb1)
    have BZ1 := Lib.hid (BZ.out.stay hb1)
    obtain ⟨p0, p1, p2, p3, p4⟩ := BX1.out.cells
    go_wp2_with fail
    refine (OW.out _ hbw1).mono ?_
    rintro x w9 ⟨s9, rfl, wf9, ho9, hb9⟩
    obtain ⟨oa, on, oc, rfl⟩ : ∃ sa sn sc, s9 = .slice sa sn sc := by obtain ⟨p, q, e⟩ := ho9.slice; exact ⟨p, _, q, e⟩
    have hz9 := hb9.size
    have HO := Lib.hid (show OwnS w9 (fun x => w.heap.size + 1 + 1 ≤ x) (.slice oa on oc) ts from ho9.mono (fun x hx => Nat.le_trans (by first | omega | (simp; omega)) hx)); clear ho9
    have BZ9 := Lib.hid (BZ1.out.stay hb9)
    have hbw9 : Below w.heap.size w w9 := hbw1.trans (hb9.mono (by omega))
    obtain ⟨z0, z1, z2, z3, z4⟩ := BZ9.out.cells
    have zf0 := BZ9.out.free (i := 0); have zf1 := BZ9.out.free (i := 1); have zf2 := BZ9.out.free (i := 2); have zf3 := BZ9.out.free (i := 3); have zf4 := BZ9.out.free (i := 4)
    go_wp2_with fail
    refine bodyPost_ret (v := .tuple #[.agg #[.int .i64 k, .int .i64 n, .int .i64 e, .string s, .slice oa on oc], .bool false]) (by simp [results, Tryd.results87, go_sem, z0, z1, z2, z3, z4]) rfl (H.out _ _ ⟨_, rfl, ?_, (hbw9.trans ((below_set5 w9 (w.heap.size + 1) _ _ _ _ _).mono (by omega)))⟩)
    refine OwnS.mono (F := fun x => w.heap.size + 1 + 1 ≤ x) ?_ (fun x hx => by omega)
    exact HO.out.set5 _ (by omega) _ _ _ _ _
  · cases b2
    · go_enter Tryd.func87, Tryd.ntmps87
      go_wp2_with fail
      refine (VO.out _ ((by (repeat' (first | with_reducible exact Below.refl _ _ | with_reducible refine below_alloc ?_ _ ?_ | with_reducible refine Below.setCell ?_ ?_ _ | with_reducible refine Below.drew ?_ | with_reducible refine below_drewN ?_ _ | with_reducible refine below_step ?_ (by assumption) ?_ | with_reducible refine below_mark ?_ (by assumption) ?_)); all_goals (first | omega | (simp; done) | (simp; omega))))).mono ?_
      rintro x w1 ⟨rfl, hb1⟩
      have hz1 := hb1.size
      try simp at hz1
      have hbw1 : Below w.heap.size w w1 := (by (repeat' (first | with_reducible exact Below.refl _ _ | with_reducible refine below_alloc ?_ _ ?_ | with_reducible refine Below.setCell ?_ ?_ _ | with_reducible refine Below.drew ?_ | with_reducible refine below_drewN ?_ _ | with_reducible refine below_step ?_ (by assumption) ?_ | with_reducible refine below_mark ?_ (by assumption) ?_)); all_goals (first | omega | (simp; done) | (simp; omega)))
      have BX1 := Lib.hid ((BX.out.alloc _).stay hb1)
      have BZ1 := Lib.hid (BZ.out.stay hb1)
      obtain ⟨p0, p1, p2, p3, p4⟩ := BX1.out.cells
      go_wp2_with fail
      refine (T1.out _ ((by (repeat' (first | with_reducible exact Below.refl _ _ | with_reducible refine below_alloc ?_ _ ?_ | with_reducible refine Below.setCell ?_ ?_ _ | with_reducible refine Below.drew ?_ | with_reducible refine below_drewN ?_ _ | with_reducible refine below_step ?_ (by assumption) ?_ | with_reducible refine below_mark ?_ (by assumption) ?_)); all_goals (first | omega | (simp; done) | (simp; omega))))).mono ?_
      rintro x w2 ⟨rfl, hb2⟩
      have hz2 := hb2.size
      try simp at hz2
      have hbw2 : Below w.heap.size w w2 := (by (repeat' (first | with_reducible exact Below.refl _ _ | with_reducible refine below_alloc ?_ _ ?_ | with_reducible refine Below.setCell ?_ ?_ _ | with_reducible refine Below.drew ?_ | with_reducible refine below_drewN ?_ _ | with_reducible refine below_step ?_ (by assumption) ?_ | with_reducible refine below_mark ?_ (by assumption) ?_)); all_goals (first | omega | (simp; done) | (simp; omega)))
      have BX2 := Lib.hid (BX1.out.stay hb2)
      have BZ2 := Lib.hid (BZ1.out.stay hb2)
      clear p0 p1 p2 p3 p4
      obtain ⟨p0, p1, p2, p3, p4⟩ := BX2.out.cells
      have hn1 : w.heap.size ≠ w2.heap.size := by omega
      have hn2 : w2.heap.size ≠ w.heap.size := by omega
      have hn3 : w.heap.size < w2.heap.size := by omega
      go_wp2_with fail
      refine (PU.out (by trivial) _ _ ((by (repeat' (first | with_reducible exact Below.refl _ _ | with_reducible refine below_alloc ?_ _ ?_ | with_reducible refine Below.setCell ?_ ?_ _ | with_reducible refine Below.drew ?_ | with_reducible refine below_drewN ?_ _ | with_reducible refine below_step ?_ (by assumption) ?_ | with_reducible refine below_mark ?_ (by assumption) ?_)); all_goals (first | omega | (simp; done) | (simp; omega))))).mono ?_
      rintro x w3 ⟨us, lv2, rfl, uwf, uo, ul, hb3⟩
      have HU := Lib.hid (HU.out (by trivial))
      obtain ⟨u, R9⟩ := pt
      obtain ⟨ua, un, uc, rfl⟩ : ∃ a n c, us = .slice a n c := by obtain ⟨p, q, e⟩ := uo.slice; exact ⟨p, _, q, e⟩
      obtain ⟨la2, lc2, rfl⟩ := ul.slice
      have hz3 := hb3.size
      try simp at hz3
      have hbw3 : Below w.heap.size w w3 := (by (repeat' (first | with_reducible exact Below.refl _ _ | with_reducible refine below_alloc ?_ _ ?_ | with_reducible refine Below.setCell ?_ ?_ _ | with_reducible refine Below.drew ?_ | with_reducible refine below_drewN ?_ _ | with_reducible refine below_step ?_ (by assumption) ?_ | with_reducible refine below_mark ?_ (by assumption) ?_)); all_goals (first | omega | (simp; done) | (simp; omega)))
      have BX3 := Lib.hid ((BX2.out.alloc (.cells #[] 28)).stay hb3)
      have BZ3 := Lib.hid ((BZ2.out.alloc (.cells #[] 28)).stay hb3)
      have UO := Lib.hid (OwnS.mono uo.bound (F' := fun x => w2.heap.size + 1 ≤ x ∧ x < w3.heap.size) (fun x hx => ⟨by have := hx.1; simp at this; omega, hx.2⟩))
      have HWF := Lib.hid uwf
      clear p0 p1 p2 p3 p4 uo ul uwf PU
      unfold V.agg at *
      go_wp2_with fail
      have hbX : Below w3.heap.size w3 (((w3.alloc (.cells #[.int .i64 u.k, .int .i64 u.n, .int .i64 u.e, .string u.s, .slice ua un uc] 28)).alloc (.cells #[.int .i64 u.k, .int .i64 u.n, .int .i64 u.e, .string u.s, .slice ua un uc] 28)).alloc (.cells #[.int .i64 9, .int .i64 256, .int .i64 0, .string ⟨#[]⟩, .slice (some ⟨w3.heap.size + 1, 0, none⟩) 1 1] 28)) := (by (repeat' (first | with_reducible exact Below.refl _ _ | with_reducible refine below_alloc ?_ _ ?_ | with_reducible refine Below.setCell ?_ ?_ _ | with_reducible refine Below.drew ?_ | with_reducible refine below_drewN ?_ _ | with_reducible refine below_step ?_ (by assumption) ?_ | with_reducible refine below_mark ?_ (by assumption) ?_)); all_goals (first | omega | (simp; done) | (simp; omega)))
      have hzX : (((w3.alloc (.cells #[.int .i64 u.k, .int .i64 u.n, .int .i64 u.e, .string u.s, .slice ua un uc] 28)).alloc (.cells #[.int .i64 u.k, .int .i64 u.n, .int .i64 u.e, .string u.s, .slice ua un uc] 28)).alloc (.cells #[.int .i64 9, .int .i64 256, .int .i64 0, .string ⟨#[]⟩, .slice (some ⟨w3.heap.size + 1, 0, none⟩) 1 1] 28)).heap.size = w3.heap.size + 1 + 1 + 1 := by simp
      have BXX := Lib.hid (Box.keep BX3.out hbX (Nat.le_refl _))
      have BZX := Lib.hid (Box.keep BZ3.out hbX (Nat.le_refl _))
      have BT := Lib.hid (show Box (((w3.alloc (.cells #[.int .i64 u.k, .int .i64 u.n, .int .i64 u.e, .string u.s, .slice ua un uc] 28)).alloc (.cells #[.int .i64 u.k, .int .i64 u.n, .int .i64 u.e, .string u.s, .slice ua un uc] 28)).alloc (.cells #[.int .i64 9, .int .i64 256, .int .i64 0, .string ⟨#[]⟩, .slice (some ⟨w3.heap.size + 1, 0, none⟩) 1 1] 28)) (w3.heap.size + 1 + 1) 9 256 0 ⟨#[]⟩ (.slice (some ⟨w3.heap.size + 1, 0, none⟩) 1 1) 28 from heap_alloc_here _ (by simp))
      have OX := Lib.hid (show OwnS (((w3.alloc (.cells #[.int .i64 u.k, .int .i64 u.n, .int .i64 u.e, .string u.s, .slice ua un uc] 28)).alloc (.cells #[.int .i64 u.k, .int .i64 u.n, .int .i64 u.e, .string u.s, .slice ua un uc] 28)).alloc (.cells #[.int .i64 9, .int .i64 256, .int .i64 0, .string ⟨#[]⟩, .slice (some ⟨w3.heap.size + 1, 0, none⟩) 1 1] 28)) (fun x => (w2.heap.size + 1 ≤ x ∧ x < w3.heap.size) ∨ x = w3.heap.size + 1) (.slice (some ⟨w3.heap.size + 1, 0, none⟩) 1 1) [u] from
        own_one (E := 28) (sl := .slice ua un uc) ((heap_alloc_old _ _ (by simp)).trans (heap_alloc_here _ (by simp))) HWF.out (UO.out.keep (fun x hx hxs => hbX.block x hxs)) (fun h => by omega))
      have HRU := Lib.hid (show Rep (((w3.alloc (.cells #[.int .i64 u.k, .int .i64 u.n, .int .i64 u.e, .string u.s, .slice ua un uc] 28)).alloc (.cells #[.int .i64 u.k, .int .i64 u.n, .int .i64 u.e, .string u.s, .slice ua un uc] 28)).alloc (.cells #[.int .i64 9, .int .i64 256, .int .i64 0, .string ⟨#[]⟩, .slice (some ⟨w3.heap.size + 1, 0, none⟩) 1 1] 28)) (.agg #[.int .i64 9, .int .i64 256, .int .i64 0, .string ⟨#[]⟩, .slice (some ⟨w3.heap.size + 1, 0, none⟩) 1 1]) U by rw [HU.out]; exact ⟨_, rfl, tagV_wf ⟨by omega, by omega⟩, OX.out.rep⟩)
      have VUX := Lib.hid (fun (W2 : World) (hW2 : Below (((w3.alloc (.cells #[.int .i64 u.k, .int .i64 u.n, .int .i64 u.e, .string u.s, .slice ua un uc] 28)).alloc (.cells #[.int .i64 u.k, .int .i64 u.n, .int .i64 u.e, .string u.s, .slice ua un uc] 28)).alloc (.cells #[.int .i64 9, .int .i64 256, .int .i64 0, .string ⟨#[]⟩, .slice (some ⟨w3.heap.size + 1, 0, none⟩) 1 1] 28)).heap.size (((w3.alloc (.cells #[.int .i64 u.k, .int .i64 u.n, .int .i64 u.e, .string u.s, .slice ua un uc] 28)).alloc (.cells #[.int .i64 u.k, .int .i64 u.n, .int .i64 u.e, .string u.s, .slice ua un uc] 28)).alloc (.cells #[.int .i64 9, .int .i64 256, .int .i64 0, .string ⟨#[]⟩, .slice (some ⟨w3.heap.size + 1, 0, none⟩) 1 1] 28)) W2) => VU.out _ (((w3.alloc (.cells #[.int .i64 u.k, .int .i64 u.n, .int .i64 u.e, .string u.s, .slice ua un uc] 28)).alloc (.cells #[.int .i64 u.k, .int .i64 u.n, .int .i64 u.e, .string u.s, .slice ua un uc] 28)).alloc (.cells #[.int .i64 9, .int .i64 256, .int .i64 0, .string ⟨#[]⟩, .slice (some ⟨w3.heap.size + 1, 0, none⟩) 1 1] 28)) W2 (by trivial) HRU.out hW2)
      have HO5 := Lib.hid (show OwnS (((w3.alloc (.cells #[.int .i64 u.k, .int .i64 u.n, .int .i64 u.e, .string u.s, .slice ua un uc] 28)).alloc (.cells #[.int .i64 u.k, .int .i64 u.n, .int .i64 u.e, .string u.s, .slice ua un uc] 28)).alloc (.cells #[.int .i64 9, .int .i64 256, .int .i64 0, .string ⟨#[]⟩, .slice (some ⟨w3.heap.size + 1, 0, none⟩) 1 1] 28)) (fun x => w.heap.size + 1 + 1 ≤ x) (.slice (some ⟨w3.heap.size + 1, 0, none⟩) 1 1) U.kids by
        rw [HU.out]
        refine OwnS.mono OX.out (fun x hx => ?_)
        rcases hx with h | h
        · omega
        · omega)
      have hbwX : Below w.heap.size w (((w3.alloc (.cells #[.int .i64 u.k, .int .i64 u.n, .int .i64 u.e, .string u.s, .slice ua un uc] 28)).alloc (.cells #[.int .i64 u.k, .int .i64 u.n, .int .i64 u.e, .string u.s, .slice ua un uc] 28)).alloc (.cells #[.int .i64 9, .int .i64 256, .int .i64 0, .string ⟨#[]⟩, .slice (some ⟨w3.heap.size + 1, 0, none⟩) 1 1] 28)) := hbw3.trans (hbX.mono (by omega))
      refine (VUX.out _ (Below.refl _ _)).mono ?_
      rintro x w6 ⟨rfl, hb6⟩
      have hz6 := hb6.size
      rw [hzX] at hz6
      have hbw6 : Below w.heap.size w w6 := hbwX.trans (hb6.mono (by rw [hzX]; omega))
      have BX6 := Lib.hid (BXX.out.stay hb6)
      have BZ6 := Lib.hid (BZX.out.stay hb6)
      have BU6 := Lib.hid (BT.out.stay hb6)
      have HO6 := Lib.hid (HO5.out.keep (fun x hx hxs => hb6.block x hxs))
      cases hok : okT U
      · have H := Lib.hid (HP.out (by rw [HK.out, hok]; rfl))
        obtain ⟨p0, p1, p2, p3, p4⟩ := BX6.out.cells
        go_wp2_with fail
        refine (OW.out _ hbw6).mono ?_
        rintro x w9 ⟨s9, rfl, wf9, ho9, hb9⟩
        obtain ⟨oa, on, oc, rfl⟩ : ∃ sa sn sc, s9 = .slice sa sn sc := by obtain ⟨p, q, e⟩ := ho9.slice; exact ⟨p, _, q, e⟩
        have hz9 := hb9.size
        have HO := Lib.hid (show OwnS w9 (fun x => w.heap.size + 1 + 1 ≤ x) (.slice oa on oc) ts from ho9.mono (fun x hx => Nat.le_trans (by first | omega | (simp; omega)) hx)); clear ho9
        have BZ9 := Lib.hid (BZ6.out.stay hb9)
        have hbw9 : Below w.heap.size w w9 := hbw6.trans (hb9.mono (by omega))
        obtain ⟨z0, z1, z2, z3, z4⟩ := BZ9.out.cells
        have zf0 := BZ9.out.free (i := 0); have zf1 := BZ9.out.free (i := 1); have zf2 := BZ9.out.free (i := 2); have zf3 := BZ9.out.free (i := 3); have zf4 := BZ9.out.free (i := 4)
        go_wp2_with fail
        refine bodyPost_ret (v := .tuple #[.agg #[.int .i64 k, .int .i64 n, .int .i64 e, .string s, .slice oa on oc], .bool false]) (by simp [results, Tryd.results87, go_sem, z0, z1, z2, z3, z4]) rfl (H.out _ _ ⟨_, rfl, ?_, (hbw9.trans ((below_set5 w9 (w.heap.size + 1) _ _ _ _ _).mono (by omega)))⟩)
        refine OwnS.mono (F := fun x => w.heap.size + 1 + 1 ≤ x) ?_ (fun x hx => by omega)
        exact HO.out.set5 _ (by omega) _ _ _ _ _
      · have H := Lib.hid (HS.out (by rw [HK.out, hok]; rfl))
        obtain ⟨p0, p1, p2, p3, p4⟩ := BU6.out.cells
        have BZ9 := BZ6
        obtain ⟨z0, z1, z2, z3, z4⟩ := BZ9.out.cells
        have zf0 := BZ9.out.free (i := 0); have zf1 := BZ9.out.free (i := 1); have zf2 := BZ9.out.free (i := 2); have zf3 := BZ9.out.free (i := 3); have zf4 := BZ9.out.free (i := 4)
        rw [HU.out] at H HO6
        clear HP HS HK HU VUX VO T1 OW
        go_wp2_with fail
        refine bodyPost_ret (v := .tuple #[.agg #[.int .i64 9, .int .i64 256, .int .i64 0, .string ⟨#[]⟩, .slice (some ⟨w3.heap.size + 1, 0, none⟩) 1 1], .bool true]) (by simp [results, Tryd.results87, go_sem, z0, z1, z2, z3, z4]) rfl (H.out _ _ ⟨_, rfl, ?_, (hbw6.trans ((below_set5 w6 (w.heap.size + 1) _ _ _ _ _).mono (by omega)))⟩)
        refine OwnS.mono (F := fun x => w.heap.size + 1 + 1 ≤ x) ?_ (fun x hx => by omega)
        exact HO6.out.set5 _ (by omega) _ _ _ _ _
    · have H := Lib.hid (HP.out (by rw [HK.out]; rfl))
      clear HP HS HK VU HU PU
      go_enter Tryd.func87, Tryd.ntmps87
      go_wp2_with fail
      refine (VO.out _ ((by (repeat' (first | with_reducible exact Below.refl _ _ | with_reducible refine below_alloc ?_ _ ?_ | with_reducible refine Below.setCell ?_ ?_ _ | with_reducible refine Below.drew ?_ | with_reducible refine below_drewN ?_ _ | with_reducible refine below_step ?_ (by assumption) ?_ | with_reducible refine below_mark ?_ (by assumption) ?_)); all_goals (first | omega | (simp; done) | (simp; omega))))).mono ?_
      rintro x w1 ⟨rfl, hb1⟩
      have hz1 := hb1.size
      try simp at hz1
      have hbw1 : Below w.heap.size w w1 := (by (repeat' (first | with_reducible exact Below.refl _ _ | with_reducible refine below_alloc ?_ _ ?_ | with_reducible refine Below.setCell ?_ ?_ _ | with_reducible refine Below.drew ?_ | with_reducible refine below_drewN ?_ _ | with_reducible refine below_step ?_ (by assumption) ?_ | with_reducible refine below_mark ?_ (by assumption) ?_)); all_goals (first | omega | (simp; done) | (simp; omega)))
      have BX1 := Lib.hid ((BX.out.alloc _).stay hb1)
      have BZ1 := Lib.hid (BZ.out.stay hb1)
      obtain ⟨p0, p1, p2, p3, p4⟩ := BX1.out.cells
      go_wp2_with fail
      refine (T1.out _ ((by (repeat' (first | with_reducible exact Below.refl _ _ | with_reducible refine below_alloc ?_ _ ?_ | with_reducible refine Below.setCell ?_ ?_ _ | with_reducible refine Below.drew ?_ | with_reducible refine below_drewN ?_ _ | with_reducible refine below_step ?_ (by assumption) ?_ | with_reducible refine below_mark ?_ (by assumption) ?_)); all_goals (first | omega | (simp; done) | (simp; omega))))).mono ?_
      rintro x w2 ⟨rfl, hb2⟩
      have hz2 := hb2.size
      try simp at hz2
      have hbw2 : Below w.heap.size w w2 := (by (repeat' (first | with_reducible exact Below.refl _ _ | with_reducible refine below_alloc ?_ _ ?_ | with_reducible refine Below.setCell ?_ ?_ _ | with_reducible refine Below.drew ?_ | with_reducible refine below_drewN ?_ _ | with_reducible refine below_step ?_ (by assumption) ?_ | with_reducible refine below_mark ?_ (by assumption) ?_)); all_goals (first | omega | (simp; done) | (simp; omega)))
      have BX2 := Lib.hid (BX1.out.stay hb2)
      have BZ2 := Lib.hid (BZ1.out.stay hb2)
      clear p0 p1 p2 p3 p4
      obtain ⟨p0, p1, p2, p3, p4⟩ := BX2.out.cells
      go_wp2_with fail
      refine (OW.out _ hbw2).mono ?_
      rintro x w9 ⟨s9, rfl, wf9, ho9, hb9⟩
      obtain ⟨oa, on, oc, rfl⟩ : ∃ sa sn sc, s9 = .slice sa sn sc := by obtain ⟨p, q, e⟩ := ho9.slice; exact ⟨p, _, q, e⟩
      have hz9 := hb9.size
      have HO := Lib.hid (show OwnS w9 (fun x => w.heap.size + 1 + 1 ≤ x) (.slice oa on oc) ts from ho9.mono (fun x hx => Nat.le_trans (by first | omega | (simp; omega)) hx)); clear ho9
      have BZ9 := Lib.hid (BZ2.out.stay hb9)
      have hbw9 : Below w.heap.size w w9 := hbw2.trans (hb9.mono (by omega))
      obtain ⟨z0, z1, z2, z3, z4⟩ := BZ9.out.cells
      have zf0 := BZ9.out.free (i := 0); have zf1 := BZ9.out.free (i := 1); have zf2 := BZ9.out.free (i := 2); have zf3 := BZ9.out.free (i := 3); have zf4 := BZ9.out.free (i := 4)
      go_wp2_with fail
      refine bodyPost_ret (v := .tuple #[.agg #[.int .i64 k, .int .i64 n, .int .i64 e, .string s, .slice oa on oc], .bool false]) (by simp [results, Tryd.results87, go_sem, z0, z1, z2, z3, z4]) rfl (H.out _ _ ⟨_, rfl, ?_, (hbw9.trans ((below_set5 w9 (w.heap.size + 1) _ _ _ _ _).mono (by omega)))⟩)
      refine OwnS.mono (F := fun x => w.heap.size + 1 + 1 ≤ x) ?_ (fun x hx => by omega)
      exact HO.out.set5 _ (by omega) _ _ _ _ _
end Go.Proofs.YtiemlefmhleaeaaDoor
