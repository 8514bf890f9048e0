/- For every code: the merge of a drawn patch into a drawn value is alike on both sides; it is right where the value was right; it is the value itself where one of both is not right, the patch where that is no map; merged once more it stays: the law returns true. -/
import Derived.Test.YtppmoajoffeleaaDoorMg06
import Derived.Test.YtppmoajoffeleaaDoorMg07
import Derived.Deep.RegionWith
import Derived.Deep.RegionHeld3
import Derived.Deep.DeepCutAuto
namespace Go.Proofs.YtppmoajoffeleaaDoor
set_option linter.unusedSimpArgs false
set_option linter.unusedVariables false
set_option maxRecDepth 100000
open Go.ChangeShapes Go.WideShapes Go.ChangeAt Go.RowKit Go.Lib
open Go.ChangeMaps (open_string shut_string)
theorem bigO_any {w : World} {v : Value} {L : List Int} (h : BRead w v L) : Calls Tryd.prog 9 #[v] w fun e w' => e = .returned (.bool (decide ((1048576 : Int) < (L.length : Int)))) ∧ w = w' := by
  obtain ⟨a, b, off, cap, rfl, h1, h2, h3, h4, h5⟩ := h
  clear h1 h4 h5
  go_enter Tryd.func9, Tryd.ntmps9
  go_wp2_with fail
  go_ret
  exact ⟨rfl, rfl⟩
theorem mgp_ok {v p : V} (h : okT v = true) : okT (mgp v p) = true := by
  unfold mgp
  split
  · split
    · assumption
    · exact h
  · exact h
theorem mgp_no {v p : V} (h : ¬ (okT v = true ∧ okT p = true)) : mgp v p = v := by unfold mgp; rw [if_neg h]
theorem mgp_leaf {v p : V} (h1 : okT v = true) (h2 : okT p = true) (h8 : ¬ p.k = 8) : mgp v p = p := by
  have e : mrg v p = p := by rw [mrg_eq, if_neg h8]
  unfold mgp
  rw [if_pos ⟨h1, h2⟩, e, if_pos h2]
theorem mgp_idem {v p : V} (h1 : okT v = true) (h2 : okT p = true) : mgp (mgp v p) p = mgp v p := by
  by_cases h : okT (mrg v p) = true
  · have e : mgp v p = mrg v p := by unfold mgp; rw [if_pos ⟨h1, h2⟩, if_pos h]
    rw [e]
    unfold mgp
    rw [if_pos ⟨h, h2⟩, mrg_idem p.nodes p 12 (Nat.le_refl _) (okT_right h2) v (.inr ⟨12, okT_right h1⟩), if_pos h]
  · have e : mgp v p = v := by unfold mgp; rw [if_pos ⟨h1, h2⟩, if_neg h]
    rw [e, e]
theorem mgp_sz (v p : V) : (mgp v p).sz ≤ v.sz + p.sz := by
  unfold mgp
  split
  · rename_i h
    split
    · exact mrg_sz p.nodes p 12 (Nat.le_refl _) (okT_right h.2) v (fun h8 => (right_map (okT_right h.1) h8).1) (fun z hz => by
        obtain ⟨j, hj, rfl⟩ := List.getElem_of_mem hz
        exact .inr ⟨12 - 1, rightsB_at (right_kids (okT_right h.1)) j hj⟩)
    · omega
  · omega
theorem Rep.both {w : World} {t : V} {sl : Value} (h : Rep w (t.agg sl) t) : t.wf ∧ RepS w sl t.kids := by
  obtain ⟨sl2, e, h1, h2⟩ := h
  unfold V.agg at e
  injection e with e
  have := congrArg (fun a : Array Value => a[4]?) e
  simp at this
  rw [this]
  exact ⟨h1, h2⟩
def HeldB (W : World) (b : Nat) (t : V) (sl : Value) : Prop := Box W b t.k t.n t.e t.s sl 26 ∧ Rep W (t.agg sl) t
theorem HeldB.new {W : World} {t : V} {sl : Value} (h : Rep W (t.agg sl) t) : HeldB (W.alloc (.cells #[.int .i64 t.k, .int .i64 t.n, .int .i64 t.e, .string t.s, sl] 26)) W.heap.size t sl :=
  ⟨Box.new W _ _ _ _ _ _, h.keep ((Below.refl _ _).alloc (Nat.le_refl _) _)⟩
theorem HeldB.stay {W W' : World} {b : Nat} {t : V} {sl : Value} (h : HeldB W b t sl) (hb : Below W.heap.size W W') : HeldB W' b t sl := ⟨h.1.stay hb, h.2.keep hb⟩
theorem alloc_below (W : World) (o : Obj) : Below W.heap.size W (W.alloc o) := (Below.refl _ _).alloc (Nat.le_refl _) _
theorem keepc {W w2 : World} (hb : Below W.heap.size W w2) {p : Addr} {x : Value} (h : W.cell? p = some x) : w2.cell? p = some x := (hb.cell (World.block_lt_of_cell? _ _ h)).trans h
theorem keepc15 {W0 W w2 : World} {p0 : Addr} {y0 : Value} {p1 : Addr} {y1 : Value} {p2 : Addr} {y2 : Value} {p3 : Addr} {y3 : Value} {p4 : Addr} {y4 : Value} {p5 : Addr} {y5 : Value} {p6 : Addr} {y6 : Value} {p7 : Addr} {y7 : Value} {p8 : Addr} {y8 : Value} {p9 : Addr} {y9 : Value} {p10 : Addr} {y10 : Value} {p11 : Addr} {y11 : Value} {p12 : Addr} {y12 : Value} {p13 : Addr} {y13 : Value} {p14 : Addr} {y14 : Value} (hb : Below W.heap.size W w2) (h : W.cell? p0 = some y0 ∧ W.cell? p1 = some y1 ∧ W.cell? p2 = some y2 ∧ W.cell? p3 = some y3 ∧ W.cell? p4 = some y4 ∧ W.cell? p5 = some y5 ∧ W.cell? p6 = some y6 ∧ W.cell? p7 = some y7 ∧ W.cell? p8 = some y8 ∧ W.cell? p9 = some y9 ∧ W.cell? p10 = some y10 ∧ W.cell? p11 = some y11 ∧ W.cell? p12 = some y12 ∧ W.cell? p13 = some y13 ∧ W.cell? p14 = some y14 ∧ Below W0.heap.size W0 W) : w2.cell? p0 = some y0 ∧ w2.cell? p1 = some y1 ∧ w2.cell? p2 = some y2 ∧ w2.cell? p3 = some y3 ∧ w2.cell? p4 = some y4 ∧ w2.cell? p5 = some y5 ∧ w2.cell? p6 = some y6 ∧ w2.cell? p7 = some y7 ∧ w2.cell? p8 = some y8 ∧ w2.cell? p9 = some y9 ∧ w2.cell? p10 = some y10 ∧ w2.cell? p11 = some y11 ∧ w2.cell? p12 = some y12 ∧ w2.cell? p13 = some y13 ∧ w2.cell? p14 = some y14 ∧ Below W0.heap.size W0 w2 := by
  obtain ⟨h0, h1, h2, h3, h4, h5, h6, h7, h8, h9, h10, h11, h12, h13, h14, hB⟩ := h
  exact ⟨keepc hb h0, keepc hb h1, keepc hb h2, keepc hb h3, keepc hb h4, keepc hb h5, keepc hb h6, keepc hb h7, keepc hb h8, keepc hb h9, keepc hb h10, keepc hb h11, keepc hb h12, keepc hb h13, keepc hb h14, hB.trans (hb.mono hB.size)⟩
theorem keepc10 {W0 W w2 : World} {p0 : Addr} {y0 : Value} {p1 : Addr} {y1 : Value} {p2 : Addr} {y2 : Value} {p3 : Addr} {y3 : Value} {p4 : Addr} {y4 : Value} {p5 : Addr} {y5 : Value} {p6 : Addr} {y6 : Value} {p7 : Addr} {y7 : Value} {p8 : Addr} {y8 : Value} {p9 : Addr} {y9 : Value} (hb : Below W.heap.size W w2) (h : W.cell? p0 = some y0 ∧ W.cell? p1 = some y1 ∧ W.cell? p2 = some y2 ∧ W.cell? p3 = some y3 ∧ W.cell? p4 = some y4 ∧ W.cell? p5 = some y5 ∧ W.cell? p6 = some y6 ∧ W.cell? p7 = some y7 ∧ W.cell? p8 = some y8 ∧ W.cell? p9 = some y9 ∧ Below W0.heap.size W0 W) : w2.cell? p0 = some y0 ∧ w2.cell? p1 = some y1 ∧ w2.cell? p2 = some y2 ∧ w2.cell? p3 = some y3 ∧ w2.cell? p4 = some y4 ∧ w2.cell? p5 = some y5 ∧ w2.cell? p6 = some y6 ∧ w2.cell? p7 = some y7 ∧ w2.cell? p8 = some y8 ∧ w2.cell? p9 = some y9 ∧ Below W0.heap.size W0 w2 := by
  obtain ⟨h0, h1, h2, h3, h4, h5, h6, h7, h8, h9, hB⟩ := h
  exact ⟨keepc hb h0, keepc hb h1, keepc hb h2, keepc hb h3, keepc hb h4, keepc hb h5, keepc hb h6, keepc hb h7, keepc hb h8, keepc hb h9, hB.trans (hb.mono hB.size)⟩
set_option maxHeartbeats 2000000 in
theorem walk_FnMerge {w00 : World} (v0 : Value) (L : List Int) (hv : BRead w00 v0 L) (w : World) (hww : w = w00) (hE : Env w) : Calls Tryd.prog 3 #[v0] w (LawRet w) := by
  subst hww
  have BG := Lib.hid (bigO_any hv)
  by_cases hbig : L.length ≤ 1048576
  case neg =>
    have hB : decide ((1048576 : Int) < (L.length : Int)) = true := decide_eq_true (by omega)
    go_enter Tryd.func3, Tryd.ntmps3
    go_wp2_with fail
    refine BG.out.mono ?_
    rintro e0 w' ⟨rfl, rfl⟩
    go_wp2_with fail
    go_ret
    exact ⟨rfl, Below.refl _ _⟩
  have hB : decide ((1048576 : Int) < (L.length : Int)) = false := decide_eq_false (by omega)
  have hD : Drw w v0 L.length := ⟨⟨L, hv, rfl⟩, hbig⟩
  have HB := Lib.hid (Below.refl w.heap.size w)
  have D1 := Lib.hid (fun (W : World) (hW : Below w.heap.size w W) => DrawMergePatch_any w v0 _ hD W hW)
  have EN := Lib.hid (fun (W : World) (hW : Below w.heap.size w W) => Env.keep hE hW)
  clear hE hv hD hbig
  go_enter Tryd.func3, Tryd.ntmps3
  go_wp2_with fail
  refine BG.out.mono ?_
  rintro e0 w' ⟨rfl, rfl⟩
  clear BG
  go_wp2_with fail
  clear hB
  refine (D1.out _ HB.out).mono ?_
  rintro e1 w1 ⟨v, p, s1, s2, rfl, vwf, pwf, vrep, prep, vsz, psz, hb⟩
  replace HB := Lib.hid (HB.out.trans (hb.mono HB.out.size))
  clear hb
  obtain ⟨a1, q1, rfl⟩ := vrep.slice
  obtain ⟨a2, q2, rfl⟩ := prep.slice
  have hsm := mgp_sz v p
  have HA1 := Lib.hid (show Rep w1 (v.agg (.slice a1 v.kids.length q1)) v from ⟨_, rfl, vwf, vrep⟩)
  have HA2 := Lib.hid (show Rep w1 (p.agg (.slice a2 p.kids.length q2)) p from ⟨_, rfl, pwf, prep⟩)
  clear vwf pwf vrep prep D1
  have hal := (alloc_below w1 (.cells #[.int .i64 v.k, .int .i64 v.n, .int .i64 v.e, .string v.s, .slice a1 v.kids.length q1] 26)).trans ((alloc_below (w1.alloc (.cells #[.int .i64 v.k, .int .i64 v.n, .int .i64 v.e, .string v.s, .slice a1 v.kids.length q1] 26)) (.cells #[.int .i64 p.k, .int .i64 p.n, .int .i64 p.e, .string p.s, .slice a2 p.kids.length q2] 26)).mono (by simp))
  replace HB := Lib.hid (HB.out.trans (hal.mono HB.out.size))
  have A1 := Lib.hid ((HeldB.new HA1.out).stay (alloc_below (w1.alloc (.cells #[.int .i64 v.k, .int .i64 v.n, .int .i64 v.e, .string v.s, .slice a1 v.kids.length q1] 26)) (.cells #[.int .i64 p.k, .int .i64 p.n, .int .i64 p.e, .string p.s, .slice a2 p.kids.length q2] 26)))
  have A2 := Lib.hid (HeldB.new (HA2.out.keep (alloc_below w1 (.cells #[.int .i64 v.k, .int .i64 v.n, .int .i64 v.e, .string v.s, .slice a1 v.kids.length q1] 26))))
  have hzz : (w1.alloc (.cells #[.int .i64 v.k, .int .i64 v.n, .int .i64 v.e, .string v.s, .slice a1 v.kids.length q1] 26)).heap.size = w1.heap.size + 1 := by simp
  rw [hzz] at A2
  clear hal HA1 HA2 hzz
  try unfold V.agg
  go_upto_region 4 with fail
  generalize ((w1.alloc (.cells #[.int .i64 v.k, .int .i64 v.n, .int .i64 v.e, .string v.s, .slice a1 v.kids.length q1] 26)).alloc (.cells #[.int .i64 p.k, .int .i64 p.n, .int .i64 p.e, .string p.s, .slice a2 p.kids.length q2] 26)) = w2 at *
  generalize w1.heap.size = b1 at *
  have MP := Lib.hid (MergePatch_impl w2 (EN.out _ HB.out) v p _ _ A1.out.2.both.1 A1.out.2.both.2 A2.out.2.both.1 A2.out.2.both.2 (by omega) w2 (Below.refl _ _))
  obtain ⟨m, hm⟩ : ∃ m, m = mgp v p := ⟨_, rfl⟩
  rw [← hm] at MP hsm
  have HM := Lib.hid hm
  clear hm
  have HOK := Lib.hid (fun (h : okT v = true) => show okT m = true by rw [HM.out]; exact mgp_ok h)
  have HNO := Lib.hid (fun (h : ¬ (okT v = true ∧ okT p = true)) => show m = v by rw [HM.out]; exact mgp_no h)
  have HLF := Lib.hid (fun (h1 : okT v = true) (h2 : okT p = true) (h8 : ¬ p.k = 8) => show m = p by rw [HM.out]; exact mgp_leaf h1 h2 h8)
  have HID := Lib.hid (fun (h1 : okT v = true) (h2 : okT p = true) => show mgp m p = m by rw [HM.out]; exact mgp_idem h1 h2)
  obtain ⟨cA10, cA11, cA12, cA13, cA14⟩ := A1.out.1.cells
  obtain ⟨cA20, cA21, cA22, cA23, cA24⟩ := A2.out.1.cells
  unfold MgsRet at MP
  unfold V.agg at MP
  go_wp2_with fail
  refine (MP.out).mono ?_
  rintro e3 w3 ⟨s3, rfl, mwf, mrep0, hb⟩
  replace HB := Lib.hid (HB.out.trans (hb.mono HB.out.size))
  replace A1 := Lib.hid (A1.out.stay hb)
  replace A2 := Lib.hid (A2.out.stay hb)
  clear hb
  clear MP cA10 cA11 cA12 cA13 cA14 cA20 cA21 cA22 cA23 cA24
  have mrep := mrep0.rep
  obtain ⟨a3, q3, rfl⟩ := mrep.slice
  have RA3 := Lib.hid (show Rep w3 (m.agg (.slice a3 m.kids.length q3)) m from ⟨_, rfl, mwf, mrep⟩)
  clear mwf mrep mrep0
  have hal := alloc_below w3 (.cells #[.int .i64 m.k, .int .i64 m.n, .int .i64 m.e, .string m.s, .slice a3 m.kids.length q3] 26)
  replace HB := Lib.hid (HB.out.trans (hal.mono HB.out.size))
  replace A1 := Lib.hid (A1.out.stay hal)
  replace A2 := Lib.hid (A2.out.stay hal)
  have A3 := Lib.hid (HeldB.new RA3.out)
  clear hal RA3
  try unfold V.agg
  go_upto_region 5 with fail
  generalize (w3.alloc (.cells #[.int .i64 m.k, .int .i64 m.n, .int .i64 m.e, .string m.s, .slice a3 m.kids.length q3] 26)) = w4 at *
  generalize w3.heap.size = b3 at *
  have MS := Lib.hid (fun (W : World) (hBW : Below w4.heap.size w4 W) => MergePatch_spec w4 v p _ _ A1.out.2.both.1 A1.out.2.both.2 A2.out.2.both.1 A2.out.2.both.2 (by omega) _ hBW)
  rw [← HM.out] at MS
  have SM := Lib.hid (fun (W : World) (hBW : Below w4.heap.size w4 W) (s4 : Value) (h4 : Rep W (m.agg s4) m) => lsame_any W (m.sz + 1) m _ _ (by omega) (A3.out.2.keep hBW) h4 W (Below.refl _ _))
  have O1 := Lib.hid (fun (W : World) (hBW : Below w4.heap.size w4 W) => ValueOk_spec w4 _ v A1.out.2 (by omega) W hBW)
  have O2 := Lib.hid (fun (W : World) (hBW : Below w4.heap.size w4 W) => ValueOk_spec w4 _ p A2.out.2 (by omega) W hBW)
  have O3 := Lib.hid (fun (W : World) (hBW : Below w4.heap.size w4 W) => ValueOk_impl w4 (EN.out _ HB.out) _ m A3.out.2 (by omega) W hBW)
  have hdum : True := trivial
  obtain ⟨bv, hbv⟩ : ∃ b, b = okT v := ⟨_, rfl⟩
  obtain ⟨bp, hbp⟩ : ∃ b, b = okT p := ⟨_, rfl⟩
  rw [← hbv] at O1 HOK HNO HLF HID
  rw [← hbp] at O2 HNO HLF HID
  clear hbv hbp HM
  have HSM := Lib.hid hsm
  unfold MgsRet at MS
  unfold LawRet at SM
  unfold V.agg at MS SM O1 O2 O3
  cases bv with
  | false =>
    obtain ⟨cA10, cA11, cA12, cA13, cA14⟩ := A1.out.1.cells
    obtain ⟨cA20, cA21, cA22, cA23, cA24⟩ := A2.out.1.cells
    obtain ⟨cA30, cA31, cA32, cA33, cA34⟩ := A3.out.1.cells
    have TB := Lib.hid (show ∀ W' : World, (W'.cell? ⟨b1, 0, none⟩ = some (.int .i64 v.k) ∧ W'.cell? ⟨b1, 1, none⟩ = some (.int .i64 v.n) ∧ W'.cell? ⟨b1, 2, none⟩ = some (.int .i64 v.e) ∧ W'.cell? ⟨b1, 3, none⟩ = some (.string v.s) ∧ W'.cell? ⟨b1, 4, none⟩ = some (.slice a1 v.kids.length q1) ∧ W'.cell? ⟨(b1 + 1), 0, none⟩ = some (.int .i64 p.k) ∧ W'.cell? ⟨(b1 + 1), 1, none⟩ = some (.int .i64 p.n) ∧ W'.cell? ⟨(b1 + 1), 2, none⟩ = some (.int .i64 p.e) ∧ W'.cell? ⟨(b1 + 1), 3, none⟩ = some (.string p.s) ∧ W'.cell? ⟨(b1 + 1), 4, none⟩ = some (.slice a2 p.kids.length q2) ∧ W'.cell? ⟨b3, 0, none⟩ = some (.int .i64 m.k) ∧ W'.cell? ⟨b3, 1, none⟩ = some (.int .i64 m.n) ∧ W'.cell? ⟨b3, 2, none⟩ = some (.int .i64 m.e) ∧ W'.cell? ⟨b3, 3, none⟩ = some (.string m.s) ∧ W'.cell? ⟨b3, 4, none⟩ = some (.slice a3 m.kids.length q3) ∧ Below w4.heap.size w4 W') → Below w4.heap.size w4 W' from fun W' h => h.2.2.2.2.2.2.2.2.2.2.2.2.2.2.2)
    refine wp_region_held_drew (S := (fun W' => W'.cell? ⟨b1, 0, none⟩ = some (.int .i64 v.k) ∧ W'.cell? ⟨b1, 1, none⟩ = some (.int .i64 v.n) ∧ W'.cell? ⟨b1, 2, none⟩ = some (.int .i64 v.e) ∧ W'.cell? ⟨b1, 3, none⟩ = some (.string v.s) ∧ W'.cell? ⟨b1, 4, none⟩ = some (.slice a1 v.kids.length q1) ∧ W'.cell? ⟨(b1 + 1), 0, none⟩ = some (.int .i64 p.k) ∧ W'.cell? ⟨(b1 + 1), 1, none⟩ = some (.int .i64 p.n) ∧ W'.cell? ⟨(b1 + 1), 2, none⟩ = some (.int .i64 p.e) ∧ W'.cell? ⟨(b1 + 1), 3, none⟩ = some (.string p.s) ∧ W'.cell? ⟨(b1 + 1), 4, none⟩ = some (.slice a2 p.kids.length q2) ∧ W'.cell? ⟨b3, 0, none⟩ = some (.int .i64 m.k) ∧ W'.cell? ⟨b3, 1, none⟩ = some (.int .i64 m.n) ∧ W'.cell? ⟨b3, 2, none⟩ = some (.int .i64 m.e) ∧ W'.cell? ⟨b3, 3, none⟩ = some (.string m.s) ∧ W'.cell? ⟨b3, 4, none⟩ = some (.slice a3 m.kids.length q3) ∧ Below w4.heap.size w4 W')) (by kernel_rfl) ?_ (fun hHeld => ?_)
    · exact ⟨cA10, cA11, cA12, cA13, cA14, cA20, cA21, cA22, cA23, cA24, cA30, cA31, cA32, cA33, cA34, (Below.refl _ _).drew⟩
    clear cA10 cA11 cA12 cA13 cA14 cA20 cA21 cA22 cA23 cA24 cA30 cA31 cA32 cA33 cA34
    refine wpAnyH_take (i := 0) (v := ?_) rfl (by kernel_rfl) (by kernel_rfl) (by kernel_rfl) (fun _ _ _ h => h) (Or.inl ⟨by rfl, ?_⟩) hHeld ?_
    rotate_left
    · (intro w hSw; (try dsimp only at hSw); (try simp only [List.getElem_toArray, List.getElem_cons_succ, List.getElem_cons_zero]); go_simp <;> with_reducible rfl)
    try simp only [List.getElem_toArray, List.getElem_cons_succ, List.getElem_cons_zero, Act.put, List.setIfInBounds_toArray, List.set_cons_zero, List.set_cons_succ]
    refine wpAnyH_take (i := 1) (v := ?_) rfl (by kernel_rfl) (by kernel_rfl) (by kernel_rfl) (fun _ _ _ h => h) (Or.inl ⟨by rfl, ?_⟩) hHeld ?_
    rotate_left
    · (intro w hSw; (try dsimp only at hSw); (try simp only [List.getElem_toArray, List.getElem_cons_succ, List.getElem_cons_zero]); go_simp <;> with_reducible rfl)
    try simp only [List.getElem_toArray, List.getElem_cons_succ, List.getElem_cons_zero, Act.put, List.setIfInBounds_toArray, List.set_cons_zero, List.set_cons_succ]
    refine wpAnyH_take (i := 2) (v := ?_) rfl (by kernel_rfl) (by kernel_rfl) (by kernel_rfl) (fun _ _ _ h => h) (Or.inl ⟨by rfl, ?_⟩) hHeld ?_
    rotate_left
    · (intro w hSw; (try dsimp only at hSw); (try simp only [List.getElem_toArray, List.getElem_cons_succ, List.getElem_cons_zero]); go_simp <;> with_reducible rfl)
    try simp only [List.getElem_toArray, List.getElem_cons_succ, List.getElem_cons_zero, Act.put, List.setIfInBounds_toArray, List.set_cons_zero, List.set_cons_succ]
    refine wpAnyH_ready (rs := [3]) (by kernel_rfl) (by simp) ?_
    refine AllReadyH.cons rfl (fun K hK => ?_) AllReadyH.nil
    go_simp
    have hBW := TB.out _ hHeld
    refine (MS.out _ hBW).mono ?_
    rintro e5 w5 ⟨s4, rfl, mwf, mrep0, hb5⟩
    have mrep := mrep0.rep
    obtain ⟨a4, q4, rfl⟩ := mrep.slice
    have R4 := Lib.hid (show Rep w5 (m.agg (.slice a4 m.kids.length q4)) m from ⟨_, rfl, mwf, mrep⟩)
    clear mwf mrep mrep0
    try unfold V.agg
    refine hK.out _ _ ?_ (fun hHeld => ?_)
    · exact keepc15 hb5 hHeld
    clear hK K hb5 hBW
    try simp only [List.getElem_toArray, List.getElem_cons_succ, List.getElem_cons_zero, Act.put, List.setIfInBounds_toArray, List.set_cons_zero, List.set_cons_succ]
    refine wpAnyH_ready (rs := [4]) (by kernel_rfl) (by simp) ?_
    refine AllReadyH.cons rfl (fun K hK => ?_) AllReadyH.nil
    go_simp
    have hBW := TB.out _ hHeld
    refine (SM.out _ hBW _ R4.out).mono ?_
    rintro e6 w6 ⟨rfl, hb6⟩
    clear R4
    refine hK.out _ _ ?_ (fun hHeld => ?_)
    · exact keepc15 hb6 hHeld
    clear hK K hb6 hBW
    try simp only [List.getElem_toArray, List.getElem_cons_succ, List.getElem_cons_zero, Act.put, List.setIfInBounds_toArray, List.set_cons_zero, List.set_cons_succ]
    refine wpAnyH_take (i := 5) (v := ?_) rfl (by kernel_rfl) (by kernel_rfl) (by kernel_rfl) (fun _ _ _ h => h) (Or.inl ⟨by rfl, ?_⟩) hHeld ?_
    rotate_left
    · (intro w hSw; (try dsimp only at hSw); (try simp only [List.getElem_toArray, List.getElem_cons_succ, List.getElem_cons_zero]); go_simp <;> with_reducible rfl)
    try simp only [List.getElem_toArray, List.getElem_cons_succ, List.getElem_cons_zero, Act.put, List.setIfInBounds_toArray, List.set_cons_zero, List.set_cons_succ]
    refine wpAnyH_take (i := 6) (v := ?_) rfl (by kernel_rfl) (by kernel_rfl) (by kernel_rfl) (fun _ _ _ h => h) (Or.inl ⟨by rfl, ?_⟩) hHeld ?_
    rotate_left
    · (intro w hSw; (try dsimp only at hSw); (try simp only [List.getElem_toArray, List.getElem_cons_succ, List.getElem_cons_zero]); go_simp <;> with_reducible rfl)
    try simp only [List.getElem_toArray, List.getElem_cons_succ, List.getElem_cons_zero, Act.put, List.setIfInBounds_toArray, List.set_cons_zero, List.set_cons_succ]
    refine wpAnyH_take (i := 7) (v := ?_) rfl (by kernel_rfl) (by kernel_rfl) (by kernel_rfl) (fun _ _ _ h => h) (Or.inl ⟨by rfl, ?_⟩) hHeld ?_
    rotate_left
    · (intro w hSw; (try dsimp only at hSw); (try simp only [List.getElem_toArray, List.getElem_cons_succ, List.getElem_cons_zero]); go_simp <;> with_reducible rfl)
    try simp only [List.getElem_toArray, List.getElem_cons_succ, List.getElem_cons_zero, Act.put, List.setIfInBounds_toArray, List.set_cons_zero, List.set_cons_succ]
    refine wpAnyH_ready (rs := [8]) (by kernel_rfl) (by simp) ?_
    refine AllReadyH.cons rfl (fun K hK => ?_) AllReadyH.nil
    go_simp
    have hBW := TB.out _ hHeld
    refine (O1.out _ hBW).mono ?_
    rintro e7 w7 ⟨rfl, hb7⟩
    refine hK.out _ _ ?_ (fun hHeld => ?_)
    · exact keepc15 hb7 hHeld
    clear hK K hb7 hBW
    try simp only [List.getElem_toArray, List.getElem_cons_succ, List.getElem_cons_zero, Act.put, List.setIfInBounds_toArray, List.set_cons_zero, List.set_cons_succ]
    refine wpAnyH_take (i := 9) (v := ?_) rfl (by kernel_rfl) (by kernel_rfl) (by kernel_rfl) (fun _ _ _ h => h) (Or.inl ⟨by rfl, ?_⟩) hHeld ?_
    rotate_left
    · (intro w hSw; (try dsimp only at hSw); (try simp only [List.getElem_toArray, List.getElem_cons_succ, List.getElem_cons_zero]); go_simp <;> with_reducible rfl)
    try simp only [List.getElem_toArray, List.getElem_cons_succ, List.getElem_cons_zero, Act.put, List.setIfInBounds_toArray, List.set_cons_zero, List.set_cons_succ]
    refine wpAnyH_take (i := 10) (v := undef) rfl (by kernel_rfl) (by kernel_rfl) (by kernel_rfl) (fun _ _ _ h => h) (Or.inr ⟨by rfl, rfl⟩) hHeld ?_
    try simp only [List.getElem_toArray, List.getElem_cons_succ, List.getElem_cons_zero, Act.put, List.setIfInBounds_toArray, List.set_cons_zero, List.set_cons_succ]
    refine wpAnyH_take (i := 11) (v := undef) rfl (by kernel_rfl) (by kernel_rfl) (by kernel_rfl) (fun _ _ _ h => h) (Or.inr ⟨by rfl, rfl⟩) hHeld ?_
    try simp only [List.getElem_toArray, List.getElem_cons_succ, List.getElem_cons_zero, Act.put, List.setIfInBounds_toArray, List.set_cons_zero, List.set_cons_succ]
    refine wpAnyH_take (i := 12) (v := undef) rfl (by kernel_rfl) (by kernel_rfl) (by kernel_rfl) (fun _ _ _ h => h) (Or.inr ⟨by rfl, rfl⟩) hHeld ?_
    try simp only [List.getElem_toArray, List.getElem_cons_succ, List.getElem_cons_zero, Act.put, List.setIfInBounds_toArray, List.set_cons_zero, List.set_cons_succ]
    refine wpAnyH_take (i := 13) (v := ?_) rfl (by kernel_rfl) (by kernel_rfl) (by kernel_rfl) (fun _ _ _ h => h) (Or.inl ⟨by rfl, ?_⟩) hHeld ?_
    rotate_left
    · (intro w hSw; (try dsimp only at hSw); (try simp only [List.getElem_toArray, List.getElem_cons_succ, List.getElem_cons_zero]); go_simp <;> with_reducible rfl)
    try simp only [List.getElem_toArray, List.getElem_cons_succ, List.getElem_cons_zero, Act.put, List.setIfInBounds_toArray, List.set_cons_zero, List.set_cons_succ]
    refine wpAnyH_take (i := 14) (v := ?_) rfl (by kernel_rfl) (by kernel_rfl) (by kernel_rfl) (fun _ _ _ h => h) (Or.inl ⟨by rfl, ?_⟩) hHeld ?_
    rotate_left
    · (intro w hSw; (try dsimp only at hSw); (try simp only [List.getElem_toArray, List.getElem_cons_succ, List.getElem_cons_zero]); go_simp <;> with_reducible rfl)
    try simp only [List.getElem_toArray, List.getElem_cons_succ, List.getElem_cons_zero, Act.put, List.setIfInBounds_toArray, List.set_cons_zero, List.set_cons_succ]
    have hBZ := TB.out _ hHeld
    clear TB hHeld
    refine wpAnyH_done (by kernel_rfl) ?_ _
    replace HB := Lib.hid (HB.out.trans (hBZ.mono HB.out.size))
    replace A1 := Lib.hid (A1.out.stay hBZ)
    replace A2 := Lib.hid (A2.out.stay hBZ)
    replace A3 := Lib.hid (A3.out.stay hBZ)
    replace O1 := Lib.hid (fun (W : World) (hBW : Below w7.heap.size w7 W) => O1.out W (hBZ.trans (hBW.mono hBZ.size)))
    replace O2 := Lib.hid (fun (W : World) (hBW : Below w7.heap.size w7 W) => O2.out W (hBZ.trans (hBW.mono hBZ.size)))
    clear hBZ MS SM O3
    obtain ⟨cA10, cA11, cA12, cA13, cA14⟩ := A1.out.1.cells
    go_wp2_with fail
    refine (O1.out w7 (Below.refl _ _)).mono ?_
    rintro e8 w8 ⟨rfl, hb⟩
    have HBK := Lib.hid hb
    replace HB := Lib.hid (HB.out.trans (hb.mono HB.out.size))
    replace A1 := Lib.hid (A1.out.stay hb)
    replace A2 := Lib.hid (A2.out.stay hb)
    replace A3 := Lib.hid (A3.out.stay hb)
    clear hb
    clear cA10 cA11 cA12 cA13 cA14
    have hmv : m = v := HNO.out (by simp)
    have RS := Lib.hid (lsame_any w8 (m.sz + 1) m (m.agg (.slice a3 m.kids.length q3)) (v.agg (.slice a1 v.kids.length q1)) (by omega) A3.out.2 (by have h := A1.out.2; rw [hmv]; exact h) w8 (Below.refl _ _))
    clear hmv
    unfold LawRet at RS
    unfold V.agg at RS
    obtain ⟨cA30, cA31, cA32, cA33, cA34⟩ := A3.out.1.cells
    obtain ⟨cA10, cA11, cA12, cA13, cA14⟩ := A1.out.1.cells
    go_wp2_with fail
    refine RS.out.mono ?_
    rintro ez wz ⟨rfl, hbz⟩
    go_wp2_with fail
    go_ret
    exact ⟨rfl, HB.out.trans (hbz.mono HB.out.size)⟩
  | true =>
    obtain ⟨cA10, cA11, cA12, cA13, cA14⟩ := A1.out.1.cells
    obtain ⟨cA20, cA21, cA22, cA23, cA24⟩ := A2.out.1.cells
    obtain ⟨cA30, cA31, cA32, cA33, cA34⟩ := A3.out.1.cells
    have TB := Lib.hid (show ∀ W' : World, (W'.cell? ⟨b1, 0, none⟩ = some (.int .i64 v.k) ∧ W'.cell? ⟨b1, 1, none⟩ = some (.int .i64 v.n) ∧ W'.cell? ⟨b1, 2, none⟩ = some (.int .i64 v.e) ∧ W'.cell? ⟨b1, 3, none⟩ = some (.string v.s) ∧ W'.cell? ⟨b1, 4, none⟩ = some (.slice a1 v.kids.length q1) ∧ W'.cell? ⟨(b1 + 1), 0, none⟩ = some (.int .i64 p.k) ∧ W'.cell? ⟨(b1 + 1), 1, none⟩ = some (.int .i64 p.n) ∧ W'.cell? ⟨(b1 + 1), 2, none⟩ = some (.int .i64 p.e) ∧ W'.cell? ⟨(b1 + 1), 3, none⟩ = some (.string p.s) ∧ W'.cell? ⟨(b1 + 1), 4, none⟩ = some (.slice a2 p.kids.length q2) ∧ W'.cell? ⟨b3, 0, none⟩ = some (.int .i64 m.k) ∧ W'.cell? ⟨b3, 1, none⟩ = some (.int .i64 m.n) ∧ W'.cell? ⟨b3, 2, none⟩ = some (.int .i64 m.e) ∧ W'.cell? ⟨b3, 3, none⟩ = some (.string m.s) ∧ W'.cell? ⟨b3, 4, none⟩ = some (.slice a3 m.kids.length q3) ∧ Below w4.heap.size w4 W') → Below w4.heap.size w4 W' from fun W' h => h.2.2.2.2.2.2.2.2.2.2.2.2.2.2.2)
    refine wp_region_held_drew (S := (fun W' => W'.cell? ⟨b1, 0, none⟩ = some (.int .i64 v.k) ∧ W'.cell? ⟨b1, 1, none⟩ = some (.int .i64 v.n) ∧ W'.cell? ⟨b1, 2, none⟩ = some (.int .i64 v.e) ∧ W'.cell? ⟨b1, 3, none⟩ = some (.string v.s) ∧ W'.cell? ⟨b1, 4, none⟩ = some (.slice a1 v.kids.length q1) ∧ W'.cell? ⟨(b1 + 1), 0, none⟩ = some (.int .i64 p.k) ∧ W'.cell? ⟨(b1 + 1), 1, none⟩ = some (.int .i64 p.n) ∧ W'.cell? ⟨(b1 + 1), 2, none⟩ = some (.int .i64 p.e) ∧ W'.cell? ⟨(b1 + 1), 3, none⟩ = some (.string p.s) ∧ W'.cell? ⟨(b1 + 1), 4, none⟩ = some (.slice a2 p.kids.length q2) ∧ W'.cell? ⟨b3, 0, none⟩ = some (.int .i64 m.k) ∧ W'.cell? ⟨b3, 1, none⟩ = some (.int .i64 m.n) ∧ W'.cell? ⟨b3, 2, none⟩ = some (.int .i64 m.e) ∧ W'.cell? ⟨b3, 3, none⟩ = some (.string m.s) ∧ W'.cell? ⟨b3, 4, none⟩ = some (.slice a3 m.kids.length q3) ∧ Below w4.heap.size w4 W')) (by kernel_rfl) ?_ (fun hHeld => ?_)
    · exact ⟨cA10, cA11, cA12, cA13, cA14, cA20, cA21, cA22, cA23, cA24, cA30, cA31, cA32, cA33, cA34, (Below.refl _ _).drew⟩
    clear cA10 cA11 cA12 cA13 cA14 cA20 cA21 cA22 cA23 cA24 cA30 cA31 cA32 cA33 cA34
    refine wpAnyH_take (i := 0) (v := ?_) rfl (by kernel_rfl) (by kernel_rfl) (by kernel_rfl) (fun _ _ _ h => h) (Or.inl ⟨by rfl, ?_⟩) hHeld ?_
    rotate_left
    · (intro w hSw; (try dsimp only at hSw); (try simp only [List.getElem_toArray, List.getElem_cons_succ, List.getElem_cons_zero]); go_simp <;> with_reducible rfl)
    try simp only [List.getElem_toArray, List.getElem_cons_succ, List.getElem_cons_zero, Act.put, List.setIfInBounds_toArray, List.set_cons_zero, List.set_cons_succ]
    refine wpAnyH_take (i := 1) (v := ?_) rfl (by kernel_rfl) (by kernel_rfl) (by kernel_rfl) (fun _ _ _ h => h) (Or.inl ⟨by rfl, ?_⟩) hHeld ?_
    rotate_left
    · (intro w hSw; (try dsimp only at hSw); (try simp only [List.getElem_toArray, List.getElem_cons_succ, List.getElem_cons_zero]); go_simp <;> with_reducible rfl)
    try simp only [List.getElem_toArray, List.getElem_cons_succ, List.getElem_cons_zero, Act.put, List.setIfInBounds_toArray, List.set_cons_zero, List.set_cons_succ]
    refine wpAnyH_take (i := 2) (v := ?_) rfl (by kernel_rfl) (by kernel_rfl) (by kernel_rfl) (fun _ _ _ h => h) (Or.inl ⟨by rfl, ?_⟩) hHeld ?_
    rotate_left
    · (intro w hSw; (try dsimp only at hSw); (try simp only [List.getElem_toArray, List.getElem_cons_succ, List.getElem_cons_zero]); go_simp <;> with_reducible rfl)
    try simp only [List.getElem_toArray, List.getElem_cons_succ, List.getElem_cons_zero, Act.put, List.setIfInBounds_toArray, List.set_cons_zero, List.set_cons_succ]
    refine wpAnyH_ready (rs := [3]) (by kernel_rfl) (by simp) ?_
    refine AllReadyH.cons rfl (fun K hK => ?_) AllReadyH.nil
    go_simp
    have hBW := TB.out _ hHeld
    refine (MS.out _ hBW).mono ?_
    rintro e5 w5 ⟨s4, rfl, mwf, mrep0, hb5⟩
    have mrep := mrep0.rep
    obtain ⟨a4, q4, rfl⟩ := mrep.slice
    have R4 := Lib.hid (show Rep w5 (m.agg (.slice a4 m.kids.length q4)) m from ⟨_, rfl, mwf, mrep⟩)
    clear mwf mrep mrep0
    try unfold V.agg
    refine hK.out _ _ ?_ (fun hHeld => ?_)
    · exact keepc15 hb5 hHeld
    clear hK K hb5 hBW
    try simp only [List.getElem_toArray, List.getElem_cons_succ, List.getElem_cons_zero, Act.put, List.setIfInBounds_toArray, List.set_cons_zero, List.set_cons_succ]
    refine wpAnyH_ready (rs := [4]) (by kernel_rfl) (by simp) ?_
    refine AllReadyH.cons rfl (fun K hK => ?_) AllReadyH.nil
    go_simp
    have hBW := TB.out _ hHeld
    refine (SM.out _ hBW _ R4.out).mono ?_
    rintro e6 w6 ⟨rfl, hb6⟩
    clear R4
    refine hK.out _ _ ?_ (fun hHeld => ?_)
    · exact keepc15 hb6 hHeld
    clear hK K hb6 hBW
    try simp only [List.getElem_toArray, List.getElem_cons_succ, List.getElem_cons_zero, Act.put, List.setIfInBounds_toArray, List.set_cons_zero, List.set_cons_succ]
    refine wpAnyH_take (i := 5) (v := ?_) rfl (by kernel_rfl) (by kernel_rfl) (by kernel_rfl) (fun _ _ _ h => h) (Or.inl ⟨by rfl, ?_⟩) hHeld ?_
    rotate_left
    · (intro w hSw; (try dsimp only at hSw); (try simp only [List.getElem_toArray, List.getElem_cons_succ, List.getElem_cons_zero]); go_simp <;> with_reducible rfl)
    try simp only [List.getElem_toArray, List.getElem_cons_succ, List.getElem_cons_zero, Act.put, List.setIfInBounds_toArray, List.set_cons_zero, List.set_cons_succ]
    refine wpAnyH_take (i := 6) (v := ?_) rfl (by kernel_rfl) (by kernel_rfl) (by kernel_rfl) (fun _ _ _ h => h) (Or.inl ⟨by rfl, ?_⟩) hHeld ?_
    rotate_left
    · (intro w hSw; (try dsimp only at hSw); (try simp only [List.getElem_toArray, List.getElem_cons_succ, List.getElem_cons_zero]); go_simp <;> with_reducible rfl)
    try simp only [List.getElem_toArray, List.getElem_cons_succ, List.getElem_cons_zero, Act.put, List.setIfInBounds_toArray, List.set_cons_zero, List.set_cons_succ]
    refine wpAnyH_take (i := 7) (v := ?_) rfl (by kernel_rfl) (by kernel_rfl) (by kernel_rfl) (fun _ _ _ h => h) (Or.inl ⟨by rfl, ?_⟩) hHeld ?_
    rotate_left
    · (intro w hSw; (try dsimp only at hSw); (try simp only [List.getElem_toArray, List.getElem_cons_succ, List.getElem_cons_zero]); go_simp <;> with_reducible rfl)
    try simp only [List.getElem_toArray, List.getElem_cons_succ, List.getElem_cons_zero, Act.put, List.setIfInBounds_toArray, List.set_cons_zero, List.set_cons_succ]
    refine wpAnyH_ready (rs := [8]) (by kernel_rfl) (by simp) ?_
    refine AllReadyH.cons rfl (fun K hK => ?_) AllReadyH.nil
    go_simp
    have hBW := TB.out _ hHeld
    refine (O1.out _ hBW).mono ?_
    rintro e7 w7 ⟨rfl, hb7⟩
    refine hK.out _ _ ?_ (fun hHeld => ?_)
    · exact keepc15 hb7 hHeld
    clear hK K hb7 hBW
    try simp only [List.getElem_toArray, List.getElem_cons_succ, List.getElem_cons_zero, Act.put, List.setIfInBounds_toArray, List.set_cons_zero, List.set_cons_succ]
    refine wpAnyH_take (i := 9) (v := ?_) rfl (by kernel_rfl) (by kernel_rfl) (by kernel_rfl) (fun _ _ _ h => h) (Or.inl ⟨by rfl, ?_⟩) hHeld ?_
    rotate_left
    · (intro w hSw; (try dsimp only at hSw); (try simp only [List.getElem_toArray, List.getElem_cons_succ, List.getElem_cons_zero]); go_simp <;> with_reducible rfl)
    try simp only [List.getElem_toArray, List.getElem_cons_succ, List.getElem_cons_zero, Act.put, List.setIfInBounds_toArray, List.set_cons_zero, List.set_cons_succ]
    refine wpAnyH_take (i := 10) (v := ?_) rfl (by kernel_rfl) (by kernel_rfl) (by kernel_rfl) (fun _ _ _ h => h) (Or.inl ⟨by rfl, ?_⟩) hHeld ?_
    rotate_left
    · (intro w hSw; (try dsimp only at hSw); (try simp only [List.getElem_toArray, List.getElem_cons_succ, List.getElem_cons_zero]); go_simp <;> with_reducible rfl)
    try simp only [List.getElem_toArray, List.getElem_cons_succ, List.getElem_cons_zero, Act.put, List.setIfInBounds_toArray, List.set_cons_zero, List.set_cons_succ]
    refine wpAnyH_ready (rs := [11]) (by kernel_rfl) (by simp) ?_
    refine AllReadyH.cons rfl (fun K hK => ?_) AllReadyH.nil
    go_simp
    have hBW := TB.out _ hHeld
    refine (O3.out _ hBW).mono ?_
    rintro e8 w8 ⟨rfl, hb8⟩
    rw [HOK.out rfl]
    refine hK.out _ _ ?_ (fun hHeld => ?_)
    · exact keepc15 hb8 hHeld
    clear hK K hb8 hBW
    try simp only [List.getElem_toArray, List.getElem_cons_succ, List.getElem_cons_zero, Act.put, List.setIfInBounds_toArray, List.set_cons_zero, List.set_cons_succ]
    refine wpAnyH_take (i := 12) (v := ?_) rfl (by kernel_rfl) (by kernel_rfl) (by kernel_rfl) (fun _ _ _ h => h) (Or.inl ⟨by rfl, ?_⟩) hHeld ?_
    rotate_left
    · (intro w hSw; (try dsimp only at hSw); (try simp only [List.getElem_toArray, List.getElem_cons_succ, List.getElem_cons_zero]); go_simp <;> with_reducible rfl)
    try simp only [List.getElem_toArray, List.getElem_cons_succ, List.getElem_cons_zero, Act.put, List.setIfInBounds_toArray, List.set_cons_zero, List.set_cons_succ]
    refine wpAnyH_take (i := 13) (v := ?_) rfl (by kernel_rfl) (by kernel_rfl) (by kernel_rfl) (fun _ _ _ h => h) (Or.inl ⟨by rfl, ?_⟩) hHeld ?_
    rotate_left
    · (intro w hSw; (try dsimp only at hSw); (try simp only [List.getElem_toArray, List.getElem_cons_succ, List.getElem_cons_zero]); go_simp <;> with_reducible rfl)
    try simp only [List.getElem_toArray, List.getElem_cons_succ, List.getElem_cons_zero, Act.put, List.setIfInBounds_toArray, List.set_cons_zero, List.set_cons_succ]
    refine wpAnyH_take (i := 14) (v := ?_) rfl (by kernel_rfl) (by kernel_rfl) (by kernel_rfl) (fun _ _ _ h => h) (Or.inl ⟨by rfl, ?_⟩) hHeld ?_
    rotate_left
    · (intro w hSw; (try dsimp only at hSw); (try simp only [List.getElem_toArray, List.getElem_cons_succ, List.getElem_cons_zero]); go_simp <;> with_reducible rfl)
    try simp only [List.getElem_toArray, List.getElem_cons_succ, List.getElem_cons_zero, Act.put, List.setIfInBounds_toArray, List.set_cons_zero, List.set_cons_succ]
    have hBZ := TB.out _ hHeld
    clear TB hHeld
    refine wpAnyH_done (by kernel_rfl) ?_ _
    replace HB := Lib.hid (HB.out.trans (hBZ.mono HB.out.size))
    replace A1 := Lib.hid (A1.out.stay hBZ)
    replace A2 := Lib.hid (A2.out.stay hBZ)
    replace A3 := Lib.hid (A3.out.stay hBZ)
    replace O1 := Lib.hid (fun (W : World) (hBW : Below w8.heap.size w8 W) => O1.out W (hBZ.trans (hBW.mono hBZ.size)))
    replace O2 := Lib.hid (fun (W : World) (hBW : Below w8.heap.size w8 W) => O2.out W (hBZ.trans (hBW.mono hBZ.size)))
    clear hBZ MS SM O3
    obtain ⟨cA10, cA11, cA12, cA13, cA14⟩ := A1.out.1.cells
    obtain ⟨cA20, cA21, cA22, cA23, cA24⟩ := A2.out.1.cells
    go_wp2_with fail
    refine (O1.out w8 (Below.refl _ _)).mono ?_
    rintro e9 w9 ⟨rfl, hb⟩
    have HBK := Lib.hid hb
    replace HB := Lib.hid (HB.out.trans (hb.mono HB.out.size))
    replace A1 := Lib.hid (A1.out.stay hb)
    replace A2 := Lib.hid (A2.out.stay hb)
    replace A3 := Lib.hid (A3.out.stay hb)
    clear hb
    clear cA10 cA11 cA12 cA13 cA14 cA20 cA21 cA22 cA23 cA24
    obtain ⟨cA20, cA21, cA22, cA23, cA24⟩ := A2.out.1.cells
    go_wp2_with fail
    refine (O2.out w9 HBK.out).mono ?_
    rintro e10 w10 ⟨rfl, hb⟩
    replace HB := Lib.hid (HB.out.trans (hb.mono HB.out.size))
    replace A1 := Lib.hid (A1.out.stay hb)
    replace A2 := Lib.hid (A2.out.stay hb)
    replace A3 := Lib.hid (A3.out.stay hb)
    clear hb cA20 cA21 cA22 cA23 cA24
    cases bp with
    | false =>
      have hmv : m = v := HNO.out (by simp)
      have RS := Lib.hid (lsame_any w10 (m.sz + 1) m (m.agg (.slice a3 m.kids.length q3)) (v.agg (.slice a1 v.kids.length q1)) (by omega) A3.out.2 (by have h := A1.out.2; rw [hmv]; exact h) w10 (Below.refl _ _))
      clear hmv
      unfold LawRet at RS
      unfold V.agg at RS
      obtain ⟨cA30, cA31, cA32, cA33, cA34⟩ := A3.out.1.cells
      obtain ⟨cA10, cA11, cA12, cA13, cA14⟩ := A1.out.1.cells
      go_wp2_with fail
      refine RS.out.mono ?_
      rintro ez wz ⟨rfl, hbz⟩
      go_wp2_with fail
      go_ret
      exact ⟨rfl, HB.out.trans (hbz.mono HB.out.size)⟩
    | true =>
      by_cases h8 : p.k = 8
      case neg =>
        have t8 : (p.k != 8) = true := by simpa using h8
        have hmp : m = p := HLF.out (by first | rfl | trivial) (by first | rfl | trivial) h8
        clear h8
        obtain ⟨cA20, cA21, cA22, cA23, cA24⟩ := A2.out.1.cells
        go_upto_region 10 with fail
        clear cA20 cA21 cA22 cA23 cA24
        have RS := Lib.hid (lsame_any w10 (m.sz + 1) m (m.agg (.slice a3 m.kids.length q3)) (p.agg (.slice a2 p.kids.length q2)) (by omega) A3.out.2 (by have h := A2.out.2; rw [hmp]; exact h) w10 (Below.refl _ _))
        clear hmp
        unfold LawRet at RS
        unfold V.agg at RS
        obtain ⟨cA30, cA31, cA32, cA33, cA34⟩ := A3.out.1.cells
        obtain ⟨cA20, cA21, cA22, cA23, cA24⟩ := A2.out.1.cells
        go_wp2_with fail
        refine RS.out.mono ?_
        rintro ez wz ⟨rfl, hbz⟩
        go_wp2_with fail
        go_ret
        exact ⟨rfl, HB.out.trans (hbz.mono HB.out.size)⟩
      case pos =>
        have t8 : (p.k != 8) = false := by simpa using h8
        have HDM := Lib.hid (HID.out (by first | rfl | trivial) (by first | rfl | trivial))
        clear h8
        obtain ⟨cA20, cA21, cA22, cA23, cA24⟩ := A2.out.1.cells
        go_upto_region 11 with fail
        clear cA20 cA21 cA22 cA23 cA24
        have MI2 := Lib.hid (fun (W : World) (hBW : Below w10.heap.size w10 W) => MergePatch_impl w10 (EN.out _ HB.out) m p _ _ A3.out.2.both.1 A3.out.2.both.2 A2.out.2.both.1 A2.out.2.both.2 (by have := HSM.out; omega) W hBW)
        rw [HDM.out] at MI2
        have SM2 := Lib.hid (fun (W : World) (hBW : Below w10.heap.size w10 W) (s4 : Value) (h4 : Rep W (m.agg s4) m) => lsame_any W (m.sz + 1) m _ _ (by omega) h4 (A3.out.2.keep hBW) W (Below.refl _ _))
        unfold MgsRet at MI2
        unfold LawRet at SM2
        unfold V.agg at MI2 SM2
        obtain ⟨cA20, cA21, cA22, cA23, cA24⟩ := A2.out.1.cells
        obtain ⟨cA30, cA31, cA32, cA33, cA34⟩ := A3.out.1.cells
        have TB := Lib.hid (show ∀ W' : World, (W'.cell? ⟨(b1 + 1), 0, none⟩ = some (.int .i64 p.k) ∧ W'.cell? ⟨(b1 + 1), 1, none⟩ = some (.int .i64 p.n) ∧ W'.cell? ⟨(b1 + 1), 2, none⟩ = some (.int .i64 p.e) ∧ W'.cell? ⟨(b1 + 1), 3, none⟩ = some (.string p.s) ∧ W'.cell? ⟨(b1 + 1), 4, none⟩ = some (.slice a2 p.kids.length q2) ∧ W'.cell? ⟨b3, 0, none⟩ = some (.int .i64 m.k) ∧ W'.cell? ⟨b3, 1, none⟩ = some (.int .i64 m.n) ∧ W'.cell? ⟨b3, 2, none⟩ = some (.int .i64 m.e) ∧ W'.cell? ⟨b3, 3, none⟩ = some (.string m.s) ∧ W'.cell? ⟨b3, 4, none⟩ = some (.slice a3 m.kids.length q3) ∧ Below w10.heap.size w10 W') → Below w10.heap.size w10 W' from fun W' h => h.2.2.2.2.2.2.2.2.2.2)
        refine wp_region_held_drew (S := (fun W' => W'.cell? ⟨(b1 + 1), 0, none⟩ = some (.int .i64 p.k) ∧ W'.cell? ⟨(b1 + 1), 1, none⟩ = some (.int .i64 p.n) ∧ W'.cell? ⟨(b1 + 1), 2, none⟩ = some (.int .i64 p.e) ∧ W'.cell? ⟨(b1 + 1), 3, none⟩ = some (.string p.s) ∧ W'.cell? ⟨(b1 + 1), 4, none⟩ = some (.slice a2 p.kids.length q2) ∧ W'.cell? ⟨b3, 0, none⟩ = some (.int .i64 m.k) ∧ W'.cell? ⟨b3, 1, none⟩ = some (.int .i64 m.n) ∧ W'.cell? ⟨b3, 2, none⟩ = some (.int .i64 m.e) ∧ W'.cell? ⟨b3, 3, none⟩ = some (.string m.s) ∧ W'.cell? ⟨b3, 4, none⟩ = some (.slice a3 m.kids.length q3) ∧ Below w10.heap.size w10 W')) (by kernel_rfl) ?_ (fun hHeld => ?_)
        · exact ⟨cA20, cA21, cA22, cA23, cA24, cA30, cA31, cA32, cA33, cA34, (Below.refl _ _).drew⟩
        clear cA20 cA21 cA22 cA23 cA24 cA30 cA31 cA32 cA33 cA34
        refine wpAnyH_take (i := 0) (v := ?_) rfl (by kernel_rfl) (by kernel_rfl) (by kernel_rfl) (fun _ _ _ h => h) (Or.inl ⟨by rfl, ?_⟩) hHeld ?_
        rotate_left
        · (intro w hSw; (try dsimp only at hSw); (try simp only [List.getElem_toArray, List.getElem_cons_succ, List.getElem_cons_zero]); go_simp <;> with_reducible rfl)
        try simp only [List.getElem_toArray, List.getElem_cons_succ, List.getElem_cons_zero, Act.put, List.setIfInBounds_toArray, List.set_cons_zero, List.set_cons_succ]
        refine wpAnyH_take (i := 1) (v := ?_) rfl (by kernel_rfl) (by kernel_rfl) (by kernel_rfl) (fun _ _ _ h => h) (Or.inl ⟨by rfl, ?_⟩) hHeld ?_
        rotate_left
        · (intro w hSw; (try dsimp only at hSw); (try simp only [List.getElem_toArray, List.getElem_cons_succ, List.getElem_cons_zero]); go_simp <;> with_reducible rfl)
        try simp only [List.getElem_toArray, List.getElem_cons_succ, List.getElem_cons_zero, Act.put, List.setIfInBounds_toArray, List.set_cons_zero, List.set_cons_succ]
        refine wpAnyH_take (i := 3) (v := ?_) rfl (by kernel_rfl) (by kernel_rfl) (by kernel_rfl) (fun _ _ _ h => h) (Or.inl ⟨by rfl, ?_⟩) hHeld ?_
        rotate_left
        · (intro w hSw; (try dsimp only at hSw); (try simp only [List.getElem_toArray, List.getElem_cons_succ, List.getElem_cons_zero]); go_simp <;> with_reducible rfl)
        try simp only [List.getElem_toArray, List.getElem_cons_succ, List.getElem_cons_zero, Act.put, List.setIfInBounds_toArray, List.set_cons_zero, List.set_cons_succ]
        refine wpAnyH_ready (rs := [2]) (by kernel_rfl) (by simp) ?_
        refine AllReadyH.cons rfl (fun K hK => ?_) AllReadyH.nil
        go_simp
        have hBW := TB.out _ hHeld
        refine (MI2.out _ hBW).mono ?_
        rintro e11 w11 ⟨s4, rfl, mwf, mrep0, hb11⟩
        have mrep := mrep0.rep
        obtain ⟨a4, q4, rfl⟩ := mrep.slice
        have R4 := Lib.hid (show Rep w11 (m.agg (.slice a4 m.kids.length q4)) m from ⟨_, rfl, mwf, mrep⟩)
        clear mwf mrep mrep0
        try unfold V.agg
        refine hK.out _ _ ?_ (fun hHeld => ?_)
        · exact keepc10 hb11 hHeld
        clear hK K hb11 hBW
        try simp only [List.getElem_toArray, List.getElem_cons_succ, List.getElem_cons_zero, Act.put, List.setIfInBounds_toArray, List.set_cons_zero, List.set_cons_succ]
        refine wpAnyH_ready (rs := [4]) (by kernel_rfl) (by simp) ?_
        refine AllReadyH.cons rfl (fun K hK => ?_) AllReadyH.nil
        go_simp
        have hBW := TB.out _ hHeld
        refine (SM2.out _ hBW _ R4.out).mono ?_
        rintro e12 w12 ⟨rfl, hb12⟩
        clear R4
        refine hK.out _ _ ?_ (fun hHeld => ?_)
        · exact keepc10 hb12 hHeld
        clear hK K hb12 hBW
        try simp only [List.getElem_toArray, List.getElem_cons_succ, List.getElem_cons_zero, Act.put, List.setIfInBounds_toArray, List.set_cons_zero, List.set_cons_succ]
        refine wpAnyH_take (i := 5) (v := ?_) rfl (by kernel_rfl) (by kernel_rfl) (by kernel_rfl) (fun _ _ _ h => h) (Or.inl ⟨by rfl, ?_⟩) hHeld ?_
        rotate_left
        · (intro w hSw; (try dsimp only at hSw); (try simp only [List.getElem_toArray, List.getElem_cons_succ, List.getElem_cons_zero]); go_simp <;> with_reducible rfl)
        try simp only [List.getElem_toArray, List.getElem_cons_succ, List.getElem_cons_zero, Act.put, List.setIfInBounds_toArray, List.set_cons_zero, List.set_cons_succ]
        have hBZ := TB.out _ hHeld
        clear TB hHeld
        refine wpAnyH_done (by kernel_rfl) ?_ _
        go_wp2_with fail
        go_ret
        exact ⟨rfl, HB.out.trans (hBZ.mono HB.out.size)⟩
set_option maxRecDepth 100000 in
set_option maxHeartbeats 2000000 in
theorem lifted_FnMerge (os : Os) (started : os.Started) (H : Type) (enc : TypeId × Value → H) :
    ReturnsInHanded {} Tryd.checked os 3 .any (fun w args => (Rows.fnMergeSpec.pre enc Tryd.prog Tryd.f3 [] false w args ∧ laidMetH Tryd.prog Rows.fnMergeRow.laid w) ∧ sizedMet enc Tryd.prog Tryd.f3 (OpenSpec.ofChange Rows.fnMergeSpec) false w args)
      (Rows.fnMergeSpec.post enc Tryd.prog Tryd.f3 false true false false) := by
  refine returnsInHanded_of_change_and (C := Tryd.checked) (X := fun w _ => laidMetH Tryd.prog Rows.fnMergeRow.laid w) (fun _ _ _ hh h => h.of_heap hh) lawOwn started (by kernel_rfl) Tryd.func3
    (ChangeSpec.witness_shaped (enc := enc) (C := Tryd.checked) (os := os) (X := fun w _ => laidMetH Tryd.prog Rows.fnMergeRow.laid w) false (World.laidAll Tryd.prog os Rows.fnMergeRow.laid) #[.slice none 0 0] 8 (World.laidAll_os _ _ _)
      (World.shaped_of_ZipB (by kernel_rfl) (by kernel_rfl)) (by kernel_rfl) (by kernel_rfl) (by kernel_rfl)
      (by rw [MakeChecks.laidMetH_plain _ _ _ (by kernel_rfl)]; exact laidMet_laidAll _ (by kernel_rfl) (by kernel_rfl))) ?_
  intro W base args ds gs before hval0 hW _ _ hL _
  have hval : ∀ (j : Nat) t v, Tryd.f3.params[j]? = some t → args[j]? = some v → Value.okWide Tryd.prog W .any base t v := hval0
  have hW' := hW
  obtain ⟨p, q, hA0, hV, hpq, hfz, hnd⟩ := hW
  have hA : DataW.TrodAll enc Tryd.prog W 0 (fun _ => true) true Tryd.f3.params.toList args.toList ds p := hA0
  rw [Tryd.params3] at hA hval
  rw [MakeChecks.laidMetH_plain _ _ _ (by kernel_rfl)] at hL
  have hE : Env W := env_of (Lib.laidMet.reads hL (.tail _ (.head _))) (Lib.laidMet.reads hL (.head _))
  obtain ⟨v0, vs0, d0, ds0, p0, q0, hargs, rfl, hp, h0, r0⟩ := trodAll_cons hA
  obtain ⟨rfl, rfl, rfl⟩ := trodAll_nil r0
  obtain rfl : args = #[v0] := by cases args; simp_all
  obtain ⟨a0, w0⟩ := open_bytes (okWide_slice Tryd.underlying22 (hval 0 22 v0 rfl rfl)) h0
  refine (walk_FnMerge v0 a0 w0 W rfl hE).mono fun e W' ⟨he, hb⟩ => ?_
  subst he
  refine ⟨_, rfl, law_post rfl rfl rfl ?_ hW' hb⟩
  rw [Tryd.params3]
  intro t ht
  obtain rfl := List.mem_singleton.1 ht
  exact ⟨by kernel_rfl, of_decide_eq_true (by kernel_rfl)⟩
set_option maxHeartbeats 4000000 in
theorem row_FnMerge : Rows.FnMergeSaid :=
  OpenClaim.holds_of_wide 3 Tryd.f3 rfl rfl rfl rfl rfl rfl rfl ⟨rfl, rfl, rfl, rfl, rfl⟩ rfl rfl rfl rfl rfl (by as_aux_lemma => kernel_rfl) Tryd.func3 (by as_aux_lemma => kernel_rfl)
    (of_decide_eq_true (by as_aux_lemma => kernel_rfl)) (by unfold Func.isWrapper; first | (rw [if_pos (by decide +kernel)]; kernel_rfl) | (rw [if_neg (by decide +kernel)]; exact ⟨rfl, rfl⟩))
    (fun os started H enc _ => lifted_FnMerge os started H enc)
set_option maxHeartbeats 4000000 in
theorem holds_FnMergeCard : Rows.FnMergeCardSaid :=
  Claim7.holds_tied_plain_at .later [] [.data, .pinned] true (true, "2811edeab36b36cc99e78bdc3dae5ccc38390ca68c0a27b45c99285e4b6b49c0") false row_FnMerge (fun _ h => by cases h) (by as_aux_lemma => kernel_rfl) (fun _ h => by cases h) fnMerge_row_tie rfl ⟨rfl, rfl⟩ (by as_aux_lemma => kernel_rfl) rfl
    (fun f fn hf hfn => by
      obtain rfl : f = 3 := Option.some.inj ((show Tryd.prog.funcNamed "loop.example/g00421/laws.FnMerge" = some 3 by as_aux_lemma => kernel_rfl).symm.trans hf) |>.symm
      obtain rfl : fn = Tryd.f3 := (Option.some.inj (Tryd.func3.symm.trans hfn)).symm
      exact ⟨by as_aux_lemma => kernel_rfl, fun j t ht => by
        have hm : t ∈ Tryd.f3.params.toList := by simpa using Array.mem_of_getElem? ht
        have hall : (Tryd.f3.params.toList.all fun u => !Tryd.prog.wantsStandIn u) = true := by as_aux_lemma => kernel_rfl
        exact (show Tryd.prog.wantsStandIn t = false by simpa using List.all_eq_true.1 hall t hm)⟩)
    (by as_aux_lemma => kernel_rfl)
#print axioms holds_FnMergeCard
end Go.Proofs.YtppmoajoffeleaaDoor
