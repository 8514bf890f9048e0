/- For every code: what the program's and the reference's MessagePack functions give of the drawn values is alike, no other bytes are a value's own, a number comes back from its bytes, a value comes back from its bytes: the law returns true. -/
import Derived.Test.YtgbgeocmjdgmoaaDoorFnMsgK06
import Derived.Test.YtgbgeocmjdgmoaaDoorFnMsgK07
import Derived.Test.YtgbgeocmjdgmoaaDoorFnMsgK13
import Derived.Deep.RegionWith
import Derived.Deep.RegionHeld3
import Derived.Deep.DeepCutAuto
import Derived.IntWalk
namespace Go.Proofs.YtgbgeocmjdgmoaaDoor
set_option linter.unusedSimpArgs false
set_option linter.unusedVariables false
set_option maxRecDepth 100000
open Go.ChangeShapes Go.WideShapes Go.ChangeAt Go.RowKit Go.Lib
open Go.ChangeMaps (open_string shut_string)
theorem big_any {w : World} {v : Value} {L : List Int} (h : BRead w v L) : Calls Tryd.prog 13 #[v] w fun e w' => e = .returned (.bool (decide ((1048576 : Int) < (L.length : Int)))) ∧ w = w' := by
  obtain ⟨a, b, off, cap, rfl, h1, h2, h3, h4, h5⟩ := h
  clear h1 h4 h5
  go_enter Tryd.func13, Tryd.ntmps13
  go_wp2_with fail
  go_ret
  exact ⟨rfl, rfl⟩
theorem MsgSize_impl (w0 : World) (hE : Env w0) (v : Value) (t : V) (h : Rep w0 v t) (hsz : t.sz ≤ 1048576) (w : World) (hw : Below w0.heap.size w0 w) :
    Calls Tryd.prog 50 #[v] w fun e w' => e = .returned (.int .i64 ((⟨(mpB t).toArray⟩ : ByteArray).size : Int)) ∧ Below w.heap.size w w' := by
  have PM := Lib.hid (fun (W : World) (hW : Below w0.heap.size w0 W) => PutMsg_impl w0 hE v t h hsz W hW)
  have hle := mpB_sz t
  have HW := Lib.hid hw
  obtain ⟨sl, rfl, hwf, hr⟩ := h
  obtain ⟨sa, sc, rfl⟩ := hr.slice
  clear hwf hr hE hw
  unfold V.agg at PM ⊢
  unfold TxtRet bstr at PM
  generalize (⟨(mpB t).toArray⟩ : ByteArray) = C at *
  go_enter Tryd.func50, Tryd.ntmps50
  have HB := Lib.hid (show Below w.heap.size w (w.alloc (.cells #[.int .i64 t.k, .int .i64 t.n, .int .i64 t.e, .string t.s, .slice sa t.kids.length sc] 26)) from (Below.refl _ _).alloc (Nat.le_refl _) _)
  go_wp2_with fail
  refine (PM.out _ (HW.out.trans (HB.out.mono HW.out.size))).mono ?_
  rintro e1 w1 ⟨rfl, hb⟩
  go_wp2_with fail
  go_ret
  exact ⟨rfl, HB.out.trans (hb.mono HB.out.size)⟩
theorem msgR2_eq (s : ByteArray) (i : Int) : msgR2 s i = msgR s i := by
  unfold msgR2 msgR msgC VZ0
  split
  · cases mget s 13 i.toNat 300 with
    | none => rfl
    | some q => rfl
  · rfl
theorem msgR2_szM {s : ByteArray} (hs : s.size ≤ 1048576) (i : Int) : (msgR2 s i).1.sz ≤ 1048576 := by
  have hz : VZ0.sz ≤ 1048576 := by simp [VZ0, V.sz, szs, ByteArray.size]
  unfold msgR2
  split
  · cases h : mget s 13 i.toNat 300 with
    | none => exact hz
    | some q =>
      obtain ⟨v, j, m⟩ := q
      have hg := mget_good hs 13 i.toNat 300 v j m h
      show (if _ then _ else _ : V × Int).1.sz ≤ _
      split
      · show v.sz ≤ _; omega
      · exact hz
  · exact hz
theorem mpMany_ne (n a b c d : Int) : (mpMany n a b c d).length ≠ 0 := by unfold mpMany; (repeat' split) <;> simp [bigZ_length]
theorem mpNum_ne (n : Int) : (mpNum n).length ≠ 0 := by unfold mpNum; (repeat' split) <;> simp [bigZ_length]
theorem mpOwn_ne (t : V) : (mpOwn t).length ≠ 0 := by
  have h1 := mpNum_ne t.n
  have h2 := mpMany_ne
  unfold mpOwn
  (repeat' split) <;> (try simp only [List.length_append, List.length_cons, List.length_nil]) <;> first | omega | (simp; done) | exact h1 | exact h2 _ _ _ _ _ | (have := h2 t.s.size 32 160 217 218; omega) | (have := h2 t.s.size 0 0 196 197; omega)
theorem mpB_ne {t : V} (h : okT t = true) : mpB t ≠ [] := by
  unfold mpB
  rw [if_pos h, mpL_eq]
  intro e
  exact mpOwn_ne t (by rw [(List.append_eq_nil_iff.1 e).1]; rfl)
theorem msg_own {s : ByteArray} (hs : s.size ≤ 1048576) {i : Int} (h : 0 ≤ (msgR2 s i).2) : ∃ a b : Nat, i = (a : Int) ∧ (msgR2 s i).2 = (b : Int) ∧ a ≤ b ∧ b ≤ s.size ∧ (⟨(mpB (msgR2 s i).1).toArray⟩ : ByteArray) = s.extract a b := by
  unfold msgR2 at h ⊢
  split at h
  · rename_i hi
    rw [if_pos hi]
    cases hg : mget s 13 i.toNat 300 with
    | none => rw [hg] at h; exact absurd h (by show ¬ (0 : Int) ≤ -1; omega)
    | some q =>
      obtain ⟨v, j, m⟩ := q
      rw [hg] at h
      unfold msgC at h ⊢
      simp only at h ⊢
      split at h
      · rename_i hb
        rw [if_pos hb]
        have hx := ba_ext (a := ⟨(mpB v).toArray⟩) (b := s.extract i.toNat j) (by simpa using hb)
        have hgd := mget_good hs 13 i.toNat 300 v j m hg
        exact ⟨i.toNat, j, by omega, rfl, by omega, by omega, hx⟩
      · exact absurd h (by show ¬ (0 : Int) ≤ -1; omega)
  · exact absurd h (by show ¬ (0 : Int) ≤ -1; omega)
theorem msg_neg {s : ByteArray} {i : Int} (h : ¬ 0 ≤ (msgR2 s i).2) : (msgR2 s i).2 = -1 := by
  unfold msgR2 at h ⊢
  split at h
  · rename_i hi
    rw [if_pos hi]
    unfold msgC at h ⊢
    split at h
    · split at h
      · exact absurd (by show (0 : Int) ≤ (_ : Nat); omega) h
      · rename_i h2
        rw [if_neg h2]
    · rfl
  · rename_i hi
    rw [if_neg hi]
theorem bigZ_sub {l : List UInt8} {q : Nat} (h : l.length = q) (hq : q ≤ 8) : bigZ q (wrap64 (wval l)) = l := by
  have h1 : bigZ q ((wval l : Nat) : Int) = l := by rw [← big_bigZ, ← h, big_wval]
  have h2 : wval l < 18446744073709551616 := by
    have := wval_lt l
    rw [h] at this
    have h3 : (256 : Nat) ^ q ≤ 256 ^ 8 := Nat.pow_le_pow_right (by omega) hq
    have h4 : (256 : Nat) ^ 8 = 18446744073709551616 := by decide
    omega
  by_cases c : wval l < 9223372036854775808
  · rw [show wrap64 ((wval l : Nat) : Int) = ((wval l : Nat) : Int) by unfold wrap64; omega]; exact h1
  · rw [show wrap64 ((wval l : Nat) : Int) = ((wval l : Nat) : Int) - 18446744073709551616 by unfold wrap64; omega, bigZ_neg q _ hq]; exact h1
theorem gw_own {g : ByteArray} {i q : Int} (h : (gwR g i q).2 = true) : ∃ a b : Nat, i = (a : Int) ∧ q = (b : Int) ∧ 1 ≤ b ∧ b ≤ 8 ∧ a + b ≤ g.size ∧ (⟨(pwB (gwR g i q).1 q).toArray⟩ : ByteArray) = g.extract a (a + b) := by
  unfold gwR at h ⊢
  split at h
  · rename_i hc
    rw [if_pos hc]
    refine ⟨i.toNat, q.toNat, by omega, by omega, by omega, by omega, by omega, ?_⟩
    unfold pwB
    rw [if_pos ⟨hc.1, hc.2.1⟩]
    have hl : (sub g.data.toList i.toNat q.toNat).length = q.toNat := sub_length _ _ _ (by show i.toNat + q.toNat ≤ g.size; omega)
    rw [bigZ_sub hl (by omega)]
    have := extract_sub g i (i + q) hc.2.2.1 (by omega)
    rw [show i + q - i = q by omega, show (i + q).toNat = i.toNat + q.toNat by omega] at this
    exact this.symm
  · cases h
def HeldB (W : World) (b : Nat) (t : V) (sl : Value) : Prop := Box W b t.k t.n t.e t.s sl 26 ∧ Rep W (t.agg sl) t
theorem HeldB.new {W : World} {t : V} {sl : Value} (h : Rep W (t.agg sl) t) : HeldB (W.alloc (.cells #[.int .i64 t.k, .int .i64 t.n, .int .i64 t.e, .string t.s, sl] 26)) W.heap.size t sl :=
  ⟨Box.new W _ _ _ _ _ _, h.keep ((Below.refl _ _).alloc (Nat.le_refl _) _)⟩
theorem HeldB.stay {W W' : World} {b : Nat} {t : V} {sl : Value} (h : HeldB W b t sl) (hb : Below W.heap.size W W') : HeldB W' b t sl := ⟨h.1.stay hb, h.2.keep hb⟩
theorem alloc_below (W : World) (o : Obj) : Below W.heap.size W (W.alloc o) := (Below.refl _ _).alloc (Nat.le_refl _) _
theorem keepc {W w2 : World} (hb : Below W.heap.size W w2) {p : Addr} {x : Value} (h : W.cell? p = some x) : w2.cell? p = some x := (hb.cell (World.block_lt_of_cell? _ _ h)).trans h
theorem str_ne_self (s : ByteArray) : (s.toList != s.toList) = false := by simp
theorem keepc20 {W0 W w2 : World} {p0 : Addr} {y0 : Value} {p1 : Addr} {y1 : Value} {p2 : Addr} {y2 : Value} {p3 : Addr} {y3 : Value} {p4 : Addr} {y4 : Value} {p5 : Addr} {y5 : Value} {p6 : Addr} {y6 : Value} {p7 : Addr} {y7 : Value} {p8 : Addr} {y8 : Value} {p9 : Addr} {y9 : Value} {p10 : Addr} {y10 : Value} {p11 : Addr} {y11 : Value} {p12 : Addr} {y12 : Value} {p13 : Addr} {y13 : Value} {p14 : Addr} {y14 : Value} {p15 : Addr} {y15 : Value} {p16 : Addr} {y16 : Value} {p17 : Addr} {y17 : Value} {p18 : Addr} {y18 : Value} {p19 : Addr} {y19 : Value} (hb : Below W.heap.size W w2) (h : W.cell? p0 = some y0 ∧ W.cell? p1 = some y1 ∧ W.cell? p2 = some y2 ∧ W.cell? p3 = some y3 ∧ W.cell? p4 = some y4 ∧ W.cell? p5 = some y5 ∧ W.cell? p6 = some y6 ∧ W.cell? p7 = some y7 ∧ W.cell? p8 = some y8 ∧ W.cell? p9 = some y9 ∧ W.cell? p10 = some y10 ∧ W.cell? p11 = some y11 ∧ W.cell? p12 = some y12 ∧ W.cell? p13 = some y13 ∧ W.cell? p14 = some y14 ∧ W.cell? p15 = some y15 ∧ W.cell? p16 = some y16 ∧ W.cell? p17 = some y17 ∧ W.cell? p18 = some y18 ∧ W.cell? p19 = some y19 ∧ Below W0.heap.size W0 W) : w2.cell? p0 = some y0 ∧ w2.cell? p1 = some y1 ∧ w2.cell? p2 = some y2 ∧ w2.cell? p3 = some y3 ∧ w2.cell? p4 = some y4 ∧ w2.cell? p5 = some y5 ∧ w2.cell? p6 = some y6 ∧ w2.cell? p7 = some y7 ∧ w2.cell? p8 = some y8 ∧ w2.cell? p9 = some y9 ∧ w2.cell? p10 = some y10 ∧ w2.cell? p11 = some y11 ∧ w2.cell? p12 = some y12 ∧ w2.cell? p13 = some y13 ∧ w2.cell? p14 = some y14 ∧ w2.cell? p15 = some y15 ∧ w2.cell? p16 = some y16 ∧ w2.cell? p17 = some y17 ∧ w2.cell? p18 = some y18 ∧ w2.cell? p19 = some y19 ∧ Below W0.heap.size W0 w2 := by
  obtain ⟨h0, h1, h2, h3, h4, h5, h6, h7, h8, h9, h10, h11, h12, h13, h14, h15, h16, h17, h18, h19, hB⟩ := h
  exact ⟨keepc hb h0, keepc hb h1, keepc hb h2, keepc hb h3, keepc hb h4, keepc hb h5, keepc hb h6, keepc hb h7, keepc hb h8, keepc hb h9, keepc hb h10, keepc hb h11, keepc hb h12, keepc hb h13, keepc hb h14, keepc hb h15, keepc hb h16, keepc hb h17, keepc hb h18, keepc hb h19, hB.trans (hb.mono hB.size)⟩
theorem keepc5 {W0 W w2 : World} {p0 : Addr} {y0 : Value} {p1 : Addr} {y1 : Value} {p2 : Addr} {y2 : Value} {p3 : Addr} {y3 : Value} {p4 : Addr} {y4 : Value} (hb : Below W.heap.size W w2) (h : W.cell? p0 = some y0 ∧ W.cell? p1 = some y1 ∧ W.cell? p2 = some y2 ∧ W.cell? p3 = some y3 ∧ W.cell? p4 = some y4 ∧ Below W0.heap.size W0 W) : w2.cell? p0 = some y0 ∧ w2.cell? p1 = some y1 ∧ w2.cell? p2 = some y2 ∧ w2.cell? p3 = some y3 ∧ w2.cell? p4 = some y4 ∧ Below W0.heap.size W0 w2 := by
  obtain ⟨h0, h1, h2, h3, h4, hB⟩ := h
  exact ⟨keepc hb h0, keepc hb h1, keepc hb h2, keepc hb h3, keepc hb h4, hB.trans (hb.mono hB.size)⟩
set_option maxHeartbeats 8000000 in
theorem walk_FnMsg {w00 : World} (v0 : Value) (L : List Int) (hv : BRead w00 v0 L) (w : World) (hww : w = w00) (hE : Env w) : Calls Tryd.prog 6 #[v0] w (LawRet w) := by
  subst hww
  have BG := Lib.hid (big_any hv)
  by_cases hbig : L.length ≤ 1048576
  case neg =>
    have hB : decide ((1048576 : Int) < (L.length : Int)) = true := decide_eq_true (by omega)
    go_enter Tryd.func6, Tryd.ntmps6
    go_wp2_with fail
    refine BG.out.mono ?_
    rintro e0 w' ⟨rfl, rfl⟩
    go_wp2_with fail
    go_ret
    exact ⟨rfl, Below.refl _ _⟩
  have hB : decide ((1048576 : Int) < (L.length : Int)) = false := decide_eq_false (by omega)
  have hD : Drw w v0 L.length := ⟨⟨L, hv, rfl⟩, hbig⟩
  have HB := Lib.hid (Below.refl w.heap.size w)
  have D1 := Lib.hid (fun (W : World) (hW : Below w.heap.size w W) => DrawPutMsg_any w v0 _ hD W hW)
  have D2 := Lib.hid (fun (W : World) (hW : Below w.heap.size w W) => DrawGetMsg_any w v0 _ hD W hW)
  have D3 := Lib.hid (fun (W : World) (hW : Below w.heap.size w W) => DrawMsgSize_any w v0 _ hD W hW)
  have D4 := Lib.hid (fun (W : World) (hW : Below w.heap.size w W) => DrawPutWide_any w v0 _ hD W hW)
  have D5 := Lib.hid (fun (W : World) (hW : Below w.heap.size w W) => DrawGetWide_any w v0 _ hD W hW)
  have D6 := Lib.hid (fun (W : World) (hW : Below w.heap.size w W) => DrawSignOf_any w v0 _ hD W hW)
  have PM := Lib.hid (fun (W W' : World) (hW : Below w.heap.size w W) (hh : Below W.heap.size W W') (x : Value) (t : V) (hx : Rep W x t) (hz : t.sz ≤ 1048576) => PutMsg_impl W (Env.keep hE hW) x t hx hz W' hh)
  have PS := Lib.hid (fun (W W' : World) (hh : Below W.heap.size W W') (x : Value) (t : V) (hx : Rep W x t) (hz : t.sz ≤ 1048576) => PutMsg_spec W x t hx hz W' hh)
  have MS := Lib.hid (fun (W W' : World) (hW : Below w.heap.size w W) (hh : Below W.heap.size W W') (x : Value) (t : V) (hx : Rep W x t) (hz : t.sz ≤ 1048576) => MsgSize_impl W (Env.keep hE hW) x t hx hz W' hh)
  have GI := Lib.hid (fun (W : World) (hW : Below w.heap.size w W) (s : ByteArray) (hs : s.size ≤ 1048576) (i : Int) (hi : In64 i) => GetMsg_impl0 W s hs i hi W (Below.refl _ _) (Env.keep hE hW))
  clear hE hv hD hbig
  go_enter Tryd.func6, Tryd.ntmps6
  go_wp2_with fail
  refine BG.out.mono ?_
  rintro e0 w' ⟨rfl, rfl⟩
  clear BG
  go_wp2_with fail
  clear hB
  refine (D1.out _ HB.out).mono ?_
  rintro e1 w1 ⟨t1, sl1, rfl, hwf1, hsz1, hrs1, hb⟩
  replace HB := Lib.hid (HB.out.trans (hb.mono HB.out.size))
  clear hb
  obtain ⟨a1, q1, rfl⟩ := hrs1.slice
  have RA1 := Lib.hid (show Rep w1 (t1.agg (.slice a1 t1.kids.length q1)) t1 from ⟨_, rfl, hwf1, hrs1⟩)
  have HWV := Lib.hid RA1.out.wfV
  clear hwf1 hrs1
  have hal := alloc_below w1 (.cells #[.int .i64 t1.k, .int .i64 t1.n, .int .i64 t1.e, .string t1.s, .slice a1 t1.kids.length q1] 26)
  replace HB := Lib.hid (HB.out.trans (hal.mono HB.out.size))
  have A1 := Lib.hid (HeldB.new RA1.out)
  clear hal RA1
  unfold V.agg
  go_wp2_with fail
  generalize (w1.alloc (.cells #[.int .i64 t1.k, .int .i64 t1.n, .int .i64 t1.e, .string t1.s, .slice a1 t1.kids.length q1] 26)) = w2 at *
  generalize w1.heap.size = b1 at *
  have P0 := Lib.hid (PM.out _ _ HB.out (Below.refl _ _) _ t1 A1.out.2 (by omega))
  obtain ⟨s1, hs1⟩ : ∃ s1 : ByteArray, s1 = ⟨(mpB t1).toArray⟩ := ⟨_, rfl⟩
  unfold TxtRet bstr at P0
  rw [← hs1] at P0
  have HS1 := Lib.hid hs1
  clear hs1
  refine (P0.out).mono ?_
  rintro e3 w3 ⟨rfl, hb⟩
  replace HB := Lib.hid (HB.out.trans (hb.mono HB.out.size))
  replace A1 := Lib.hid (A1.out.stay hb)
  clear hb
  clear P0
  go_wp2_with fail
  refine (D2.out _ HB.out).mono ?_
  rintro e4 w4 ⟨u, kk, rfl, hu, hk, hb⟩
  replace HB := Lib.hid (HB.out.trans (hb.mono HB.out.size))
  replace A1 := Lib.hid (A1.out.stay hb)
  clear hb
  have HK := Lib.hid hk
  clear hk
  go_wp2_with fail
  have HOWN := Lib.hid (fun (h : 0 ≤ (msgR2 u kk).2) => msg_own (by omega) h)
  have HNEG := Lib.hid (fun (h : ¬ 0 ≤ (msgR2 u kk).2) => msg_neg h)
  have hxz := msgR2_szM (s := u) (by omega) kk
  have G1 := Lib.hid (GI.out _ HB.out u (by omega) kk HK.out)
  have GS1 := Lib.hid (fun (W : World) => GetMsg_spec0 W u (by omega) kk HK.out W (Below.refl _ _))
  unfold VIRet at G1 GS1
  generalize (msgR2 u kk).1 = xx at *
  generalize (msgR2 u kk).2 = r2 at *
  refine (G1.out).mono ?_
  rintro e5 w5 ⟨sl2, rfl, xwf, xo, hb⟩
  replace HB := Lib.hid (HB.out.trans (hb.mono HB.out.size))
  replace A1 := Lib.hid (A1.out.stay hb)
  clear hb
  clear G1
  obtain ⟨a2, q2, rfl⟩ := xo.slice
  have RA2 := Lib.hid (show Rep w5 (xx.agg (.slice a2 xx.kids.length q2)) xx from ⟨_, rfl, xwf, xo.rep⟩)
  clear xwf xo
  have hal := alloc_below w5 (.cells #[.int .i64 xx.k, .int .i64 xx.n, .int .i64 xx.e, .string xx.s, .slice a2 xx.kids.length q2] 26)
  replace HB := Lib.hid (HB.out.trans (hal.mono HB.out.size))
  replace A1 := Lib.hid (A1.out.stay hal)
  have A2 := Lib.hid (HeldB.new RA2.out)
  clear hal RA2
  unfold V.agg
  go_wp2_with fail
  generalize (w5.alloc (.cells #[.int .i64 xx.k, .int .i64 xx.n, .int .i64 xx.e, .string xx.s, .slice a2 xx.kids.length q2] 26)) = w6 at *
  generalize w5.heap.size = b2 at *
  refine (GS1.out _).mono ?_
  rintro e7 w7 ⟨sl3, rfl, xwf, xo, hb⟩
  replace HB := Lib.hid (HB.out.trans (hb.mono HB.out.size))
  replace A1 := Lib.hid (A1.out.stay hb)
  replace A2 := Lib.hid (A2.out.stay hb)
  clear hb
  clear GS1
  obtain ⟨a3, q3, rfl⟩ := xo.slice
  have RA3 := Lib.hid (show Rep w7 (xx.agg (.slice a3 xx.kids.length q3)) xx from ⟨_, rfl, xwf, xo.rep⟩)
  clear xwf xo
  have hal := alloc_below w7 (.cells #[.int .i64 xx.k, .int .i64 xx.n, .int .i64 xx.e, .string xx.s, .slice a3 xx.kids.length q3] 26)
  replace HB := Lib.hid (HB.out.trans (hal.mono HB.out.size))
  replace A1 := Lib.hid (A1.out.stay hal)
  replace A2 := Lib.hid (A2.out.stay hal)
  have A3 := Lib.hid (HeldB.new RA3.out)
  clear hal RA3
  unfold V.agg
  go_wp2_with fail
  generalize (w7.alloc (.cells #[.int .i64 xx.k, .int .i64 xx.n, .int .i64 xx.e, .string xx.s, .slice a3 xx.kids.length q3] 26)) = w8 at *
  generalize w7.heap.size = b3 at *
  refine (D3.out _ HB.out).mono ?_
  rintro e9 w9 ⟨t4, sl4, rfl, hwf4, hsz4, hrs4, hb⟩
  replace HB := Lib.hid (HB.out.trans (hb.mono HB.out.size))
  replace A1 := Lib.hid (A1.out.stay hb)
  replace A2 := Lib.hid (A2.out.stay hb)
  replace A3 := Lib.hid (A3.out.stay hb)
  clear hb
  obtain ⟨a4, q4, rfl⟩ := hrs4.slice
  have RA4 := Lib.hid (show Rep w9 (t4.agg (.slice a4 t4.kids.length q4)) t4 from ⟨_, rfl, hwf4, hrs4⟩)
  clear hwf4 hrs4
  have hal := alloc_below w9 (.cells #[.int .i64 t4.k, .int .i64 t4.n, .int .i64 t4.e, .string t4.s, .slice a4 t4.kids.length q4] 26)
  replace HB := Lib.hid (HB.out.trans (hal.mono HB.out.size))
  replace A1 := Lib.hid (A1.out.stay hal)
  replace A2 := Lib.hid (A2.out.stay hal)
  replace A3 := Lib.hid (A3.out.stay hal)
  have A4 := Lib.hid (HeldB.new RA4.out)
  clear hal RA4
  unfold V.agg
  go_wp2_with fail
  generalize (w9.alloc (.cells #[.int .i64 t4.k, .int .i64 t4.n, .int .i64 t4.e, .string t4.s, .slice a4 t4.kids.length q4] 26)) = w10 at *
  generalize w9.heap.size = b4 at *
  refine (D4.out _ HB.out).mono ?_
  rintro e11 w11 ⟨n, m, rfl, hn, hm0, hm1, hb⟩
  replace HB := Lib.hid (HB.out.trans (hb.mono HB.out.size))
  replace A1 := Lib.hid (A1.out.stay hb)
  replace A2 := Lib.hid (A2.out.stay hb)
  replace A3 := Lib.hid (A3.out.stay hb)
  replace A4 := Lib.hid (A4.out.stay hb)
  clear hb
  have HN := Lib.hid hn
  clear hn
  go_wp2_with fail
  have P1 := Lib.hid (PutWide_ib n m w11)
  have P2 := Lib.hid (fun (W : World) => PutWide_sb n m HN.out W)
  obtain ⟨s2, hs2⟩ : ∃ s2 : ByteArray, s2 = ⟨(pwB n m).toArray⟩ := ⟨_, rfl⟩
  unfold TxtRet bstr at P1 P2
  rw [← hs2] at P1 P2
  have HS2 := Lib.hid hs2
  clear hs2
  refine (P1.out).mono ?_
  rintro e12 w12 ⟨rfl, hb⟩
  replace HB := Lib.hid (HB.out.trans (hb.mono HB.out.size))
  replace A1 := Lib.hid (A1.out.stay hb)
  replace A2 := Lib.hid (A2.out.stay hb)
  replace A3 := Lib.hid (A3.out.stay hb)
  replace A4 := Lib.hid (A4.out.stay hb)
  clear hb
  clear P1
  go_wp2_with fail
  refine (D5.out _ HB.out).mono ?_
  rintro e13 w13 ⟨g, i, q, rfl, hg, hi, hq0, hq1, hb⟩
  replace HB := Lib.hid (HB.out.trans (hb.mono HB.out.size))
  replace A1 := Lib.hid (A1.out.stay hb)
  replace A2 := Lib.hid (A2.out.stay hb)
  replace A3 := Lib.hid (A3.out.stay hb)
  replace A4 := Lib.hid (A4.out.stay hb)
  clear hb
  have HI := Lib.hid hi
  clear hi
  go_wp2_with fail
  have Q1 := Lib.hid (GetWide_ib g (by omega) i q w13)
  have Q2 := Lib.hid (GetWide_sb g (by omega) i q w13)
  have HGW := Lib.hid (fun (h : (gwR g i q).2 = true) => gw_own h)
  generalize (gwR g i q).1 = ga at *
  generalize (gwR g i q).2 = gk at *
  refine (Q1.out).mono ?_
  rintro eq wq ⟨rfl, hwq⟩
  obtain rfl := hwq.symm
  go_wp2_with fail
  refine (Q2.out).mono ?_
  rintro eq wq ⟨rfl, hwq⟩
  obtain rfl := hwq.symm
  clear Q1 Q2
  go_wp2_with fail
  refine (D6.out _ HB.out).mono ?_
  rintro e14 w14 ⟨cc, dd, rfl, hc, hd0, hd1, hb⟩
  replace HB := Lib.hid (HB.out.trans (hb.mono HB.out.size))
  replace A1 := Lib.hid (A1.out.stay hb)
  replace A2 := Lib.hid (A2.out.stay hb)
  replace A3 := Lib.hid (A3.out.stay hb)
  replace A4 := Lib.hid (A4.out.stay hb)
  clear hb
  have R1 := Lib.hid (fun (W : World) (hW : W.cell? ⟨b1, 0, none⟩ = some (.int .i64 t1.k) ∧ W.cell? ⟨b1, 1, none⟩ = some (.int .i64 t1.n) ∧ W.cell? ⟨b1, 2, none⟩ = some (.int .i64 t1.e) ∧ W.cell? ⟨b1, 3, none⟩ = some (.string t1.s) ∧ W.cell? ⟨b1, 4, none⟩ = some (.slice a1 t1.kids.length q1) ∧ W.cell? ⟨b2, 0, none⟩ = some (.int .i64 xx.k) ∧ W.cell? ⟨b2, 1, none⟩ = some (.int .i64 xx.n) ∧ W.cell? ⟨b2, 2, none⟩ = some (.int .i64 xx.e) ∧ W.cell? ⟨b2, 3, none⟩ = some (.string xx.s) ∧ W.cell? ⟨b2, 4, none⟩ = some (.slice a2 xx.kids.length q2) ∧ W.cell? ⟨b3, 0, none⟩ = some (.int .i64 xx.k) ∧ W.cell? ⟨b3, 1, none⟩ = some (.int .i64 xx.n) ∧ W.cell? ⟨b3, 2, none⟩ = some (.int .i64 xx.e) ∧ W.cell? ⟨b3, 3, none⟩ = some (.string xx.s) ∧ W.cell? ⟨b3, 4, none⟩ = some (.slice a3 xx.kids.length q3) ∧ W.cell? ⟨b4, 0, none⟩ = some (.int .i64 t4.k) ∧ W.cell? ⟨b4, 1, none⟩ = some (.int .i64 t4.n) ∧ W.cell? ⟨b4, 2, none⟩ = some (.int .i64 t4.e) ∧ W.cell? ⟨b4, 3, none⟩ = some (.string t4.s) ∧ W.cell? ⟨b4, 4, none⟩ = some (.slice a4 t4.kids.length q4) ∧ Below w14.heap.size w14 W) => PS.out _ W (hW.2.2.2.2.2.2.2.2.2.2.2.2.2.2.2.2.2.2.2.2) _ t1 A1.out.2 (by omega))
  have R4 := Lib.hid (fun (W : World) (hW : W.cell? ⟨b1, 0, none⟩ = some (.int .i64 t1.k) ∧ W.cell? ⟨b1, 1, none⟩ = some (.int .i64 t1.n) ∧ W.cell? ⟨b1, 2, none⟩ = some (.int .i64 t1.e) ∧ W.cell? ⟨b1, 3, none⟩ = some (.string t1.s) ∧ W.cell? ⟨b1, 4, none⟩ = some (.slice a1 t1.kids.length q1) ∧ W.cell? ⟨b2, 0, none⟩ = some (.int .i64 xx.k) ∧ W.cell? ⟨b2, 1, none⟩ = some (.int .i64 xx.n) ∧ W.cell? ⟨b2, 2, none⟩ = some (.int .i64 xx.e) ∧ W.cell? ⟨b2, 3, none⟩ = some (.string xx.s) ∧ W.cell? ⟨b2, 4, none⟩ = some (.slice a2 xx.kids.length q2) ∧ W.cell? ⟨b3, 0, none⟩ = some (.int .i64 xx.k) ∧ W.cell? ⟨b3, 1, none⟩ = some (.int .i64 xx.n) ∧ W.cell? ⟨b3, 2, none⟩ = some (.int .i64 xx.e) ∧ W.cell? ⟨b3, 3, none⟩ = some (.string xx.s) ∧ W.cell? ⟨b3, 4, none⟩ = some (.slice a3 xx.kids.length q3) ∧ W.cell? ⟨b4, 0, none⟩ = some (.int .i64 t4.k) ∧ W.cell? ⟨b4, 1, none⟩ = some (.int .i64 t4.n) ∧ W.cell? ⟨b4, 2, none⟩ = some (.int .i64 t4.e) ∧ W.cell? ⟨b4, 3, none⟩ = some (.string t4.s) ∧ W.cell? ⟨b4, 4, none⟩ = some (.slice a4 t4.kids.length q4) ∧ Below w14.heap.size w14 W) => PS.out _ W (hW.2.2.2.2.2.2.2.2.2.2.2.2.2.2.2.2.2.2.2.2) _ t4 A4.out.2 (by omega))
  have RM := Lib.hid (fun (W : World) (hW : W.cell? ⟨b1, 0, none⟩ = some (.int .i64 t1.k) ∧ W.cell? ⟨b1, 1, none⟩ = some (.int .i64 t1.n) ∧ W.cell? ⟨b1, 2, none⟩ = some (.int .i64 t1.e) ∧ W.cell? ⟨b1, 3, none⟩ = some (.string t1.s) ∧ W.cell? ⟨b1, 4, none⟩ = some (.slice a1 t1.kids.length q1) ∧ W.cell? ⟨b2, 0, none⟩ = some (.int .i64 xx.k) ∧ W.cell? ⟨b2, 1, none⟩ = some (.int .i64 xx.n) ∧ W.cell? ⟨b2, 2, none⟩ = some (.int .i64 xx.e) ∧ W.cell? ⟨b2, 3, none⟩ = some (.string xx.s) ∧ W.cell? ⟨b2, 4, none⟩ = some (.slice a2 xx.kids.length q2) ∧ W.cell? ⟨b3, 0, none⟩ = some (.int .i64 xx.k) ∧ W.cell? ⟨b3, 1, none⟩ = some (.int .i64 xx.n) ∧ W.cell? ⟨b3, 2, none⟩ = some (.int .i64 xx.e) ∧ W.cell? ⟨b3, 3, none⟩ = some (.string xx.s) ∧ W.cell? ⟨b3, 4, none⟩ = some (.slice a3 xx.kids.length q3) ∧ W.cell? ⟨b4, 0, none⟩ = some (.int .i64 t4.k) ∧ W.cell? ⟨b4, 1, none⟩ = some (.int .i64 t4.n) ∧ W.cell? ⟨b4, 2, none⟩ = some (.int .i64 t4.e) ∧ W.cell? ⟨b4, 3, none⟩ = some (.string t4.s) ∧ W.cell? ⟨b4, 4, none⟩ = some (.slice a4 t4.kids.length q4) ∧ Below w14.heap.size w14 W) => MS.out _ W HB.out (hW.2.2.2.2.2.2.2.2.2.2.2.2.2.2.2.2.2.2.2.2) _ t4 A4.out.2 (by omega))
  have RS := Lib.hid (fun (W : World) (hW : W.cell? ⟨b1, 0, none⟩ = some (.int .i64 t1.k) ∧ W.cell? ⟨b1, 1, none⟩ = some (.int .i64 t1.n) ∧ W.cell? ⟨b1, 2, none⟩ = some (.int .i64 t1.e) ∧ W.cell? ⟨b1, 3, none⟩ = some (.string t1.s) ∧ W.cell? ⟨b1, 4, none⟩ = some (.slice a1 t1.kids.length q1) ∧ W.cell? ⟨b2, 0, none⟩ = some (.int .i64 xx.k) ∧ W.cell? ⟨b2, 1, none⟩ = some (.int .i64 xx.n) ∧ W.cell? ⟨b2, 2, none⟩ = some (.int .i64 xx.e) ∧ W.cell? ⟨b2, 3, none⟩ = some (.string xx.s) ∧ W.cell? ⟨b2, 4, none⟩ = some (.slice a2 xx.kids.length q2) ∧ W.cell? ⟨b3, 0, none⟩ = some (.int .i64 xx.k) ∧ W.cell? ⟨b3, 1, none⟩ = some (.int .i64 xx.n) ∧ W.cell? ⟨b3, 2, none⟩ = some (.int .i64 xx.e) ∧ W.cell? ⟨b3, 3, none⟩ = some (.string xx.s) ∧ W.cell? ⟨b3, 4, none⟩ = some (.slice a3 xx.kids.length q3) ∧ W.cell? ⟨b4, 0, none⟩ = some (.int .i64 t4.k) ∧ W.cell? ⟨b4, 1, none⟩ = some (.int .i64 t4.n) ∧ W.cell? ⟨b4, 2, none⟩ = some (.int .i64 t4.e) ∧ W.cell? ⟨b4, 3, none⟩ = some (.string t4.s) ∧ W.cell? ⟨b4, 4, none⟩ = some (.slice a4 t4.kids.length q4) ∧ Below w14.heap.size w14 W) => lsame_any w14 (xx.sz + 1) xx _ _ (by omega) A2.out.2 A3.out.2 W (hW.2.2.2.2.2.2.2.2.2.2.2.2.2.2.2.2.2.2.2.2))
  have RW := Lib.hid (fun (W : World) (hW : W.cell? ⟨b1, 0, none⟩ = some (.int .i64 t1.k) ∧ W.cell? ⟨b1, 1, none⟩ = some (.int .i64 t1.n) ∧ W.cell? ⟨b1, 2, none⟩ = some (.int .i64 t1.e) ∧ W.cell? ⟨b1, 3, none⟩ = some (.string t1.s) ∧ W.cell? ⟨b1, 4, none⟩ = some (.slice a1 t1.kids.length q1) ∧ W.cell? ⟨b2, 0, none⟩ = some (.int .i64 xx.k) ∧ W.cell? ⟨b2, 1, none⟩ = some (.int .i64 xx.n) ∧ W.cell? ⟨b2, 2, none⟩ = some (.int .i64 xx.e) ∧ W.cell? ⟨b2, 3, none⟩ = some (.string xx.s) ∧ W.cell? ⟨b2, 4, none⟩ = some (.slice a2 xx.kids.length q2) ∧ W.cell? ⟨b3, 0, none⟩ = some (.int .i64 xx.k) ∧ W.cell? ⟨b3, 1, none⟩ = some (.int .i64 xx.n) ∧ W.cell? ⟨b3, 2, none⟩ = some (.int .i64 xx.e) ∧ W.cell? ⟨b3, 3, none⟩ = some (.string xx.s) ∧ W.cell? ⟨b3, 4, none⟩ = some (.slice a3 xx.kids.length q3) ∧ W.cell? ⟨b4, 0, none⟩ = some (.int .i64 t4.k) ∧ W.cell? ⟨b4, 1, none⟩ = some (.int .i64 t4.n) ∧ W.cell? ⟨b4, 2, none⟩ = some (.int .i64 t4.e) ∧ W.cell? ⟨b4, 3, none⟩ = some (.string t4.s) ∧ W.cell? ⟨b4, 4, none⟩ = some (.slice a4 t4.kids.length q4) ∧ Below w14.heap.size w14 W) => P2.out W)
  have RI := Lib.hid (fun (W : World) (hW : W.cell? ⟨b1, 0, none⟩ = some (.int .i64 t1.k) ∧ W.cell? ⟨b1, 1, none⟩ = some (.int .i64 t1.n) ∧ W.cell? ⟨b1, 2, none⟩ = some (.int .i64 t1.e) ∧ W.cell? ⟨b1, 3, none⟩ = some (.string t1.s) ∧ W.cell? ⟨b1, 4, none⟩ = some (.slice a1 t1.kids.length q1) ∧ W.cell? ⟨b2, 0, none⟩ = some (.int .i64 xx.k) ∧ W.cell? ⟨b2, 1, none⟩ = some (.int .i64 xx.n) ∧ W.cell? ⟨b2, 2, none⟩ = some (.int .i64 xx.e) ∧ W.cell? ⟨b2, 3, none⟩ = some (.string xx.s) ∧ W.cell? ⟨b2, 4, none⟩ = some (.slice a2 xx.kids.length q2) ∧ W.cell? ⟨b3, 0, none⟩ = some (.int .i64 xx.k) ∧ W.cell? ⟨b3, 1, none⟩ = some (.int .i64 xx.n) ∧ W.cell? ⟨b3, 2, none⟩ = some (.int .i64 xx.e) ∧ W.cell? ⟨b3, 3, none⟩ = some (.string xx.s) ∧ W.cell? ⟨b3, 4, none⟩ = some (.slice a3 xx.kids.length q3) ∧ W.cell? ⟨b4, 0, none⟩ = some (.int .i64 t4.k) ∧ W.cell? ⟨b4, 1, none⟩ = some (.int .i64 t4.n) ∧ W.cell? ⟨b4, 2, none⟩ = some (.int .i64 t4.e) ∧ W.cell? ⟨b4, 3, none⟩ = some (.string t4.s) ∧ W.cell? ⟨b4, 4, none⟩ = some (.slice a4 t4.kids.length q4) ∧ Below w14.heap.size w14 W) => (SignOf_ib cc dd hc W).mono (fun e w' h => (show e = .returned (.int .i64 (soR cc dd)) ∧ Below W.heap.size W w' from ⟨h.1, by rw [h.2]; exact Below.refl _ _⟩)))
  have RJ := Lib.hid (fun (W : World) (hW : W.cell? ⟨b1, 0, none⟩ = some (.int .i64 t1.k) ∧ W.cell? ⟨b1, 1, none⟩ = some (.int .i64 t1.n) ∧ W.cell? ⟨b1, 2, none⟩ = some (.int .i64 t1.e) ∧ W.cell? ⟨b1, 3, none⟩ = some (.string t1.s) ∧ W.cell? ⟨b1, 4, none⟩ = some (.slice a1 t1.kids.length q1) ∧ W.cell? ⟨b2, 0, none⟩ = some (.int .i64 xx.k) ∧ W.cell? ⟨b2, 1, none⟩ = some (.int .i64 xx.n) ∧ W.cell? ⟨b2, 2, none⟩ = some (.int .i64 xx.e) ∧ W.cell? ⟨b2, 3, none⟩ = some (.string xx.s) ∧ W.cell? ⟨b2, 4, none⟩ = some (.slice a2 xx.kids.length q2) ∧ W.cell? ⟨b3, 0, none⟩ = some (.int .i64 xx.k) ∧ W.cell? ⟨b3, 1, none⟩ = some (.int .i64 xx.n) ∧ W.cell? ⟨b3, 2, none⟩ = some (.int .i64 xx.e) ∧ W.cell? ⟨b3, 3, none⟩ = some (.string xx.s) ∧ W.cell? ⟨b3, 4, none⟩ = some (.slice a3 xx.kids.length q3) ∧ W.cell? ⟨b4, 0, none⟩ = some (.int .i64 t4.k) ∧ W.cell? ⟨b4, 1, none⟩ = some (.int .i64 t4.n) ∧ W.cell? ⟨b4, 2, none⟩ = some (.int .i64 t4.e) ∧ W.cell? ⟨b4, 3, none⟩ = some (.string t4.s) ∧ W.cell? ⟨b4, 4, none⟩ = some (.slice a4 t4.kids.length q4) ∧ Below w14.heap.size w14 W) => (SignOf_sb cc dd W).mono (fun e w' h => (show e = .returned (.int .i64 (soR cc dd)) ∧ Below W.heap.size W w' from ⟨h.1, by rw [h.2]; exact Below.refl _ _⟩)))
  have hle4 : (⟨(mpB t4).toArray⟩ : ByteArray).size ≤ 615000 := mpB_sz t4
  unfold TxtRet bstr at R1 R4
  unfold LawRet at RS
  unfold V.agg at R1 R4 RM RS
  rw [← HS1.out] at R1
  generalize (⟨(mpB t4).toArray⟩ : ByteArray) = s4 at *
  generalize soR cc dd = sg at *
  have n1 := str_ne_self s1
  have n2 := str_ne_self s2
  clear D1 D2 D3 D4 D5 D6 hc P2
  go_wp2_with fail
  obtain ⟨cA10, cA11, cA12, cA13, cA14⟩ := A1.out.1.cells
  obtain ⟨cA20, cA21, cA22, cA23, cA24⟩ := A2.out.1.cells
  obtain ⟨cA30, cA31, cA32, cA33, cA34⟩ := A3.out.1.cells
  obtain ⟨cA40, cA41, cA42, cA43, cA44⟩ := A4.out.1.cells
  have hbd : Below w14.heap.size w14 w14.drew := (Below.refl _ _).drew
  first | (go_region_held3 (fun W' => W'.cell? ⟨b1, 0, none⟩ = some (.int .i64 t1.k) ∧ W'.cell? ⟨b1, 1, none⟩ = some (.int .i64 t1.n) ∧ W'.cell? ⟨b1, 2, none⟩ = some (.int .i64 t1.e) ∧ W'.cell? ⟨b1, 3, none⟩ = some (.string t1.s) ∧ W'.cell? ⟨b1, 4, none⟩ = some (.slice a1 t1.kids.length q1) ∧ W'.cell? ⟨b2, 0, none⟩ = some (.int .i64 xx.k) ∧ W'.cell? ⟨b2, 1, none⟩ = some (.int .i64 xx.n) ∧ W'.cell? ⟨b2, 2, none⟩ = some (.int .i64 xx.e) ∧ W'.cell? ⟨b2, 3, none⟩ = some (.string xx.s) ∧ W'.cell? ⟨b2, 4, none⟩ = some (.slice a2 xx.kids.length q2) ∧ W'.cell? ⟨b3, 0, none⟩ = some (.int .i64 xx.k) ∧ W'.cell? ⟨b3, 1, none⟩ = some (.int .i64 xx.n) ∧ W'.cell? ⟨b3, 2, none⟩ = some (.int .i64 xx.e) ∧ W'.cell? ⟨b3, 3, none⟩ = some (.string xx.s) ∧ W'.cell? ⟨b3, 4, none⟩ = some (.slice a3 xx.kids.length q3) ∧ W'.cell? ⟨b4, 0, none⟩ = some (.int .i64 t4.k) ∧ W'.cell? ⟨b4, 1, none⟩ = some (.int .i64 t4.n) ∧ W'.cell? ⟨b4, 2, none⟩ = some (.int .i64 t4.e) ∧ W'.cell? ⟨b4, 3, none⟩ = some (.string t4.s) ∧ W'.cell? ⟨b4, 4, none⟩ = some (.slice a4 t4.kids.length q4) ∧ Below w14.heap.size w14 W') (first | with_reducible exact ⟨by assumption, by assumption, by assumption, by assumption, by assumption, by assumption, by assumption, by assumption, by assumption, by assumption, by assumption, by assumption, by assumption, by assumption, by assumption, by assumption, by assumption, by assumption, by assumption, by assumption, by assumption⟩ | with_reducible assumption | with_reducible exact ⟨cA10, cA11, cA12, cA13, cA14, cA20, cA21, cA22, cA23, cA24, cA30, cA31, cA32, cA33, cA34, cA40, cA41, cA42, cA43, cA44, hbd⟩ | with_reducible exact ⟨cA10, cA11, cA12, cA13, cA14, cA20, cA21, cA22, cA23, cA24, cA30, cA31, cA32, cA33, cA34, cA40, cA41, cA42, cA43, cA44, Below.refl _ _⟩ | go_keep) (((first | with_reducible refine (R1.out _ (by with_reducible assumption)).mono ?_ | with_reducible refine (R4.out _ (by with_reducible assumption)).mono ?_ | with_reducible refine (RM.out _ (by with_reducible assumption)).mono ?_ | with_reducible refine (RS.out _ (by with_reducible assumption)).mono ?_ | with_reducible refine (RW.out _ (by with_reducible assumption)).mono ?_ | with_reducible refine (RI.out _ (by with_reducible assumption)).mono ?_ | with_reducible refine (RJ.out _ (by with_reducible assumption)).mono ?_); rintro e15 w15 ⟨rfl, hb15⟩; have hS := keepc20 hb15 (by with_reducible assumption); obtain ⟨hS0, hS1, hS2, hS3, hS4, hS5, hS6, hS7, hS8, hS9, hS10, hS11, hS12, hS13, hS14, hS15, hS16, hS17, hS18, hS19, hS20⟩ := hS))) | fail
  clear cA10 cA11 cA12 cA13 cA14 cA20 cA21 cA22 cA23 cA24 cA30 cA31 cA32 cA33 cA34 cA40 cA41 cA42 cA43 cA44 n2 R1 R4 RM RS RW RI RJ
  have hbr := hS20
  clear hS0 hS1 hS2 hS3 hS4 hS5 hS6 hS7 hS8 hS9 hS10 hS11 hS12 hS13 hS14 hS15 hS16 hS17 hS18 hS19
  replace HB := Lib.hid (HB.out.trans (hbr.mono HB.out.size))
  replace A1 := Lib.hid (A1.out.stay hbr)
  replace A2 := Lib.hid (A2.out.stay hbr)
  replace A3 := Lib.hid (A3.out.stay hbr)
  replace A4 := Lib.hid (A4.out.stay hbr)
  clear hbr
  clear A3 A4
  go_upto_region 17 with fail
  go_cut [160] (fun s wx => s = .bool false ∧ Below w15.heap.size w15 wx)
  case first =>
    by_cases hr : 0 ≤ r2
    · cases gk
      case false =>
        obtain ⟨ka, kb, rfl, rfl, hk1, hk2, hk3⟩ := HOWN.out hr
        have RX := Lib.hid (fun (W : World) (hW : W.cell? ⟨b2, 0, none⟩ = some (.int .i64 xx.k) ∧ W.cell? ⟨b2, 1, none⟩ = some (.int .i64 xx.n) ∧ W.cell? ⟨b2, 2, none⟩ = some (.int .i64 xx.e) ∧ W.cell? ⟨b2, 3, none⟩ = some (.string xx.s) ∧ W.cell? ⟨b2, 4, none⟩ = some (.slice a2 xx.kids.length q2) ∧ Below w15.heap.size w15 W) => PM.out _ W HB.out (hW.2.2.2.2.2) _ xx A2.out.2 (by omega))
        unfold TxtRet bstr V.agg at RX
        rw [hk3] at RX
        have n3 := str_ne_self (u.extract ka kb)
        have hk4 : (ka : Int) ≤ (kb : Int) := by omega
        have hk5 : (kb : Int) ≤ (u.size : Int) := by omega
        clear hk3
        clear HOWN HGW HNEG
        obtain ⟨cA20, cA21, cA22, cA23, cA24⟩ := A2.out.1.cells
        refine wp_region_held_drew (S := (fun W' => W'.cell? ⟨b2, 0, none⟩ = some (.int .i64 xx.k) ∧ W'.cell? ⟨b2, 1, none⟩ = some (.int .i64 xx.n) ∧ W'.cell? ⟨b2, 2, none⟩ = some (.int .i64 xx.e) ∧ W'.cell? ⟨b2, 3, none⟩ = some (.string xx.s) ∧ W'.cell? ⟨b2, 4, none⟩ = some (.slice a2 xx.kids.length q2) ∧ Below w15.heap.size w15 W')) (by kernel_rfl) ?_ (fun hHeld => ?_)
        · exact ⟨cA20, cA21, cA22, cA23, cA24, (Below.refl _ _).drew⟩
        clear cA20 cA21 cA22 cA23 cA24
        refine wpAnyH_take (i := 0) (v := ?_) rfl (by kernel_rfl) (by kernel_rfl) (by kernel_rfl) (fun _ _ _ h => h) (Or.inl ⟨by rfl, ?_⟩) hHeld ?_
        rotate_left
        · (intro w hSw; (try dsimp only at hSw); (try simp only [List.getElem_toArray, List.getElem_cons_succ, List.getElem_cons_zero]); go_simp <;> with_reducible rfl)
        try simp only [List.getElem_toArray, List.getElem_cons_succ, List.getElem_cons_zero, Act.put, List.setIfInBounds_toArray, List.set_cons_zero, List.set_cons_succ]
        refine wpAnyH_take (i := 1) (v := ?_) rfl (by kernel_rfl) (by kernel_rfl) (by kernel_rfl) (fun _ _ _ h => h) (Or.inl ⟨by rfl, ?_⟩) hHeld ?_
        rotate_left
        · (intro w hSw; (try dsimp only at hSw); (try simp only [List.getElem_toArray, List.getElem_cons_succ, List.getElem_cons_zero]); go_simp <;> with_reducible rfl)
        try simp only [List.getElem_toArray, List.getElem_cons_succ, List.getElem_cons_zero, Act.put, List.setIfInBounds_toArray, List.set_cons_zero, List.set_cons_succ]
        refine wpAnyH_take (i := 2) (v := ?_) rfl (by kernel_rfl) (by kernel_rfl) (by kernel_rfl) (fun _ _ _ h => h) (Or.inl ⟨by rfl, ?_⟩) hHeld ?_
        rotate_left
        · (intro w hSw; (try dsimp only at hSw); (try simp only [List.getElem_toArray, List.getElem_cons_succ, List.getElem_cons_zero]); go_simp <;> with_reducible rfl)
        try simp only [List.getElem_toArray, List.getElem_cons_succ, List.getElem_cons_zero, Act.put, List.setIfInBounds_toArray, List.set_cons_zero, List.set_cons_succ]
        refine wpAnyH_take (i := 3) (v := ?_) rfl (by kernel_rfl) (by kernel_rfl) (by kernel_rfl) (fun _ _ _ h => h) (Or.inl ⟨by rfl, ?_⟩) hHeld ?_
        rotate_left
        · (intro w hSw; (try dsimp only at hSw); (try simp only [List.getElem_toArray, List.getElem_cons_succ, List.getElem_cons_zero]); go_simp <;> with_reducible rfl)
        try simp only [List.getElem_toArray, List.getElem_cons_succ, List.getElem_cons_zero, Act.put, List.setIfInBounds_toArray, List.set_cons_zero, List.set_cons_succ]
        refine wpAnyH_take (i := 5) (v := ?_) rfl (by kernel_rfl) (by kernel_rfl) (by kernel_rfl) (fun _ _ _ h => h) (Or.inl ⟨by rfl, ?_⟩) hHeld ?_
        rotate_left
        · (intro w hSw; (try dsimp only at hSw); (try simp only [List.getElem_toArray, List.getElem_cons_succ, List.getElem_cons_zero]); go_simp <;> with_reducible rfl)
        try simp only [List.getElem_toArray, List.getElem_cons_succ, List.getElem_cons_zero, Act.put, List.setIfInBounds_toArray, List.set_cons_zero, List.set_cons_succ]
        refine wpAnyH_take (i := 6) (v := ?_) rfl (by kernel_rfl) (by kernel_rfl) (by kernel_rfl) (fun _ _ _ h => h) (Or.inl ⟨by rfl, ?_⟩) hHeld ?_
        rotate_left
        · (intro w hSw; (try dsimp only at hSw); (try simp only [List.getElem_toArray, List.getElem_cons_succ, List.getElem_cons_zero]); go_simp <;> with_reducible rfl)
        try simp only [List.getElem_toArray, List.getElem_cons_succ, List.getElem_cons_zero, Act.put, List.setIfInBounds_toArray, List.set_cons_zero, List.set_cons_succ]
        refine wpAnyH_take (i := 7) (v := ?_) rfl (by kernel_rfl) (by kernel_rfl) (by kernel_rfl) (fun _ _ _ h => h) (Or.inl ⟨by rfl, ?_⟩) hHeld ?_
        rotate_left
        · (intro w hSw; (try dsimp only at hSw); (try simp only [List.getElem_toArray, List.getElem_cons_succ, List.getElem_cons_zero]); go_simp <;> with_reducible rfl)
        try simp only [List.getElem_toArray, List.getElem_cons_succ, List.getElem_cons_zero, Act.put, List.setIfInBounds_toArray, List.set_cons_zero, List.set_cons_succ]
        refine wpAnyH_take (i := 8) (v := ?_) rfl (by kernel_rfl) (by kernel_rfl) (by kernel_rfl) (fun _ _ _ h => h) (Or.inl ⟨by rfl, ?_⟩) hHeld ?_
        rotate_left
        · (intro w hSw; (try dsimp only at hSw); (try simp only [List.getElem_toArray, List.getElem_cons_succ, List.getElem_cons_zero]); go_simp <;> with_reducible rfl)
        try simp only [List.getElem_toArray, List.getElem_cons_succ, List.getElem_cons_zero, Act.put, List.setIfInBounds_toArray, List.set_cons_zero, List.set_cons_succ]
        refine wpAnyH_ready (rs := [4]) (by kernel_rfl) (by simp) ?_
        refine AllReadyH.cons rfl (fun K hK => ?_) AllReadyH.nil
        go_simp
        refine (RX.out _ hHeld).mono ?_
        rintro e16 w16 ⟨rfl, hb16⟩
        refine hK.out _ _ ?_ (fun hHeld => ?_)
        · exact keepc5 hb16 hHeld
        clear hK K hb16
        try simp only [List.getElem_toArray, List.getElem_cons_succ, List.getElem_cons_zero, Act.put, List.setIfInBounds_toArray, List.set_cons_zero, List.set_cons_succ]
        refine wpAnyH_take (i := 9) (v := ?_) rfl (by kernel_rfl) (by kernel_rfl) (by kernel_rfl) (fun _ _ _ h => h) (Or.inl ⟨by rfl, ?_⟩) hHeld ?_
        rotate_left
        · (intro w hSw; (try dsimp only at hSw); (try simp only [List.getElem_toArray, List.getElem_cons_succ, List.getElem_cons_zero]); go_simp <;> with_reducible rfl)
        try simp only [List.getElem_toArray, List.getElem_cons_succ, List.getElem_cons_zero, Act.put, List.setIfInBounds_toArray, List.set_cons_zero, List.set_cons_succ]
        refine wpAnyH_take (i := 10) (v := ?_) rfl (by kernel_rfl) (by kernel_rfl) (by kernel_rfl) (fun _ _ _ h => h) (Or.inl ⟨by rfl, ?_⟩) hHeld ?_
        rotate_left
        · (intro w hSw; (try dsimp only at hSw); (try simp only [List.getElem_toArray, List.getElem_cons_succ, List.getElem_cons_zero]); go_simp <;> with_reducible rfl)
        try simp only [List.getElem_toArray, List.getElem_cons_succ, List.getElem_cons_zero, Act.put, List.setIfInBounds_toArray, List.set_cons_zero, List.set_cons_succ]
        refine wpAnyH_take (i := 11) (v := ?_) rfl (by kernel_rfl) (by kernel_rfl) (by kernel_rfl) (fun _ _ _ h => h) (Or.inl ⟨by rfl, ?_⟩) hHeld ?_
        rotate_left
        · (intro w hSw; (try dsimp only at hSw); (try simp only [List.getElem_toArray, List.getElem_cons_succ, List.getElem_cons_zero]); go_simp <;> with_reducible rfl)
        try simp only [List.getElem_toArray, List.getElem_cons_succ, List.getElem_cons_zero, Act.put, List.setIfInBounds_toArray, List.set_cons_zero, List.set_cons_succ]
        refine wpAnyH_take (i := 12) (v := ?_) rfl (by kernel_rfl) (by kernel_rfl) (by kernel_rfl) (fun _ _ _ h => h) (Or.inl ⟨by rfl, ?_⟩) hHeld ?_
        rotate_left
        · (intro w hSw; (try dsimp only at hSw); (try simp only [List.getElem_toArray, List.getElem_cons_succ, List.getElem_cons_zero]); go_simp <;> with_reducible rfl)
        try simp only [List.getElem_toArray, List.getElem_cons_succ, List.getElem_cons_zero, Act.put, List.setIfInBounds_toArray, List.set_cons_zero, List.set_cons_succ]
        refine wpAnyH_take (i := 13) (v := ?_) rfl (by kernel_rfl) (by kernel_rfl) (by kernel_rfl) (fun _ _ _ h => h) (Or.inl ⟨by rfl, ?_⟩) hHeld ?_
        rotate_left
        · (intro w hSw; (try dsimp only at hSw); (try simp only [List.getElem_toArray, List.getElem_cons_succ, List.getElem_cons_zero]); go_simp <;> with_reducible rfl)
        try simp only [List.getElem_toArray, List.getElem_cons_succ, List.getElem_cons_zero, Act.put, List.setIfInBounds_toArray, List.set_cons_zero, List.set_cons_succ]
        refine wpAnyH_take (i := 14) (v := undef) rfl (by kernel_rfl) (by kernel_rfl) (by kernel_rfl) (fun _ _ _ h => h) (Or.inr ⟨by rfl, rfl⟩) hHeld ?_
        try simp only [List.getElem_toArray, List.getElem_cons_succ, List.getElem_cons_zero, Act.put, List.setIfInBounds_toArray, List.set_cons_zero, List.set_cons_succ]
        refine wpAnyH_take (i := 15) (v := undef) rfl (by kernel_rfl) (by kernel_rfl) (by kernel_rfl) (fun _ _ _ h => h) (Or.inr ⟨by rfl, rfl⟩) hHeld ?_
        try simp only [List.getElem_toArray, List.getElem_cons_succ, List.getElem_cons_zero, Act.put, List.setIfInBounds_toArray, List.set_cons_zero, List.set_cons_succ]
        refine wpAnyH_take (i := 16) (v := undef) rfl (by kernel_rfl) (by kernel_rfl) (by kernel_rfl) (fun _ _ _ h => h) (Or.inr ⟨by rfl, rfl⟩) hHeld ?_
        try simp only [List.getElem_toArray, List.getElem_cons_succ, List.getElem_cons_zero, Act.put, List.setIfInBounds_toArray, List.set_cons_zero, List.set_cons_succ]
        refine wpAnyH_take (i := 17) (v := undef) rfl (by kernel_rfl) (by kernel_rfl) (by kernel_rfl) (fun _ _ _ h => h) (Or.inr ⟨by rfl, rfl⟩) hHeld ?_
        try simp only [List.getElem_toArray, List.getElem_cons_succ, List.getElem_cons_zero, Act.put, List.setIfInBounds_toArray, List.set_cons_zero, List.set_cons_succ]
        refine wpAnyH_take (i := 18) (v := undef) rfl (by kernel_rfl) (by kernel_rfl) (by kernel_rfl) (fun _ _ _ h => h) (Or.inr ⟨by rfl, rfl⟩) hHeld ?_
        try simp only [List.getElem_toArray, List.getElem_cons_succ, List.getElem_cons_zero, Act.put, List.setIfInBounds_toArray, List.set_cons_zero, List.set_cons_succ]
        refine wpAnyH_take (i := 19) (v := undef) rfl (by kernel_rfl) (by kernel_rfl) (by kernel_rfl) (fun _ _ _ h => h) (Or.inr ⟨by rfl, rfl⟩) hHeld ?_
        try simp only [List.getElem_toArray, List.getElem_cons_succ, List.getElem_cons_zero, Act.put, List.setIfInBounds_toArray, List.set_cons_zero, List.set_cons_succ]
        refine wpAnyH_take (i := 20) (v := undef) rfl (by kernel_rfl) (by kernel_rfl) (by kernel_rfl) (fun _ _ _ h => h) (Or.inr ⟨by rfl, rfl⟩) hHeld ?_
        try simp only [List.getElem_toArray, List.getElem_cons_succ, List.getElem_cons_zero, Act.put, List.setIfInBounds_toArray, List.set_cons_zero, List.set_cons_succ]
        refine wpAnyH_take (i := 21) (v := undef) rfl (by kernel_rfl) (by kernel_rfl) (by kernel_rfl) (fun _ _ _ h => h) (Or.inr ⟨by rfl, rfl⟩) hHeld ?_
        try simp only [List.getElem_toArray, List.getElem_cons_succ, List.getElem_cons_zero, Act.put, List.setIfInBounds_toArray, List.set_cons_zero, List.set_cons_succ]
        refine wpAnyH_take (i := 22) (v := undef) rfl (by kernel_rfl) (by kernel_rfl) (by kernel_rfl) (fun _ _ _ h => h) (Or.inr ⟨by rfl, rfl⟩) hHeld ?_
        try simp only [List.getElem_toArray, List.getElem_cons_succ, List.getElem_cons_zero, Act.put, List.setIfInBounds_toArray, List.set_cons_zero, List.set_cons_succ]
        refine wpAnyH_take (i := 23) (v := undef) rfl (by kernel_rfl) (by kernel_rfl) (by kernel_rfl) (fun _ _ _ h => h) (Or.inr ⟨by rfl, rfl⟩) hHeld ?_
        try simp only [List.getElem_toArray, List.getElem_cons_succ, List.getElem_cons_zero, Act.put, List.setIfInBounds_toArray, List.set_cons_zero, List.set_cons_succ]
        refine wpAnyH_take (i := 24) (v := ?_) rfl (by kernel_rfl) (by kernel_rfl) (by kernel_rfl) (fun _ _ _ h => h) (Or.inl ⟨by rfl, ?_⟩) hHeld ?_
        rotate_left
        · (intro w hSw; (try dsimp only at hSw); (try simp only [List.getElem_toArray, List.getElem_cons_succ, List.getElem_cons_zero]); go_simp <;> with_reducible rfl)
        try simp only [List.getElem_toArray, List.getElem_cons_succ, List.getElem_cons_zero, Act.put, List.setIfInBounds_toArray, List.set_cons_zero, List.set_cons_succ]
        refine wpAnyH_take (i := 25) (v := ?_) rfl (by kernel_rfl) (by kernel_rfl) (by kernel_rfl) (fun _ _ _ h => h) (Or.inl ⟨by rfl, ?_⟩) hHeld ?_
        rotate_left
        · (intro w hSw; (try dsimp only at hSw); (try simp only [List.getElem_toArray, List.getElem_cons_succ, List.getElem_cons_zero]); go_simp <;> with_reducible rfl)
        try simp only [List.getElem_toArray, List.getElem_cons_succ, List.getElem_cons_zero, Act.put, List.setIfInBounds_toArray, List.set_cons_zero, List.set_cons_succ]
        refine wpAnyH_done (by kernel_rfl) ?_ _
        go_wp2_with fail
        go_meet
        exact ⟨rfl, hHeld.2.2.2.2.2⟩
      case true =>
        obtain ⟨ka, kb, rfl, rfl, hk1, hk2, hk3⟩ := HOWN.out hr
        have RX := Lib.hid (fun (W : World) (hW : W.cell? ⟨b2, 0, none⟩ = some (.int .i64 xx.k) ∧ W.cell? ⟨b2, 1, none⟩ = some (.int .i64 xx.n) ∧ W.cell? ⟨b2, 2, none⟩ = some (.int .i64 xx.e) ∧ W.cell? ⟨b2, 3, none⟩ = some (.string xx.s) ∧ W.cell? ⟨b2, 4, none⟩ = some (.slice a2 xx.kids.length q2) ∧ Below w15.heap.size w15 W) => PM.out _ W HB.out (hW.2.2.2.2.2) _ xx A2.out.2 (by omega))
        unfold TxtRet bstr V.agg at RX
        rw [hk3] at RX
        have n3 := str_ne_self (u.extract ka kb)
        have hk4 : (ka : Int) ≤ (kb : Int) := by omega
        have hk5 : (kb : Int) ≤ (u.size : Int) := by omega
        clear hk3
        obtain ⟨ja, jb, rfl, rfl, hj1, hj2, hj3, hj4⟩ := HGW.out rfl
        have RP := Lib.hid (fun (W : World) (hW : W.cell? ⟨b2, 0, none⟩ = some (.int .i64 xx.k) ∧ W.cell? ⟨b2, 1, none⟩ = some (.int .i64 xx.n) ∧ W.cell? ⟨b2, 2, none⟩ = some (.int .i64 xx.e) ∧ W.cell? ⟨b2, 3, none⟩ = some (.string xx.s) ∧ W.cell? ⟨b2, 4, none⟩ = some (.slice a2 xx.kids.length q2) ∧ Below w15.heap.size w15 W) => PutWide_ib ga (jb : Int) W)
        unfold TxtRet bstr at RP
        rw [hj4] at RP
        have n5 := str_ne_self (g.extract ja (ja + jb))
        have hj5 : (ja : Int) ≤ (ja : Int) + (jb : Int) := by omega
        have hj6 : (ja : Int) + (jb : Int) ≤ (g.size : Int) := by omega
        have hj7 : ((ja : Int) + (jb : Int)).toNat = ja + jb := by omega
        have hj8 : 0 ≤ (ja : Int) + (jb : Int) := by omega
        have hj9 : IntKind.i64.wrap ((ja : Int) + (jb : Int)) = (ja : Int) + (jb : Int) := IntWalk.i64_in _ (by omega)
        clear hj4
        clear HOWN HGW HNEG
        obtain ⟨cA20, cA21, cA22, cA23, cA24⟩ := A2.out.1.cells
        refine wp_region_held_drew (S := (fun W' => W'.cell? ⟨b2, 0, none⟩ = some (.int .i64 xx.k) ∧ W'.cell? ⟨b2, 1, none⟩ = some (.int .i64 xx.n) ∧ W'.cell? ⟨b2, 2, none⟩ = some (.int .i64 xx.e) ∧ W'.cell? ⟨b2, 3, none⟩ = some (.string xx.s) ∧ W'.cell? ⟨b2, 4, none⟩ = some (.slice a2 xx.kids.length q2) ∧ Below w15.heap.size w15 W')) (by kernel_rfl) ?_ (fun hHeld => ?_)
        · exact ⟨cA20, cA21, cA22, cA23, cA24, (Below.refl _ _).drew⟩
        clear cA20 cA21 cA22 cA23 cA24
        refine wpAnyH_take (i := 0) (v := ?_) rfl (by kernel_rfl) (by kernel_rfl) (by kernel_rfl) (fun _ _ _ h => h) (Or.inl ⟨by rfl, ?_⟩) hHeld ?_
        rotate_left
        · (intro w hSw; (try dsimp only at hSw); (try simp only [List.getElem_toArray, List.getElem_cons_succ, List.getElem_cons_zero]); go_simp <;> with_reducible rfl)
        try simp only [List.getElem_toArray, List.getElem_cons_succ, List.getElem_cons_zero, Act.put, List.setIfInBounds_toArray, List.set_cons_zero, List.set_cons_succ]
        refine wpAnyH_take (i := 1) (v := ?_) rfl (by kernel_rfl) (by kernel_rfl) (by kernel_rfl) (fun _ _ _ h => h) (Or.inl ⟨by rfl, ?_⟩) hHeld ?_
        rotate_left
        · (intro w hSw; (try dsimp only at hSw); (try simp only [List.getElem_toArray, List.getElem_cons_succ, List.getElem_cons_zero]); go_simp <;> with_reducible rfl)
        try simp only [List.getElem_toArray, List.getElem_cons_succ, List.getElem_cons_zero, Act.put, List.setIfInBounds_toArray, List.set_cons_zero, List.set_cons_succ]
        refine wpAnyH_take (i := 2) (v := ?_) rfl (by kernel_rfl) (by kernel_rfl) (by kernel_rfl) (fun _ _ _ h => h) (Or.inl ⟨by rfl, ?_⟩) hHeld ?_
        rotate_left
        · (intro w hSw; (try dsimp only at hSw); (try simp only [List.getElem_toArray, List.getElem_cons_succ, List.getElem_cons_zero]); go_simp <;> with_reducible rfl)
        try simp only [List.getElem_toArray, List.getElem_cons_succ, List.getElem_cons_zero, Act.put, List.setIfInBounds_toArray, List.set_cons_zero, List.set_cons_succ]
        refine wpAnyH_take (i := 3) (v := ?_) rfl (by kernel_rfl) (by kernel_rfl) (by kernel_rfl) (fun _ _ _ h => h) (Or.inl ⟨by rfl, ?_⟩) hHeld ?_
        rotate_left
        · (intro w hSw; (try dsimp only at hSw); (try simp only [List.getElem_toArray, List.getElem_cons_succ, List.getElem_cons_zero]); go_simp <;> with_reducible rfl)
        try simp only [List.getElem_toArray, List.getElem_cons_succ, List.getElem_cons_zero, Act.put, List.setIfInBounds_toArray, List.set_cons_zero, List.set_cons_succ]
        refine wpAnyH_take (i := 5) (v := ?_) rfl (by kernel_rfl) (by kernel_rfl) (by kernel_rfl) (fun _ _ _ h => h) (Or.inl ⟨by rfl, ?_⟩) hHeld ?_
        rotate_left
        · (intro w hSw; (try dsimp only at hSw); (try simp only [List.getElem_toArray, List.getElem_cons_succ, List.getElem_cons_zero]); go_simp <;> with_reducible rfl)
        try simp only [List.getElem_toArray, List.getElem_cons_succ, List.getElem_cons_zero, Act.put, List.setIfInBounds_toArray, List.set_cons_zero, List.set_cons_succ]
        refine wpAnyH_take (i := 6) (v := ?_) rfl (by kernel_rfl) (by kernel_rfl) (by kernel_rfl) (fun _ _ _ h => h) (Or.inl ⟨by rfl, ?_⟩) hHeld ?_
        rotate_left
        · (intro w hSw; (try dsimp only at hSw); (try simp only [List.getElem_toArray, List.getElem_cons_succ, List.getElem_cons_zero]); go_simp <;> with_reducible rfl)
        try simp only [List.getElem_toArray, List.getElem_cons_succ, List.getElem_cons_zero, Act.put, List.setIfInBounds_toArray, List.set_cons_zero, List.set_cons_succ]
        refine wpAnyH_take (i := 7) (v := ?_) rfl (by kernel_rfl) (by kernel_rfl) (by kernel_rfl) (fun _ _ _ h => h) (Or.inl ⟨by rfl, ?_⟩) hHeld ?_
        rotate_left
        · (intro w hSw; (try dsimp only at hSw); (try simp only [List.getElem_toArray, List.getElem_cons_succ, List.getElem_cons_zero]); go_simp <;> with_reducible rfl)
        try simp only [List.getElem_toArray, List.getElem_cons_succ, List.getElem_cons_zero, Act.put, List.setIfInBounds_toArray, List.set_cons_zero, List.set_cons_succ]
        refine wpAnyH_take (i := 8) (v := ?_) rfl (by kernel_rfl) (by kernel_rfl) (by kernel_rfl) (fun _ _ _ h => h) (Or.inl ⟨by rfl, ?_⟩) hHeld ?_
        rotate_left
        · (intro w hSw; (try dsimp only at hSw); (try simp only [List.getElem_toArray, List.getElem_cons_succ, List.getElem_cons_zero]); go_simp <;> with_reducible rfl)
        try simp only [List.getElem_toArray, List.getElem_cons_succ, List.getElem_cons_zero, Act.put, List.setIfInBounds_toArray, List.set_cons_zero, List.set_cons_succ]
        refine wpAnyH_ready (rs := [4]) (by kernel_rfl) (by simp) ?_
        refine AllReadyH.cons rfl (fun K hK => ?_) AllReadyH.nil
        go_simp
        refine (RX.out _ hHeld).mono ?_
        rintro e16 w16 ⟨rfl, hb16⟩
        refine hK.out _ _ ?_ (fun hHeld => ?_)
        · exact keepc5 hb16 hHeld
        clear hK K hb16
        try simp only [List.getElem_toArray, List.getElem_cons_succ, List.getElem_cons_zero, Act.put, List.setIfInBounds_toArray, List.set_cons_zero, List.set_cons_succ]
        refine wpAnyH_take (i := 9) (v := ?_) rfl (by kernel_rfl) (by kernel_rfl) (by kernel_rfl) (fun _ _ _ h => h) (Or.inl ⟨by rfl, ?_⟩) hHeld ?_
        rotate_left
        · (intro w hSw; (try dsimp only at hSw); (try simp only [List.getElem_toArray, List.getElem_cons_succ, List.getElem_cons_zero]); go_simp <;> with_reducible rfl)
        try simp only [List.getElem_toArray, List.getElem_cons_succ, List.getElem_cons_zero, Act.put, List.setIfInBounds_toArray, List.set_cons_zero, List.set_cons_succ]
        refine wpAnyH_take (i := 10) (v := ?_) rfl (by kernel_rfl) (by kernel_rfl) (by kernel_rfl) (fun _ _ _ h => h) (Or.inl ⟨by rfl, ?_⟩) hHeld ?_
        rotate_left
        · (intro w hSw; (try dsimp only at hSw); (try simp only [List.getElem_toArray, List.getElem_cons_succ, List.getElem_cons_zero]); go_simp <;> with_reducible rfl)
        try simp only [List.getElem_toArray, List.getElem_cons_succ, List.getElem_cons_zero, Act.put, List.setIfInBounds_toArray, List.set_cons_zero, List.set_cons_succ]
        refine wpAnyH_take (i := 11) (v := ?_) rfl (by kernel_rfl) (by kernel_rfl) (by kernel_rfl) (fun _ _ _ h => h) (Or.inl ⟨by rfl, ?_⟩) hHeld ?_
        rotate_left
        · (intro w hSw; (try dsimp only at hSw); (try simp only [List.getElem_toArray, List.getElem_cons_succ, List.getElem_cons_zero]); go_simp <;> with_reducible rfl)
        try simp only [List.getElem_toArray, List.getElem_cons_succ, List.getElem_cons_zero, Act.put, List.setIfInBounds_toArray, List.set_cons_zero, List.set_cons_succ]
        refine wpAnyH_take (i := 12) (v := ?_) rfl (by kernel_rfl) (by kernel_rfl) (by kernel_rfl) (fun _ _ _ h => h) (Or.inl ⟨by rfl, ?_⟩) hHeld ?_
        rotate_left
        · (intro w hSw; (try dsimp only at hSw); (try simp only [List.getElem_toArray, List.getElem_cons_succ, List.getElem_cons_zero]); go_simp <;> with_reducible rfl)
        try simp only [List.getElem_toArray, List.getElem_cons_succ, List.getElem_cons_zero, Act.put, List.setIfInBounds_toArray, List.set_cons_zero, List.set_cons_succ]
        refine wpAnyH_take (i := 13) (v := ?_) rfl (by kernel_rfl) (by kernel_rfl) (by kernel_rfl) (fun _ _ _ h => h) (Or.inl ⟨by rfl, ?_⟩) hHeld ?_
        rotate_left
        · (intro w hSw; (try dsimp only at hSw); (try simp only [List.getElem_toArray, List.getElem_cons_succ, List.getElem_cons_zero]); go_simp <;> with_reducible rfl)
        try simp only [List.getElem_toArray, List.getElem_cons_succ, List.getElem_cons_zero, Act.put, List.setIfInBounds_toArray, List.set_cons_zero, List.set_cons_succ]
        refine wpAnyH_take (i := 14) (v := ?_) rfl (by kernel_rfl) (by kernel_rfl) (by kernel_rfl) (fun _ _ _ h => h) (Or.inl ⟨by rfl, ?_⟩) hHeld ?_
        rotate_left
        · (intro w hSw; (try dsimp only at hSw); (try simp only [List.getElem_toArray, List.getElem_cons_succ, List.getElem_cons_zero]); go_simp <;> with_reducible rfl)
        try simp only [List.getElem_toArray, List.getElem_cons_succ, List.getElem_cons_zero, Act.put, List.setIfInBounds_toArray, List.set_cons_zero, List.set_cons_succ]
        refine wpAnyH_take (i := 15) (v := ?_) rfl (by kernel_rfl) (by kernel_rfl) (by kernel_rfl) (fun _ _ _ h => h) (Or.inl ⟨by rfl, ?_⟩) hHeld ?_
        rotate_left
        · (intro w hSw; (try dsimp only at hSw); (try simp only [List.getElem_toArray, List.getElem_cons_succ, List.getElem_cons_zero]); go_simp <;> with_reducible rfl)
        try simp only [List.getElem_toArray, List.getElem_cons_succ, List.getElem_cons_zero, Act.put, List.setIfInBounds_toArray, List.set_cons_zero, List.set_cons_succ]
        refine wpAnyH_take (i := 17) (v := ?_) rfl (by kernel_rfl) (by kernel_rfl) (by kernel_rfl) (fun _ _ _ h => h) (Or.inl ⟨by rfl, ?_⟩) hHeld ?_
        rotate_left
        · (intro w hSw; (try dsimp only at hSw); (try simp only [List.getElem_toArray, List.getElem_cons_succ, List.getElem_cons_zero]); go_simp <;> with_reducible rfl)
        try simp only [List.getElem_toArray, List.getElem_cons_succ, List.getElem_cons_zero, Act.put, List.setIfInBounds_toArray, List.set_cons_zero, List.set_cons_succ]
        refine wpAnyH_take (i := 18) (v := ?_) rfl (by kernel_rfl) (by kernel_rfl) (by kernel_rfl) (fun _ _ _ h => h) (Or.inl ⟨by rfl, ?_⟩) hHeld ?_
        rotate_left
        · (intro w hSw; (try dsimp only at hSw); (try simp only [List.getElem_toArray, List.getElem_cons_succ, List.getElem_cons_zero]); go_simp <;> with_reducible rfl)
        try simp only [List.getElem_toArray, List.getElem_cons_succ, List.getElem_cons_zero, Act.put, List.setIfInBounds_toArray, List.set_cons_zero, List.set_cons_succ]
        refine wpAnyH_take (i := 19) (v := ?_) rfl (by kernel_rfl) (by kernel_rfl) (by kernel_rfl) (fun _ _ _ h => h) (Or.inl ⟨by rfl, ?_⟩) hHeld ?_
        rotate_left
        · (intro w hSw; (try dsimp only at hSw); (try simp only [List.getElem_toArray, List.getElem_cons_succ, List.getElem_cons_zero]); go_simp <;> with_reducible rfl)
        try simp only [List.getElem_toArray, List.getElem_cons_succ, List.getElem_cons_zero, Act.put, List.setIfInBounds_toArray, List.set_cons_zero, List.set_cons_succ]
        refine wpAnyH_take (i := 20) (v := ?_) rfl (by kernel_rfl) (by kernel_rfl) (by kernel_rfl) (fun _ _ _ h => h) (Or.inl ⟨by rfl, ?_⟩) hHeld ?_
        rotate_left
        · (intro w hSw; (try dsimp only at hSw); (try simp only [List.getElem_toArray, List.getElem_cons_succ, List.getElem_cons_zero]); go_simp <;> with_reducible rfl)
        try simp only [List.getElem_toArray, List.getElem_cons_succ, List.getElem_cons_zero, Act.put, List.setIfInBounds_toArray, List.set_cons_zero, List.set_cons_succ]
        refine wpAnyH_take (i := 21) (v := ?_) rfl (by kernel_rfl) (by kernel_rfl) (by kernel_rfl) (fun _ _ _ h => h) (Or.inl ⟨by rfl, ?_⟩) hHeld ?_
        rotate_left
        · (intro w hSw; (try dsimp only at hSw); (try simp only [List.getElem_toArray, List.getElem_cons_succ, List.getElem_cons_zero]); go_simp <;> with_reducible rfl)
        try simp only [List.getElem_toArray, List.getElem_cons_succ, List.getElem_cons_zero, Act.put, List.setIfInBounds_toArray, List.set_cons_zero, List.set_cons_succ]
        refine wpAnyH_take (i := 22) (v := ?_) rfl (by kernel_rfl) (by kernel_rfl) (by kernel_rfl) (fun _ _ _ h => h) (Or.inl ⟨by rfl, ?_⟩) hHeld ?_
        rotate_left
        · (intro w hSw; (try dsimp only at hSw); (try simp only [List.getElem_toArray, List.getElem_cons_succ, List.getElem_cons_zero]); go_simp <;> with_reducible rfl)
        try simp only [List.getElem_toArray, List.getElem_cons_succ, List.getElem_cons_zero, Act.put, List.setIfInBounds_toArray, List.set_cons_zero, List.set_cons_succ]
        refine wpAnyH_ready (rs := [16]) (by kernel_rfl) (by simp) ?_
        refine AllReadyH.cons rfl (fun K hK => ?_) AllReadyH.nil
        go_simp
        refine (RP.out _ hHeld).mono ?_
        rintro e17 w17 ⟨rfl, hb17⟩
        refine hK.out _ _ ?_ (fun hHeld => ?_)
        · exact keepc5 hb17 hHeld
        clear hK K hb17
        try simp only [List.getElem_toArray, List.getElem_cons_succ, List.getElem_cons_zero, Act.put, List.setIfInBounds_toArray, List.set_cons_zero, List.set_cons_succ]
        refine wpAnyH_take (i := 23) (v := ?_) rfl (by kernel_rfl) (by kernel_rfl) (by kernel_rfl) (fun _ _ _ h => h) (Or.inl ⟨by rfl, ?_⟩) hHeld ?_
        rotate_left
        · (intro w hSw; (try dsimp only at hSw); (try simp only [List.getElem_toArray, List.getElem_cons_succ, List.getElem_cons_zero]); go_simp <;> with_reducible rfl)
        try simp only [List.getElem_toArray, List.getElem_cons_succ, List.getElem_cons_zero, Act.put, List.setIfInBounds_toArray, List.set_cons_zero, List.set_cons_succ]
        refine wpAnyH_take (i := 24) (v := ?_) rfl (by kernel_rfl) (by kernel_rfl) (by kernel_rfl) (fun _ _ _ h => h) (Or.inl ⟨by rfl, ?_⟩) hHeld ?_
        rotate_left
        · (intro w hSw; (try dsimp only at hSw); (try simp only [List.getElem_toArray, List.getElem_cons_succ, List.getElem_cons_zero]); go_simp <;> with_reducible rfl)
        try simp only [List.getElem_toArray, List.getElem_cons_succ, List.getElem_cons_zero, Act.put, List.setIfInBounds_toArray, List.set_cons_zero, List.set_cons_succ]
        refine wpAnyH_take (i := 25) (v := ?_) rfl (by kernel_rfl) (by kernel_rfl) (by kernel_rfl) (fun _ _ _ h => h) (Or.inl ⟨by rfl, ?_⟩) hHeld ?_
        rotate_left
        · (intro w hSw; (try dsimp only at hSw); (try simp only [List.getElem_toArray, List.getElem_cons_succ, List.getElem_cons_zero]); go_simp <;> with_reducible rfl)
        try simp only [List.getElem_toArray, List.getElem_cons_succ, List.getElem_cons_zero, Act.put, List.setIfInBounds_toArray, List.set_cons_zero, List.set_cons_succ]
        refine wpAnyH_done (by kernel_rfl) ?_ _
        go_wp2_with fail
        go_meet
        exact ⟨rfl, hHeld.2.2.2.2.2⟩
    · cases gk
      case false =>
        obtain rfl := HNEG.out (by omega)
        clear hr
        clear HOWN HGW HNEG
        obtain ⟨cA20, cA21, cA22, cA23, cA24⟩ := A2.out.1.cells
        refine wp_region_held_drew (S := (fun W' => W'.cell? ⟨b2, 0, none⟩ = some (.int .i64 xx.k) ∧ W'.cell? ⟨b2, 1, none⟩ = some (.int .i64 xx.n) ∧ W'.cell? ⟨b2, 2, none⟩ = some (.int .i64 xx.e) ∧ W'.cell? ⟨b2, 3, none⟩ = some (.string xx.s) ∧ W'.cell? ⟨b2, 4, none⟩ = some (.slice a2 xx.kids.length q2) ∧ Below w15.heap.size w15 W')) (by kernel_rfl) ?_ (fun hHeld => ?_)
        · exact ⟨cA20, cA21, cA22, cA23, cA24, (Below.refl _ _).drew⟩
        clear cA20 cA21 cA22 cA23 cA24
        refine wpAnyH_take (i := 0) (v := ?_) rfl (by kernel_rfl) (by kernel_rfl) (by kernel_rfl) (fun _ _ _ h => h) (Or.inl ⟨by rfl, ?_⟩) hHeld ?_
        rotate_left
        · (intro w hSw; (try dsimp only at hSw); (try simp only [List.getElem_toArray, List.getElem_cons_succ, List.getElem_cons_zero]); go_simp <;> with_reducible rfl)
        try simp only [List.getElem_toArray, List.getElem_cons_succ, List.getElem_cons_zero, Act.put, List.setIfInBounds_toArray, List.set_cons_zero, List.set_cons_succ]
        refine wpAnyH_take (i := 1) (v := ?_) rfl (by kernel_rfl) (by kernel_rfl) (by kernel_rfl) (fun _ _ _ h => h) (Or.inl ⟨by rfl, ?_⟩) hHeld ?_
        rotate_left
        · (intro w hSw; (try dsimp only at hSw); (try simp only [List.getElem_toArray, List.getElem_cons_succ, List.getElem_cons_zero]); go_simp <;> with_reducible rfl)
        try simp only [List.getElem_toArray, List.getElem_cons_succ, List.getElem_cons_zero, Act.put, List.setIfInBounds_toArray, List.set_cons_zero, List.set_cons_succ]
        refine wpAnyH_take (i := 2) (v := ?_) rfl (by kernel_rfl) (by kernel_rfl) (by kernel_rfl) (fun _ _ _ h => h) (Or.inl ⟨by rfl, ?_⟩) hHeld ?_
        rotate_left
        · (intro w hSw; (try dsimp only at hSw); (try simp only [List.getElem_toArray, List.getElem_cons_succ, List.getElem_cons_zero]); go_simp <;> with_reducible rfl)
        try simp only [List.getElem_toArray, List.getElem_cons_succ, List.getElem_cons_zero, Act.put, List.setIfInBounds_toArray, List.set_cons_zero, List.set_cons_succ]
        refine wpAnyH_take (i := 3) (v := undef) rfl (by kernel_rfl) (by kernel_rfl) (by kernel_rfl) (fun _ _ _ h => h) (Or.inr ⟨by rfl, rfl⟩) hHeld ?_
        try simp only [List.getElem_toArray, List.getElem_cons_succ, List.getElem_cons_zero, Act.put, List.setIfInBounds_toArray, List.set_cons_zero, List.set_cons_succ]
        refine wpAnyH_take (i := 4) (v := undef) rfl (by kernel_rfl) (by kernel_rfl) (by kernel_rfl) (fun _ _ _ h => h) (Or.inr ⟨by rfl, rfl⟩) hHeld ?_
        try simp only [List.getElem_toArray, List.getElem_cons_succ, List.getElem_cons_zero, Act.put, List.setIfInBounds_toArray, List.set_cons_zero, List.set_cons_succ]
        refine wpAnyH_take (i := 5) (v := undef) rfl (by kernel_rfl) (by kernel_rfl) (by kernel_rfl) (fun _ _ _ h => h) (Or.inr ⟨by rfl, rfl⟩) hHeld ?_
        try simp only [List.getElem_toArray, List.getElem_cons_succ, List.getElem_cons_zero, Act.put, List.setIfInBounds_toArray, List.set_cons_zero, List.set_cons_succ]
        refine wpAnyH_take (i := 6) (v := undef) rfl (by kernel_rfl) (by kernel_rfl) (by kernel_rfl) (fun _ _ _ h => h) (Or.inr ⟨by rfl, rfl⟩) hHeld ?_
        try simp only [List.getElem_toArray, List.getElem_cons_succ, List.getElem_cons_zero, Act.put, List.setIfInBounds_toArray, List.set_cons_zero, List.set_cons_succ]
        refine wpAnyH_take (i := 7) (v := undef) rfl (by kernel_rfl) (by kernel_rfl) (by kernel_rfl) (fun _ _ _ h => h) (Or.inr ⟨by rfl, rfl⟩) hHeld ?_
        try simp only [List.getElem_toArray, List.getElem_cons_succ, List.getElem_cons_zero, Act.put, List.setIfInBounds_toArray, List.set_cons_zero, List.set_cons_succ]
        refine wpAnyH_take (i := 8) (v := undef) rfl (by kernel_rfl) (by kernel_rfl) (by kernel_rfl) (fun _ _ _ h => h) (Or.inr ⟨by rfl, rfl⟩) hHeld ?_
        try simp only [List.getElem_toArray, List.getElem_cons_succ, List.getElem_cons_zero, Act.put, List.setIfInBounds_toArray, List.set_cons_zero, List.set_cons_succ]
        refine wpAnyH_take (i := 9) (v := undef) rfl (by kernel_rfl) (by kernel_rfl) (by kernel_rfl) (fun _ _ _ h => h) (Or.inr ⟨by rfl, rfl⟩) hHeld ?_
        try simp only [List.getElem_toArray, List.getElem_cons_succ, List.getElem_cons_zero, Act.put, List.setIfInBounds_toArray, List.set_cons_zero, List.set_cons_succ]
        refine wpAnyH_take (i := 10) (v := ?_) rfl (by kernel_rfl) (by kernel_rfl) (by kernel_rfl) (fun _ _ _ h => h) (Or.inl ⟨by rfl, ?_⟩) hHeld ?_
        rotate_left
        · (intro w hSw; (try dsimp only at hSw); (try simp only [List.getElem_toArray, List.getElem_cons_succ, List.getElem_cons_zero]); go_simp <;> with_reducible rfl)
        try simp only [List.getElem_toArray, List.getElem_cons_succ, List.getElem_cons_zero, Act.put, List.setIfInBounds_toArray, List.set_cons_zero, List.set_cons_succ]
        refine wpAnyH_take (i := 11) (v := ?_) rfl (by kernel_rfl) (by kernel_rfl) (by kernel_rfl) (fun _ _ _ h => h) (Or.inl ⟨by rfl, ?_⟩) hHeld ?_
        rotate_left
        · (intro w hSw; (try dsimp only at hSw); (try simp only [List.getElem_toArray, List.getElem_cons_succ, List.getElem_cons_zero]); go_simp <;> with_reducible rfl)
        try simp only [List.getElem_toArray, List.getElem_cons_succ, List.getElem_cons_zero, Act.put, List.setIfInBounds_toArray, List.set_cons_zero, List.set_cons_succ]
        refine wpAnyH_take (i := 12) (v := ?_) rfl (by kernel_rfl) (by kernel_rfl) (by kernel_rfl) (fun _ _ _ h => h) (Or.inl ⟨by rfl, ?_⟩) hHeld ?_
        rotate_left
        · (intro w hSw; (try dsimp only at hSw); (try simp only [List.getElem_toArray, List.getElem_cons_succ, List.getElem_cons_zero]); go_simp <;> with_reducible rfl)
        try simp only [List.getElem_toArray, List.getElem_cons_succ, List.getElem_cons_zero, Act.put, List.setIfInBounds_toArray, List.set_cons_zero, List.set_cons_succ]
        refine wpAnyH_take (i := 13) (v := ?_) rfl (by kernel_rfl) (by kernel_rfl) (by kernel_rfl) (fun _ _ _ h => h) (Or.inl ⟨by rfl, ?_⟩) hHeld ?_
        rotate_left
        · (intro w hSw; (try dsimp only at hSw); (try simp only [List.getElem_toArray, List.getElem_cons_succ, List.getElem_cons_zero]); go_simp <;> with_reducible rfl)
        try simp only [List.getElem_toArray, List.getElem_cons_succ, List.getElem_cons_zero, Act.put, List.setIfInBounds_toArray, List.set_cons_zero, List.set_cons_succ]
        refine wpAnyH_take (i := 14) (v := undef) rfl (by kernel_rfl) (by kernel_rfl) (by kernel_rfl) (fun _ _ _ h => h) (Or.inr ⟨by rfl, rfl⟩) hHeld ?_
        try simp only [List.getElem_toArray, List.getElem_cons_succ, List.getElem_cons_zero, Act.put, List.setIfInBounds_toArray, List.set_cons_zero, List.set_cons_succ]
        refine wpAnyH_take (i := 15) (v := undef) rfl (by kernel_rfl) (by kernel_rfl) (by kernel_rfl) (fun _ _ _ h => h) (Or.inr ⟨by rfl, rfl⟩) hHeld ?_
        try simp only [List.getElem_toArray, List.getElem_cons_succ, List.getElem_cons_zero, Act.put, List.setIfInBounds_toArray, List.set_cons_zero, List.set_cons_succ]
        refine wpAnyH_take (i := 16) (v := undef) rfl (by kernel_rfl) (by kernel_rfl) (by kernel_rfl) (fun _ _ _ h => h) (Or.inr ⟨by rfl, rfl⟩) hHeld ?_
        try simp only [List.getElem_toArray, List.getElem_cons_succ, List.getElem_cons_zero, Act.put, List.setIfInBounds_toArray, List.set_cons_zero, List.set_cons_succ]
        refine wpAnyH_take (i := 17) (v := undef) rfl (by kernel_rfl) (by kernel_rfl) (by kernel_rfl) (fun _ _ _ h => h) (Or.inr ⟨by rfl, rfl⟩) hHeld ?_
        try simp only [List.getElem_toArray, List.getElem_cons_succ, List.getElem_cons_zero, Act.put, List.setIfInBounds_toArray, List.set_cons_zero, List.set_cons_succ]
        refine wpAnyH_take (i := 18) (v := undef) rfl (by kernel_rfl) (by kernel_rfl) (by kernel_rfl) (fun _ _ _ h => h) (Or.inr ⟨by rfl, rfl⟩) hHeld ?_
        try simp only [List.getElem_toArray, List.getElem_cons_succ, List.getElem_cons_zero, Act.put, List.setIfInBounds_toArray, List.set_cons_zero, List.set_cons_succ]
        refine wpAnyH_take (i := 19) (v := undef) rfl (by kernel_rfl) (by kernel_rfl) (by kernel_rfl) (fun _ _ _ h => h) (Or.inr ⟨by rfl, rfl⟩) hHeld ?_
        try simp only [List.getElem_toArray, List.getElem_cons_succ, List.getElem_cons_zero, Act.put, List.setIfInBounds_toArray, List.set_cons_zero, List.set_cons_succ]
        refine wpAnyH_take (i := 20) (v := undef) rfl (by kernel_rfl) (by kernel_rfl) (by kernel_rfl) (fun _ _ _ h => h) (Or.inr ⟨by rfl, rfl⟩) hHeld ?_
        try simp only [List.getElem_toArray, List.getElem_cons_succ, List.getElem_cons_zero, Act.put, List.setIfInBounds_toArray, List.set_cons_zero, List.set_cons_succ]
        refine wpAnyH_take (i := 21) (v := undef) rfl (by kernel_rfl) (by kernel_rfl) (by kernel_rfl) (fun _ _ _ h => h) (Or.inr ⟨by rfl, rfl⟩) hHeld ?_
        try simp only [List.getElem_toArray, List.getElem_cons_succ, List.getElem_cons_zero, Act.put, List.setIfInBounds_toArray, List.set_cons_zero, List.set_cons_succ]
        refine wpAnyH_take (i := 22) (v := undef) rfl (by kernel_rfl) (by kernel_rfl) (by kernel_rfl) (fun _ _ _ h => h) (Or.inr ⟨by rfl, rfl⟩) hHeld ?_
        try simp only [List.getElem_toArray, List.getElem_cons_succ, List.getElem_cons_zero, Act.put, List.setIfInBounds_toArray, List.set_cons_zero, List.set_cons_succ]
        refine wpAnyH_take (i := 23) (v := undef) rfl (by kernel_rfl) (by kernel_rfl) (by kernel_rfl) (fun _ _ _ h => h) (Or.inr ⟨by rfl, rfl⟩) hHeld ?_
        try simp only [List.getElem_toArray, List.getElem_cons_succ, List.getElem_cons_zero, Act.put, List.setIfInBounds_toArray, List.set_cons_zero, List.set_cons_succ]
        refine wpAnyH_take (i := 24) (v := ?_) rfl (by kernel_rfl) (by kernel_rfl) (by kernel_rfl) (fun _ _ _ h => h) (Or.inl ⟨by rfl, ?_⟩) hHeld ?_
        rotate_left
        · (intro w hSw; (try dsimp only at hSw); (try simp only [List.getElem_toArray, List.getElem_cons_succ, List.getElem_cons_zero]); go_simp <;> with_reducible rfl)
        try simp only [List.getElem_toArray, List.getElem_cons_succ, List.getElem_cons_zero, Act.put, List.setIfInBounds_toArray, List.set_cons_zero, List.set_cons_succ]
        refine wpAnyH_take (i := 25) (v := ?_) rfl (by kernel_rfl) (by kernel_rfl) (by kernel_rfl) (fun _ _ _ h => h) (Or.inl ⟨by rfl, ?_⟩) hHeld ?_
        rotate_left
        · (intro w hSw; (try dsimp only at hSw); (try simp only [List.getElem_toArray, List.getElem_cons_succ, List.getElem_cons_zero]); go_simp <;> with_reducible rfl)
        try simp only [List.getElem_toArray, List.getElem_cons_succ, List.getElem_cons_zero, Act.put, List.setIfInBounds_toArray, List.set_cons_zero, List.set_cons_succ]
        refine wpAnyH_done (by kernel_rfl) ?_ _
        go_wp2_with fail
        go_meet
        exact ⟨rfl, hHeld.2.2.2.2.2⟩
      case true =>
        obtain rfl := HNEG.out (by omega)
        clear hr
        obtain ⟨ja, jb, rfl, rfl, hj1, hj2, hj3, hj4⟩ := HGW.out rfl
        have RP := Lib.hid (fun (W : World) (hW : W.cell? ⟨b2, 0, none⟩ = some (.int .i64 xx.k) ∧ W.cell? ⟨b2, 1, none⟩ = some (.int .i64 xx.n) ∧ W.cell? ⟨b2, 2, none⟩ = some (.int .i64 xx.e) ∧ W.cell? ⟨b2, 3, none⟩ = some (.string xx.s) ∧ W.cell? ⟨b2, 4, none⟩ = some (.slice a2 xx.kids.length q2) ∧ Below w15.heap.size w15 W) => PutWide_ib ga (jb : Int) W)
        unfold TxtRet bstr at RP
        rw [hj4] at RP
        have n5 := str_ne_self (g.extract ja (ja + jb))
        have hj5 : (ja : Int) ≤ (ja : Int) + (jb : Int) := by omega
        have hj6 : (ja : Int) + (jb : Int) ≤ (g.size : Int) := by omega
        have hj7 : ((ja : Int) + (jb : Int)).toNat = ja + jb := by omega
        have hj8 : 0 ≤ (ja : Int) + (jb : Int) := by omega
        have hj9 : IntKind.i64.wrap ((ja : Int) + (jb : Int)) = (ja : Int) + (jb : Int) := IntWalk.i64_in _ (by omega)
        clear hj4
        clear HOWN HGW HNEG
        obtain ⟨cA20, cA21, cA22, cA23, cA24⟩ := A2.out.1.cells
        refine wp_region_held_drew (S := (fun W' => W'.cell? ⟨b2, 0, none⟩ = some (.int .i64 xx.k) ∧ W'.cell? ⟨b2, 1, none⟩ = some (.int .i64 xx.n) ∧ W'.cell? ⟨b2, 2, none⟩ = some (.int .i64 xx.e) ∧ W'.cell? ⟨b2, 3, none⟩ = some (.string xx.s) ∧ W'.cell? ⟨b2, 4, none⟩ = some (.slice a2 xx.kids.length q2) ∧ Below w15.heap.size w15 W')) (by kernel_rfl) ?_ (fun hHeld => ?_)
        · exact ⟨cA20, cA21, cA22, cA23, cA24, (Below.refl _ _).drew⟩
        clear cA20 cA21 cA22 cA23 cA24
        refine wpAnyH_take (i := 0) (v := ?_) rfl (by kernel_rfl) (by kernel_rfl) (by kernel_rfl) (fun _ _ _ h => h) (Or.inl ⟨by rfl, ?_⟩) hHeld ?_
        rotate_left
        · (intro w hSw; (try dsimp only at hSw); (try simp only [List.getElem_toArray, List.getElem_cons_succ, List.getElem_cons_zero]); go_simp <;> with_reducible rfl)
        try simp only [List.getElem_toArray, List.getElem_cons_succ, List.getElem_cons_zero, Act.put, List.setIfInBounds_toArray, List.set_cons_zero, List.set_cons_succ]
        refine wpAnyH_take (i := 1) (v := ?_) rfl (by kernel_rfl) (by kernel_rfl) (by kernel_rfl) (fun _ _ _ h => h) (Or.inl ⟨by rfl, ?_⟩) hHeld ?_
        rotate_left
        · (intro w hSw; (try dsimp only at hSw); (try simp only [List.getElem_toArray, List.getElem_cons_succ, List.getElem_cons_zero]); go_simp <;> with_reducible rfl)
        try simp only [List.getElem_toArray, List.getElem_cons_succ, List.getElem_cons_zero, Act.put, List.setIfInBounds_toArray, List.set_cons_zero, List.set_cons_succ]
        refine wpAnyH_take (i := 2) (v := ?_) rfl (by kernel_rfl) (by kernel_rfl) (by kernel_rfl) (fun _ _ _ h => h) (Or.inl ⟨by rfl, ?_⟩) hHeld ?_
        rotate_left
        · (intro w hSw; (try dsimp only at hSw); (try simp only [List.getElem_toArray, List.getElem_cons_succ, List.getElem_cons_zero]); go_simp <;> with_reducible rfl)
        try simp only [List.getElem_toArray, List.getElem_cons_succ, List.getElem_cons_zero, Act.put, List.setIfInBounds_toArray, List.set_cons_zero, List.set_cons_succ]
        refine wpAnyH_take (i := 3) (v := undef) rfl (by kernel_rfl) (by kernel_rfl) (by kernel_rfl) (fun _ _ _ h => h) (Or.inr ⟨by rfl, rfl⟩) hHeld ?_
        try simp only [List.getElem_toArray, List.getElem_cons_succ, List.getElem_cons_zero, Act.put, List.setIfInBounds_toArray, List.set_cons_zero, List.set_cons_succ]
        refine wpAnyH_take (i := 4) (v := undef) rfl (by kernel_rfl) (by kernel_rfl) (by kernel_rfl) (fun _ _ _ h => h) (Or.inr ⟨by rfl, rfl⟩) hHeld ?_
        try simp only [List.getElem_toArray, List.getElem_cons_succ, List.getElem_cons_zero, Act.put, List.setIfInBounds_toArray, List.set_cons_zero, List.set_cons_succ]
        refine wpAnyH_take (i := 5) (v := undef) rfl (by kernel_rfl) (by kernel_rfl) (by kernel_rfl) (fun _ _ _ h => h) (Or.inr ⟨by rfl, rfl⟩) hHeld ?_
        try simp only [List.getElem_toArray, List.getElem_cons_succ, List.getElem_cons_zero, Act.put, List.setIfInBounds_toArray, List.set_cons_zero, List.set_cons_succ]
        refine wpAnyH_take (i := 6) (v := undef) rfl (by kernel_rfl) (by kernel_rfl) (by kernel_rfl) (fun _ _ _ h => h) (Or.inr ⟨by rfl, rfl⟩) hHeld ?_
        try simp only [List.getElem_toArray, List.getElem_cons_succ, List.getElem_cons_zero, Act.put, List.setIfInBounds_toArray, List.set_cons_zero, List.set_cons_succ]
        refine wpAnyH_take (i := 7) (v := undef) rfl (by kernel_rfl) (by kernel_rfl) (by kernel_rfl) (fun _ _ _ h => h) (Or.inr ⟨by rfl, rfl⟩) hHeld ?_
        try simp only [List.getElem_toArray, List.getElem_cons_succ, List.getElem_cons_zero, Act.put, List.setIfInBounds_toArray, List.set_cons_zero, List.set_cons_succ]
        refine wpAnyH_take (i := 8) (v := undef) rfl (by kernel_rfl) (by kernel_rfl) (by kernel_rfl) (fun _ _ _ h => h) (Or.inr ⟨by rfl, rfl⟩) hHeld ?_
        try simp only [List.getElem_toArray, List.getElem_cons_succ, List.getElem_cons_zero, Act.put, List.setIfInBounds_toArray, List.set_cons_zero, List.set_cons_succ]
        refine wpAnyH_take (i := 9) (v := undef) rfl (by kernel_rfl) (by kernel_rfl) (by kernel_rfl) (fun _ _ _ h => h) (Or.inr ⟨by rfl, rfl⟩) hHeld ?_
        try simp only [List.getElem_toArray, List.getElem_cons_succ, List.getElem_cons_zero, Act.put, List.setIfInBounds_toArray, List.set_cons_zero, List.set_cons_succ]
        refine wpAnyH_take (i := 10) (v := ?_) rfl (by kernel_rfl) (by kernel_rfl) (by kernel_rfl) (fun _ _ _ h => h) (Or.inl ⟨by rfl, ?_⟩) hHeld ?_
        rotate_left
        · (intro w hSw; (try dsimp only at hSw); (try simp only [List.getElem_toArray, List.getElem_cons_succ, List.getElem_cons_zero]); go_simp <;> with_reducible rfl)
        try simp only [List.getElem_toArray, List.getElem_cons_succ, List.getElem_cons_zero, Act.put, List.setIfInBounds_toArray, List.set_cons_zero, List.set_cons_succ]
        refine wpAnyH_take (i := 11) (v := ?_) rfl (by kernel_rfl) (by kernel_rfl) (by kernel_rfl) (fun _ _ _ h => h) (Or.inl ⟨by rfl, ?_⟩) hHeld ?_
        rotate_left
        · (intro w hSw; (try dsimp only at hSw); (try simp only [List.getElem_toArray, List.getElem_cons_succ, List.getElem_cons_zero]); go_simp <;> with_reducible rfl)
        try simp only [List.getElem_toArray, List.getElem_cons_succ, List.getElem_cons_zero, Act.put, List.setIfInBounds_toArray, List.set_cons_zero, List.set_cons_succ]
        refine wpAnyH_take (i := 12) (v := ?_) rfl (by kernel_rfl) (by kernel_rfl) (by kernel_rfl) (fun _ _ _ h => h) (Or.inl ⟨by rfl, ?_⟩) hHeld ?_
        rotate_left
        · (intro w hSw; (try dsimp only at hSw); (try simp only [List.getElem_toArray, List.getElem_cons_succ, List.getElem_cons_zero]); go_simp <;> with_reducible rfl)
        try simp only [List.getElem_toArray, List.getElem_cons_succ, List.getElem_cons_zero, Act.put, List.setIfInBounds_toArray, List.set_cons_zero, List.set_cons_succ]
        refine wpAnyH_take (i := 13) (v := ?_) rfl (by kernel_rfl) (by kernel_rfl) (by kernel_rfl) (fun _ _ _ h => h) (Or.inl ⟨by rfl, ?_⟩) hHeld ?_
        rotate_left
        · (intro w hSw; (try dsimp only at hSw); (try simp only [List.getElem_toArray, List.getElem_cons_succ, List.getElem_cons_zero]); go_simp <;> with_reducible rfl)
        try simp only [List.getElem_toArray, List.getElem_cons_succ, List.getElem_cons_zero, Act.put, List.setIfInBounds_toArray, List.set_cons_zero, List.set_cons_succ]
        refine wpAnyH_take (i := 14) (v := ?_) rfl (by kernel_rfl) (by kernel_rfl) (by kernel_rfl) (fun _ _ _ h => h) (Or.inl ⟨by rfl, ?_⟩) hHeld ?_
        rotate_left
        · (intro w hSw; (try dsimp only at hSw); (try simp only [List.getElem_toArray, List.getElem_cons_succ, List.getElem_cons_zero]); go_simp <;> with_reducible rfl)
        try simp only [List.getElem_toArray, List.getElem_cons_succ, List.getElem_cons_zero, Act.put, List.setIfInBounds_toArray, List.set_cons_zero, List.set_cons_succ]
        refine wpAnyH_take (i := 15) (v := ?_) rfl (by kernel_rfl) (by kernel_rfl) (by kernel_rfl) (fun _ _ _ h => h) (Or.inl ⟨by rfl, ?_⟩) hHeld ?_
        rotate_left
        · (intro w hSw; (try dsimp only at hSw); (try simp only [List.getElem_toArray, List.getElem_cons_succ, List.getElem_cons_zero]); go_simp <;> with_reducible rfl)
        try simp only [List.getElem_toArray, List.getElem_cons_succ, List.getElem_cons_zero, Act.put, List.setIfInBounds_toArray, List.set_cons_zero, List.set_cons_succ]
        refine wpAnyH_take (i := 17) (v := ?_) rfl (by kernel_rfl) (by kernel_rfl) (by kernel_rfl) (fun _ _ _ h => h) (Or.inl ⟨by rfl, ?_⟩) hHeld ?_
        rotate_left
        · (intro w hSw; (try dsimp only at hSw); (try simp only [List.getElem_toArray, List.getElem_cons_succ, List.getElem_cons_zero]); go_simp <;> with_reducible rfl)
        try simp only [List.getElem_toArray, List.getElem_cons_succ, List.getElem_cons_zero, Act.put, List.setIfInBounds_toArray, List.set_cons_zero, List.set_cons_succ]
        refine wpAnyH_take (i := 18) (v := ?_) rfl (by kernel_rfl) (by kernel_rfl) (by kernel_rfl) (fun _ _ _ h => h) (Or.inl ⟨by rfl, ?_⟩) hHeld ?_
        rotate_left
        · (intro w hSw; (try dsimp only at hSw); (try simp only [List.getElem_toArray, List.getElem_cons_succ, List.getElem_cons_zero]); go_simp <;> with_reducible rfl)
        try simp only [List.getElem_toArray, List.getElem_cons_succ, List.getElem_cons_zero, Act.put, List.setIfInBounds_toArray, List.set_cons_zero, List.set_cons_succ]
        refine wpAnyH_take (i := 19) (v := ?_) rfl (by kernel_rfl) (by kernel_rfl) (by kernel_rfl) (fun _ _ _ h => h) (Or.inl ⟨by rfl, ?_⟩) hHeld ?_
        rotate_left
        · (intro w hSw; (try dsimp only at hSw); (try simp only [List.getElem_toArray, List.getElem_cons_succ, List.getElem_cons_zero]); go_simp <;> with_reducible rfl)
        try simp only [List.getElem_toArray, List.getElem_cons_succ, List.getElem_cons_zero, Act.put, List.setIfInBounds_toArray, List.set_cons_zero, List.set_cons_succ]
        refine wpAnyH_take (i := 20) (v := ?_) rfl (by kernel_rfl) (by kernel_rfl) (by kernel_rfl) (fun _ _ _ h => h) (Or.inl ⟨by rfl, ?_⟩) hHeld ?_
        rotate_left
        · (intro w hSw; (try dsimp only at hSw); (try simp only [List.getElem_toArray, List.getElem_cons_succ, List.getElem_cons_zero]); go_simp <;> with_reducible rfl)
        try simp only [List.getElem_toArray, List.getElem_cons_succ, List.getElem_cons_zero, Act.put, List.setIfInBounds_toArray, List.set_cons_zero, List.set_cons_succ]
        refine wpAnyH_take (i := 21) (v := ?_) rfl (by kernel_rfl) (by kernel_rfl) (by kernel_rfl) (fun _ _ _ h => h) (Or.inl ⟨by rfl, ?_⟩) hHeld ?_
        rotate_left
        · (intro w hSw; (try dsimp only at hSw); (try simp only [List.getElem_toArray, List.getElem_cons_succ, List.getElem_cons_zero]); go_simp <;> with_reducible rfl)
        try simp only [List.getElem_toArray, List.getElem_cons_succ, List.getElem_cons_zero, Act.put, List.setIfInBounds_toArray, List.set_cons_zero, List.set_cons_succ]
        refine wpAnyH_take (i := 22) (v := ?_) rfl (by kernel_rfl) (by kernel_rfl) (by kernel_rfl) (fun _ _ _ h => h) (Or.inl ⟨by rfl, ?_⟩) hHeld ?_
        rotate_left
        · (intro w hSw; (try dsimp only at hSw); (try simp only [List.getElem_toArray, List.getElem_cons_succ, List.getElem_cons_zero]); go_simp <;> with_reducible rfl)
        try simp only [List.getElem_toArray, List.getElem_cons_succ, List.getElem_cons_zero, Act.put, List.setIfInBounds_toArray, List.set_cons_zero, List.set_cons_succ]
        refine wpAnyH_ready (rs := [16]) (by kernel_rfl) (by simp) ?_
        refine AllReadyH.cons rfl (fun K hK => ?_) AllReadyH.nil
        go_simp
        refine (RP.out _ hHeld).mono ?_
        rintro e16 w16 ⟨rfl, hb16⟩
        refine hK.out _ _ ?_ (fun hHeld => ?_)
        · exact keepc5 hb16 hHeld
        clear hK K hb16
        try simp only [List.getElem_toArray, List.getElem_cons_succ, List.getElem_cons_zero, Act.put, List.setIfInBounds_toArray, List.set_cons_zero, List.set_cons_succ]
        refine wpAnyH_take (i := 23) (v := ?_) rfl (by kernel_rfl) (by kernel_rfl) (by kernel_rfl) (fun _ _ _ h => h) (Or.inl ⟨by rfl, ?_⟩) hHeld ?_
        rotate_left
        · (intro w hSw; (try dsimp only at hSw); (try simp only [List.getElem_toArray, List.getElem_cons_succ, List.getElem_cons_zero]); go_simp <;> with_reducible rfl)
        try simp only [List.getElem_toArray, List.getElem_cons_succ, List.getElem_cons_zero, Act.put, List.setIfInBounds_toArray, List.set_cons_zero, List.set_cons_succ]
        refine wpAnyH_take (i := 24) (v := ?_) rfl (by kernel_rfl) (by kernel_rfl) (by kernel_rfl) (fun _ _ _ h => h) (Or.inl ⟨by rfl, ?_⟩) hHeld ?_
        rotate_left
        · (intro w hSw; (try dsimp only at hSw); (try simp only [List.getElem_toArray, List.getElem_cons_succ, List.getElem_cons_zero]); go_simp <;> with_reducible rfl)
        try simp only [List.getElem_toArray, List.getElem_cons_succ, List.getElem_cons_zero, Act.put, List.setIfInBounds_toArray, List.set_cons_zero, List.set_cons_succ]
        refine wpAnyH_take (i := 25) (v := ?_) rfl (by kernel_rfl) (by kernel_rfl) (by kernel_rfl) (fun _ _ _ h => h) (Or.inl ⟨by rfl, ?_⟩) hHeld ?_
        rotate_left
        · (intro w hSw; (try dsimp only at hSw); (try simp only [List.getElem_toArray, List.getElem_cons_succ, List.getElem_cons_zero]); go_simp <;> with_reducible rfl)
        try simp only [List.getElem_toArray, List.getElem_cons_succ, List.getElem_cons_zero, Act.put, List.setIfInBounds_toArray, List.set_cons_zero, List.set_cons_succ]
        refine wpAnyH_done (by kernel_rfl) ?_ _
        go_wp2_with fail
        go_meet
        exact ⟨rfl, hHeld.2.2.2.2.2⟩
  case rest =>
    obtain ⟨rfl, hbc⟩ := hcut
    replace HB := Lib.hid (HB.out.trans (hbc.mono HB.out.size))
    replace A1 := Lib.hid (A1.out.stay hbc)
    replace A2 := Lib.hid (A2.out.stay hbc)
    clear hbc HOWN HGW HNEG A2
    clear n1
    by_cases hm : 1 ≤ m ∧ m ≤ 8
    · have hs2 : ¬ s2.size = 0 := by rw [HS2.out]; intro h; exact (pw_none n m).1 (List.length_eq_zero_iff.1 (by simpa [ByteArray.size] using h)) hm
      obtain ⟨x1, x2, x3⟩ := str_ne hs2
      have hz2 : s2.size ≤ 8 := by rw [HS2.out]; unfold pwB; rw [if_pos hm]; show (bigZ m.toNat n).length ≤ 8; rw [bigZ_length]; omega
      have HG := Lib.hid (show gwR s2 0 m = (wrap64 (n % 256 ^ m.toNat), true) by rw [HS2.out]; unfold pwB; rw [if_pos hm]; exact wide_back n m hm)
      have HE8 := Lib.hid (fun (h : m = 8) => show wrap64 (n % 256 ^ m.toNat) = n by rw [h]; exact wide_8 n HN.out)
      have HE1 := Lib.hid (fun (h : -128 ≤ n ∧ n < 128) => sign_back n m h hm)
      have hin : In64 (wrap64 (n % 256 ^ m.toNat)) := by unfold In64 wrap64; omega
      have P := Lib.hid (GetWide_ib s2 (by omega) 0 m wc)
      rw [HG.out] at P
      simp only at P
      clear HG
      generalize wrap64 (n % 256 ^ m.toNat) = en at *
      have Q := Lib.hid (SignOf_ib en m hin wc)
      clear hin
      go_wp2_with fail
      refine P.out.mono ?_
      rintro eq wq ⟨rfl, hwq⟩
      obtain rfl := hwq.symm
      clear P
      have hc8 : ∃ b8 : Bool, (m == 8) = b8 ∧ (b8 = true → (en != n) = false) := ⟨_, rfl, fun h => by have := HE8.out (by simpa using h); simp [this]⟩
      obtain ⟨b8, h8, h8e⟩ := hc8
      have HE8e := Lib.hid h8e
      clear h8e HE8
      have hc1 : (-128 ≤ n ∧ n < 128) ∨ n < -128 ∨ 128 ≤ n := by omega
      cases b8
      case false =>
        clear HE8e
        rcases hc1 with hc1 | hc1 | hc1
        · have g1 := HE1.out hc1
          rw [g1] at Q
          obtain ⟨hc2, hc3⟩ := hc1
          clear g1 HE1
          by_cases ho : okT t1 = true
          · have hs1 : ¬ s1.size = 0 := by rw [HS1.out]; intro h; exact mpB_ne ho (List.length_eq_zero_iff.1 (by simpa [ByteArray.size] using h))
            obtain ⟨y1, y2, y3⟩ := str_ne hs1
            have hz1 : s1.size ≤ 615000 := by rw [HS1.out]; exact mpB_sz t1
            have BK := Lib.hid (show msgR2 s1 0 = (t1, (s1.size : Int)) by rw [msgR2_eq, HS1.out, msg_back HWV.out ho]; simp [ByteArray.size])
            have P := Lib.hid (GI.out _ HB.out s1 (by omega) 0 in0)
            rw [BK.out] at P
            unfold VIRet at P
            clear BK GI
            go_wp2_with (go_at_call 52; refine Q.out.mono ?_; rintro eq wq ⟨rfl, hwq⟩; obtain rfl := hwq.symm)
            refine P.out.mono ?_
            rintro ea wa ⟨sla, rfl, xwf, xo, hba⟩
            clear P
            obtain ⟨a5, q5, rfl⟩ := xo.slice
            replace A1 := Lib.hid (A1.out.stay hba)
            replace HB := Lib.hid (HB.out.trans (hba.mono HB.out.size))
            have RA5 := Lib.hid (show Rep wa (t1.agg (.slice a5 t1.kids.length q5)) t1 from ⟨_, rfl, xwf, xo.rep⟩)
            have hal := alloc_below wa (.cells #[.int .i64 t1.k, .int .i64 t1.n, .int .i64 t1.e, .string t1.s, .slice a5 t1.kids.length q5] 26)
            have RS := Lib.hid (lsame_any _ (t1.sz + 1) t1 _ _ (by omega) (RA5.out.keep hal) (A1.out.2.keep hal) _ (Below.refl _ _))
            have hlt : b1 < wa.heap.size := A1.out.1.lt
            have hne1 : b1 ≠ wa.heap.size := by omega
            have hne2 : wa.heap.size ≠ b1 := by omega
            replace HB := Lib.hid (HB.out.trans (hal.mono HB.out.size))
            obtain ⟨z0, z1, z2, z3, z4⟩ := A1.out.1.cells
            clear xwf xo hba RA5 hal
            unfold LawRet at RS
            unfold V.agg at RS ⊢
            go_wp2_with fail
            refine RS.out.mono ?_
            rintro eb wb ⟨rfl, hbb⟩
            go_wp2_with fail
            go_ret
            exact ⟨rfl, HB.out.trans (hbb.mono HB.out.size)⟩
          · obtain rfl : s1 = ⟨#[]⟩ := by rw [HS1.out]; unfold mpB; rw [if_neg ho]
            have P := Lib.hid (ValueOk_spec _ _ t1 A1.out.2 (by omega) _ (Below.refl _ _))
            rw [Bool.eq_false_iff.2 ho] at P
            obtain ⟨z0, z1, z2, z3, z4⟩ := A1.out.1.cells
            unfold V.agg at P
            go_wp2_with (go_at_call 52; refine Q.out.mono ?_; rintro eq wq ⟨rfl, hwq⟩; obtain rfl := hwq.symm)
            refine P.out.mono ?_
            rintro eb wb ⟨rfl, hbb⟩
            go_wp2_with fail
            go_ret
            exact ⟨rfl, HB.out.trans (hbb.mono HB.out.size)⟩
        · clear HE1
          by_cases ho : okT t1 = true
          · have hs1 : ¬ s1.size = 0 := by rw [HS1.out]; intro h; exact mpB_ne ho (List.length_eq_zero_iff.1 (by simpa [ByteArray.size] using h))
            obtain ⟨y1, y2, y3⟩ := str_ne hs1
            have hz1 : s1.size ≤ 615000 := by rw [HS1.out]; exact mpB_sz t1
            have BK := Lib.hid (show msgR2 s1 0 = (t1, (s1.size : Int)) by rw [msgR2_eq, HS1.out, msg_back HWV.out ho]; simp [ByteArray.size])
            have P := Lib.hid (GI.out _ HB.out s1 (by omega) 0 in0)
            rw [BK.out] at P
            unfold VIRet at P
            clear BK GI
            go_wp2_with fail
            refine P.out.mono ?_
            rintro ea wa ⟨sla, rfl, xwf, xo, hba⟩
            clear P
            obtain ⟨a5, q5, rfl⟩ := xo.slice
            replace A1 := Lib.hid (A1.out.stay hba)
            replace HB := Lib.hid (HB.out.trans (hba.mono HB.out.size))
            have RA5 := Lib.hid (show Rep wa (t1.agg (.slice a5 t1.kids.length q5)) t1 from ⟨_, rfl, xwf, xo.rep⟩)
            have hal := alloc_below wa (.cells #[.int .i64 t1.k, .int .i64 t1.n, .int .i64 t1.e, .string t1.s, .slice a5 t1.kids.length q5] 26)
            have RS := Lib.hid (lsame_any _ (t1.sz + 1) t1 _ _ (by omega) (RA5.out.keep hal) (A1.out.2.keep hal) _ (Below.refl _ _))
            have hlt : b1 < wa.heap.size := A1.out.1.lt
            have hne1 : b1 ≠ wa.heap.size := by omega
            have hne2 : wa.heap.size ≠ b1 := by omega
            replace HB := Lib.hid (HB.out.trans (hal.mono HB.out.size))
            obtain ⟨z0, z1, z2, z3, z4⟩ := A1.out.1.cells
            clear xwf xo hba RA5 hal
            unfold LawRet at RS
            unfold V.agg at RS ⊢
            go_wp2_with fail
            refine RS.out.mono ?_
            rintro eb wb ⟨rfl, hbb⟩
            go_wp2_with fail
            go_ret
            exact ⟨rfl, HB.out.trans (hbb.mono HB.out.size)⟩
          · obtain rfl : s1 = ⟨#[]⟩ := by rw [HS1.out]; unfold mpB; rw [if_neg ho]
            have P := Lib.hid (ValueOk_spec _ _ t1 A1.out.2 (by omega) _ (Below.refl _ _))
            rw [Bool.eq_false_iff.2 ho] at P
            obtain ⟨z0, z1, z2, z3, z4⟩ := A1.out.1.cells
            unfold V.agg at P
            go_wp2_with fail
            refine P.out.mono ?_
            rintro eb wb ⟨rfl, hbb⟩
            go_wp2_with fail
            go_ret
            exact ⟨rfl, HB.out.trans (hbb.mono HB.out.size)⟩
        · clear HE1
          by_cases ho : okT t1 = true
          · have hs1 : ¬ s1.size = 0 := by rw [HS1.out]; intro h; exact mpB_ne ho (List.length_eq_zero_iff.1 (by simpa [ByteArray.size] using h))
            obtain ⟨y1, y2, y3⟩ := str_ne hs1
            have hz1 : s1.size ≤ 615000 := by rw [HS1.out]; exact mpB_sz t1
            have BK := Lib.hid (show msgR2 s1 0 = (t1, (s1.size : Int)) by rw [msgR2_eq, HS1.out, msg_back HWV.out ho]; simp [ByteArray.size])
            have P := Lib.hid (GI.out _ HB.out s1 (by omega) 0 in0)
            rw [BK.out] at P
            unfold VIRet at P
            clear BK GI
            go_wp2_with fail
            refine P.out.mono ?_
            rintro ea wa ⟨sla, rfl, xwf, xo, hba⟩
            clear P
            obtain ⟨a5, q5, rfl⟩ := xo.slice
            replace A1 := Lib.hid (A1.out.stay hba)
            replace HB := Lib.hid (HB.out.trans (hba.mono HB.out.size))
            have RA5 := Lib.hid (show Rep wa (t1.agg (.slice a5 t1.kids.length q5)) t1 from ⟨_, rfl, xwf, xo.rep⟩)
            have hal := alloc_below wa (.cells #[.int .i64 t1.k, .int .i64 t1.n, .int .i64 t1.e, .string t1.s, .slice a5 t1.kids.length q5] 26)
            have RS := Lib.hid (lsame_any _ (t1.sz + 1) t1 _ _ (by omega) (RA5.out.keep hal) (A1.out.2.keep hal) _ (Below.refl _ _))
            have hlt : b1 < wa.heap.size := A1.out.1.lt
            have hne1 : b1 ≠ wa.heap.size := by omega
            have hne2 : wa.heap.size ≠ b1 := by omega
            replace HB := Lib.hid (HB.out.trans (hal.mono HB.out.size))
            obtain ⟨z0, z1, z2, z3, z4⟩ := A1.out.1.cells
            clear xwf xo hba RA5 hal
            unfold LawRet at RS
            unfold V.agg at RS ⊢
            go_wp2_with fail
            refine RS.out.mono ?_
            rintro eb wb ⟨rfl, hbb⟩
            go_wp2_with fail
            go_ret
            exact ⟨rfl, HB.out.trans (hbb.mono HB.out.size)⟩
          · obtain rfl : s1 = ⟨#[]⟩ := by rw [HS1.out]; unfold mpB; rw [if_neg ho]
            have P := Lib.hid (ValueOk_spec _ _ t1 A1.out.2 (by omega) _ (Below.refl _ _))
            rw [Bool.eq_false_iff.2 ho] at P
            obtain ⟨z0, z1, z2, z3, z4⟩ := A1.out.1.cells
            unfold V.agg at P
            go_wp2_with fail
            refine P.out.mono ?_
            rintro eb wb ⟨rfl, hbb⟩
            go_wp2_with fail
            go_ret
            exact ⟨rfl, HB.out.trans (hbb.mono HB.out.size)⟩
      case true =>
        have g8 := HE8e.out rfl
        clear HE8e
        rcases hc1 with hc1 | hc1 | hc1
        · have g1 := HE1.out hc1
          rw [g1] at Q
          obtain ⟨hc2, hc3⟩ := hc1
          clear g1 HE1
          by_cases ho : okT t1 = true
          · have hs1 : ¬ s1.size = 0 := by rw [HS1.out]; intro h; exact mpB_ne ho (List.length_eq_zero_iff.1 (by simpa [ByteArray.size] using h))
            obtain ⟨y1, y2, y3⟩ := str_ne hs1
            have hz1 : s1.size ≤ 615000 := by rw [HS1.out]; exact mpB_sz t1
            have BK := Lib.hid (show msgR2 s1 0 = (t1, (s1.size : Int)) by rw [msgR2_eq, HS1.out, msg_back HWV.out ho]; simp [ByteArray.size])
            have P := Lib.hid (GI.out _ HB.out s1 (by omega) 0 in0)
            rw [BK.out] at P
            unfold VIRet at P
            clear BK GI
            go_wp2_with (go_at_call 52; refine Q.out.mono ?_; rintro eq wq ⟨rfl, hwq⟩; obtain rfl := hwq.symm)
            refine P.out.mono ?_
            rintro ea wa ⟨sla, rfl, xwf, xo, hba⟩
            clear P
            obtain ⟨a5, q5, rfl⟩ := xo.slice
            replace A1 := Lib.hid (A1.out.stay hba)
            replace HB := Lib.hid (HB.out.trans (hba.mono HB.out.size))
            have RA5 := Lib.hid (show Rep wa (t1.agg (.slice a5 t1.kids.length q5)) t1 from ⟨_, rfl, xwf, xo.rep⟩)
            have hal := alloc_below wa (.cells #[.int .i64 t1.k, .int .i64 t1.n, .int .i64 t1.e, .string t1.s, .slice a5 t1.kids.length q5] 26)
            have RS := Lib.hid (lsame_any _ (t1.sz + 1) t1 _ _ (by omega) (RA5.out.keep hal) (A1.out.2.keep hal) _ (Below.refl _ _))
            have hlt : b1 < wa.heap.size := A1.out.1.lt
            have hne1 : b1 ≠ wa.heap.size := by omega
            have hne2 : wa.heap.size ≠ b1 := by omega
            replace HB := Lib.hid (HB.out.trans (hal.mono HB.out.size))
            obtain ⟨z0, z1, z2, z3, z4⟩ := A1.out.1.cells
            clear xwf xo hba RA5 hal
            unfold LawRet at RS
            unfold V.agg at RS ⊢
            go_wp2_with fail
            refine RS.out.mono ?_
            rintro eb wb ⟨rfl, hbb⟩
            go_wp2_with fail
            go_ret
            exact ⟨rfl, HB.out.trans (hbb.mono HB.out.size)⟩
          · obtain rfl : s1 = ⟨#[]⟩ := by rw [HS1.out]; unfold mpB; rw [if_neg ho]
            have P := Lib.hid (ValueOk_spec _ _ t1 A1.out.2 (by omega) _ (Below.refl _ _))
            rw [Bool.eq_false_iff.2 ho] at P
            obtain ⟨z0, z1, z2, z3, z4⟩ := A1.out.1.cells
            unfold V.agg at P
            go_wp2_with (go_at_call 52; refine Q.out.mono ?_; rintro eq wq ⟨rfl, hwq⟩; obtain rfl := hwq.symm)
            refine P.out.mono ?_
            rintro eb wb ⟨rfl, hbb⟩
            go_wp2_with fail
            go_ret
            exact ⟨rfl, HB.out.trans (hbb.mono HB.out.size)⟩
        · clear HE1
          by_cases ho : okT t1 = true
          · have hs1 : ¬ s1.size = 0 := by rw [HS1.out]; intro h; exact mpB_ne ho (List.length_eq_zero_iff.1 (by simpa [ByteArray.size] using h))
            obtain ⟨y1, y2, y3⟩ := str_ne hs1
            have hz1 : s1.size ≤ 615000 := by rw [HS1.out]; exact mpB_sz t1
            have BK := Lib.hid (show msgR2 s1 0 = (t1, (s1.size : Int)) by rw [msgR2_eq, HS1.out, msg_back HWV.out ho]; simp [ByteArray.size])
            have P := Lib.hid (GI.out _ HB.out s1 (by omega) 0 in0)
            rw [BK.out] at P
            unfold VIRet at P
            clear BK GI
            go_wp2_with fail
            refine P.out.mono ?_
            rintro ea wa ⟨sla, rfl, xwf, xo, hba⟩
            clear P
            obtain ⟨a5, q5, rfl⟩ := xo.slice
            replace A1 := Lib.hid (A1.out.stay hba)
            replace HB := Lib.hid (HB.out.trans (hba.mono HB.out.size))
            have RA5 := Lib.hid (show Rep wa (t1.agg (.slice a5 t1.kids.length q5)) t1 from ⟨_, rfl, xwf, xo.rep⟩)
            have hal := alloc_below wa (.cells #[.int .i64 t1.k, .int .i64 t1.n, .int .i64 t1.e, .string t1.s, .slice a5 t1.kids.length q5] 26)
            have RS := Lib.hid (lsame_any _ (t1.sz + 1) t1 _ _ (by omega) (RA5.out.keep hal) (A1.out.2.keep hal) _ (Below.refl _ _))
            have hlt : b1 < wa.heap.size := A1.out.1.lt
            have hne1 : b1 ≠ wa.heap.size := by omega
            have hne2 : wa.heap.size ≠ b1 := by omega
            replace HB := Lib.hid (HB.out.trans (hal.mono HB.out.size))
            obtain ⟨z0, z1, z2, z3, z4⟩ := A1.out.1.cells
            clear xwf xo hba RA5 hal
            unfold LawRet at RS
            unfold V.agg at RS ⊢
            go_wp2_with fail
            refine RS.out.mono ?_
            rintro eb wb ⟨rfl, hbb⟩
            go_wp2_with fail
            go_ret
            exact ⟨rfl, HB.out.trans (hbb.mono HB.out.size)⟩
          · obtain rfl : s1 = ⟨#[]⟩ := by rw [HS1.out]; unfold mpB; rw [if_neg ho]
            have P := Lib.hid (ValueOk_spec _ _ t1 A1.out.2 (by omega) _ (Below.refl _ _))
            rw [Bool.eq_false_iff.2 ho] at P
            obtain ⟨z0, z1, z2, z3, z4⟩ := A1.out.1.cells
            unfold V.agg at P
            go_wp2_with fail
            refine P.out.mono ?_
            rintro eb wb ⟨rfl, hbb⟩
            go_wp2_with fail
            go_ret
            exact ⟨rfl, HB.out.trans (hbb.mono HB.out.size)⟩
        · clear HE1
          by_cases ho : okT t1 = true
          · have hs1 : ¬ s1.size = 0 := by rw [HS1.out]; intro h; exact mpB_ne ho (List.length_eq_zero_iff.1 (by simpa [ByteArray.size] using h))
            obtain ⟨y1, y2, y3⟩ := str_ne hs1
            have hz1 : s1.size ≤ 615000 := by rw [HS1.out]; exact mpB_sz t1
            have BK := Lib.hid (show msgR2 s1 0 = (t1, (s1.size : Int)) by rw [msgR2_eq, HS1.out, msg_back HWV.out ho]; simp [ByteArray.size])
            have P := Lib.hid (GI.out _ HB.out s1 (by omega) 0 in0)
            rw [BK.out] at P
            unfold VIRet at P
            clear BK GI
            go_wp2_with fail
            refine P.out.mono ?_
            rintro ea wa ⟨sla, rfl, xwf, xo, hba⟩
            clear P
            obtain ⟨a5, q5, rfl⟩ := xo.slice
            replace A1 := Lib.hid (A1.out.stay hba)
            replace HB := Lib.hid (HB.out.trans (hba.mono HB.out.size))
            have RA5 := Lib.hid (show Rep wa (t1.agg (.slice a5 t1.kids.length q5)) t1 from ⟨_, rfl, xwf, xo.rep⟩)
            have hal := alloc_below wa (.cells #[.int .i64 t1.k, .int .i64 t1.n, .int .i64 t1.e, .string t1.s, .slice a5 t1.kids.length q5] 26)
            have RS := Lib.hid (lsame_any _ (t1.sz + 1) t1 _ _ (by omega) (RA5.out.keep hal) (A1.out.2.keep hal) _ (Below.refl _ _))
            have hlt : b1 < wa.heap.size := A1.out.1.lt
            have hne1 : b1 ≠ wa.heap.size := by omega
            have hne2 : wa.heap.size ≠ b1 := by omega
            replace HB := Lib.hid (HB.out.trans (hal.mono HB.out.size))
            obtain ⟨z0, z1, z2, z3, z4⟩ := A1.out.1.cells
            clear xwf xo hba RA5 hal
            unfold LawRet at RS
            unfold V.agg at RS ⊢
            go_wp2_with fail
            refine RS.out.mono ?_
            rintro eb wb ⟨rfl, hbb⟩
            go_wp2_with fail
            go_ret
            exact ⟨rfl, HB.out.trans (hbb.mono HB.out.size)⟩
          · obtain rfl : s1 = ⟨#[]⟩ := by rw [HS1.out]; unfold mpB; rw [if_neg ho]
            have P := Lib.hid (ValueOk_spec _ _ t1 A1.out.2 (by omega) _ (Below.refl _ _))
            rw [Bool.eq_false_iff.2 ho] at P
            obtain ⟨z0, z1, z2, z3, z4⟩ := A1.out.1.cells
            unfold V.agg at P
            go_wp2_with fail
            refine P.out.mono ?_
            rintro eb wb ⟨rfl, hbb⟩
            go_wp2_with fail
            go_ret
            exact ⟨rfl, HB.out.trans (hbb.mono HB.out.size)⟩
    · obtain rfl : s2 = ⟨#[]⟩ := by rw [HS2.out, (pw_none n m).2 hm]
      by_cases ho : okT t1 = true
      · have hs1 : ¬ s1.size = 0 := by rw [HS1.out]; intro h; exact mpB_ne ho (List.length_eq_zero_iff.1 (by simpa [ByteArray.size] using h))
        obtain ⟨y1, y2, y3⟩ := str_ne hs1
        have hz1 : s1.size ≤ 615000 := by rw [HS1.out]; exact mpB_sz t1
        have BK := Lib.hid (show msgR2 s1 0 = (t1, (s1.size : Int)) by rw [msgR2_eq, HS1.out, msg_back HWV.out ho]; simp [ByteArray.size])
        have P := Lib.hid (GI.out _ HB.out s1 (by omega) 0 in0)
        rw [BK.out] at P
        unfold VIRet at P
        clear BK GI
        go_wp2_with fail
        refine P.out.mono ?_
        rintro ea wa ⟨sla, rfl, xwf, xo, hba⟩
        clear P
        obtain ⟨a5, q5, rfl⟩ := xo.slice
        replace A1 := Lib.hid (A1.out.stay hba)
        replace HB := Lib.hid (HB.out.trans (hba.mono HB.out.size))
        have RA5 := Lib.hid (show Rep wa (t1.agg (.slice a5 t1.kids.length q5)) t1 from ⟨_, rfl, xwf, xo.rep⟩)
        have hal := alloc_below wa (.cells #[.int .i64 t1.k, .int .i64 t1.n, .int .i64 t1.e, .string t1.s, .slice a5 t1.kids.length q5] 26)
        have RS := Lib.hid (lsame_any _ (t1.sz + 1) t1 _ _ (by omega) (RA5.out.keep hal) (A1.out.2.keep hal) _ (Below.refl _ _))
        have hlt : b1 < wa.heap.size := A1.out.1.lt
        have hne1 : b1 ≠ wa.heap.size := by omega
        have hne2 : wa.heap.size ≠ b1 := by omega
        replace HB := Lib.hid (HB.out.trans (hal.mono HB.out.size))
        obtain ⟨z0, z1, z2, z3, z4⟩ := A1.out.1.cells
        clear xwf xo hba RA5 hal
        unfold LawRet at RS
        unfold V.agg at RS ⊢
        go_wp2_with fail
        refine RS.out.mono ?_
        rintro eb wb ⟨rfl, hbb⟩
        go_wp2_with fail
        go_ret
        exact ⟨rfl, HB.out.trans (hbb.mono HB.out.size)⟩
      · obtain rfl : s1 = ⟨#[]⟩ := by rw [HS1.out]; unfold mpB; rw [if_neg ho]
        have P := Lib.hid (ValueOk_spec _ _ t1 A1.out.2 (by omega) _ (Below.refl _ _))
        rw [Bool.eq_false_iff.2 ho] at P
        obtain ⟨z0, z1, z2, z3, z4⟩ := A1.out.1.cells
        unfold V.agg at P
        go_wp2_with fail
        refine P.out.mono ?_
        rintro eb wb ⟨rfl, hbb⟩
        go_wp2_with fail
        go_ret
        exact ⟨rfl, HB.out.trans (hbb.mono HB.out.size)⟩
set_option maxRecDepth 100000 in
set_option maxHeartbeats 2000000 in
theorem lifted_FnMsg (os : Os) (started : os.Started) (H : Type) (enc : TypeId × Value → H) :
    ReturnsInHanded {} Tryd.checked os 6 .any (fun w args => (Rows.fnMsgSpec.pre enc Tryd.prog Tryd.f6 [] false w args ∧ laidMetH Tryd.prog Rows.fnMsgRow.laid w) ∧ sizedMet enc Tryd.prog Tryd.f6 (OpenSpec.ofChange Rows.fnMsgSpec) false w args)
      (Rows.fnMsgSpec.post enc Tryd.prog Tryd.f6 false true false false) := by
  refine returnsInHanded_of_change_and (C := Tryd.checked) (X := fun w _ => laidMetH Tryd.prog Rows.fnMsgRow.laid w) (fun _ _ _ hh h => h.of_heap hh) lawOwn started (by kernel_rfl) Tryd.func6
    (ChangeSpec.witness_shaped (enc := enc) (C := Tryd.checked) (os := os) (X := fun w _ => laidMetH Tryd.prog Rows.fnMsgRow.laid w) false (World.laidAll Tryd.prog os Rows.fnMsgRow.laid) #[.slice none 0 0] 8 (World.laidAll_os _ _ _)
      (World.shaped_of_ZipB (by kernel_rfl) (by kernel_rfl)) (by kernel_rfl) (by kernel_rfl) (by kernel_rfl)
      (by rw [MakeChecks.laidMetH_plain _ _ _ (by kernel_rfl)]; exact laidMet_laidAll _ (by kernel_rfl) (by kernel_rfl))) ?_
  intro W base args ds gs before hval0 hW _ _ hL _
  have hval : ∀ (j : Nat) t v, Tryd.f6.params[j]? = some t → args[j]? = some v → Value.okWide Tryd.prog W .any base t v := hval0
  have hW' := hW
  obtain ⟨p, q, hA0, hV, hpq, hfz, hnd⟩ := hW
  have hA : DataW.TrodAll enc Tryd.prog W 0 (fun _ => true) true Tryd.f6.params.toList args.toList ds p := hA0
  rw [Tryd.params6] at hA hval
  rw [MakeChecks.laidMetH_plain _ _ _ (by kernel_rfl)] at hL
  have hE : Env W := env_of (Lib.laidMet.reads hL (.tail _ (.head _))) (Lib.laidMet.reads hL (.head _))
  obtain ⟨v0, vs0, d0, ds0, p0, q0, hargs, rfl, hp, h0, r0⟩ := trodAll_cons hA
  obtain ⟨rfl, rfl, rfl⟩ := trodAll_nil r0
  obtain rfl : args = #[v0] := by cases args; simp_all
  obtain ⟨a0, w0⟩ := open_bytes (okWide_slice Tryd.underlying22 (hval 0 22 v0 rfl rfl)) h0
  refine (walk_FnMsg v0 a0 w0 W rfl hE).mono fun e W' ⟨he, hb⟩ => ?_
  subst he
  refine ⟨_, rfl, law_post rfl rfl rfl ?_ hW' hb⟩
  rw [Tryd.params6]
  intro t ht
  obtain rfl := List.mem_singleton.1 ht
  exact ⟨by kernel_rfl, of_decide_eq_true (by kernel_rfl)⟩
set_option maxHeartbeats 4000000 in
theorem row_FnMsg : Rows.FnMsgSaid :=
  OpenClaim.holds_of_wide 6 Tryd.f6 rfl rfl rfl rfl rfl rfl rfl ⟨rfl, rfl, rfl, rfl, rfl⟩ rfl rfl rfl rfl rfl (by as_aux_lemma => kernel_rfl) Tryd.func6 (by as_aux_lemma => kernel_rfl)
    (of_decide_eq_true (by as_aux_lemma => kernel_rfl)) (by unfold Func.isWrapper; first | (rw [if_pos (by decide +kernel)]; kernel_rfl) | (rw [if_neg (by decide +kernel)]; exact ⟨rfl, rfl⟩))
    (fun os started H enc _ => lifted_FnMsg os started H enc)
set_option maxHeartbeats 4000000 in
theorem holds_FnMsgCard : Rows.FnMsgCardSaid :=
  Claim7.holds_tied_plain_at .later [] [.data, .pinned] true (true, "a4cb6258458d601955f016439c5ed8fedd35fdd32397295683473c726073af0b") false row_FnMsg (fun _ h => by cases h) (by as_aux_lemma => kernel_rfl) (fun _ h => by cases h) fnMsg_row_tie rfl ⟨rfl, rfl⟩ (by as_aux_lemma => kernel_rfl) rfl
    (fun f fn hf hfn => by
      obtain rfl : f = 6 := Option.some.inj ((show Tryd.prog.funcNamed "loop.example/g00421/laws.FnMsg" = some 6 by as_aux_lemma => kernel_rfl).symm.trans hf) |>.symm
      obtain rfl : fn = Tryd.f6 := (Option.some.inj (Tryd.func6.symm.trans hfn)).symm
      exact ⟨by as_aux_lemma => kernel_rfl, fun j t ht => by
        have hm : t ∈ Tryd.f6.params.toList := by simpa using Array.mem_of_getElem? ht
        have hall : (Tryd.f6.params.toList.all fun u => !Tryd.prog.wantsStandIn u) = true := by as_aux_lemma => kernel_rfl
        exact (show Tryd.prog.wantsStandIn t = false by simpa using List.all_eq_true.1 hall t hm)⟩)
    (by as_aux_lemma => kernel_rfl)
#print axioms holds_FnMsgCard
end Go.Proofs.YtgbgeocmjdgmoaaDoor
