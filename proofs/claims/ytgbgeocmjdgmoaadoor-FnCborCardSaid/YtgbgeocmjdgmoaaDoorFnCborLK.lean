/- For every code: what the program's and the reference's CBOR functions give of the drawn values is alike, no other bytes are a value's own, a head and a value come back from their bytes: the law returns true. -/
import Derived.Test.YtgbgeocmjdgmoaaDoorCbK11
import Derived.Test.YtgbgeocmjdgmoaaDoorCbK13
import Derived.Test.YtgbgeocmjdgmoaaDoorCbK14
import Derived.Deep.RegionWith
import Derived.Deep.RegionHeld3
import Derived.Deep.DeepCutAuto
namespace Go.Proofs.YtgbgeocmjdgmoaaDoor
set_option linter.unusedSimpArgs false
set_option linter.unusedVariables false
set_option maxRecDepth 100000
open Go.ChangeShapes Go.WideShapes Go.ChangeAt Go.RowKit Go.Lib
open Go.ChangeMaps (open_string shut_string)
theorem bigC_any {w : World} {v : Value} {L : List Int} (h : BRead w v L) : Calls Tryd.prog 13 #[v] w fun e w' => e = .returned (.bool (decide ((1048576 : Int) < (L.length : Int)))) ∧ w = w' := by
  obtain ⟨a, b, off, cap, rfl, h1, h2, h3, h4, h5⟩ := h
  clear h1 h4 h5
  go_enter Tryd.func13, Tryd.ntmps13
  go_wp2_with fail
  go_ret
  exact ⟨rfl, rfl⟩
theorem cbR2_sz {s : ByteArray} (hs : s.size ≤ 1048576) (i : Int) : (cbR2 s i).1.sz ≤ 1048576 := by
  have hz : VZ.sz ≤ 1048576 := by simp [VZ, V.sz, szs, ByteArray.size]
  unfold cbR2
  split
  · unfold cborR
    split
    · rename_i v j m hg
      have hgd := cg_good hs 15 i.toNat 1204 v j m hg
      split
      · show v.sz ≤ _; omega
      · exact hz
    · exact hz
  · exact hz
theorem cbor_own {s : ByteArray} (hs : s.size ≤ 1048576) {i : Int} (h : 0 ≤ (cbR2 s i).2) : ∃ a b : Nat, i = (a : Int) ∧ (cbR2 s i).2 = (b : Int) ∧ a ≤ b ∧ b ≤ s.size ∧ (⟨(cborB (cbR2 s i).1).toArray⟩ : ByteArray) = s.extract a b := by
  unfold cbR2 at h ⊢
  split at h
  · rename_i hi
    rw [if_pos hi]
    cases hg : cg true false s 15 i.toNat 1204 with
    | none => rw [hg] at h; exact absurd h (by show ¬ (0 : Int) ≤ -1; omega)
    | some q =>
      obtain ⟨v, j, m⟩ := q
      rw [hg] at h
      unfold cborR at h ⊢
      simp only at h ⊢
      split at h
      · rename_i hb
        rw [if_pos hb]
        have hx := ba_ext (a := ⟨(cborB v).toArray⟩) (b := s.extract i.toNat j) (by simpa using hb)
        have hgd := cg_good hs 15 i.toNat 1204 v j m hg
        exact ⟨i.toNat, j, by omega, rfl, by omega, by omega, hx⟩
      · exact absurd h (by show ¬ (0 : Int) ≤ -1; omega)
  · exact absurd h (by show ¬ (0 : Int) ≤ -1; omega)
theorem cbor_neg {s : ByteArray} {i : Int} (h : ¬ 0 ≤ (cbR2 s i).2) : (cbR2 s i).2 = -1 := by
  unfold cbR2 at h ⊢
  split at h
  · rename_i hi
    rw [if_pos hi]
    unfold cborR at h ⊢
    split at h
    · split at h
      · exact absurd (by show (0 : Int) ≤ (_ : Nat); omega) h
      · rename_i h2
        rw [if_neg h2]
    · rfl
  · rename_i hi
    rw [if_neg hi]
theorem getH_foundC (s : ByteArray) (i : Int) : getH s i = (-1, 0, -1) ∨ ∃ a n x, getH s i = (a, n, x) ∧ Found s i a n x ∧ headL a.toNat n.toNat = sub s.data.toList i.toNat (x - i).toNat := by
  unfold getH
  rcases anyH_found s i with e | ⟨a, n, x, e, hf⟩
  · left; rw [e]; rfl
  · rw [e]
    by_cases hl : (headL a.toNat n.toNat).length = (x - i).toNat
    · refine .inr ⟨a, n, x, ?_, hf, hf.same hl⟩
      rw [if_neg]
      have := hf.i0; have := hf.x0
      simp only []
      omega
    · left; rw [if_pos (.inr hl)]
theorem head_own {s : ByteArray} {i : Int} (h : 0 ≤ (getH s i).2.2) : ∃ a b : Nat, i = (a : Int) ∧ (getH s i).2.2 = (b : Int) ∧ a ≤ b ∧ b ≤ s.size ∧ 0 ≤ (getH s i).2.1 ∧ (getH s i).2.1 < 18446744073709551616 ∧ (⟨(phB (getH s i).1 (getH s i).2.1).toArray⟩ : ByteArray) = s.extract a b := by
  rcases getH_foundC s i with e | ⟨a, n, x, e, hf, hl⟩
  · rw [e] at h; exact absurd h (by show ¬ (0 : Int) ≤ -1; omega)
  · rw [e] at h ⊢
    obtain ⟨f1, f2, f3, f4, f5, f6, f7, f8, f9⟩ := hf
    refine ⟨i.toNat, x.toNat, by omega, by show x = _; omega, by omega, by omega, by show 0 ≤ n; omega, by show n < _; omega, ?_⟩
    show (⟨(phB a n).toArray⟩ : ByteArray) = _
    unfold phB
    rw [if_pos (by omega), hl]
    exact (extract_sub s i x (by omega) (by omega)).symm
theorem head_neg {s : ByteArray} {i : Int} (h : ¬ 0 ≤ (getH s i).2.2) : (getH s i).2.2 = -1 := by
  rcases getH_foundC s i with e | ⟨a, n, x, e, hf, hl⟩
  · rw [e]
  · rw [e] at h ⊢
    obtain ⟨f1, f2, f3, f4, f5, f6, f7, f8, f9⟩ := hf
    exact absurd (by show (0 : Int) ≤ x; omega) h
theorem phB_none (m n : Int) : phB m n = [] ↔ ¬ (0 ≤ m ∧ m ≤ 7) := by
  unfold phB
  split
  · rename_i h; exact ⟨fun e => absurd e (headL_ne _ _), fun h2 => absurd h h2⟩
  · rename_i h; exact ⟨fun _ => h, fun _ => rfl⟩
theorem head_back {m n : Int} (hm : 0 ≤ m ∧ m ≤ 7) (hn0 : 0 ≤ n) (hn : n < 18446744073709551616) : getH ⟨(phB m n).toArray⟩ 0 = (m, n, (((⟨(phB m n).toArray⟩ : ByteArray).size : Nat) : Int)) := by
  unfold phB
  rw [if_pos hm]
  have hat : At (⟨(headL m.toNat n.toNat).toArray⟩ : ByteArray) 0 (headL m.toNat n.toNat) := by
    refine ⟨by simp [ByteArray.size], by simp [sub]⟩
  have h := get_at (by omega) (by omega) hat
  rw [show ((0 : Nat) : Int) = 0 from rfl] at h
  rw [h]
  refine Prod.ext (by show ((m.toNat : Nat) : Int) = m; omega) (Prod.ext (by show ((n.toNat : Nat) : Int) = n; omega) ?_)
  show ((0 + (headL m.toNat n.toNat).length : Nat) : Int) = _
  simp [ByteArray.size]
def HeldB (W : World) (b : Nat) (t : V) (sl : Value) : Prop := Box W b t.k t.n t.e t.s sl 26 ∧ Rep W (t.agg sl) t
theorem HeldB.new {W : World} {t : V} {sl : Value} (h : Rep W (t.agg sl) t) : HeldB (W.alloc (.cells #[.int .i64 t.k, .int .i64 t.n, .int .i64 t.e, .string t.s, sl] 26)) W.heap.size t sl :=
  ⟨Box.new W _ _ _ _ _ _, h.keep ((Below.refl _ _).alloc (Nat.le_refl _) _)⟩
theorem HeldB.stay {W W' : World} {b : Nat} {t : V} {sl : Value} (h : HeldB W b t sl) (hb : Below W.heap.size W W') : HeldB W' b t sl := ⟨h.1.stay hb, h.2.keep hb⟩
theorem alloc_below (W : World) (o : Obj) : Below W.heap.size W (W.alloc o) := (Below.refl _ _).alloc (Nat.le_refl _) _
theorem keepc {W w2 : World} (hb : Below W.heap.size W w2) {p : Addr} {x : Value} (h : W.cell? p = some x) : w2.cell? p = some x := (hb.cell (World.block_lt_of_cell? _ _ h)).trans h
theorem str_ne_self (s : ByteArray) : (s.toList != s.toList) = false := by simp
theorem keepc25 {W0 W w2 : World} {p0 : Addr} {y0 : Value} {p1 : Addr} {y1 : Value} {p2 : Addr} {y2 : Value} {p3 : Addr} {y3 : Value} {p4 : Addr} {y4 : Value} {p5 : Addr} {y5 : Value} {p6 : Addr} {y6 : Value} {p7 : Addr} {y7 : Value} {p8 : Addr} {y8 : Value} {p9 : Addr} {y9 : Value} {p10 : Addr} {y10 : Value} {p11 : Addr} {y11 : Value} {p12 : Addr} {y12 : Value} {p13 : Addr} {y13 : Value} {p14 : Addr} {y14 : Value} {p15 : Addr} {y15 : Value} {p16 : Addr} {y16 : Value} {p17 : Addr} {y17 : Value} {p18 : Addr} {y18 : Value} {p19 : Addr} {y19 : Value} {p20 : Addr} {y20 : Value} {p21 : Addr} {y21 : Value} {p22 : Addr} {y22 : Value} {p23 : Addr} {y23 : Value} {p24 : Addr} {y24 : Value} (hb : Below W.heap.size W w2) (h : W.cell? p0 = some y0 ∧ W.cell? p1 = some y1 ∧ W.cell? p2 = some y2 ∧ W.cell? p3 = some y3 ∧ W.cell? p4 = some y4 ∧ W.cell? p5 = some y5 ∧ W.cell? p6 = some y6 ∧ W.cell? p7 = some y7 ∧ W.cell? p8 = some y8 ∧ W.cell? p9 = some y9 ∧ W.cell? p10 = some y10 ∧ W.cell? p11 = some y11 ∧ W.cell? p12 = some y12 ∧ W.cell? p13 = some y13 ∧ W.cell? p14 = some y14 ∧ W.cell? p15 = some y15 ∧ W.cell? p16 = some y16 ∧ W.cell? p17 = some y17 ∧ W.cell? p18 = some y18 ∧ W.cell? p19 = some y19 ∧ W.cell? p20 = some y20 ∧ W.cell? p21 = some y21 ∧ W.cell? p22 = some y22 ∧ W.cell? p23 = some y23 ∧ W.cell? p24 = some y24 ∧ Below W0.heap.size W0 W) : w2.cell? p0 = some y0 ∧ w2.cell? p1 = some y1 ∧ w2.cell? p2 = some y2 ∧ w2.cell? p3 = some y3 ∧ w2.cell? p4 = some y4 ∧ w2.cell? p5 = some y5 ∧ w2.cell? p6 = some y6 ∧ w2.cell? p7 = some y7 ∧ w2.cell? p8 = some y8 ∧ w2.cell? p9 = some y9 ∧ w2.cell? p10 = some y10 ∧ w2.cell? p11 = some y11 ∧ w2.cell? p12 = some y12 ∧ w2.cell? p13 = some y13 ∧ w2.cell? p14 = some y14 ∧ w2.cell? p15 = some y15 ∧ w2.cell? p16 = some y16 ∧ w2.cell? p17 = some y17 ∧ w2.cell? p18 = some y18 ∧ w2.cell? p19 = some y19 ∧ w2.cell? p20 = some y20 ∧ w2.cell? p21 = some y21 ∧ w2.cell? p22 = some y22 ∧ w2.cell? p23 = some y23 ∧ w2.cell? p24 = some y24 ∧ Below W0.heap.size W0 w2 := by
  obtain ⟨h0, h1, h2, h3, h4, h5, h6, h7, h8, h9, h10, h11, h12, h13, h14, h15, h16, h17, h18, h19, h20, h21, h22, h23, h24, hB⟩ := h
  exact ⟨keepc hb h0, keepc hb h1, keepc hb h2, keepc hb h3, keepc hb h4, keepc hb h5, keepc hb h6, keepc hb h7, keepc hb h8, keepc hb h9, keepc hb h10, keepc hb h11, keepc hb h12, keepc hb h13, keepc hb h14, keepc hb h15, keepc hb h16, keepc hb h17, keepc hb h18, keepc hb h19, keepc hb h20, keepc hb h21, keepc hb h22, keepc hb h23, keepc hb h24, hB.trans (hb.mono hB.size)⟩
theorem keepc5 {W0 W w2 : World} {p0 : Addr} {y0 : Value} {p1 : Addr} {y1 : Value} {p2 : Addr} {y2 : Value} {p3 : Addr} {y3 : Value} {p4 : Addr} {y4 : Value} (hb : Below W.heap.size W w2) (h : W.cell? p0 = some y0 ∧ W.cell? p1 = some y1 ∧ W.cell? p2 = some y2 ∧ W.cell? p3 = some y3 ∧ W.cell? p4 = some y4 ∧ Below W0.heap.size W0 W) : w2.cell? p0 = some y0 ∧ w2.cell? p1 = some y1 ∧ w2.cell? p2 = some y2 ∧ w2.cell? p3 = some y3 ∧ w2.cell? p4 = some y4 ∧ Below W0.heap.size W0 w2 := by
  obtain ⟨h0, h1, h2, h3, h4, hB⟩ := h
  exact ⟨keepc hb h0, keepc hb h1, keepc hb h2, keepc hb h3, keepc hb h4, hB.trans (hb.mono hB.size)⟩
set_option maxHeartbeats 8000000 in
theorem walk_FnCbor {w00 : World} (v0 : Value) (L : List Int) (hv : BRead w00 v0 L) (w : World) (hww : w = w00) (hE : Env w) : Calls Tryd.prog 11 #[v0] w (LawRet w) := by
  subst hww
  have BG := Lib.hid (bigC_any hv)
  by_cases hbig : L.length ≤ 1048576
  case neg =>
    have hB : decide ((1048576 : Int) < (L.length : Int)) = true := decide_eq_true (by omega)
    go_enter Tryd.func11, Tryd.ntmps11
    go_wp2_with fail
    refine BG.out.mono ?_
    rintro e0 w' ⟨rfl, rfl⟩
    go_wp2_with fail
    go_ret
    exact ⟨rfl, Below.refl _ _⟩
  have hB : decide ((1048576 : Int) < (L.length : Int)) = false := decide_eq_false (by omega)
  have hD : Drw w v0 L.length := ⟨⟨L, hv, rfl⟩, hbig⟩
  have HB := Lib.hid (Below.refl w.heap.size w)
  have D1 := Lib.hid (fun (W : World) (hW : Below w.heap.size w W) => DrawPutHead_any w v0 _ hD W hW)
  have D2 := Lib.hid (fun (W : World) (hW : Below w.heap.size w W) => DrawGetHead_any w v0 _ hD W hW)
  have D3 := Lib.hid (fun (W : World) (hW : Below w.heap.size w W) => DrawPutCbor_any w v0 _ hD W hW)
  have D4 := Lib.hid (fun (W : World) (hW : Below w.heap.size w W) => DrawGetCbor_any w v0 _ hD W hW)
  have D5 := Lib.hid (fun (W : World) (hW : Below w.heap.size w W) => DrawCborFits_any w v0 _ hD W hW)
  have D6 := Lib.hid (fun (W : World) (hW : Below w.heap.size w W) => DrawCborSize_any w v0 _ hD W hW)
  have PM := Lib.hid (fun (W W' : World) (hW : Below w.heap.size w W) (hh : Below W.heap.size W W') (x : Value) (t : V) (hx : Rep W x t) (hz : t.sz ≤ 1048576) => PutCbor_impl W (Env.keep hE hW) x t hx hz W' hh)
  have PS := Lib.hid (fun (W W' : World) (hh : Below W.heap.size W W') (x : Value) (t : V) (hx : Rep W x t) (hz : t.sz ≤ 1048576) => PutCbor_spec W x t hx hz W' hh)
  have CI := Lib.hid (fun (W W' : World) (hW : Below w.heap.size w W) (hh : Below W.heap.size W W') (x : Value) (t : V) (hx : Rep W x t) (hz : t.sz ≤ 1048576) => CborFits_impl W (Env.keep hE hW) x t hx hz W' hh)
  have CS := Lib.hid (fun (W W' : World) (hh : Below W.heap.size W W') (x : Value) (t : V) (hx : Rep W x t) (hz : t.sz ≤ 1048576) => CborFits_spec W x t hx hz W' hh)
  have MS := Lib.hid (fun (W W' : World) (hW : Below w.heap.size w W) (hh : Below W.heap.size W W') (x : Value) (t : V) (hx : Rep W x t) (hz : t.sz ≤ 1048576) => CborSize_impl W (Env.keep hE hW) x t hx hz W' hh)
  have GI := Lib.hid (fun (W : World) (hW : Below w.heap.size w W) (s : ByteArray) (hs : s.size ≤ 1048576) (i : Int) (hi : In64 i) => GetCbor_impl0 W s hs i hi W (Below.refl _ _) (Env.keep hE hW))
  clear hE hv hD hbig
  go_enter Tryd.func11, Tryd.ntmps11
  go_wp2_with fail
  refine BG.out.mono ?_
  rintro e0 w' ⟨rfl, rfl⟩
  clear BG
  go_wp2_with fail
  clear hB
  refine (D1.out _ HB.out).mono ?_
  rintro e1 w1 ⟨m, n, rfl, hm0, hm1, hn0, hn1, hb⟩
  replace HB := Lib.hid (HB.out.trans (hb.mono HB.out.size))
  clear hb
  go_wp2_with fail
  have P1 := Lib.hid (PutHead_ib m n w1 hn0 hn1)
  have P2 := Lib.hid (fun (W : World) => PutHead_sb m n W hn0 hn1)
  obtain ⟨s2, hs2⟩ : ∃ s2 : ByteArray, s2 = ⟨(phB m n).toArray⟩ := ⟨_, rfl⟩
  unfold TxtRet bstr at P1 P2
  rw [← hs2] at P1 P2
  have HS2 := Lib.hid hs2
  clear hs2
  refine (P1.out).mono ?_
  rintro e2 w2 ⟨rfl, hb⟩
  replace HB := Lib.hid (HB.out.trans (hb.mono HB.out.size))
  clear hb
  clear P1
  go_wp2_with fail
  refine (D2.out _ HB.out).mono ?_
  rintro e3 w3 ⟨g, i, rfl, hg, hi, hb⟩
  replace HB := Lib.hid (HB.out.trans (hb.mono HB.out.size))
  clear hb
  have HI := Lib.hid hi
  clear hi
  go_wp2_with fail
  have HHO := Lib.hid (fun (h : 0 ≤ (getH g i).2.2) => head_own h)
  have HHN := Lib.hid (fun (h : ¬ 0 ≤ (getH g i).2.2) => head_neg h)
  have Q1 := Lib.hid (GetHead_impl g i w3 (by omega) (by have := HI.out; unfold In64 at this; omega) (by have := HI.out; unfold In64 at this; omega))
  have Q2 := Lib.hid (fun (W : World) => GetHead_spec g i W (by omega) (by have := HI.out; unfold In64 at this; omega) (by have := HI.out; unfold In64 at this; omega))
  unfold Head3 at Q1 Q2
  generalize (getH g i).2.2 = ga at *
  generalize (getH g i).2.1 = gb at *
  generalize (getH g i).1 = gc at *
  refine (Q1.out).mono ?_
  rintro e4 w4 ⟨rfl, hb⟩
  replace HB := Lib.hid (HB.out.trans (hb.mono HB.out.size))
  clear hb
  clear Q1
  go_wp2_with fail
  refine (Q2.out _).mono ?_
  rintro e5 w5 ⟨rfl, hb⟩
  replace HB := Lib.hid (HB.out.trans (hb.mono HB.out.size))
  clear hb
  clear Q2
  go_wp2_with fail
  refine (D3.out _ HB.out).mono ?_
  rintro e6 w6 ⟨t1, sl1, rfl, hwf1, hsz1, hrs1, hb⟩
  replace HB := Lib.hid (HB.out.trans (hb.mono HB.out.size))
  clear hb
  obtain ⟨a1, q1, rfl⟩ := hrs1.slice
  have RA1 := Lib.hid (show Rep w6 (t1.agg (.slice a1 t1.kids.length q1)) t1 from ⟨_, rfl, hwf1, hrs1⟩)
  have HWV := Lib.hid RA1.out.wfV
  clear hwf1 hrs1
  have hal := alloc_below w6 (.cells #[.int .i64 t1.k, .int .i64 t1.n, .int .i64 t1.e, .string t1.s, .slice a1 t1.kids.length q1] 26)
  replace HB := Lib.hid (HB.out.trans (hal.mono HB.out.size))
  have A1 := Lib.hid (HeldB.new RA1.out)
  clear hal RA1
  unfold V.agg
  go_wp2_with fail
  generalize (w6.alloc (.cells #[.int .i64 t1.k, .int .i64 t1.n, .int .i64 t1.e, .string t1.s, .slice a1 t1.kids.length q1] 26)) = w7 at *
  generalize w6.heap.size = b1 at *
  have P0 := Lib.hid (PM.out _ _ HB.out (Below.refl _ _) _ t1 A1.out.2 (by omega))
  obtain ⟨s1, hs1⟩ : ∃ s1 : ByteArray, s1 = ⟨(cborB t1).toArray⟩ := ⟨_, rfl⟩
  unfold TxtRet bstr at P0
  rw [← hs1] at P0
  have HS1 := Lib.hid hs1
  clear hs1
  refine (P0.out).mono ?_
  rintro e8 w8 ⟨rfl, hb⟩
  replace HB := Lib.hid (HB.out.trans (hb.mono HB.out.size))
  replace A1 := Lib.hid (A1.out.stay hb)
  clear hb
  clear P0
  go_wp2_with fail
  refine (D4.out _ HB.out).mono ?_
  rintro e9 w9 ⟨u, kk, rfl, hu, hk, hb⟩
  replace HB := Lib.hid (HB.out.trans (hb.mono HB.out.size))
  replace A1 := Lib.hid (A1.out.stay hb)
  clear hb
  have HK := Lib.hid hk
  clear hk
  go_wp2_with fail
  have HOWN := Lib.hid (fun (h : 0 ≤ (cbR2 u kk).2) => cbor_own (by omega) h)
  have HNEG := Lib.hid (fun (h : ¬ 0 ≤ (cbR2 u kk).2) => cbor_neg h)
  have hxz := cbR2_sz (s := u) (by omega) kk
  have G1 := Lib.hid (GI.out _ HB.out u (by omega) kk HK.out)
  have GS1 := Lib.hid (fun (W : World) => GetCbor_spec0 W u (by omega) kk HK.out W (Below.refl _ _))
  unfold CRet at G1 GS1
  generalize (cbR2 u kk).1 = xx at *
  generalize (cbR2 u kk).2 = r2 at *
  refine (G1.out).mono ?_
  rintro e10 w10 ⟨sl2, rfl, xwf, xo, hb⟩
  replace HB := Lib.hid (HB.out.trans (hb.mono HB.out.size))
  replace A1 := Lib.hid (A1.out.stay hb)
  clear hb
  clear G1
  obtain ⟨a2, q2, rfl⟩ := xo.slice
  have RA2 := Lib.hid (show Rep w10 (xx.agg (.slice a2 xx.kids.length q2)) xx from ⟨_, rfl, xwf, xo.rep⟩)
  clear xwf xo
  have hal := alloc_below w10 (.cells #[.int .i64 xx.k, .int .i64 xx.n, .int .i64 xx.e, .string xx.s, .slice a2 xx.kids.length q2] 26)
  replace HB := Lib.hid (HB.out.trans (hal.mono HB.out.size))
  replace A1 := Lib.hid (A1.out.stay hal)
  have A2 := Lib.hid (HeldB.new RA2.out)
  clear hal RA2
  unfold V.agg
  go_wp2_with fail
  generalize (w10.alloc (.cells #[.int .i64 xx.k, .int .i64 xx.n, .int .i64 xx.e, .string xx.s, .slice a2 xx.kids.length q2] 26)) = w11 at *
  generalize w10.heap.size = b2 at *
  refine (GS1.out _).mono ?_
  rintro e12 w12 ⟨sl3, rfl, xwf, xo, hb⟩
  replace HB := Lib.hid (HB.out.trans (hb.mono HB.out.size))
  replace A1 := Lib.hid (A1.out.stay hb)
  replace A2 := Lib.hid (A2.out.stay hb)
  clear hb
  clear GS1
  obtain ⟨a3, q3, rfl⟩ := xo.slice
  have RA3 := Lib.hid (show Rep w12 (xx.agg (.slice a3 xx.kids.length q3)) xx from ⟨_, rfl, xwf, xo.rep⟩)
  clear xwf xo
  have hal := alloc_below w12 (.cells #[.int .i64 xx.k, .int .i64 xx.n, .int .i64 xx.e, .string xx.s, .slice a3 xx.kids.length q3] 26)
  replace HB := Lib.hid (HB.out.trans (hal.mono HB.out.size))
  replace A1 := Lib.hid (A1.out.stay hal)
  replace A2 := Lib.hid (A2.out.stay hal)
  have A3 := Lib.hid (HeldB.new RA3.out)
  clear hal RA3
  unfold V.agg
  go_wp2_with fail
  generalize (w12.alloc (.cells #[.int .i64 xx.k, .int .i64 xx.n, .int .i64 xx.e, .string xx.s, .slice a3 xx.kids.length q3] 26)) = w13 at *
  generalize w12.heap.size = b3 at *
  refine (D5.out _ HB.out).mono ?_
  rintro e14 w14 ⟨t5, sl5, rfl, hwf5, hsz5, hrs5, hb⟩
  replace HB := Lib.hid (HB.out.trans (hb.mono HB.out.size))
  replace A1 := Lib.hid (A1.out.stay hb)
  replace A2 := Lib.hid (A2.out.stay hb)
  replace A3 := Lib.hid (A3.out.stay hb)
  clear hb
  obtain ⟨a5, q5, rfl⟩ := hrs5.slice
  have RA5 := Lib.hid (show Rep w14 (t5.agg (.slice a5 t5.kids.length q5)) t5 from ⟨_, rfl, hwf5, hrs5⟩)
  clear hwf5 hrs5
  have hal := alloc_below w14 (.cells #[.int .i64 t5.k, .int .i64 t5.n, .int .i64 t5.e, .string t5.s, .slice a5 t5.kids.length q5] 26)
  replace HB := Lib.hid (HB.out.trans (hal.mono HB.out.size))
  replace A1 := Lib.hid (A1.out.stay hal)
  replace A2 := Lib.hid (A2.out.stay hal)
  replace A3 := Lib.hid (A3.out.stay hal)
  have A5 := Lib.hid (HeldB.new RA5.out)
  clear hal RA5
  unfold V.agg
  go_wp2_with fail
  generalize (w14.alloc (.cells #[.int .i64 t5.k, .int .i64 t5.n, .int .i64 t5.e, .string t5.s, .slice a5 t5.kids.length q5] 26)) = w15 at *
  generalize w14.heap.size = b5 at *
  refine (D6.out _ HB.out).mono ?_
  rintro e16 w16 ⟨t4, sl4, rfl, hwf4, hsz4, hrs4, hb⟩
  replace HB := Lib.hid (HB.out.trans (hb.mono HB.out.size))
  replace A1 := Lib.hid (A1.out.stay hb)
  replace A2 := Lib.hid (A2.out.stay hb)
  replace A3 := Lib.hid (A3.out.stay hb)
  replace A5 := Lib.hid (A5.out.stay hb)
  clear hb
  obtain ⟨a4, q4, rfl⟩ := hrs4.slice
  have RA4 := Lib.hid (show Rep w16 (t4.agg (.slice a4 t4.kids.length q4)) t4 from ⟨_, rfl, hwf4, hrs4⟩)
  clear hwf4 hrs4
  have hal := alloc_below w16 (.cells #[.int .i64 t4.k, .int .i64 t4.n, .int .i64 t4.e, .string t4.s, .slice a4 t4.kids.length q4] 26)
  replace HB := Lib.hid (HB.out.trans (hal.mono HB.out.size))
  replace A1 := Lib.hid (A1.out.stay hal)
  replace A2 := Lib.hid (A2.out.stay hal)
  replace A3 := Lib.hid (A3.out.stay hal)
  replace A5 := Lib.hid (A5.out.stay hal)
  have A4 := Lib.hid (HeldB.new RA4.out)
  clear hal RA4
  unfold V.agg
  go_upto_region 15 with fail
  generalize (w16.alloc (.cells #[.int .i64 t4.k, .int .i64 t4.n, .int .i64 t4.e, .string t4.s, .slice a4 t4.kids.length q4] 26)) = w17 at *
  generalize w16.heap.size = b4 at *
  have R1 := Lib.hid (fun (W : World) (hW : W.cell? ⟨b1, 0, none⟩ = some (.int .i64 t1.k) ∧ W.cell? ⟨b1, 1, none⟩ = some (.int .i64 t1.n) ∧ W.cell? ⟨b1, 2, none⟩ = some (.int .i64 t1.e) ∧ W.cell? ⟨b1, 3, none⟩ = some (.string t1.s) ∧ W.cell? ⟨b1, 4, none⟩ = some (.slice a1 t1.kids.length q1) ∧ W.cell? ⟨b2, 0, none⟩ = some (.int .i64 xx.k) ∧ W.cell? ⟨b2, 1, none⟩ = some (.int .i64 xx.n) ∧ W.cell? ⟨b2, 2, none⟩ = some (.int .i64 xx.e) ∧ W.cell? ⟨b2, 3, none⟩ = some (.string xx.s) ∧ W.cell? ⟨b2, 4, none⟩ = some (.slice a2 xx.kids.length q2) ∧ W.cell? ⟨b3, 0, none⟩ = some (.int .i64 xx.k) ∧ W.cell? ⟨b3, 1, none⟩ = some (.int .i64 xx.n) ∧ W.cell? ⟨b3, 2, none⟩ = some (.int .i64 xx.e) ∧ W.cell? ⟨b3, 3, none⟩ = some (.string xx.s) ∧ W.cell? ⟨b3, 4, none⟩ = some (.slice a3 xx.kids.length q3) ∧ W.cell? ⟨b5, 0, none⟩ = some (.int .i64 t5.k) ∧ W.cell? ⟨b5, 1, none⟩ = some (.int .i64 t5.n) ∧ W.cell? ⟨b5, 2, none⟩ = some (.int .i64 t5.e) ∧ W.cell? ⟨b5, 3, none⟩ = some (.string t5.s) ∧ W.cell? ⟨b5, 4, none⟩ = some (.slice a5 t5.kids.length q5) ∧ W.cell? ⟨b4, 0, none⟩ = some (.int .i64 t4.k) ∧ W.cell? ⟨b4, 1, none⟩ = some (.int .i64 t4.n) ∧ W.cell? ⟨b4, 2, none⟩ = some (.int .i64 t4.e) ∧ W.cell? ⟨b4, 3, none⟩ = some (.string t4.s) ∧ W.cell? ⟨b4, 4, none⟩ = some (.slice a4 t4.kids.length q4) ∧ Below w17.heap.size w17 W) => PS.out _ W (hW.2.2.2.2.2.2.2.2.2.2.2.2.2.2.2.2.2.2.2.2.2.2.2.2.2) _ t1 A1.out.2 (by omega))
  have R4 := Lib.hid (fun (W : World) (hW : W.cell? ⟨b1, 0, none⟩ = some (.int .i64 t1.k) ∧ W.cell? ⟨b1, 1, none⟩ = some (.int .i64 t1.n) ∧ W.cell? ⟨b1, 2, none⟩ = some (.int .i64 t1.e) ∧ W.cell? ⟨b1, 3, none⟩ = some (.string t1.s) ∧ W.cell? ⟨b1, 4, none⟩ = some (.slice a1 t1.kids.length q1) ∧ W.cell? ⟨b2, 0, none⟩ = some (.int .i64 xx.k) ∧ W.cell? ⟨b2, 1, none⟩ = some (.int .i64 xx.n) ∧ W.cell? ⟨b2, 2, none⟩ = some (.int .i64 xx.e) ∧ W.cell? ⟨b2, 3, none⟩ = some (.string xx.s) ∧ W.cell? ⟨b2, 4, none⟩ = some (.slice a2 xx.kids.length q2) ∧ W.cell? ⟨b3, 0, none⟩ = some (.int .i64 xx.k) ∧ W.cell? ⟨b3, 1, none⟩ = some (.int .i64 xx.n) ∧ W.cell? ⟨b3, 2, none⟩ = some (.int .i64 xx.e) ∧ W.cell? ⟨b3, 3, none⟩ = some (.string xx.s) ∧ W.cell? ⟨b3, 4, none⟩ = some (.slice a3 xx.kids.length q3) ∧ W.cell? ⟨b5, 0, none⟩ = some (.int .i64 t5.k) ∧ W.cell? ⟨b5, 1, none⟩ = some (.int .i64 t5.n) ∧ W.cell? ⟨b5, 2, none⟩ = some (.int .i64 t5.e) ∧ W.cell? ⟨b5, 3, none⟩ = some (.string t5.s) ∧ W.cell? ⟨b5, 4, none⟩ = some (.slice a5 t5.kids.length q5) ∧ W.cell? ⟨b4, 0, none⟩ = some (.int .i64 t4.k) ∧ W.cell? ⟨b4, 1, none⟩ = some (.int .i64 t4.n) ∧ W.cell? ⟨b4, 2, none⟩ = some (.int .i64 t4.e) ∧ W.cell? ⟨b4, 3, none⟩ = some (.string t4.s) ∧ W.cell? ⟨b4, 4, none⟩ = some (.slice a4 t4.kids.length q4) ∧ Below w17.heap.size w17 W) => PS.out _ W (hW.2.2.2.2.2.2.2.2.2.2.2.2.2.2.2.2.2.2.2.2.2.2.2.2.2) _ t4 A4.out.2 (by omega))
  have RM := Lib.hid (fun (W : World) (hW : W.cell? ⟨b1, 0, none⟩ = some (.int .i64 t1.k) ∧ W.cell? ⟨b1, 1, none⟩ = some (.int .i64 t1.n) ∧ W.cell? ⟨b1, 2, none⟩ = some (.int .i64 t1.e) ∧ W.cell? ⟨b1, 3, none⟩ = some (.string t1.s) ∧ W.cell? ⟨b1, 4, none⟩ = some (.slice a1 t1.kids.length q1) ∧ W.cell? ⟨b2, 0, none⟩ = some (.int .i64 xx.k) ∧ W.cell? ⟨b2, 1, none⟩ = some (.int .i64 xx.n) ∧ W.cell? ⟨b2, 2, none⟩ = some (.int .i64 xx.e) ∧ W.cell? ⟨b2, 3, none⟩ = some (.string xx.s) ∧ W.cell? ⟨b2, 4, none⟩ = some (.slice a2 xx.kids.length q2) ∧ W.cell? ⟨b3, 0, none⟩ = some (.int .i64 xx.k) ∧ W.cell? ⟨b3, 1, none⟩ = some (.int .i64 xx.n) ∧ W.cell? ⟨b3, 2, none⟩ = some (.int .i64 xx.e) ∧ W.cell? ⟨b3, 3, none⟩ = some (.string xx.s) ∧ W.cell? ⟨b3, 4, none⟩ = some (.slice a3 xx.kids.length q3) ∧ W.cell? ⟨b5, 0, none⟩ = some (.int .i64 t5.k) ∧ W.cell? ⟨b5, 1, none⟩ = some (.int .i64 t5.n) ∧ W.cell? ⟨b5, 2, none⟩ = some (.int .i64 t5.e) ∧ W.cell? ⟨b5, 3, none⟩ = some (.string t5.s) ∧ W.cell? ⟨b5, 4, none⟩ = some (.slice a5 t5.kids.length q5) ∧ W.cell? ⟨b4, 0, none⟩ = some (.int .i64 t4.k) ∧ W.cell? ⟨b4, 1, none⟩ = some (.int .i64 t4.n) ∧ W.cell? ⟨b4, 2, none⟩ = some (.int .i64 t4.e) ∧ W.cell? ⟨b4, 3, none⟩ = some (.string t4.s) ∧ W.cell? ⟨b4, 4, none⟩ = some (.slice a4 t4.kids.length q4) ∧ Below w17.heap.size w17 W) => (MS.out _ W HB.out (hW.2.2.2.2.2.2.2.2.2.2.2.2.2.2.2.2.2.2.2.2.2.2.2.2.2) _ t4 A4.out.2 (by omega)).mono (fun e w' h => show e = .returned (.int .i64 (((⟨(cborB t4).toArray⟩ : ByteArray).size : Nat) : Int)) ∧ Below W.heap.size W w' from h))
  have RS := Lib.hid (fun (W : World) (hW : W.cell? ⟨b1, 0, none⟩ = some (.int .i64 t1.k) ∧ W.cell? ⟨b1, 1, none⟩ = some (.int .i64 t1.n) ∧ W.cell? ⟨b1, 2, none⟩ = some (.int .i64 t1.e) ∧ W.cell? ⟨b1, 3, none⟩ = some (.string t1.s) ∧ W.cell? ⟨b1, 4, none⟩ = some (.slice a1 t1.kids.length q1) ∧ W.cell? ⟨b2, 0, none⟩ = some (.int .i64 xx.k) ∧ W.cell? ⟨b2, 1, none⟩ = some (.int .i64 xx.n) ∧ W.cell? ⟨b2, 2, none⟩ = some (.int .i64 xx.e) ∧ W.cell? ⟨b2, 3, none⟩ = some (.string xx.s) ∧ W.cell? ⟨b2, 4, none⟩ = some (.slice a2 xx.kids.length q2) ∧ W.cell? ⟨b3, 0, none⟩ = some (.int .i64 xx.k) ∧ W.cell? ⟨b3, 1, none⟩ = some (.int .i64 xx.n) ∧ W.cell? ⟨b3, 2, none⟩ = some (.int .i64 xx.e) ∧ W.cell? ⟨b3, 3, none⟩ = some (.string xx.s) ∧ W.cell? ⟨b3, 4, none⟩ = some (.slice a3 xx.kids.length q3) ∧ W.cell? ⟨b5, 0, none⟩ = some (.int .i64 t5.k) ∧ W.cell? ⟨b5, 1, none⟩ = some (.int .i64 t5.n) ∧ W.cell? ⟨b5, 2, none⟩ = some (.int .i64 t5.e) ∧ W.cell? ⟨b5, 3, none⟩ = some (.string t5.s) ∧ W.cell? ⟨b5, 4, none⟩ = some (.slice a5 t5.kids.length q5) ∧ W.cell? ⟨b4, 0, none⟩ = some (.int .i64 t4.k) ∧ W.cell? ⟨b4, 1, none⟩ = some (.int .i64 t4.n) ∧ W.cell? ⟨b4, 2, none⟩ = some (.int .i64 t4.e) ∧ W.cell? ⟨b4, 3, none⟩ = some (.string t4.s) ∧ W.cell? ⟨b4, 4, none⟩ = some (.slice a4 t4.kids.length q4) ∧ Below w17.heap.size w17 W) => lsame_any w17 (xx.sz + 1) xx _ _ (by omega) A2.out.2 A3.out.2 W (hW.2.2.2.2.2.2.2.2.2.2.2.2.2.2.2.2.2.2.2.2.2.2.2.2.2))
  have RW := Lib.hid (fun (W : World) (hW : W.cell? ⟨b1, 0, none⟩ = some (.int .i64 t1.k) ∧ W.cell? ⟨b1, 1, none⟩ = some (.int .i64 t1.n) ∧ W.cell? ⟨b1, 2, none⟩ = some (.int .i64 t1.e) ∧ W.cell? ⟨b1, 3, none⟩ = some (.string t1.s) ∧ W.cell? ⟨b1, 4, none⟩ = some (.slice a1 t1.kids.length q1) ∧ W.cell? ⟨b2, 0, none⟩ = some (.int .i64 xx.k) ∧ W.cell? ⟨b2, 1, none⟩ = some (.int .i64 xx.n) ∧ W.cell? ⟨b2, 2, none⟩ = some (.int .i64 xx.e) ∧ W.cell? ⟨b2, 3, none⟩ = some (.string xx.s) ∧ W.cell? ⟨b2, 4, none⟩ = some (.slice a2 xx.kids.length q2) ∧ W.cell? ⟨b3, 0, none⟩ = some (.int .i64 xx.k) ∧ W.cell? ⟨b3, 1, none⟩ = some (.int .i64 xx.n) ∧ W.cell? ⟨b3, 2, none⟩ = some (.int .i64 xx.e) ∧ W.cell? ⟨b3, 3, none⟩ = some (.string xx.s) ∧ W.cell? ⟨b3, 4, none⟩ = some (.slice a3 xx.kids.length q3) ∧ W.cell? ⟨b5, 0, none⟩ = some (.int .i64 t5.k) ∧ W.cell? ⟨b5, 1, none⟩ = some (.int .i64 t5.n) ∧ W.cell? ⟨b5, 2, none⟩ = some (.int .i64 t5.e) ∧ W.cell? ⟨b5, 3, none⟩ = some (.string t5.s) ∧ W.cell? ⟨b5, 4, none⟩ = some (.slice a5 t5.kids.length q5) ∧ W.cell? ⟨b4, 0, none⟩ = some (.int .i64 t4.k) ∧ W.cell? ⟨b4, 1, none⟩ = some (.int .i64 t4.n) ∧ W.cell? ⟨b4, 2, none⟩ = some (.int .i64 t4.e) ∧ W.cell? ⟨b4, 3, none⟩ = some (.string t4.s) ∧ W.cell? ⟨b4, 4, none⟩ = some (.slice a4 t4.kids.length q4) ∧ Below w17.heap.size w17 W) => P2.out W)
  have RI := Lib.hid (fun (W : World) (hW : W.cell? ⟨b1, 0, none⟩ = some (.int .i64 t1.k) ∧ W.cell? ⟨b1, 1, none⟩ = some (.int .i64 t1.n) ∧ W.cell? ⟨b1, 2, none⟩ = some (.int .i64 t1.e) ∧ W.cell? ⟨b1, 3, none⟩ = some (.string t1.s) ∧ W.cell? ⟨b1, 4, none⟩ = some (.slice a1 t1.kids.length q1) ∧ W.cell? ⟨b2, 0, none⟩ = some (.int .i64 xx.k) ∧ W.cell? ⟨b2, 1, none⟩ = some (.int .i64 xx.n) ∧ W.cell? ⟨b2, 2, none⟩ = some (.int .i64 xx.e) ∧ W.cell? ⟨b2, 3, none⟩ = some (.string xx.s) ∧ W.cell? ⟨b2, 4, none⟩ = some (.slice a2 xx.kids.length q2) ∧ W.cell? ⟨b3, 0, none⟩ = some (.int .i64 xx.k) ∧ W.cell? ⟨b3, 1, none⟩ = some (.int .i64 xx.n) ∧ W.cell? ⟨b3, 2, none⟩ = some (.int .i64 xx.e) ∧ W.cell? ⟨b3, 3, none⟩ = some (.string xx.s) ∧ W.cell? ⟨b3, 4, none⟩ = some (.slice a3 xx.kids.length q3) ∧ W.cell? ⟨b5, 0, none⟩ = some (.int .i64 t5.k) ∧ W.cell? ⟨b5, 1, none⟩ = some (.int .i64 t5.n) ∧ W.cell? ⟨b5, 2, none⟩ = some (.int .i64 t5.e) ∧ W.cell? ⟨b5, 3, none⟩ = some (.string t5.s) ∧ W.cell? ⟨b5, 4, none⟩ = some (.slice a5 t5.kids.length q5) ∧ W.cell? ⟨b4, 0, none⟩ = some (.int .i64 t4.k) ∧ W.cell? ⟨b4, 1, none⟩ = some (.int .i64 t4.n) ∧ W.cell? ⟨b4, 2, none⟩ = some (.int .i64 t4.e) ∧ W.cell? ⟨b4, 3, none⟩ = some (.string t4.s) ∧ W.cell? ⟨b4, 4, none⟩ = some (.slice a4 t4.kids.length q4) ∧ Below w17.heap.size w17 W) => CI.out _ W HB.out (hW.2.2.2.2.2.2.2.2.2.2.2.2.2.2.2.2.2.2.2.2.2.2.2.2.2) _ t5 A5.out.2 (by omega))
  have RJ := Lib.hid (fun (W : World) (hW : W.cell? ⟨b1, 0, none⟩ = some (.int .i64 t1.k) ∧ W.cell? ⟨b1, 1, none⟩ = some (.int .i64 t1.n) ∧ W.cell? ⟨b1, 2, none⟩ = some (.int .i64 t1.e) ∧ W.cell? ⟨b1, 3, none⟩ = some (.string t1.s) ∧ W.cell? ⟨b1, 4, none⟩ = some (.slice a1 t1.kids.length q1) ∧ W.cell? ⟨b2, 0, none⟩ = some (.int .i64 xx.k) ∧ W.cell? ⟨b2, 1, none⟩ = some (.int .i64 xx.n) ∧ W.cell? ⟨b2, 2, none⟩ = some (.int .i64 xx.e) ∧ W.cell? ⟨b2, 3, none⟩ = some (.string xx.s) ∧ W.cell? ⟨b2, 4, none⟩ = some (.slice a2 xx.kids.length q2) ∧ W.cell? ⟨b3, 0, none⟩ = some (.int .i64 xx.k) ∧ W.cell? ⟨b3, 1, none⟩ = some (.int .i64 xx.n) ∧ W.cell? ⟨b3, 2, none⟩ = some (.int .i64 xx.e) ∧ W.cell? ⟨b3, 3, none⟩ = some (.string xx.s) ∧ W.cell? ⟨b3, 4, none⟩ = some (.slice a3 xx.kids.length q3) ∧ W.cell? ⟨b5, 0, none⟩ = some (.int .i64 t5.k) ∧ W.cell? ⟨b5, 1, none⟩ = some (.int .i64 t5.n) ∧ W.cell? ⟨b5, 2, none⟩ = some (.int .i64 t5.e) ∧ W.cell? ⟨b5, 3, none⟩ = some (.string t5.s) ∧ W.cell? ⟨b5, 4, none⟩ = some (.slice a5 t5.kids.length q5) ∧ W.cell? ⟨b4, 0, none⟩ = some (.int .i64 t4.k) ∧ W.cell? ⟨b4, 1, none⟩ = some (.int .i64 t4.n) ∧ W.cell? ⟨b4, 2, none⟩ = some (.int .i64 t4.e) ∧ W.cell? ⟨b4, 3, none⟩ = some (.string t4.s) ∧ W.cell? ⟨b4, 4, none⟩ = some (.slice a4 t4.kids.length q4) ∧ Below w17.heap.size w17 W) => CS.out _ W (hW.2.2.2.2.2.2.2.2.2.2.2.2.2.2.2.2.2.2.2.2.2.2.2.2.2) _ t5 A5.out.2 (by omega))
  have hle4 : (⟨(cborB t4).toArray⟩ : ByteArray).size ≤ 615000 := cbB_sz t4
  unfold TxtRet bstr at R1 R4
  unfold LawRet at RS
  unfold BoolRet at RI RJ
  rw [fits_iff] at RJ
  unfold V.agg at R1 R4 RM RS RI RJ
  rw [← HS1.out] at R1
  generalize (⟨(cborB t4).toArray⟩ : ByteArray) = s4 at *
  generalize decide (cborB t5 ≠ []) = fb at *
  have n1 := str_ne_self s1
  have n2 := str_ne_self s2
  clear D1 D2 D3 D4 D5 D6 P2 MS CI
  obtain ⟨cA10, cA11, cA12, cA13, cA14⟩ := A1.out.1.cells
  obtain ⟨cA20, cA21, cA22, cA23, cA24⟩ := A2.out.1.cells
  obtain ⟨cA30, cA31, cA32, cA33, cA34⟩ := A3.out.1.cells
  obtain ⟨cA50, cA51, cA52, cA53, cA54⟩ := A5.out.1.cells
  obtain ⟨cA40, cA41, cA42, cA43, cA44⟩ := A4.out.1.cells
  have hbd : Below w17.heap.size w17 w17.drew := (Below.refl _ _).drew
  first | (go_region_held3 (fun W' => W'.cell? ⟨b1, 0, none⟩ = some (.int .i64 t1.k) ∧ W'.cell? ⟨b1, 1, none⟩ = some (.int .i64 t1.n) ∧ W'.cell? ⟨b1, 2, none⟩ = some (.int .i64 t1.e) ∧ W'.cell? ⟨b1, 3, none⟩ = some (.string t1.s) ∧ W'.cell? ⟨b1, 4, none⟩ = some (.slice a1 t1.kids.length q1) ∧ W'.cell? ⟨b2, 0, none⟩ = some (.int .i64 xx.k) ∧ W'.cell? ⟨b2, 1, none⟩ = some (.int .i64 xx.n) ∧ W'.cell? ⟨b2, 2, none⟩ = some (.int .i64 xx.e) ∧ W'.cell? ⟨b2, 3, none⟩ = some (.string xx.s) ∧ W'.cell? ⟨b2, 4, none⟩ = some (.slice a2 xx.kids.length q2) ∧ W'.cell? ⟨b3, 0, none⟩ = some (.int .i64 xx.k) ∧ W'.cell? ⟨b3, 1, none⟩ = some (.int .i64 xx.n) ∧ W'.cell? ⟨b3, 2, none⟩ = some (.int .i64 xx.e) ∧ W'.cell? ⟨b3, 3, none⟩ = some (.string xx.s) ∧ W'.cell? ⟨b3, 4, none⟩ = some (.slice a3 xx.kids.length q3) ∧ W'.cell? ⟨b5, 0, none⟩ = some (.int .i64 t5.k) ∧ W'.cell? ⟨b5, 1, none⟩ = some (.int .i64 t5.n) ∧ W'.cell? ⟨b5, 2, none⟩ = some (.int .i64 t5.e) ∧ W'.cell? ⟨b5, 3, none⟩ = some (.string t5.s) ∧ W'.cell? ⟨b5, 4, none⟩ = some (.slice a5 t5.kids.length q5) ∧ W'.cell? ⟨b4, 0, none⟩ = some (.int .i64 t4.k) ∧ W'.cell? ⟨b4, 1, none⟩ = some (.int .i64 t4.n) ∧ W'.cell? ⟨b4, 2, none⟩ = some (.int .i64 t4.e) ∧ W'.cell? ⟨b4, 3, none⟩ = some (.string t4.s) ∧ W'.cell? ⟨b4, 4, none⟩ = some (.slice a4 t4.kids.length q4) ∧ Below w17.heap.size w17 W') (first | with_reducible exact ⟨by assumption, by assumption, by assumption, by assumption, by assumption, by assumption, by assumption, by assumption, by assumption, by assumption, by assumption, by assumption, by assumption, by assumption, by assumption, by assumption, by assumption, by assumption, by assumption, by assumption, by assumption, by assumption, by assumption, by assumption, by assumption, by assumption⟩ | with_reducible assumption | with_reducible exact ⟨cA10, cA11, cA12, cA13, cA14, cA20, cA21, cA22, cA23, cA24, cA30, cA31, cA32, cA33, cA34, cA50, cA51, cA52, cA53, cA54, cA40, cA41, cA42, cA43, cA44, hbd⟩ | with_reducible exact ⟨cA10, cA11, cA12, cA13, cA14, cA20, cA21, cA22, cA23, cA24, cA30, cA31, cA32, cA33, cA34, cA50, cA51, cA52, cA53, cA54, cA40, cA41, cA42, cA43, cA44, Below.refl _ _⟩ | go_keep) (((first | with_reducible refine (R1.out _ (by with_reducible assumption)).mono ?_ | with_reducible refine (R4.out _ (by with_reducible assumption)).mono ?_ | with_reducible refine (RM.out _ (by with_reducible assumption)).mono ?_ | with_reducible refine (RS.out _ (by with_reducible assumption)).mono ?_ | with_reducible refine (RW.out _ (by with_reducible assumption)).mono ?_ | with_reducible refine (RI.out _ (by with_reducible assumption)).mono ?_ | with_reducible refine (RJ.out _ (by with_reducible assumption)).mono ?_); rintro e18 w18 ⟨rfl, hb18⟩; have hS := keepc25 hb18 (by with_reducible assumption); obtain ⟨hS0, hS1, hS2, hS3, hS4, hS5, hS6, hS7, hS8, hS9, hS10, hS11, hS12, hS13, hS14, hS15, hS16, hS17, hS18, hS19, hS20, hS21, hS22, hS23, hS24, hS25⟩ := hS))) | fail
  clear cA10 cA11 cA12 cA13 cA14 cA20 cA21 cA22 cA23 cA24 cA30 cA31 cA32 cA33 cA34 cA50 cA51 cA52 cA53 cA54 cA40 cA41 cA42 cA43 cA44 n2 R1 R4 RM RS RW RI RJ
  have hbr := hS25
  clear hS0 hS1 hS2 hS3 hS4 hS5 hS6 hS7 hS8 hS9 hS10 hS11 hS12 hS13 hS14 hS15 hS16 hS17 hS18 hS19 hS20 hS21 hS22 hS23 hS24
  replace HB := Lib.hid (HB.out.trans (hbr.mono HB.out.size))
  replace A1 := Lib.hid (A1.out.stay hbr)
  replace A2 := Lib.hid (A2.out.stay hbr)
  replace A3 := Lib.hid (A3.out.stay hbr)
  replace A5 := Lib.hid (A5.out.stay hbr)
  replace A4 := Lib.hid (A4.out.stay hbr)
  clear hbr
  clear A3 A4 A5
  go_upto_region 17 with fail
  go_cut [159] (fun s wx => s = .bool false ∧ Below w18.heap.size w18 wx)
  case first =>
    by_cases hx : 0 ≤ ga
    · by_cases hr : 0 ≤ r2
      · skip
        obtain ⟨ja, jb, rfl, rfl, hj1, hj2, hj3, hj4, hj5⟩ := HHO.out hx
        have RP := Lib.hid (fun (W : World) (hW : W.cell? ⟨b2, 0, none⟩ = some (.int .i64 xx.k) ∧ W.cell? ⟨b2, 1, none⟩ = some (.int .i64 xx.n) ∧ W.cell? ⟨b2, 2, none⟩ = some (.int .i64 xx.e) ∧ W.cell? ⟨b2, 3, none⟩ = some (.string xx.s) ∧ W.cell? ⟨b2, 4, none⟩ = some (.slice a2 xx.kids.length q2) ∧ Below w18.heap.size w18 W) => PutHead_ib gc gb W hj3 hj4)
        unfold TxtRet bstr at RP
        rw [hj5] at RP
        have n5 := str_ne_self (g.extract ja jb)
        have hj6 : (ja : Int) ≤ (jb : Int) := by omega
        have hj7 : (jb : Int) ≤ (g.size : Int) := by omega
        clear hj5
        obtain ⟨ka, kb, rfl, rfl, hk1, hk2, hk3⟩ := HOWN.out hr
        have RX := Lib.hid (fun (W : World) (hW : W.cell? ⟨b2, 0, none⟩ = some (.int .i64 xx.k) ∧ W.cell? ⟨b2, 1, none⟩ = some (.int .i64 xx.n) ∧ W.cell? ⟨b2, 2, none⟩ = some (.int .i64 xx.e) ∧ W.cell? ⟨b2, 3, none⟩ = some (.string xx.s) ∧ W.cell? ⟨b2, 4, none⟩ = some (.slice a2 xx.kids.length q2) ∧ Below w18.heap.size w18 W) => PM.out _ W HB.out (hW.2.2.2.2.2) _ xx A2.out.2 (by omega))
        unfold TxtRet bstr V.agg at RX
        rw [hk3] at RX
        have n3 := str_ne_self (u.extract ka kb)
        have hk4 : (ka : Int) ≤ (kb : Int) := by omega
        have hk5 : (kb : Int) ≤ (u.size : Int) := by omega
        clear hk3
        clear HOWN HNEG HHO HHN
        obtain ⟨cA20, cA21, cA22, cA23, cA24⟩ := A2.out.1.cells
        refine wp_region_held_drew (S := (fun W' => W'.cell? ⟨b2, 0, none⟩ = some (.int .i64 xx.k) ∧ W'.cell? ⟨b2, 1, none⟩ = some (.int .i64 xx.n) ∧ W'.cell? ⟨b2, 2, none⟩ = some (.int .i64 xx.e) ∧ W'.cell? ⟨b2, 3, none⟩ = some (.string xx.s) ∧ W'.cell? ⟨b2, 4, none⟩ = some (.slice a2 xx.kids.length q2) ∧ Below w18.heap.size w18 W')) (by kernel_rfl) ?_ (fun hHeld => ?_)
        · exact ⟨cA20, cA21, cA22, cA23, cA24, (Below.refl _ _).drew⟩
        clear cA20 cA21 cA22 cA23 cA24
        refine wpAnyH_take (i := 0) (v := ?_) rfl (by kernel_rfl) (by kernel_rfl) (by kernel_rfl) (fun _ _ _ h => h) (Or.inl ⟨by rfl, ?_⟩) hHeld ?_
        rotate_left
        · (intro w hSw; (try dsimp only at hSw); (try simp only [List.getElem_toArray, List.getElem_cons_succ, List.getElem_cons_zero]); go_simp <;> with_reducible rfl)
        try simp only [List.getElem_toArray, List.getElem_cons_succ, List.getElem_cons_zero, Act.put, List.setIfInBounds_toArray, List.set_cons_zero, List.set_cons_succ]
        refine wpAnyH_take (i := 1) (v := ?_) rfl (by kernel_rfl) (by kernel_rfl) (by kernel_rfl) (fun _ _ _ h => h) (Or.inl ⟨by rfl, ?_⟩) hHeld ?_
        rotate_left
        · (intro w hSw; (try dsimp only at hSw); (try simp only [List.getElem_toArray, List.getElem_cons_succ, List.getElem_cons_zero]); go_simp <;> with_reducible rfl)
        try simp only [List.getElem_toArray, List.getElem_cons_succ, List.getElem_cons_zero, Act.put, List.setIfInBounds_toArray, List.set_cons_zero, List.set_cons_succ]
        refine wpAnyH_take (i := 2) (v := ?_) rfl (by kernel_rfl) (by kernel_rfl) (by kernel_rfl) (fun _ _ _ h => h) (Or.inl ⟨by rfl, ?_⟩) hHeld ?_
        rotate_left
        · (intro w hSw; (try dsimp only at hSw); (try simp only [List.getElem_toArray, List.getElem_cons_succ, List.getElem_cons_zero]); go_simp <;> with_reducible rfl)
        try simp only [List.getElem_toArray, List.getElem_cons_succ, List.getElem_cons_zero, Act.put, List.setIfInBounds_toArray, List.set_cons_zero, List.set_cons_succ]
        refine wpAnyH_take (i := 3) (v := ?_) rfl (by kernel_rfl) (by kernel_rfl) (by kernel_rfl) (fun _ _ _ h => h) (Or.inl ⟨by rfl, ?_⟩) hHeld ?_
        rotate_left
        · (intro w hSw; (try dsimp only at hSw); (try simp only [List.getElem_toArray, List.getElem_cons_succ, List.getElem_cons_zero]); go_simp <;> with_reducible rfl)
        try simp only [List.getElem_toArray, List.getElem_cons_succ, List.getElem_cons_zero, Act.put, List.setIfInBounds_toArray, List.set_cons_zero, List.set_cons_succ]
        refine wpAnyH_take (i := 4) (v := ?_) rfl (by kernel_rfl) (by kernel_rfl) (by kernel_rfl) (fun _ _ _ h => h) (Or.inl ⟨by rfl, ?_⟩) hHeld ?_
        rotate_left
        · (intro w hSw; (try dsimp only at hSw); (try simp only [List.getElem_toArray, List.getElem_cons_succ, List.getElem_cons_zero]); go_simp <;> with_reducible rfl)
        try simp only [List.getElem_toArray, List.getElem_cons_succ, List.getElem_cons_zero, Act.put, List.setIfInBounds_toArray, List.set_cons_zero, List.set_cons_succ]
        refine wpAnyH_take (i := 6) (v := ?_) rfl (by kernel_rfl) (by kernel_rfl) (by kernel_rfl) (fun _ _ _ h => h) (Or.inl ⟨by rfl, ?_⟩) hHeld ?_
        rotate_left
        · (intro w hSw; (try dsimp only at hSw); (try simp only [List.getElem_toArray, List.getElem_cons_succ, List.getElem_cons_zero]); go_simp <;> with_reducible rfl)
        try simp only [List.getElem_toArray, List.getElem_cons_succ, List.getElem_cons_zero, Act.put, List.setIfInBounds_toArray, List.set_cons_zero, List.set_cons_succ]
        refine wpAnyH_take (i := 7) (v := ?_) rfl (by kernel_rfl) (by kernel_rfl) (by kernel_rfl) (fun _ _ _ h => h) (Or.inl ⟨by rfl, ?_⟩) hHeld ?_
        rotate_left
        · (intro w hSw; (try dsimp only at hSw); (try simp only [List.getElem_toArray, List.getElem_cons_succ, List.getElem_cons_zero]); go_simp <;> with_reducible rfl)
        try simp only [List.getElem_toArray, List.getElem_cons_succ, List.getElem_cons_zero, Act.put, List.setIfInBounds_toArray, List.set_cons_zero, List.set_cons_succ]
        refine wpAnyH_take (i := 8) (v := ?_) rfl (by kernel_rfl) (by kernel_rfl) (by kernel_rfl) (fun _ _ _ h => h) (Or.inl ⟨by rfl, ?_⟩) hHeld ?_
        rotate_left
        · (intro w hSw; (try dsimp only at hSw); (try simp only [List.getElem_toArray, List.getElem_cons_succ, List.getElem_cons_zero]); go_simp <;> with_reducible rfl)
        try simp only [List.getElem_toArray, List.getElem_cons_succ, List.getElem_cons_zero, Act.put, List.setIfInBounds_toArray, List.set_cons_zero, List.set_cons_succ]
        refine wpAnyH_take (i := 9) (v := ?_) rfl (by kernel_rfl) (by kernel_rfl) (by kernel_rfl) (fun _ _ _ h => h) (Or.inl ⟨by rfl, ?_⟩) hHeld ?_
        rotate_left
        · (intro w hSw; (try dsimp only at hSw); (try simp only [List.getElem_toArray, List.getElem_cons_succ, List.getElem_cons_zero]); go_simp <;> with_reducible rfl)
        try simp only [List.getElem_toArray, List.getElem_cons_succ, List.getElem_cons_zero, Act.put, List.setIfInBounds_toArray, List.set_cons_zero, List.set_cons_succ]
        refine wpAnyH_ready (rs := [5]) (by kernel_rfl) (by simp) ?_
        refine AllReadyH.cons rfl (fun K hK => ?_) AllReadyH.nil
        go_simp
        refine (RP.out _ hHeld).mono ?_
        rintro e19 w19 ⟨rfl, hb19⟩
        refine hK.out _ _ ?_ (fun hHeld => ?_)
        · exact keepc5 hb19 hHeld
        clear hK K hb19
        try simp only [List.getElem_toArray, List.getElem_cons_succ, List.getElem_cons_zero, Act.put, List.setIfInBounds_toArray, List.set_cons_zero, List.set_cons_succ]
        refine wpAnyH_take (i := 10) (v := ?_) rfl (by kernel_rfl) (by kernel_rfl) (by kernel_rfl) (fun _ _ _ h => h) (Or.inl ⟨by rfl, ?_⟩) hHeld ?_
        rotate_left
        · (intro w hSw; (try dsimp only at hSw); (try simp only [List.getElem_toArray, List.getElem_cons_succ, List.getElem_cons_zero]); go_simp <;> with_reducible rfl)
        try simp only [List.getElem_toArray, List.getElem_cons_succ, List.getElem_cons_zero, Act.put, List.setIfInBounds_toArray, List.set_cons_zero, List.set_cons_succ]
        refine wpAnyH_take (i := 11) (v := ?_) rfl (by kernel_rfl) (by kernel_rfl) (by kernel_rfl) (fun _ _ _ h => h) (Or.inl ⟨by rfl, ?_⟩) hHeld ?_
        rotate_left
        · (intro w hSw; (try dsimp only at hSw); (try simp only [List.getElem_toArray, List.getElem_cons_succ, List.getElem_cons_zero]); go_simp <;> with_reducible rfl)
        try simp only [List.getElem_toArray, List.getElem_cons_succ, List.getElem_cons_zero, Act.put, List.setIfInBounds_toArray, List.set_cons_zero, List.set_cons_succ]
        refine wpAnyH_take (i := 12) (v := ?_) rfl (by kernel_rfl) (by kernel_rfl) (by kernel_rfl) (fun _ _ _ h => h) (Or.inl ⟨by rfl, ?_⟩) hHeld ?_
        rotate_left
        · (intro w hSw; (try dsimp only at hSw); (try simp only [List.getElem_toArray, List.getElem_cons_succ, List.getElem_cons_zero]); go_simp <;> with_reducible rfl)
        try simp only [List.getElem_toArray, List.getElem_cons_succ, List.getElem_cons_zero, Act.put, List.setIfInBounds_toArray, List.set_cons_zero, List.set_cons_succ]
        refine wpAnyH_take (i := 13) (v := ?_) rfl (by kernel_rfl) (by kernel_rfl) (by kernel_rfl) (fun _ _ _ h => h) (Or.inl ⟨by rfl, ?_⟩) hHeld ?_
        rotate_left
        · (intro w hSw; (try dsimp only at hSw); (try simp only [List.getElem_toArray, List.getElem_cons_succ, List.getElem_cons_zero]); go_simp <;> with_reducible rfl)
        try simp only [List.getElem_toArray, List.getElem_cons_succ, List.getElem_cons_zero, Act.put, List.setIfInBounds_toArray, List.set_cons_zero, List.set_cons_succ]
        refine wpAnyH_take (i := 14) (v := ?_) rfl (by kernel_rfl) (by kernel_rfl) (by kernel_rfl) (fun _ _ _ h => h) (Or.inl ⟨by rfl, ?_⟩) hHeld ?_
        rotate_left
        · (intro w hSw; (try dsimp only at hSw); (try simp only [List.getElem_toArray, List.getElem_cons_succ, List.getElem_cons_zero]); go_simp <;> with_reducible rfl)
        try simp only [List.getElem_toArray, List.getElem_cons_succ, List.getElem_cons_zero, Act.put, List.setIfInBounds_toArray, List.set_cons_zero, List.set_cons_succ]
        refine wpAnyH_take (i := 15) (v := ?_) rfl (by kernel_rfl) (by kernel_rfl) (by kernel_rfl) (fun _ _ _ h => h) (Or.inl ⟨by rfl, ?_⟩) hHeld ?_
        rotate_left
        · (intro w hSw; (try dsimp only at hSw); (try simp only [List.getElem_toArray, List.getElem_cons_succ, List.getElem_cons_zero]); go_simp <;> with_reducible rfl)
        try simp only [List.getElem_toArray, List.getElem_cons_succ, List.getElem_cons_zero, Act.put, List.setIfInBounds_toArray, List.set_cons_zero, List.set_cons_succ]
        refine wpAnyH_take (i := 16) (v := ?_) rfl (by kernel_rfl) (by kernel_rfl) (by kernel_rfl) (fun _ _ _ h => h) (Or.inl ⟨by rfl, ?_⟩) hHeld ?_
        rotate_left
        · (intro w hSw; (try dsimp only at hSw); (try simp only [List.getElem_toArray, List.getElem_cons_succ, List.getElem_cons_zero]); go_simp <;> with_reducible rfl)
        try simp only [List.getElem_toArray, List.getElem_cons_succ, List.getElem_cons_zero, Act.put, List.setIfInBounds_toArray, List.set_cons_zero, List.set_cons_succ]
        refine wpAnyH_take (i := 18) (v := ?_) rfl (by kernel_rfl) (by kernel_rfl) (by kernel_rfl) (fun _ _ _ h => h) (Or.inl ⟨by rfl, ?_⟩) hHeld ?_
        rotate_left
        · (intro w hSw; (try dsimp only at hSw); (try simp only [List.getElem_toArray, List.getElem_cons_succ, List.getElem_cons_zero]); go_simp <;> with_reducible rfl)
        try simp only [List.getElem_toArray, List.getElem_cons_succ, List.getElem_cons_zero, Act.put, List.setIfInBounds_toArray, List.set_cons_zero, List.set_cons_succ]
        refine wpAnyH_take (i := 19) (v := ?_) rfl (by kernel_rfl) (by kernel_rfl) (by kernel_rfl) (fun _ _ _ h => h) (Or.inl ⟨by rfl, ?_⟩) hHeld ?_
        rotate_left
        · (intro w hSw; (try dsimp only at hSw); (try simp only [List.getElem_toArray, List.getElem_cons_succ, List.getElem_cons_zero]); go_simp <;> with_reducible rfl)
        try simp only [List.getElem_toArray, List.getElem_cons_succ, List.getElem_cons_zero, Act.put, List.setIfInBounds_toArray, List.set_cons_zero, List.set_cons_succ]
        refine wpAnyH_take (i := 20) (v := ?_) rfl (by kernel_rfl) (by kernel_rfl) (by kernel_rfl) (fun _ _ _ h => h) (Or.inl ⟨by rfl, ?_⟩) hHeld ?_
        rotate_left
        · (intro w hSw; (try dsimp only at hSw); (try simp only [List.getElem_toArray, List.getElem_cons_succ, List.getElem_cons_zero]); go_simp <;> with_reducible rfl)
        try simp only [List.getElem_toArray, List.getElem_cons_succ, List.getElem_cons_zero, Act.put, List.setIfInBounds_toArray, List.set_cons_zero, List.set_cons_succ]
        refine wpAnyH_take (i := 21) (v := ?_) rfl (by kernel_rfl) (by kernel_rfl) (by kernel_rfl) (fun _ _ _ h => h) (Or.inl ⟨by rfl, ?_⟩) hHeld ?_
        rotate_left
        · (intro w hSw; (try dsimp only at hSw); (try simp only [List.getElem_toArray, List.getElem_cons_succ, List.getElem_cons_zero]); go_simp <;> with_reducible rfl)
        try simp only [List.getElem_toArray, List.getElem_cons_succ, List.getElem_cons_zero, Act.put, List.setIfInBounds_toArray, List.set_cons_zero, List.set_cons_succ]
        refine wpAnyH_ready (rs := [17]) (by kernel_rfl) (by simp) ?_
        refine AllReadyH.cons rfl (fun K hK => ?_) AllReadyH.nil
        go_simp
        refine (RX.out _ hHeld).mono ?_
        rintro e20 w20 ⟨rfl, hb20⟩
        refine hK.out _ _ ?_ (fun hHeld => ?_)
        · exact keepc5 hb20 hHeld
        clear hK K hb20
        try simp only [List.getElem_toArray, List.getElem_cons_succ, List.getElem_cons_zero, Act.put, List.setIfInBounds_toArray, List.set_cons_zero, List.set_cons_succ]
        refine wpAnyH_take (i := 22) (v := ?_) rfl (by kernel_rfl) (by kernel_rfl) (by kernel_rfl) (fun _ _ _ h => h) (Or.inl ⟨by rfl, ?_⟩) hHeld ?_
        rotate_left
        · (intro w hSw; (try dsimp only at hSw); (try simp only [List.getElem_toArray, List.getElem_cons_succ, List.getElem_cons_zero]); go_simp <;> with_reducible rfl)
        try simp only [List.getElem_toArray, List.getElem_cons_succ, List.getElem_cons_zero, Act.put, List.setIfInBounds_toArray, List.set_cons_zero, List.set_cons_succ]
        refine wpAnyH_take (i := 23) (v := ?_) rfl (by kernel_rfl) (by kernel_rfl) (by kernel_rfl) (fun _ _ _ h => h) (Or.inl ⟨by rfl, ?_⟩) hHeld ?_
        rotate_left
        · (intro w hSw; (try dsimp only at hSw); (try simp only [List.getElem_toArray, List.getElem_cons_succ, List.getElem_cons_zero]); go_simp <;> with_reducible rfl)
        try simp only [List.getElem_toArray, List.getElem_cons_succ, List.getElem_cons_zero, Act.put, List.setIfInBounds_toArray, List.set_cons_zero, List.set_cons_succ]
        refine wpAnyH_take (i := 24) (v := ?_) rfl (by kernel_rfl) (by kernel_rfl) (by kernel_rfl) (fun _ _ _ h => h) (Or.inl ⟨by rfl, ?_⟩) hHeld ?_
        rotate_left
        · (intro w hSw; (try dsimp only at hSw); (try simp only [List.getElem_toArray, List.getElem_cons_succ, List.getElem_cons_zero]); go_simp <;> with_reducible rfl)
        try simp only [List.getElem_toArray, List.getElem_cons_succ, List.getElem_cons_zero, Act.put, List.setIfInBounds_toArray, List.set_cons_zero, List.set_cons_succ]
        refine wpAnyH_done (by kernel_rfl) ?_ _
        go_wp2_with fail
        go_meet
        exact ⟨rfl, hHeld.2.2.2.2.2⟩
      · skip
        obtain ⟨ja, jb, rfl, rfl, hj1, hj2, hj3, hj4, hj5⟩ := HHO.out hx
        have RP := Lib.hid (fun (W : World) (hW : W.cell? ⟨b2, 0, none⟩ = some (.int .i64 xx.k) ∧ W.cell? ⟨b2, 1, none⟩ = some (.int .i64 xx.n) ∧ W.cell? ⟨b2, 2, none⟩ = some (.int .i64 xx.e) ∧ W.cell? ⟨b2, 3, none⟩ = some (.string xx.s) ∧ W.cell? ⟨b2, 4, none⟩ = some (.slice a2 xx.kids.length q2) ∧ Below w18.heap.size w18 W) => PutHead_ib gc gb W hj3 hj4)
        unfold TxtRet bstr at RP
        rw [hj5] at RP
        have n5 := str_ne_self (g.extract ja jb)
        have hj6 : (ja : Int) ≤ (jb : Int) := by omega
        have hj7 : (jb : Int) ≤ (g.size : Int) := by omega
        clear hj5
        obtain rfl := HNEG.out (by omega)
        clear hr
        clear HOWN HNEG HHO HHN
        obtain ⟨cA20, cA21, cA22, cA23, cA24⟩ := A2.out.1.cells
        refine wp_region_held_drew (S := (fun W' => W'.cell? ⟨b2, 0, none⟩ = some (.int .i64 xx.k) ∧ W'.cell? ⟨b2, 1, none⟩ = some (.int .i64 xx.n) ∧ W'.cell? ⟨b2, 2, none⟩ = some (.int .i64 xx.e) ∧ W'.cell? ⟨b2, 3, none⟩ = some (.string xx.s) ∧ W'.cell? ⟨b2, 4, none⟩ = some (.slice a2 xx.kids.length q2) ∧ Below w18.heap.size w18 W')) (by kernel_rfl) ?_ (fun hHeld => ?_)
        · exact ⟨cA20, cA21, cA22, cA23, cA24, (Below.refl _ _).drew⟩
        clear cA20 cA21 cA22 cA23 cA24
        refine wpAnyH_take (i := 0) (v := ?_) rfl (by kernel_rfl) (by kernel_rfl) (by kernel_rfl) (fun _ _ _ h => h) (Or.inl ⟨by rfl, ?_⟩) hHeld ?_
        rotate_left
        · (intro w hSw; (try dsimp only at hSw); (try simp only [List.getElem_toArray, List.getElem_cons_succ, List.getElem_cons_zero]); go_simp <;> with_reducible rfl)
        try simp only [List.getElem_toArray, List.getElem_cons_succ, List.getElem_cons_zero, Act.put, List.setIfInBounds_toArray, List.set_cons_zero, List.set_cons_succ]
        refine wpAnyH_take (i := 1) (v := ?_) rfl (by kernel_rfl) (by kernel_rfl) (by kernel_rfl) (fun _ _ _ h => h) (Or.inl ⟨by rfl, ?_⟩) hHeld ?_
        rotate_left
        · (intro w hSw; (try dsimp only at hSw); (try simp only [List.getElem_toArray, List.getElem_cons_succ, List.getElem_cons_zero]); go_simp <;> with_reducible rfl)
        try simp only [List.getElem_toArray, List.getElem_cons_succ, List.getElem_cons_zero, Act.put, List.setIfInBounds_toArray, List.set_cons_zero, List.set_cons_succ]
        refine wpAnyH_take (i := 2) (v := ?_) rfl (by kernel_rfl) (by kernel_rfl) (by kernel_rfl) (fun _ _ _ h => h) (Or.inl ⟨by rfl, ?_⟩) hHeld ?_
        rotate_left
        · (intro w hSw; (try dsimp only at hSw); (try simp only [List.getElem_toArray, List.getElem_cons_succ, List.getElem_cons_zero]); go_simp <;> with_reducible rfl)
        try simp only [List.getElem_toArray, List.getElem_cons_succ, List.getElem_cons_zero, Act.put, List.setIfInBounds_toArray, List.set_cons_zero, List.set_cons_succ]
        refine wpAnyH_take (i := 3) (v := ?_) rfl (by kernel_rfl) (by kernel_rfl) (by kernel_rfl) (fun _ _ _ h => h) (Or.inl ⟨by rfl, ?_⟩) hHeld ?_
        rotate_left
        · (intro w hSw; (try dsimp only at hSw); (try simp only [List.getElem_toArray, List.getElem_cons_succ, List.getElem_cons_zero]); go_simp <;> with_reducible rfl)
        try simp only [List.getElem_toArray, List.getElem_cons_succ, List.getElem_cons_zero, Act.put, List.setIfInBounds_toArray, List.set_cons_zero, List.set_cons_succ]
        refine wpAnyH_take (i := 4) (v := ?_) rfl (by kernel_rfl) (by kernel_rfl) (by kernel_rfl) (fun _ _ _ h => h) (Or.inl ⟨by rfl, ?_⟩) hHeld ?_
        rotate_left
        · (intro w hSw; (try dsimp only at hSw); (try simp only [List.getElem_toArray, List.getElem_cons_succ, List.getElem_cons_zero]); go_simp <;> with_reducible rfl)
        try simp only [List.getElem_toArray, List.getElem_cons_succ, List.getElem_cons_zero, Act.put, List.setIfInBounds_toArray, List.set_cons_zero, List.set_cons_succ]
        refine wpAnyH_take (i := 6) (v := ?_) rfl (by kernel_rfl) (by kernel_rfl) (by kernel_rfl) (fun _ _ _ h => h) (Or.inl ⟨by rfl, ?_⟩) hHeld ?_
        rotate_left
        · (intro w hSw; (try dsimp only at hSw); (try simp only [List.getElem_toArray, List.getElem_cons_succ, List.getElem_cons_zero]); go_simp <;> with_reducible rfl)
        try simp only [List.getElem_toArray, List.getElem_cons_succ, List.getElem_cons_zero, Act.put, List.setIfInBounds_toArray, List.set_cons_zero, List.set_cons_succ]
        refine wpAnyH_take (i := 7) (v := ?_) rfl (by kernel_rfl) (by kernel_rfl) (by kernel_rfl) (fun _ _ _ h => h) (Or.inl ⟨by rfl, ?_⟩) hHeld ?_
        rotate_left
        · (intro w hSw; (try dsimp only at hSw); (try simp only [List.getElem_toArray, List.getElem_cons_succ, List.getElem_cons_zero]); go_simp <;> with_reducible rfl)
        try simp only [List.getElem_toArray, List.getElem_cons_succ, List.getElem_cons_zero, Act.put, List.setIfInBounds_toArray, List.set_cons_zero, List.set_cons_succ]
        refine wpAnyH_take (i := 8) (v := ?_) rfl (by kernel_rfl) (by kernel_rfl) (by kernel_rfl) (fun _ _ _ h => h) (Or.inl ⟨by rfl, ?_⟩) hHeld ?_
        rotate_left
        · (intro w hSw; (try dsimp only at hSw); (try simp only [List.getElem_toArray, List.getElem_cons_succ, List.getElem_cons_zero]); go_simp <;> with_reducible rfl)
        try simp only [List.getElem_toArray, List.getElem_cons_succ, List.getElem_cons_zero, Act.put, List.setIfInBounds_toArray, List.set_cons_zero, List.set_cons_succ]
        refine wpAnyH_take (i := 9) (v := ?_) rfl (by kernel_rfl) (by kernel_rfl) (by kernel_rfl) (fun _ _ _ h => h) (Or.inl ⟨by rfl, ?_⟩) hHeld ?_
        rotate_left
        · (intro w hSw; (try dsimp only at hSw); (try simp only [List.getElem_toArray, List.getElem_cons_succ, List.getElem_cons_zero]); go_simp <;> with_reducible rfl)
        try simp only [List.getElem_toArray, List.getElem_cons_succ, List.getElem_cons_zero, Act.put, List.setIfInBounds_toArray, List.set_cons_zero, List.set_cons_succ]
        refine wpAnyH_ready (rs := [5]) (by kernel_rfl) (by simp) ?_
        refine AllReadyH.cons rfl (fun K hK => ?_) AllReadyH.nil
        go_simp
        refine (RP.out _ hHeld).mono ?_
        rintro e19 w19 ⟨rfl, hb19⟩
        refine hK.out _ _ ?_ (fun hHeld => ?_)
        · exact keepc5 hb19 hHeld
        clear hK K hb19
        try simp only [List.getElem_toArray, List.getElem_cons_succ, List.getElem_cons_zero, Act.put, List.setIfInBounds_toArray, List.set_cons_zero, List.set_cons_succ]
        refine wpAnyH_take (i := 10) (v := ?_) rfl (by kernel_rfl) (by kernel_rfl) (by kernel_rfl) (fun _ _ _ h => h) (Or.inl ⟨by rfl, ?_⟩) hHeld ?_
        rotate_left
        · (intro w hSw; (try dsimp only at hSw); (try simp only [List.getElem_toArray, List.getElem_cons_succ, List.getElem_cons_zero]); go_simp <;> with_reducible rfl)
        try simp only [List.getElem_toArray, List.getElem_cons_succ, List.getElem_cons_zero, Act.put, List.setIfInBounds_toArray, List.set_cons_zero, List.set_cons_succ]
        refine wpAnyH_take (i := 11) (v := ?_) rfl (by kernel_rfl) (by kernel_rfl) (by kernel_rfl) (fun _ _ _ h => h) (Or.inl ⟨by rfl, ?_⟩) hHeld ?_
        rotate_left
        · (intro w hSw; (try dsimp only at hSw); (try simp only [List.getElem_toArray, List.getElem_cons_succ, List.getElem_cons_zero]); go_simp <;> with_reducible rfl)
        try simp only [List.getElem_toArray, List.getElem_cons_succ, List.getElem_cons_zero, Act.put, List.setIfInBounds_toArray, List.set_cons_zero, List.set_cons_succ]
        refine wpAnyH_take (i := 12) (v := ?_) rfl (by kernel_rfl) (by kernel_rfl) (by kernel_rfl) (fun _ _ _ h => h) (Or.inl ⟨by rfl, ?_⟩) hHeld ?_
        rotate_left
        · (intro w hSw; (try dsimp only at hSw); (try simp only [List.getElem_toArray, List.getElem_cons_succ, List.getElem_cons_zero]); go_simp <;> with_reducible rfl)
        try simp only [List.getElem_toArray, List.getElem_cons_succ, List.getElem_cons_zero, Act.put, List.setIfInBounds_toArray, List.set_cons_zero, List.set_cons_succ]
        refine wpAnyH_take (i := 13) (v := ?_) rfl (by kernel_rfl) (by kernel_rfl) (by kernel_rfl) (fun _ _ _ h => h) (Or.inl ⟨by rfl, ?_⟩) hHeld ?_
        rotate_left
        · (intro w hSw; (try dsimp only at hSw); (try simp only [List.getElem_toArray, List.getElem_cons_succ, List.getElem_cons_zero]); go_simp <;> with_reducible rfl)
        try simp only [List.getElem_toArray, List.getElem_cons_succ, List.getElem_cons_zero, Act.put, List.setIfInBounds_toArray, List.set_cons_zero, List.set_cons_succ]
        refine wpAnyH_take (i := 14) (v := ?_) rfl (by kernel_rfl) (by kernel_rfl) (by kernel_rfl) (fun _ _ _ h => h) (Or.inl ⟨by rfl, ?_⟩) hHeld ?_
        rotate_left
        · (intro w hSw; (try dsimp only at hSw); (try simp only [List.getElem_toArray, List.getElem_cons_succ, List.getElem_cons_zero]); go_simp <;> with_reducible rfl)
        try simp only [List.getElem_toArray, List.getElem_cons_succ, List.getElem_cons_zero, Act.put, List.setIfInBounds_toArray, List.set_cons_zero, List.set_cons_succ]
        refine wpAnyH_take (i := 15) (v := ?_) rfl (by kernel_rfl) (by kernel_rfl) (by kernel_rfl) (fun _ _ _ h => h) (Or.inl ⟨by rfl, ?_⟩) hHeld ?_
        rotate_left
        · (intro w hSw; (try dsimp only at hSw); (try simp only [List.getElem_toArray, List.getElem_cons_succ, List.getElem_cons_zero]); go_simp <;> with_reducible rfl)
        try simp only [List.getElem_toArray, List.getElem_cons_succ, List.getElem_cons_zero, Act.put, List.setIfInBounds_toArray, List.set_cons_zero, List.set_cons_succ]
        refine wpAnyH_take (i := 16) (v := undef) rfl (by kernel_rfl) (by kernel_rfl) (by kernel_rfl) (fun _ _ _ h => h) (Or.inr ⟨by rfl, rfl⟩) hHeld ?_
        try simp only [List.getElem_toArray, List.getElem_cons_succ, List.getElem_cons_zero, Act.put, List.setIfInBounds_toArray, List.set_cons_zero, List.set_cons_succ]
        refine wpAnyH_take (i := 17) (v := undef) rfl (by kernel_rfl) (by kernel_rfl) (by kernel_rfl) (fun _ _ _ h => h) (Or.inr ⟨by rfl, rfl⟩) hHeld ?_
        try simp only [List.getElem_toArray, List.getElem_cons_succ, List.getElem_cons_zero, Act.put, List.setIfInBounds_toArray, List.set_cons_zero, List.set_cons_succ]
        refine wpAnyH_take (i := 18) (v := undef) rfl (by kernel_rfl) (by kernel_rfl) (by kernel_rfl) (fun _ _ _ h => h) (Or.inr ⟨by rfl, rfl⟩) hHeld ?_
        try simp only [List.getElem_toArray, List.getElem_cons_succ, List.getElem_cons_zero, Act.put, List.setIfInBounds_toArray, List.set_cons_zero, List.set_cons_succ]
        refine wpAnyH_take (i := 19) (v := undef) rfl (by kernel_rfl) (by kernel_rfl) (by kernel_rfl) (fun _ _ _ h => h) (Or.inr ⟨by rfl, rfl⟩) hHeld ?_
        try simp only [List.getElem_toArray, List.getElem_cons_succ, List.getElem_cons_zero, Act.put, List.setIfInBounds_toArray, List.set_cons_zero, List.set_cons_succ]
        refine wpAnyH_take (i := 20) (v := undef) rfl (by kernel_rfl) (by kernel_rfl) (by kernel_rfl) (fun _ _ _ h => h) (Or.inr ⟨by rfl, rfl⟩) hHeld ?_
        try simp only [List.getElem_toArray, List.getElem_cons_succ, List.getElem_cons_zero, Act.put, List.setIfInBounds_toArray, List.set_cons_zero, List.set_cons_succ]
        refine wpAnyH_take (i := 21) (v := undef) rfl (by kernel_rfl) (by kernel_rfl) (by kernel_rfl) (fun _ _ _ h => h) (Or.inr ⟨by rfl, rfl⟩) hHeld ?_
        try simp only [List.getElem_toArray, List.getElem_cons_succ, List.getElem_cons_zero, Act.put, List.setIfInBounds_toArray, List.set_cons_zero, List.set_cons_succ]
        refine wpAnyH_take (i := 22) (v := undef) rfl (by kernel_rfl) (by kernel_rfl) (by kernel_rfl) (fun _ _ _ h => h) (Or.inr ⟨by rfl, rfl⟩) hHeld ?_
        try simp only [List.getElem_toArray, List.getElem_cons_succ, List.getElem_cons_zero, Act.put, List.setIfInBounds_toArray, List.set_cons_zero, List.set_cons_succ]
        refine wpAnyH_take (i := 23) (v := ?_) rfl (by kernel_rfl) (by kernel_rfl) (by kernel_rfl) (fun _ _ _ h => h) (Or.inl ⟨by rfl, ?_⟩) hHeld ?_
        rotate_left
        · (intro w hSw; (try dsimp only at hSw); (try simp only [List.getElem_toArray, List.getElem_cons_succ, List.getElem_cons_zero]); go_simp <;> with_reducible rfl)
        try simp only [List.getElem_toArray, List.getElem_cons_succ, List.getElem_cons_zero, Act.put, List.setIfInBounds_toArray, List.set_cons_zero, List.set_cons_succ]
        refine wpAnyH_take (i := 24) (v := ?_) rfl (by kernel_rfl) (by kernel_rfl) (by kernel_rfl) (fun _ _ _ h => h) (Or.inl ⟨by rfl, ?_⟩) hHeld ?_
        rotate_left
        · (intro w hSw; (try dsimp only at hSw); (try simp only [List.getElem_toArray, List.getElem_cons_succ, List.getElem_cons_zero]); go_simp <;> with_reducible rfl)
        try simp only [List.getElem_toArray, List.getElem_cons_succ, List.getElem_cons_zero, Act.put, List.setIfInBounds_toArray, List.set_cons_zero, List.set_cons_succ]
        refine wpAnyH_done (by kernel_rfl) ?_ _
        go_wp2_with fail
        go_meet
        exact ⟨rfl, hHeld.2.2.2.2.2⟩
    · by_cases hr : 0 ≤ r2
      · skip
        obtain rfl := HHN.out (by omega)
        clear hx
        obtain ⟨ka, kb, rfl, rfl, hk1, hk2, hk3⟩ := HOWN.out hr
        have RX := Lib.hid (fun (W : World) (hW : W.cell? ⟨b2, 0, none⟩ = some (.int .i64 xx.k) ∧ W.cell? ⟨b2, 1, none⟩ = some (.int .i64 xx.n) ∧ W.cell? ⟨b2, 2, none⟩ = some (.int .i64 xx.e) ∧ W.cell? ⟨b2, 3, none⟩ = some (.string xx.s) ∧ W.cell? ⟨b2, 4, none⟩ = some (.slice a2 xx.kids.length q2) ∧ Below w18.heap.size w18 W) => PM.out _ W HB.out (hW.2.2.2.2.2) _ xx A2.out.2 (by omega))
        unfold TxtRet bstr V.agg at RX
        rw [hk3] at RX
        have n3 := str_ne_self (u.extract ka kb)
        have hk4 : (ka : Int) ≤ (kb : Int) := by omega
        have hk5 : (kb : Int) ≤ (u.size : Int) := by omega
        clear hk3
        clear HOWN HNEG HHO HHN
        obtain ⟨cA20, cA21, cA22, cA23, cA24⟩ := A2.out.1.cells
        refine wp_region_held_drew (S := (fun W' => W'.cell? ⟨b2, 0, none⟩ = some (.int .i64 xx.k) ∧ W'.cell? ⟨b2, 1, none⟩ = some (.int .i64 xx.n) ∧ W'.cell? ⟨b2, 2, none⟩ = some (.int .i64 xx.e) ∧ W'.cell? ⟨b2, 3, none⟩ = some (.string xx.s) ∧ W'.cell? ⟨b2, 4, none⟩ = some (.slice a2 xx.kids.length q2) ∧ Below w18.heap.size w18 W')) (by kernel_rfl) ?_ (fun hHeld => ?_)
        · exact ⟨cA20, cA21, cA22, cA23, cA24, (Below.refl _ _).drew⟩
        clear cA20 cA21 cA22 cA23 cA24
        refine wpAnyH_take (i := 0) (v := ?_) rfl (by kernel_rfl) (by kernel_rfl) (by kernel_rfl) (fun _ _ _ h => h) (Or.inl ⟨by rfl, ?_⟩) hHeld ?_
        rotate_left
        · (intro w hSw; (try dsimp only at hSw); (try simp only [List.getElem_toArray, List.getElem_cons_succ, List.getElem_cons_zero]); go_simp <;> with_reducible rfl)
        try simp only [List.getElem_toArray, List.getElem_cons_succ, List.getElem_cons_zero, Act.put, List.setIfInBounds_toArray, List.set_cons_zero, List.set_cons_succ]
        refine wpAnyH_take (i := 1) (v := ?_) rfl (by kernel_rfl) (by kernel_rfl) (by kernel_rfl) (fun _ _ _ h => h) (Or.inl ⟨by rfl, ?_⟩) hHeld ?_
        rotate_left
        · (intro w hSw; (try dsimp only at hSw); (try simp only [List.getElem_toArray, List.getElem_cons_succ, List.getElem_cons_zero]); go_simp <;> with_reducible rfl)
        try simp only [List.getElem_toArray, List.getElem_cons_succ, List.getElem_cons_zero, Act.put, List.setIfInBounds_toArray, List.set_cons_zero, List.set_cons_succ]
        refine wpAnyH_take (i := 2) (v := ?_) rfl (by kernel_rfl) (by kernel_rfl) (by kernel_rfl) (fun _ _ _ h => h) (Or.inl ⟨by rfl, ?_⟩) hHeld ?_
        rotate_left
        · (intro w hSw; (try dsimp only at hSw); (try simp only [List.getElem_toArray, List.getElem_cons_succ, List.getElem_cons_zero]); go_simp <;> with_reducible rfl)
        try simp only [List.getElem_toArray, List.getElem_cons_succ, List.getElem_cons_zero, Act.put, List.setIfInBounds_toArray, List.set_cons_zero, List.set_cons_succ]
        refine wpAnyH_take (i := 3) (v := undef) rfl (by kernel_rfl) (by kernel_rfl) (by kernel_rfl) (fun _ _ _ h => h) (Or.inr ⟨by rfl, rfl⟩) hHeld ?_
        try simp only [List.getElem_toArray, List.getElem_cons_succ, List.getElem_cons_zero, Act.put, List.setIfInBounds_toArray, List.set_cons_zero, List.set_cons_succ]
        refine wpAnyH_take (i := 4) (v := undef) rfl (by kernel_rfl) (by kernel_rfl) (by kernel_rfl) (fun _ _ _ h => h) (Or.inr ⟨by rfl, rfl⟩) hHeld ?_
        try simp only [List.getElem_toArray, List.getElem_cons_succ, List.getElem_cons_zero, Act.put, List.setIfInBounds_toArray, List.set_cons_zero, List.set_cons_succ]
        refine wpAnyH_take (i := 5) (v := undef) rfl (by kernel_rfl) (by kernel_rfl) (by kernel_rfl) (fun _ _ _ h => h) (Or.inr ⟨by rfl, rfl⟩) hHeld ?_
        try simp only [List.getElem_toArray, List.getElem_cons_succ, List.getElem_cons_zero, Act.put, List.setIfInBounds_toArray, List.set_cons_zero, List.set_cons_succ]
        refine wpAnyH_take (i := 6) (v := undef) rfl (by kernel_rfl) (by kernel_rfl) (by kernel_rfl) (fun _ _ _ h => h) (Or.inr ⟨by rfl, rfl⟩) hHeld ?_
        try simp only [List.getElem_toArray, List.getElem_cons_succ, List.getElem_cons_zero, Act.put, List.setIfInBounds_toArray, List.set_cons_zero, List.set_cons_succ]
        refine wpAnyH_take (i := 7) (v := undef) rfl (by kernel_rfl) (by kernel_rfl) (by kernel_rfl) (fun _ _ _ h => h) (Or.inr ⟨by rfl, rfl⟩) hHeld ?_
        try simp only [List.getElem_toArray, List.getElem_cons_succ, List.getElem_cons_zero, Act.put, List.setIfInBounds_toArray, List.set_cons_zero, List.set_cons_succ]
        refine wpAnyH_take (i := 8) (v := undef) rfl (by kernel_rfl) (by kernel_rfl) (by kernel_rfl) (fun _ _ _ h => h) (Or.inr ⟨by rfl, rfl⟩) hHeld ?_
        try simp only [List.getElem_toArray, List.getElem_cons_succ, List.getElem_cons_zero, Act.put, List.setIfInBounds_toArray, List.set_cons_zero, List.set_cons_succ]
        refine wpAnyH_take (i := 9) (v := undef) rfl (by kernel_rfl) (by kernel_rfl) (by kernel_rfl) (fun _ _ _ h => h) (Or.inr ⟨by rfl, rfl⟩) hHeld ?_
        try simp only [List.getElem_toArray, List.getElem_cons_succ, List.getElem_cons_zero, Act.put, List.setIfInBounds_toArray, List.set_cons_zero, List.set_cons_succ]
        refine wpAnyH_take (i := 10) (v := undef) rfl (by kernel_rfl) (by kernel_rfl) (by kernel_rfl) (fun _ _ _ h => h) (Or.inr ⟨by rfl, rfl⟩) hHeld ?_
        try simp only [List.getElem_toArray, List.getElem_cons_succ, List.getElem_cons_zero, Act.put, List.setIfInBounds_toArray, List.set_cons_zero, List.set_cons_succ]
        refine wpAnyH_take (i := 11) (v := ?_) rfl (by kernel_rfl) (by kernel_rfl) (by kernel_rfl) (fun _ _ _ h => h) (Or.inl ⟨by rfl, ?_⟩) hHeld ?_
        rotate_left
        · (intro w hSw; (try dsimp only at hSw); (try simp only [List.getElem_toArray, List.getElem_cons_succ, List.getElem_cons_zero]); go_simp <;> with_reducible rfl)
        try simp only [List.getElem_toArray, List.getElem_cons_succ, List.getElem_cons_zero, Act.put, List.setIfInBounds_toArray, List.set_cons_zero, List.set_cons_succ]
        refine wpAnyH_take (i := 12) (v := ?_) rfl (by kernel_rfl) (by kernel_rfl) (by kernel_rfl) (fun _ _ _ h => h) (Or.inl ⟨by rfl, ?_⟩) hHeld ?_
        rotate_left
        · (intro w hSw; (try dsimp only at hSw); (try simp only [List.getElem_toArray, List.getElem_cons_succ, List.getElem_cons_zero]); go_simp <;> with_reducible rfl)
        try simp only [List.getElem_toArray, List.getElem_cons_succ, List.getElem_cons_zero, Act.put, List.setIfInBounds_toArray, List.set_cons_zero, List.set_cons_succ]
        refine wpAnyH_take (i := 13) (v := ?_) rfl (by kernel_rfl) (by kernel_rfl) (by kernel_rfl) (fun _ _ _ h => h) (Or.inl ⟨by rfl, ?_⟩) hHeld ?_
        rotate_left
        · (intro w hSw; (try dsimp only at hSw); (try simp only [List.getElem_toArray, List.getElem_cons_succ, List.getElem_cons_zero]); go_simp <;> with_reducible rfl)
        try simp only [List.getElem_toArray, List.getElem_cons_succ, List.getElem_cons_zero, Act.put, List.setIfInBounds_toArray, List.set_cons_zero, List.set_cons_succ]
        refine wpAnyH_take (i := 14) (v := ?_) rfl (by kernel_rfl) (by kernel_rfl) (by kernel_rfl) (fun _ _ _ h => h) (Or.inl ⟨by rfl, ?_⟩) hHeld ?_
        rotate_left
        · (intro w hSw; (try dsimp only at hSw); (try simp only [List.getElem_toArray, List.getElem_cons_succ, List.getElem_cons_zero]); go_simp <;> with_reducible rfl)
        try simp only [List.getElem_toArray, List.getElem_cons_succ, List.getElem_cons_zero, Act.put, List.setIfInBounds_toArray, List.set_cons_zero, List.set_cons_succ]
        refine wpAnyH_take (i := 15) (v := ?_) rfl (by kernel_rfl) (by kernel_rfl) (by kernel_rfl) (fun _ _ _ h => h) (Or.inl ⟨by rfl, ?_⟩) hHeld ?_
        rotate_left
        · (intro w hSw; (try dsimp only at hSw); (try simp only [List.getElem_toArray, List.getElem_cons_succ, List.getElem_cons_zero]); go_simp <;> with_reducible rfl)
        try simp only [List.getElem_toArray, List.getElem_cons_succ, List.getElem_cons_zero, Act.put, List.setIfInBounds_toArray, List.set_cons_zero, List.set_cons_succ]
        refine wpAnyH_take (i := 16) (v := ?_) rfl (by kernel_rfl) (by kernel_rfl) (by kernel_rfl) (fun _ _ _ h => h) (Or.inl ⟨by rfl, ?_⟩) hHeld ?_
        rotate_left
        · (intro w hSw; (try dsimp only at hSw); (try simp only [List.getElem_toArray, List.getElem_cons_succ, List.getElem_cons_zero]); go_simp <;> with_reducible rfl)
        try simp only [List.getElem_toArray, List.getElem_cons_succ, List.getElem_cons_zero, Act.put, List.setIfInBounds_toArray, List.set_cons_zero, List.set_cons_succ]
        refine wpAnyH_take (i := 18) (v := ?_) rfl (by kernel_rfl) (by kernel_rfl) (by kernel_rfl) (fun _ _ _ h => h) (Or.inl ⟨by rfl, ?_⟩) hHeld ?_
        rotate_left
        · (intro w hSw; (try dsimp only at hSw); (try simp only [List.getElem_toArray, List.getElem_cons_succ, List.getElem_cons_zero]); go_simp <;> with_reducible rfl)
        try simp only [List.getElem_toArray, List.getElem_cons_succ, List.getElem_cons_zero, Act.put, List.setIfInBounds_toArray, List.set_cons_zero, List.set_cons_succ]
        refine wpAnyH_take (i := 19) (v := ?_) rfl (by kernel_rfl) (by kernel_rfl) (by kernel_rfl) (fun _ _ _ h => h) (Or.inl ⟨by rfl, ?_⟩) hHeld ?_
        rotate_left
        · (intro w hSw; (try dsimp only at hSw); (try simp only [List.getElem_toArray, List.getElem_cons_succ, List.getElem_cons_zero]); go_simp <;> with_reducible rfl)
        try simp only [List.getElem_toArray, List.getElem_cons_succ, List.getElem_cons_zero, Act.put, List.setIfInBounds_toArray, List.set_cons_zero, List.set_cons_succ]
        refine wpAnyH_take (i := 20) (v := ?_) rfl (by kernel_rfl) (by kernel_rfl) (by kernel_rfl) (fun _ _ _ h => h) (Or.inl ⟨by rfl, ?_⟩) hHeld ?_
        rotate_left
        · (intro w hSw; (try dsimp only at hSw); (try simp only [List.getElem_toArray, List.getElem_cons_succ, List.getElem_cons_zero]); go_simp <;> with_reducible rfl)
        try simp only [List.getElem_toArray, List.getElem_cons_succ, List.getElem_cons_zero, Act.put, List.setIfInBounds_toArray, List.set_cons_zero, List.set_cons_succ]
        refine wpAnyH_take (i := 21) (v := ?_) rfl (by kernel_rfl) (by kernel_rfl) (by kernel_rfl) (fun _ _ _ h => h) (Or.inl ⟨by rfl, ?_⟩) hHeld ?_
        rotate_left
        · (intro w hSw; (try dsimp only at hSw); (try simp only [List.getElem_toArray, List.getElem_cons_succ, List.getElem_cons_zero]); go_simp <;> with_reducible rfl)
        try simp only [List.getElem_toArray, List.getElem_cons_succ, List.getElem_cons_zero, Act.put, List.setIfInBounds_toArray, List.set_cons_zero, List.set_cons_succ]
        refine wpAnyH_ready (rs := [17]) (by kernel_rfl) (by simp) ?_
        refine AllReadyH.cons rfl (fun K hK => ?_) AllReadyH.nil
        go_simp
        refine (RX.out _ hHeld).mono ?_
        rintro e19 w19 ⟨rfl, hb19⟩
        refine hK.out _ _ ?_ (fun hHeld => ?_)
        · exact keepc5 hb19 hHeld
        clear hK K hb19
        try simp only [List.getElem_toArray, List.getElem_cons_succ, List.getElem_cons_zero, Act.put, List.setIfInBounds_toArray, List.set_cons_zero, List.set_cons_succ]
        refine wpAnyH_take (i := 22) (v := ?_) rfl (by kernel_rfl) (by kernel_rfl) (by kernel_rfl) (fun _ _ _ h => h) (Or.inl ⟨by rfl, ?_⟩) hHeld ?_
        rotate_left
        · (intro w hSw; (try dsimp only at hSw); (try simp only [List.getElem_toArray, List.getElem_cons_succ, List.getElem_cons_zero]); go_simp <;> with_reducible rfl)
        try simp only [List.getElem_toArray, List.getElem_cons_succ, List.getElem_cons_zero, Act.put, List.setIfInBounds_toArray, List.set_cons_zero, List.set_cons_succ]
        refine wpAnyH_take (i := 23) (v := ?_) rfl (by kernel_rfl) (by kernel_rfl) (by kernel_rfl) (fun _ _ _ h => h) (Or.inl ⟨by rfl, ?_⟩) hHeld ?_
        rotate_left
        · (intro w hSw; (try dsimp only at hSw); (try simp only [List.getElem_toArray, List.getElem_cons_succ, List.getElem_cons_zero]); go_simp <;> with_reducible rfl)
        try simp only [List.getElem_toArray, List.getElem_cons_succ, List.getElem_cons_zero, Act.put, List.setIfInBounds_toArray, List.set_cons_zero, List.set_cons_succ]
        refine wpAnyH_take (i := 24) (v := ?_) rfl (by kernel_rfl) (by kernel_rfl) (by kernel_rfl) (fun _ _ _ h => h) (Or.inl ⟨by rfl, ?_⟩) hHeld ?_
        rotate_left
        · (intro w hSw; (try dsimp only at hSw); (try simp only [List.getElem_toArray, List.getElem_cons_succ, List.getElem_cons_zero]); go_simp <;> with_reducible rfl)
        try simp only [List.getElem_toArray, List.getElem_cons_succ, List.getElem_cons_zero, Act.put, List.setIfInBounds_toArray, List.set_cons_zero, List.set_cons_succ]
        refine wpAnyH_done (by kernel_rfl) ?_ _
        go_wp2_with fail
        go_meet
        exact ⟨rfl, hHeld.2.2.2.2.2⟩
      · skip
        obtain rfl := HHN.out (by omega)
        clear hx
        obtain rfl := HNEG.out (by omega)
        clear hr
        clear HOWN HNEG HHO HHN
        obtain ⟨cA20, cA21, cA22, cA23, cA24⟩ := A2.out.1.cells
        refine wp_region_held_drew (S := (fun W' => W'.cell? ⟨b2, 0, none⟩ = some (.int .i64 xx.k) ∧ W'.cell? ⟨b2, 1, none⟩ = some (.int .i64 xx.n) ∧ W'.cell? ⟨b2, 2, none⟩ = some (.int .i64 xx.e) ∧ W'.cell? ⟨b2, 3, none⟩ = some (.string xx.s) ∧ W'.cell? ⟨b2, 4, none⟩ = some (.slice a2 xx.kids.length q2) ∧ Below w18.heap.size w18 W')) (by kernel_rfl) ?_ (fun hHeld => ?_)
        · exact ⟨cA20, cA21, cA22, cA23, cA24, (Below.refl _ _).drew⟩
        clear cA20 cA21 cA22 cA23 cA24
        refine wpAnyH_take (i := 0) (v := ?_) rfl (by kernel_rfl) (by kernel_rfl) (by kernel_rfl) (fun _ _ _ h => h) (Or.inl ⟨by rfl, ?_⟩) hHeld ?_
        rotate_left
        · (intro w hSw; (try dsimp only at hSw); (try simp only [List.getElem_toArray, List.getElem_cons_succ, List.getElem_cons_zero]); go_simp <;> with_reducible rfl)
        try simp only [List.getElem_toArray, List.getElem_cons_succ, List.getElem_cons_zero, Act.put, List.setIfInBounds_toArray, List.set_cons_zero, List.set_cons_succ]
        refine wpAnyH_take (i := 1) (v := ?_) rfl (by kernel_rfl) (by kernel_rfl) (by kernel_rfl) (fun _ _ _ h => h) (Or.inl ⟨by rfl, ?_⟩) hHeld ?_
        rotate_left
        · (intro w hSw; (try dsimp only at hSw); (try simp only [List.getElem_toArray, List.getElem_cons_succ, List.getElem_cons_zero]); go_simp <;> with_reducible rfl)
        try simp only [List.getElem_toArray, List.getElem_cons_succ, List.getElem_cons_zero, Act.put, List.setIfInBounds_toArray, List.set_cons_zero, List.set_cons_succ]
        refine wpAnyH_take (i := 2) (v := ?_) rfl (by kernel_rfl) (by kernel_rfl) (by kernel_rfl) (fun _ _ _ h => h) (Or.inl ⟨by rfl, ?_⟩) hHeld ?_
        rotate_left
        · (intro w hSw; (try dsimp only at hSw); (try simp only [List.getElem_toArray, List.getElem_cons_succ, List.getElem_cons_zero]); go_simp <;> with_reducible rfl)
        try simp only [List.getElem_toArray, List.getElem_cons_succ, List.getElem_cons_zero, Act.put, List.setIfInBounds_toArray, List.set_cons_zero, List.set_cons_succ]
        refine wpAnyH_take (i := 3) (v := undef) rfl (by kernel_rfl) (by kernel_rfl) (by kernel_rfl) (fun _ _ _ h => h) (Or.inr ⟨by rfl, rfl⟩) hHeld ?_
        try simp only [List.getElem_toArray, List.getElem_cons_succ, List.getElem_cons_zero, Act.put, List.setIfInBounds_toArray, List.set_cons_zero, List.set_cons_succ]
        refine wpAnyH_take (i := 4) (v := undef) rfl (by kernel_rfl) (by kernel_rfl) (by kernel_rfl) (fun _ _ _ h => h) (Or.inr ⟨by rfl, rfl⟩) hHeld ?_
        try simp only [List.getElem_toArray, List.getElem_cons_succ, List.getElem_cons_zero, Act.put, List.setIfInBounds_toArray, List.set_cons_zero, List.set_cons_succ]
        refine wpAnyH_take (i := 5) (v := undef) rfl (by kernel_rfl) (by kernel_rfl) (by kernel_rfl) (fun _ _ _ h => h) (Or.inr ⟨by rfl, rfl⟩) hHeld ?_
        try simp only [List.getElem_toArray, List.getElem_cons_succ, List.getElem_cons_zero, Act.put, List.setIfInBounds_toArray, List.set_cons_zero, List.set_cons_succ]
        refine wpAnyH_take (i := 6) (v := undef) rfl (by kernel_rfl) (by kernel_rfl) (by kernel_rfl) (fun _ _ _ h => h) (Or.inr ⟨by rfl, rfl⟩) hHeld ?_
        try simp only [List.getElem_toArray, List.getElem_cons_succ, List.getElem_cons_zero, Act.put, List.setIfInBounds_toArray, List.set_cons_zero, List.set_cons_succ]
        refine wpAnyH_take (i := 7) (v := undef) rfl (by kernel_rfl) (by kernel_rfl) (by kernel_rfl) (fun _ _ _ h => h) (Or.inr ⟨by rfl, rfl⟩) hHeld ?_
        try simp only [List.getElem_toArray, List.getElem_cons_succ, List.getElem_cons_zero, Act.put, List.setIfInBounds_toArray, List.set_cons_zero, List.set_cons_succ]
        refine wpAnyH_take (i := 8) (v := undef) rfl (by kernel_rfl) (by kernel_rfl) (by kernel_rfl) (fun _ _ _ h => h) (Or.inr ⟨by rfl, rfl⟩) hHeld ?_
        try simp only [List.getElem_toArray, List.getElem_cons_succ, List.getElem_cons_zero, Act.put, List.setIfInBounds_toArray, List.set_cons_zero, List.set_cons_succ]
        refine wpAnyH_take (i := 9) (v := undef) rfl (by kernel_rfl) (by kernel_rfl) (by kernel_rfl) (fun _ _ _ h => h) (Or.inr ⟨by rfl, rfl⟩) hHeld ?_
        try simp only [List.getElem_toArray, List.getElem_cons_succ, List.getElem_cons_zero, Act.put, List.setIfInBounds_toArray, List.set_cons_zero, List.set_cons_succ]
        refine wpAnyH_take (i := 10) (v := undef) rfl (by kernel_rfl) (by kernel_rfl) (by kernel_rfl) (fun _ _ _ h => h) (Or.inr ⟨by rfl, rfl⟩) hHeld ?_
        try simp only [List.getElem_toArray, List.getElem_cons_succ, List.getElem_cons_zero, Act.put, List.setIfInBounds_toArray, List.set_cons_zero, List.set_cons_succ]
        refine wpAnyH_take (i := 11) (v := ?_) rfl (by kernel_rfl) (by kernel_rfl) (by kernel_rfl) (fun _ _ _ h => h) (Or.inl ⟨by rfl, ?_⟩) hHeld ?_
        rotate_left
        · (intro w hSw; (try dsimp only at hSw); (try simp only [List.getElem_toArray, List.getElem_cons_succ, List.getElem_cons_zero]); go_simp <;> with_reducible rfl)
        try simp only [List.getElem_toArray, List.getElem_cons_succ, List.getElem_cons_zero, Act.put, List.setIfInBounds_toArray, List.set_cons_zero, List.set_cons_succ]
        refine wpAnyH_take (i := 12) (v := ?_) rfl (by kernel_rfl) (by kernel_rfl) (by kernel_rfl) (fun _ _ _ h => h) (Or.inl ⟨by rfl, ?_⟩) hHeld ?_
        rotate_left
        · (intro w hSw; (try dsimp only at hSw); (try simp only [List.getElem_toArray, List.getElem_cons_succ, List.getElem_cons_zero]); go_simp <;> with_reducible rfl)
        try simp only [List.getElem_toArray, List.getElem_cons_succ, List.getElem_cons_zero, Act.put, List.setIfInBounds_toArray, List.set_cons_zero, List.set_cons_succ]
        refine wpAnyH_take (i := 13) (v := ?_) rfl (by kernel_rfl) (by kernel_rfl) (by kernel_rfl) (fun _ _ _ h => h) (Or.inl ⟨by rfl, ?_⟩) hHeld ?_
        rotate_left
        · (intro w hSw; (try dsimp only at hSw); (try simp only [List.getElem_toArray, List.getElem_cons_succ, List.getElem_cons_zero]); go_simp <;> with_reducible rfl)
        try simp only [List.getElem_toArray, List.getElem_cons_succ, List.getElem_cons_zero, Act.put, List.setIfInBounds_toArray, List.set_cons_zero, List.set_cons_succ]
        refine wpAnyH_take (i := 14) (v := ?_) rfl (by kernel_rfl) (by kernel_rfl) (by kernel_rfl) (fun _ _ _ h => h) (Or.inl ⟨by rfl, ?_⟩) hHeld ?_
        rotate_left
        · (intro w hSw; (try dsimp only at hSw); (try simp only [List.getElem_toArray, List.getElem_cons_succ, List.getElem_cons_zero]); go_simp <;> with_reducible rfl)
        try simp only [List.getElem_toArray, List.getElem_cons_succ, List.getElem_cons_zero, Act.put, List.setIfInBounds_toArray, List.set_cons_zero, List.set_cons_succ]
        refine wpAnyH_take (i := 15) (v := ?_) rfl (by kernel_rfl) (by kernel_rfl) (by kernel_rfl) (fun _ _ _ h => h) (Or.inl ⟨by rfl, ?_⟩) hHeld ?_
        rotate_left
        · (intro w hSw; (try dsimp only at hSw); (try simp only [List.getElem_toArray, List.getElem_cons_succ, List.getElem_cons_zero]); go_simp <;> with_reducible rfl)
        try simp only [List.getElem_toArray, List.getElem_cons_succ, List.getElem_cons_zero, Act.put, List.setIfInBounds_toArray, List.set_cons_zero, List.set_cons_succ]
        refine wpAnyH_take (i := 16) (v := undef) rfl (by kernel_rfl) (by kernel_rfl) (by kernel_rfl) (fun _ _ _ h => h) (Or.inr ⟨by rfl, rfl⟩) hHeld ?_
        try simp only [List.getElem_toArray, List.getElem_cons_succ, List.getElem_cons_zero, Act.put, List.setIfInBounds_toArray, List.set_cons_zero, List.set_cons_succ]
        refine wpAnyH_take (i := 17) (v := undef) rfl (by kernel_rfl) (by kernel_rfl) (by kernel_rfl) (fun _ _ _ h => h) (Or.inr ⟨by rfl, rfl⟩) hHeld ?_
        try simp only [List.getElem_toArray, List.getElem_cons_succ, List.getElem_cons_zero, Act.put, List.setIfInBounds_toArray, List.set_cons_zero, List.set_cons_succ]
        refine wpAnyH_take (i := 18) (v := undef) rfl (by kernel_rfl) (by kernel_rfl) (by kernel_rfl) (fun _ _ _ h => h) (Or.inr ⟨by rfl, rfl⟩) hHeld ?_
        try simp only [List.getElem_toArray, List.getElem_cons_succ, List.getElem_cons_zero, Act.put, List.setIfInBounds_toArray, List.set_cons_zero, List.set_cons_succ]
        refine wpAnyH_take (i := 19) (v := undef) rfl (by kernel_rfl) (by kernel_rfl) (by kernel_rfl) (fun _ _ _ h => h) (Or.inr ⟨by rfl, rfl⟩) hHeld ?_
        try simp only [List.getElem_toArray, List.getElem_cons_succ, List.getElem_cons_zero, Act.put, List.setIfInBounds_toArray, List.set_cons_zero, List.set_cons_succ]
        refine wpAnyH_take (i := 20) (v := undef) rfl (by kernel_rfl) (by kernel_rfl) (by kernel_rfl) (fun _ _ _ h => h) (Or.inr ⟨by rfl, rfl⟩) hHeld ?_
        try simp only [List.getElem_toArray, List.getElem_cons_succ, List.getElem_cons_zero, Act.put, List.setIfInBounds_toArray, List.set_cons_zero, List.set_cons_succ]
        refine wpAnyH_take (i := 21) (v := undef) rfl (by kernel_rfl) (by kernel_rfl) (by kernel_rfl) (fun _ _ _ h => h) (Or.inr ⟨by rfl, rfl⟩) hHeld ?_
        try simp only [List.getElem_toArray, List.getElem_cons_succ, List.getElem_cons_zero, Act.put, List.setIfInBounds_toArray, List.set_cons_zero, List.set_cons_succ]
        refine wpAnyH_take (i := 22) (v := undef) rfl (by kernel_rfl) (by kernel_rfl) (by kernel_rfl) (fun _ _ _ h => h) (Or.inr ⟨by rfl, rfl⟩) hHeld ?_
        try simp only [List.getElem_toArray, List.getElem_cons_succ, List.getElem_cons_zero, Act.put, List.setIfInBounds_toArray, List.set_cons_zero, List.set_cons_succ]
        refine wpAnyH_take (i := 23) (v := ?_) rfl (by kernel_rfl) (by kernel_rfl) (by kernel_rfl) (fun _ _ _ h => h) (Or.inl ⟨by rfl, ?_⟩) hHeld ?_
        rotate_left
        · (intro w hSw; (try dsimp only at hSw); (try simp only [List.getElem_toArray, List.getElem_cons_succ, List.getElem_cons_zero]); go_simp <;> with_reducible rfl)
        try simp only [List.getElem_toArray, List.getElem_cons_succ, List.getElem_cons_zero, Act.put, List.setIfInBounds_toArray, List.set_cons_zero, List.set_cons_succ]
        refine wpAnyH_take (i := 24) (v := ?_) rfl (by kernel_rfl) (by kernel_rfl) (by kernel_rfl) (fun _ _ _ h => h) (Or.inl ⟨by rfl, ?_⟩) hHeld ?_
        rotate_left
        · (intro w hSw; (try dsimp only at hSw); (try simp only [List.getElem_toArray, List.getElem_cons_succ, List.getElem_cons_zero]); go_simp <;> with_reducible rfl)
        try simp only [List.getElem_toArray, List.getElem_cons_succ, List.getElem_cons_zero, Act.put, List.setIfInBounds_toArray, List.set_cons_zero, List.set_cons_succ]
        refine wpAnyH_done (by kernel_rfl) ?_ _
        go_wp2_with fail
        go_meet
        exact ⟨rfl, hHeld.2.2.2.2.2⟩
  case rest =>
    obtain ⟨rfl, hbc⟩ := hcut
    replace HB := Lib.hid (HB.out.trans (hbc.mono HB.out.size))
    replace A1 := Lib.hid (A1.out.stay hbc)
    replace A2 := Lib.hid (A2.out.stay hbc)
    clear hbc HOWN HNEG HHO HHN A2
    clear n1
    by_cases hm : 0 ≤ m ∧ m ≤ 7
    · have hs2 : ¬ s2.size = 0 := by rw [HS2.out]; intro h; exact (phB_none m n).1 (List.length_eq_zero_iff.1 (by simpa [ByteArray.size] using h)) hm
      obtain ⟨x1, x2, x3⟩ := str_ne hs2
      have hz2 : s2.size ≤ 9 := by rw [HS2.out]; exact phB_le m n
      have HG := Lib.hid (show getH s2 0 = (m, n, (s2.size : Int)) by rw [HS2.out]; exact head_back hm hn0 hn1)
      have PH := Lib.hid (GetHead_impl s2 0 wc (by omega) (by omega) (by omega))
      unfold Head3 at PH
      rw [HG.out] at PH
      clear HG
      by_cases ho : cborB t1 = []
      · obtain rfl : s1 = ⟨#[]⟩ := by rw [HS1.out, ho]
        have P := Lib.hid (CborFits_spec _ _ t1 A1.out.2 (by omega))
        rw [fits_iff, decide_eq_false (by simp [ho])] at P
        unfold V.agg at P
        go_wp2_with (go_at_call 71; refine PH.out.mono ?_; rintro eq wq ⟨rfl, hbq⟩; replace A1 := Lib.hid (A1.out.stay hbq); replace HB := Lib.hid (HB.out.trans (hbq.mono HB.out.size)); have HQ := Lib.hid hbq; clear hbq; obtain ⟨z0, z1, z2, z3, z4⟩ := A1.out.1.cells)
        refine (P.out _ HQ.out).mono ?_
        rintro eb wb ⟨rfl, hbb⟩
        go_wp2_with fail
        go_ret
        exact ⟨rfl, HB.out.trans (hbb.mono HB.out.size)⟩
      · have hs1 : ¬ s1.size = 0 := by rw [HS1.out]; intro h; exact ho (List.length_eq_zero_iff.1 (by simpa [ByteArray.size] using h))
        obtain ⟨y1, y2, y3⟩ := str_ne hs1
        have hz1 : s1.size ≤ 615000 := by rw [HS1.out]; exact cbB_sz t1
        have BK := Lib.hid (show cbR2 s1 0 = (t1, (s1.size : Int)) by rw [HS1.out, cbor_back HWV.out ho]; simp [ByteArray.size])
        have P := Lib.hid (fun (W : World) (hW : Below w.heap.size w W) => GI.out W hW s1 (by omega) 0 in0)
        rw [BK.out] at P
        unfold CRet at P
        clear BK GI
        go_wp2_with (go_at_call 71; refine PH.out.mono ?_; rintro eq wq ⟨rfl, hbq⟩; replace A1 := Lib.hid (A1.out.stay hbq); replace HB := Lib.hid (HB.out.trans (hbq.mono HB.out.size)); have HQ := Lib.hid hbq; clear hbq; obtain ⟨z0, z1, z2, z3, z4⟩ := A1.out.1.cells)
        refine (P.out _ HB.out).mono ?_
        rintro ea wa ⟨sla, rfl, xwf, xo, hba⟩
        clear P
        obtain ⟨a7, q7, rfl⟩ := xo.slice
        replace A1 := Lib.hid (A1.out.stay hba)
        replace HB := Lib.hid (HB.out.trans (hba.mono HB.out.size))
        have RA7 := Lib.hid (show Rep wa (t1.agg (.slice a7 t1.kids.length q7)) t1 from ⟨_, rfl, xwf, xo.rep⟩)
        have hal := alloc_below wa (.cells #[.int .i64 t1.k, .int .i64 t1.n, .int .i64 t1.e, .string t1.s, .slice a7 t1.kids.length q7] 26)
        have RS := Lib.hid (lsame_any _ (t1.sz + 1) t1 _ _ (by omega) (RA7.out.keep hal) (A1.out.2.keep hal) _ (Below.refl _ _))
        have hlt : b1 < wa.heap.size := A1.out.1.lt
        have hne1 : b1 ≠ wa.heap.size := by omega
        have hne2 : wa.heap.size ≠ b1 := by omega
        replace HB := Lib.hid (HB.out.trans (hal.mono HB.out.size))
        obtain ⟨y10, y11, y12, y13, y14⟩ := A1.out.1.cells
        clear xwf xo hba RA7 hal
        unfold LawRet at RS
        unfold V.agg at RS ⊢
        go_wp2_with fail
        refine RS.out.mono ?_
        rintro eb wb ⟨rfl, hbb⟩
        go_wp2_with fail
        go_ret
        exact ⟨rfl, HB.out.trans (hbb.mono HB.out.size)⟩
    · obtain rfl : s2 = ⟨#[]⟩ := by rw [HS2.out, (phB_none m n).2 hm]
      by_cases ho : cborB t1 = []
      · obtain rfl : s1 = ⟨#[]⟩ := by rw [HS1.out, ho]
        have P := Lib.hid (CborFits_spec _ _ t1 A1.out.2 (by omega))
        rw [fits_iff, decide_eq_false (by simp [ho])] at P
        unfold V.agg at P
        have HQ := Lib.hid (Below.refl wc.heap.size wc)
        obtain ⟨z0, z1, z2, z3, z4⟩ := A1.out.1.cells
        go_wp2_with fail
        refine (P.out _ HQ.out).mono ?_
        rintro eb wb ⟨rfl, hbb⟩
        go_wp2_with fail
        go_ret
        exact ⟨rfl, HB.out.trans (hbb.mono HB.out.size)⟩
      · have hs1 : ¬ s1.size = 0 := by rw [HS1.out]; intro h; exact ho (List.length_eq_zero_iff.1 (by simpa [ByteArray.size] using h))
        obtain ⟨y1, y2, y3⟩ := str_ne hs1
        have hz1 : s1.size ≤ 615000 := by rw [HS1.out]; exact cbB_sz t1
        have BK := Lib.hid (show cbR2 s1 0 = (t1, (s1.size : Int)) by rw [HS1.out, cbor_back HWV.out ho]; simp [ByteArray.size])
        have P := Lib.hid (fun (W : World) (hW : Below w.heap.size w W) => GI.out W hW s1 (by omega) 0 in0)
        rw [BK.out] at P
        unfold CRet at P
        clear BK GI
        go_wp2_with fail
        refine (P.out _ HB.out).mono ?_
        rintro ea wa ⟨sla, rfl, xwf, xo, hba⟩
        clear P
        obtain ⟨a7, q7, rfl⟩ := xo.slice
        replace A1 := Lib.hid (A1.out.stay hba)
        replace HB := Lib.hid (HB.out.trans (hba.mono HB.out.size))
        have RA7 := Lib.hid (show Rep wa (t1.agg (.slice a7 t1.kids.length q7)) t1 from ⟨_, rfl, xwf, xo.rep⟩)
        have hal := alloc_below wa (.cells #[.int .i64 t1.k, .int .i64 t1.n, .int .i64 t1.e, .string t1.s, .slice a7 t1.kids.length q7] 26)
        have RS := Lib.hid (lsame_any _ (t1.sz + 1) t1 _ _ (by omega) (RA7.out.keep hal) (A1.out.2.keep hal) _ (Below.refl _ _))
        have hlt : b1 < wa.heap.size := A1.out.1.lt
        have hne1 : b1 ≠ wa.heap.size := by omega
        have hne2 : wa.heap.size ≠ b1 := by omega
        replace HB := Lib.hid (HB.out.trans (hal.mono HB.out.size))
        obtain ⟨y10, y11, y12, y13, y14⟩ := A1.out.1.cells
        clear xwf xo hba RA7 hal
        unfold LawRet at RS
        unfold V.agg at RS ⊢
        go_wp2_with fail
        refine RS.out.mono ?_
        rintro eb wb ⟨rfl, hbb⟩
        go_wp2_with fail
        go_ret
        exact ⟨rfl, HB.out.trans (hbb.mono HB.out.size)⟩
set_option maxRecDepth 100000 in
set_option maxHeartbeats 2000000 in
theorem lifted_FnCbor (os : Os) (started : os.Started) (H : Type) (enc : TypeId × Value → H) :
    ReturnsInHanded {} Tryd.checked os 11 .any (fun w args => (Rows.fnCborSpec.pre enc Tryd.prog Tryd.f11 [] false w args ∧ laidMetH Tryd.prog Rows.fnCborRow.laid w) ∧ sizedMet enc Tryd.prog Tryd.f11 (OpenSpec.ofChange Rows.fnCborSpec) false w args)
      (Rows.fnCborSpec.post enc Tryd.prog Tryd.f11 false true false false) := by
  refine returnsInHanded_of_change_and (C := Tryd.checked) (X := fun w _ => laidMetH Tryd.prog Rows.fnCborRow.laid w) (fun _ _ _ hh h => h.of_heap hh) lawOwn started (by kernel_rfl) Tryd.func11
    (ChangeSpec.witness_shaped (enc := enc) (C := Tryd.checked) (os := os) (X := fun w _ => laidMetH Tryd.prog Rows.fnCborRow.laid w) false (World.laidAll Tryd.prog os Rows.fnCborRow.laid) #[.slice none 0 0] 8 (World.laidAll_os _ _ _)
      (World.shaped_of_ZipB (by kernel_rfl) (by kernel_rfl)) (by kernel_rfl) (by kernel_rfl) (by kernel_rfl)
      (by rw [MakeChecks.laidMetH_plain _ _ _ (by kernel_rfl)]; exact laidMet_laidAll _ (by kernel_rfl) (by kernel_rfl))) ?_
  intro W base args ds gs before hval0 hW _ _ hL _
  have hval : ∀ (j : Nat) t v, Tryd.f11.params[j]? = some t → args[j]? = some v → Value.okWide Tryd.prog W .any base t v := hval0
  have hW' := hW
  obtain ⟨p, q, hA0, hV, hpq, hfz, hnd⟩ := hW
  have hA : DataW.TrodAll enc Tryd.prog W 0 (fun _ => true) true Tryd.f11.params.toList args.toList ds p := hA0
  rw [Tryd.params11] at hA hval
  rw [MakeChecks.laidMetH_plain _ _ _ (by kernel_rfl)] at hL
  have hE : Env W := env_of (Lib.laidMet.reads hL (.tail _ (.head _))) (Lib.laidMet.reads hL (.head _))
  obtain ⟨v0, vs0, d0, ds0, p0, q0, hargs, rfl, hp, h0, r0⟩ := trodAll_cons hA
  obtain ⟨rfl, rfl, rfl⟩ := trodAll_nil r0
  obtain rfl : args = #[v0] := by cases args; simp_all
  obtain ⟨a0, w0⟩ := open_bytes (okWide_slice Tryd.underlying22 (hval 0 22 v0 rfl rfl)) h0
  refine (walk_FnCbor v0 a0 w0 W rfl hE).mono fun e W' ⟨he, hb⟩ => ?_
  subst he
  refine ⟨_, rfl, law_post rfl rfl rfl ?_ hW' hb⟩
  rw [Tryd.params11]
  intro t ht
  obtain rfl := List.mem_singleton.1 ht
  exact ⟨by kernel_rfl, of_decide_eq_true (by kernel_rfl)⟩
set_option maxHeartbeats 4000000 in
theorem row_FnCbor : Rows.FnCborSaid :=
  OpenClaim.holds_of_wide 11 Tryd.f11 rfl rfl rfl rfl rfl rfl rfl ⟨rfl, rfl, rfl, rfl, rfl⟩ rfl rfl rfl rfl rfl (by as_aux_lemma => kernel_rfl) Tryd.func11 (by as_aux_lemma => kernel_rfl)
    (of_decide_eq_true (by as_aux_lemma => kernel_rfl)) (by unfold Func.isWrapper; first | (rw [if_pos (by decide +kernel)]; kernel_rfl) | (rw [if_neg (by decide +kernel)]; exact ⟨rfl, rfl⟩))
    (fun os started H enc _ => lifted_FnCbor os started H enc)
set_option maxHeartbeats 4000000 in
theorem holds_FnCborCard : Rows.FnCborCardSaid :=
  Claim7.holds_tied_plain_at .later [] [.data, .pinned] true (true, "a4cb6258458d601955f016439c5ed8fedd35fdd32397295683473c726073af0b") false row_FnCbor (fun _ h => by cases h) (by as_aux_lemma => kernel_rfl) (fun _ h => by cases h) fnCbor_row_tie rfl ⟨rfl, rfl⟩ (by as_aux_lemma => kernel_rfl) rfl
    (fun f fn hf hfn => by
      obtain rfl : f = 11 := Option.some.inj ((show Tryd.prog.funcNamed "loop.example/g00421/laws.FnCbor" = some 11 by as_aux_lemma => kernel_rfl).symm.trans hf) |>.symm
      obtain rfl : fn = Tryd.f11 := (Option.some.inj (Tryd.func11.symm.trans hfn)).symm
      exact ⟨by as_aux_lemma => kernel_rfl, fun j t ht => by
        have hm : t ∈ Tryd.f11.params.toList := by simpa using Array.mem_of_getElem? ht
        have hall : (Tryd.f11.params.toList.all fun u => !Tryd.prog.wantsStandIn u) = true := by as_aux_lemma => kernel_rfl
        exact (show Tryd.prog.wantsStandIn t = false by simpa using List.all_eq_true.1 hall t hm)⟩)
    (by as_aux_lemma => kernel_rfl)
#print axioms holds_FnCborCard
end Go.Proofs.YtgbgeocmjdgmoaaDoor
