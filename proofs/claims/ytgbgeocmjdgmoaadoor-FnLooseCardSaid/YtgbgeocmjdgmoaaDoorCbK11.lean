/- Lemmas for the statement of the last text of this claim: texts joined. -/
import Derived.Test.YtgbgeocmjdgmoaaDoorCbK02
import Derived.Test.YtgbgeocmjdgmoaaDoorCbK06
import Derived.Test.YtgbgeocmjdgmoaaDoorCbK07
import Derived.Test.YtgbgeocmjdgmoaaDoorCbK08
import Derived.Test.YtgbgeocmjdgmoaaDoorCbK10
import Derived.ChangeSlices
namespace Go.Proofs.YtgbgeocmjdgmoaaDoor
set_option linter.unusedSimpArgs false
set_option linter.unusedVariables false
set_option maxRecDepth 100000
open Go.RowKit
theorem PutHead_out (n m : Int) (w : World) (hm : m < 0 ∨ 7 < m) : Calls Tryd.prog 69 #[.int .i64 m, .int .u64 n] w fun e w' => e = .returned (.string ⟨#[]⟩) ∧ w' = w := by
  go_enter Tryd.func69, Tryd.ntmps69
  go_wp2_with (go_at_call 105; refine (within_no _ _ _ _ (by omega)).mono ?_; rintro e w' ⟨rfl, rfl⟩)
  go_ret
  exact ⟨rfl, rfl⟩
theorem PutHead_spec_out (n m : Int) (w : World) (hm : m < 0 ∨ 7 < m) : Calls Tryd.prog 80 #[.int .i64 m, .int .u64 n] w fun e w' => e = .returned (.string ⟨#[]⟩) ∧ w' = w := by
  go_enter Tryd.func80, Tryd.ntmps80
  go_wp2_with (go_at_call 102; refine (l01In_no _ _ _ _ (by omega)).mono ?_; rintro e w' ⟨rfl, rfl⟩)
  go_ret
  exact ⟨rfl, rfl⟩
def phB (m n : Int) : List UInt8 := if 0 ≤ m ∧ m ≤ 7 then headL m.toNat n.toNat else []
theorem phB_le (m n : Int) : (phB m n).length ≤ 9 := by
  unfold phB; split
  · exact headL_le _ _
  · simp
theorem txt_outC {w w' : World} {e : Ending} (h : e = .returned (.string ⟨#[]⟩) ∧ w' = w) : TxtRet w [] e w' := ⟨h.1, by rw [h.2]; exact Below.refl _ _⟩
theorem PutHead_ib (m n : Int) (w : World) (hn0 : 0 ≤ n) (hn : n < 18446744073709551616) : Calls Tryd.prog 69 #[.int .i64 m, .int .u64 n] w (TxtRet w (phB m n)) := by
  unfold phB
  by_cases h : 0 ≤ m ∧ m ≤ 7
  · rw [if_pos h]; exact PutHead_impl m n w h.1 h.2 hn0 hn
  · rw [if_neg h]; exact (PutHead_out n m w (by omega)).mono (fun e w' h => txt_outC h)
theorem PutHead_sb (m n : Int) (w : World) (hn0 : 0 ≤ n) (hn : n < 18446744073709551616) : Calls Tryd.prog 80 #[.int .i64 m, .int .u64 n] w (TxtRet w (phB m n)) := by
  unfold phB
  by_cases h : 0 ≤ m ∧ m ≤ 7
  · rw [if_pos h]; exact PutHead_spec m n w h.1 h.2 hn0 hn
  · rw [if_neg h]; exact (PutHead_spec_out n m w (by omega)).mono (fun e w' h => txt_outC h)
def DrawMU (w : World) (e : Ending) (w' : World) : Prop := ∃ m n : Int, e = .returned (.tuple #[.int .i64 m, .int .u64 n]) ∧ -1 ≤ m ∧ m ≤ 8 ∧ 0 ≤ n ∧ n < 18446744073709551616 ∧ Below w.heap.size w w'
set_option maxHeartbeats 8000000 in
theorem DrawPutHead_any (w0 : World) (v : Value) (N : Nat) (hD : Drw w0 v N) (w : World) (hw : Below w0.heap.size w0 w) :
    Calls Tryd.prog 68 #[v] w (DrawMU w) := by
  have NW := Lib.hid (fun (W : World) (hW : Below w0.heap.size w0 W) => New_any w0 v N hD W hW)
  have BL := Lib.hid (fun (c : Nat) (q : Int) (hq : In64 q) (W : World) (h : CuX w0 c v N W) => Below1_any w0 c v N hD q hq W h)
  have PI := Lib.hid (fun (c : Nat) (W : World) (h : CuX w0 c v N W) => PickI_any w0 c v N hD [0, 23, 24, 255, 256, 65535, 65536, 4294967295, 4294967296, -1, 9223372036854775807] 3 (by unfold In64; decide) (by decide) 11 11 rfl W h _ rfl)
  have HW0 := Lib.hid hw
  clear hw hD
  go_enter Tryd.func68, Tryd.ntmps68
  go_wp2_with fail
  refine (NW.out w HW0.out).mono ?_
  rintro e1 w1 ⟨rfl, hc1, hb1⟩
  have HC1 := Lib.hid hc1
  have HB1 := Lib.hid hb1
  clear hc1 hb1
  go_wp2_with fail
  refine (BL.out w.heap.size 10 (by unfold In64; omega) w1 HC1.out).mono ?_
  rintro e2 w2 ⟨x, rfl, hx0, hx1, hd2⟩
  have HD2 := Lib.hid hd2
  have hx : x ≤ 9 := by omega
  clear hd2 hx1
  go_wp2_with fail
  refine (PI.out w.heap.size w2 HD2.out.1).mono ?_
  rintro e3 w3 ⟨i, rfl, hi, hd3⟩
  have HB3 := Lib.hid ((HD2.out.trans hd3).lower HB1.out (Nat.le_refl _))
  have HI := Lib.hid hi
  clear hd3 hi
  go_wp2_with fail
  go_ret2
  exact ⟨_, _, rfl, by omega, by omega, by have := HI.out; unfold In64 at this; first | omega | (have h9 : IntKind.u64.wrap i = i % 18446744073709551616 := (by simp [IntKind.wrap, IntKind.signed, IntKind.bits]); rw [h9]; omega), by have := HI.out; unfold In64 at this; first | omega | (have h9 : IntKind.u64.wrap i = i % 18446744073709551616 := (by simp [IntKind.wrap, IntKind.signed, IntKind.bits]); rw [h9]; omega), HB3.out⟩
def DrawSIh (B : Nat) (w : World) (e : Ending) (w' : World) : Prop := ∃ (s : ByteArray) (i : Int), e = .returned (.tuple #[.string s, .int .i64 i]) ∧ s.size ≤ B ∧ In64 i ∧ Below w.heap.size w w'
set_option maxHeartbeats 8000000 in
theorem DrawGetHead_any (w0 : World) (v : Value) (N : Nat) (hD : Drw w0 v N) (w : World) (hw : Below w0.heap.size w0 w) :
    Calls Tryd.prog 70 #[v] w (DrawSIh 100 w) := by
  have NW := Lib.hid (fun (W : World) (hW : Below w0.heap.size w0 W) => New_any w0 v N hD W hW)
  have PH := Lib.hid (fun (W : World) (hW : Below w0.heap.size w0 W) => DrawPutHead_any w0 v N hD W hW)
  have BE := Lib.hid (fun (c : Nat) (s : ByteArray) (hs : s.size ≤ 2000000) (W : World) (h : CuX w0 c v N W) => l01Bent_any w0 c v N hD s hs W h)
  have PI := Lib.hid (fun (c : Nat) (W : World) (h : CuX w0 c v N W) => PickI_any w0 c v N hD [1, 1, 1, 0, 2, -1, 9223372036854775807] 3 (by unfold In64; decide) (by decide) 7 7 rfl W h _ rfl)
  have HW0 := Lib.hid hw
  clear hw hD
  go_enter Tryd.func70, Tryd.ntmps70
  go_wp2_with fail
  refine (NW.out w HW0.out).mono ?_
  rintro e1 w1 ⟨rfl, hc1, hb1⟩
  have HC1 := Lib.hid hc1
  have HB1 := Lib.hid hb1
  have HW1 := Lib.hid (HW0.out.trans (hb1.mono HW0.out.size))
  clear hc1 hb1
  go_wp2_with fail
  refine (PH.out w1 HW1.out).mono ?_
  rintro e2 w2 ⟨m, n, rfl, hm0, hm1, hn0, hn1, hb2⟩
  have HC2 := Lib.hid (HC1.out.stay hb2)
  have HB2 := Lib.hid (HB1.out.trans (hb2.mono HB1.out.size))
  have PM := Lib.hid (PutHead_sb m n w2 hn0 hn1)
  clear hb2
  go_wp2_with fail
  refine PM.out.mono ?_
  rintro e3 w3 ⟨rfl, hb3⟩
  have HC3 := Lib.hid (HC2.out.stay hb3)
  have HB3 := Lib.hid (HB2.out.trans (hb3.mono HB2.out.size))
  obtain ⟨s8, hs8, hls⟩ : ∃ s8 : ByteArray, s8 = ⟨(phB m n).toArray⟩ ∧ s8.size ≤ 9 := ⟨_, rfl, by have := phB_le m n; simpa [ByteArray.size] using this⟩
  rw [show bstr (phB m n) = .string s8 from by rw [hs8]]
  clear hb3 hs8 PM
  go_wp2_with fail
  refine (BE.out w.heap.size s8 (by omega) w3 HC3.out).mono ?_
  rintro e4 w4 ⟨u, rfl, hu, hd4⟩
  have HD4 := Lib.hid hd4
  clear hd4
  go_wp2_with fail
  refine (PI.out w.heap.size w4 HD4.out.1).mono ?_
  rintro e5 w5 ⟨i, rfl, hi, hd5⟩
  have HB5 := Lib.hid ((HD4.out.trans hd5).lower HB3.out (Nat.le_refl _))
  have HI := Lib.hid hi
  clear hd5 hi
  go_wp2_with fail
  go_ret2
  have hq0 : (⟨#[120]⟩ : ByteArray).size = 1 := rfl
  have hq1 : (⟨#[121]⟩ : ByteArray).size = 1 := rfl
  exact ⟨_, _, rfl, by simp only [ByteArray.size_append, hq0, hq1]; omega, HI.out, HB5.out⟩
set_option maxHeartbeats 8000000 in
theorem DrawPutCbor_any (w0 : World) (v : Value) (N : Nat) (hD : Drw w0 v N) (w : World) (hw : Below w0.heap.size w0 w) :
    Calls Tryd.prog 73 #[v] w (DrawV w) := by
  have BZ := Lib.hid (Box.new w 0 0 0 ⟨#[]⟩ (.slice none 0 0) 26)
  have hb0 : Below w.heap.size w (w.alloc (.cells #[.int .i64 0, .int .i64 0, .int .i64 0, .string ⟨#[]⟩, .slice none 0 0] 26)) := (Below.refl _ _).alloc (Nat.le_refl _) _
  have HB0 := Lib.hid hb0
  have NW := Lib.hid (fun (W : World) (hW : Below w0.heap.size w0 W) => New_any w0 v N hD W hW)
  have VL := Lib.hid (fun (c : Nat) (W : World) (h : CuX w0 c v N W) => l05Value_any w0 c v N hD W h)
  have HW0 := Lib.hid (hw.trans (hb0.mono hw.size))
  have hz0 : w.heap.size + 1 = (w.alloc (.cells #[.int .i64 0, .int .i64 0, .int .i64 0, .string ⟨#[]⟩, .slice none 0 0] 26)).heap.size := by simp
  clear hb0 hw hD
  go_enter Tryd.func73, Tryd.ntmps73
  go_wp2_with fail
  generalize (w.alloc (.cells #[.int .i64 0, .int .i64 0, .int .i64 0, .string ⟨#[]⟩, .slice none 0 0] 26)) = W0 at *
  refine (NW.out W0 HW0.out).mono ?_
  rintro e1 w1 ⟨rfl, hc1, hb1⟩
  have HC1 := Lib.hid hc1
  have HB1 := Lib.hid hb1
  have BZ1 := Lib.hid (BZ.out.stay hb1)
  have hz1 := hb1.size
  clear hc1 hb1
  go_wp2_with fail
  refine (VL.out W0.heap.size w1 HC1.out).mono ?_
  rintro e2 w2 ⟨t, sl, G, rfl, hwf, hsz, ho, hgl, hd2⟩
  obtain ⟨sa, sn, sc, rfl⟩ : ∃ sa sn sc, sl = .slice sa sn sc := by obtain ⟨p, q, e⟩ := ho.slice; exact ⟨p, _, q, e⟩
  have HB2 := Lib.hid (hd2.lower HB1.out (Nat.le_refl _))
  have BZ2 := Lib.hid (BZ1.out.overC hd2.2 (by omega))
  have HW := Lib.hid hwf
  have HO := Lib.hid (ho.set5 (z := w.heap.size) (by omega) (fun x hx => by have := hgl x hx; omega) (.int .i64 t.k) (.int .i64 t.n) (.int .i64 t.e) (.string t.s) (.slice sa sn sc)).rep
  clear hd2 hwf ho hgl
  unfold V.agg
  obtain ⟨z0, z1, z2, z3, z4⟩ := BZ2.out.cells
  have zf0 := BZ2.out.free (i := 0); have zf1 := BZ2.out.free (i := 1); have zf2 := BZ2.out.free (i := 2); have zf3 := BZ2.out.free (i := 3); have zf4 := BZ2.out.free (i := 4)
  have HF := Lib.hid (show DrawV w (.returned (t.agg (.slice sa sn sc))) (set5 w2 w.heap.size (.int .i64 t.k) (.int .i64 t.n) (.int .i64 t.e) (.string t.s) (.slice sa sn sc)) from
    ⟨t, _, rfl, HW.out, hsz, HO.out, ((HB0.out.trans (HB2.out.mono (by omega))).trans ((below_set5 w2 w.heap.size (.int .i64 t.k) (.int .i64 t.n) (.int .i64 t.e) (.string t.s) (.slice sa sn sc)).mono (Nat.le_refl _)))⟩)
  go_wp2_with fail
  exact bodyPost_ret (v := t.agg (.slice sa sn sc)) (by simp [results, Tryd.results73, go_sem, z0, z1, z2, z3, z4, V.agg]) rfl HF.out
set_option maxHeartbeats 8000000 in
theorem DrawCborSize_any (w0 : World) (v : Value) (N : Nat) (hD : Drw w0 v N) (w : World) (hw : Below w0.heap.size w0 w) :
    Calls Tryd.prog 79 #[v] w (DrawV w) := by
  have BZ := Lib.hid (Box.new w 0 0 0 ⟨#[]⟩ (.slice none 0 0) 26)
  have hb0 : Below w.heap.size w (w.alloc (.cells #[.int .i64 0, .int .i64 0, .int .i64 0, .string ⟨#[]⟩, .slice none 0 0] 26)) := (Below.refl _ _).alloc (Nat.le_refl _) _
  have HB0 := Lib.hid hb0
  have NW := Lib.hid (fun (W : World) (hW : Below w0.heap.size w0 W) => New_any w0 v N hD W hW)
  have VL := Lib.hid (fun (c : Nat) (W : World) (h : CuX w0 c v N W) => l05Value_any w0 c v N hD W h)
  have HW0 := Lib.hid (hw.trans (hb0.mono hw.size))
  have hz0 : w.heap.size + 1 = (w.alloc (.cells #[.int .i64 0, .int .i64 0, .int .i64 0, .string ⟨#[]⟩, .slice none 0 0] 26)).heap.size := by simp
  clear hb0 hw hD
  go_enter Tryd.func79, Tryd.ntmps79
  go_wp2_with fail
  generalize (w.alloc (.cells #[.int .i64 0, .int .i64 0, .int .i64 0, .string ⟨#[]⟩, .slice none 0 0] 26)) = W0 at *
  refine (NW.out W0 HW0.out).mono ?_
  rintro e1 w1 ⟨rfl, hc1, hb1⟩
  have HC1 := Lib.hid hc1
  have HB1 := Lib.hid hb1
  have BZ1 := Lib.hid (BZ.out.stay hb1)
  have hz1 := hb1.size
  clear hc1 hb1
  go_wp2_with fail
  refine (VL.out W0.heap.size w1 HC1.out).mono ?_
  rintro e2 w2 ⟨t, sl, G, rfl, hwf, hsz, ho, hgl, hd2⟩
  obtain ⟨sa, sn, sc, rfl⟩ : ∃ sa sn sc, sl = .slice sa sn sc := by obtain ⟨p, q, e⟩ := ho.slice; exact ⟨p, _, q, e⟩
  have HB2 := Lib.hid (hd2.lower HB1.out (Nat.le_refl _))
  have BZ2 := Lib.hid (BZ1.out.overC hd2.2 (by omega))
  have HW := Lib.hid hwf
  have HO := Lib.hid (ho.set5 (z := w.heap.size) (by omega) (fun x hx => by have := hgl x hx; omega) (.int .i64 t.k) (.int .i64 t.n) (.int .i64 t.e) (.string t.s) (.slice sa sn sc)).rep
  clear hd2 hwf ho hgl
  unfold V.agg
  obtain ⟨z0, z1, z2, z3, z4⟩ := BZ2.out.cells
  have zf0 := BZ2.out.free (i := 0); have zf1 := BZ2.out.free (i := 1); have zf2 := BZ2.out.free (i := 2); have zf3 := BZ2.out.free (i := 3); have zf4 := BZ2.out.free (i := 4)
  have HF := Lib.hid (show DrawV w (.returned (t.agg (.slice sa sn sc))) (set5 w2 w.heap.size (.int .i64 t.k) (.int .i64 t.n) (.int .i64 t.e) (.string t.s) (.slice sa sn sc)) from
    ⟨t, _, rfl, HW.out, hsz, HO.out, ((HB0.out.trans (HB2.out.mono (by omega))).trans ((below_set5 w2 w.heap.size (.int .i64 t.k) (.int .i64 t.n) (.int .i64 t.e) (.string t.s) (.slice sa sn sc)).mono (Nat.le_refl _)))⟩)
  go_wp2_with fail
  exact bodyPost_ret (v := t.agg (.slice sa sn sc)) (by simp [results, Tryd.results79, go_sem, z0, z1, z2, z3, z4, V.agg]) rfl HF.out
theorem cbB_sz (t : V) : (⟨(cborB t).toArray⟩ : ByteArray).size ≤ 615000 := cborB_le t
set_option maxHeartbeats 800000 in
theorem DrawGetCbor_any (w0 : World) (v : Value) (N : Nat) (hD : Drw w0 v N) (w : World) (hw : Below w0.heap.size w0 w) :
    Calls Tryd.prog 75 #[v] w (DrawSIh 700000 w) := by
  have NW := Lib.hid (fun (W : World) (hW : Below w0.heap.size w0 W) => New_any w0 v N hD W hW)
  have VL := Lib.hid (fun (c : Nat) (W : World) (h : CuX w0 c v N W) => l05Value_any w0 c v N hD W h)
  have BE := Lib.hid (fun (c : Nat) (s : ByteArray) (hs : s.size ≤ 2000000) (W : World) (h : CuX w0 c v N W) => l01Bent_any w0 c v N hD s hs W h)
  have PI := Lib.hid (fun (c : Nat) (W : World) (h : CuX w0 c v N W) => PickI_any w0 c v N hD [1, 1, 1, 1, 0, 2, -1, 9223372036854775807] 3 (by unfold In64; decide) (by decide) 8 8 rfl W h _ rfl)
  have HW0 := Lib.hid hw
  clear hw hD
  go_enter Tryd.func75, Tryd.ntmps75
  go_wp2_with fail
  refine (NW.out w HW0.out).mono ?_
  rintro e1 w1 ⟨rfl, hc1, hb1⟩
  have HC1 := Lib.hid hc1
  have HB1 := Lib.hid hb1
  clear hc1 hb1
  go_wp2_with fail
  refine (VL.out w.heap.size w1 HC1.out).mono ?_
  rintro e2 w2 ⟨t, sl, G, rfl, hwf, hsz, ho, hgl, hd2⟩
  have HD2 := Lib.hid hd2
  have PM := Lib.hid (PutCbor_spec w2 (t.agg sl) t ⟨sl, rfl, hwf, ho.rep⟩ (by omega) w2 (Below.refl _ _))
  clear hwf ho hgl hd2
  go_wp2_with fail
  refine PM.out.mono ?_
  rintro e3 w3 ⟨rfl, hb3⟩
  have HD3 := Lib.hid (HD2.out.stay hb3)
  obtain ⟨s8, hs8, hls⟩ : ∃ s8 : ByteArray, s8 = ⟨(cborB t).toArray⟩ ∧ s8.size ≤ 615000 := ⟨_, rfl, cbB_sz t⟩
  rw [show bstr (cborB t) = .string s8 from by rw [hs8]]
  clear hb3 hs8 PM
  go_wp2_with fail
  refine (BE.out w.heap.size s8 (by omega) w3 HD3.out.1).mono ?_
  rintro e4 w4 ⟨u, rfl, hu, hd4⟩
  have HD4 := Lib.hid (HD3.out.trans hd4)
  clear hd4
  go_wp2_with fail
  refine (PI.out w.heap.size w4 HD4.out.1).mono ?_
  rintro e5 w5 ⟨i, rfl, hi, hd5⟩
  have HB5 := Lib.hid ((HD4.out.trans hd5).lower HB1.out (Nat.le_refl _))
  have HI := Lib.hid hi
  clear hd5 hi
  go_wp2_with fail
  go_ret2
  have hq0 : (⟨#[120]⟩ : ByteArray).size = 1 := rfl
  have hq1 : (⟨#[121]⟩ : ByteArray).size = 1 := rfl
  exact ⟨_, _, rfl, by simp only [ByteArray.size_append, hq0, hq1]; omega, HI.out, HB5.out⟩
def DrawVB (B : Nat) (w : World) (e : Ending) (w' : World) : Prop := ∃ (t : V) (sl : Value), e = .returned (t.agg sl) ∧ t.wf ∧ t.sz ≤ B ∧ RepS w' sl t.kids ∧ Below w.heap.size w w'
theorem rep_one {W : World} {g : Nat} {t : V} {sl : Value} (hb : Box W g t.k t.n t.e t.s sl 26) (hwf : t.wf) (hr : RepS W sl t.kids) : RepS W (.slice (some ⟨g, 0, none⟩) 1 1) [t] := by
  refine RepS.mk (some ⟨g, 0, none⟩) g 0 1 [t] (fun _ => sl) (fun _ => rfl) (by simp) (by omega) (fun _ => hb.lt) ?_ ?_ ?_
  · intro i h
    obtain rfl : i = 0 := by simpa using h
    obtain ⟨h0, h1, h2, h3, h4⟩ := hb.cells
    exact ⟨h0, h1, h2, h3, h4⟩
  · intro i h
    obtain rfl : i = 0 := by simpa using h
    exact hwf
  · intro i h
    obtain rfl : i = 0 := by simpa using h
    exact hr
set_option maxHeartbeats 8000000 in
theorem DrawCborFits_any (w0 : World) (v : Value) (N : Nat) (hD : Drw w0 v N) (w : World) (hw : Below w0.heap.size w0 w) :
    Calls Tryd.prog 78 #[v] w (DrawVB 4001 w) := by
  have BZ := Lib.hid (Box.new w 0 0 0 ⟨#[]⟩ (.slice none 0 0) 26)
  have hb0 : Below w.heap.size w (w.alloc (.cells #[.int .i64 0, .int .i64 0, .int .i64 0, .string ⟨#[]⟩, .slice none 0 0] 26)) := (Below.refl _ _).alloc (Nat.le_refl _) _
  have HB0 := Lib.hid hb0
  have NW := Lib.hid (fun (W : World) (hW : Below w0.heap.size w0 W) => New_any w0 v N hD W hW)
  have VL := Lib.hid (fun (c : Nat) (W : World) (h : CuX w0 c v N W) => l05Value_any w0 c v N hD W h)
  have ON := Lib.hid (fun (c : Nat) (q : Int) (hq : In64 q) (W : World) (h : CuX w0 c v N W) => Once_any w0 c v N hD q hq W h)
  have HW0 := Lib.hid (hw.trans (hb0.mono hw.size))
  have hz0 : w.heap.size + 1 = (w.alloc (.cells #[.int .i64 0, .int .i64 0, .int .i64 0, .string ⟨#[]⟩, .slice none 0 0] 26)).heap.size := by simp
  clear hb0 hw hD
  go_enter Tryd.func78, Tryd.ntmps78
  go_wp2_with fail
  generalize (w.alloc (.cells #[.int .i64 0, .int .i64 0, .int .i64 0, .string ⟨#[]⟩, .slice none 0 0] 26)) = W0 at *
  refine (NW.out W0 HW0.out).mono ?_
  rintro e1 w1 ⟨rfl, hc1, hb1⟩
  have HC1 := Lib.hid hc1
  have HB1 := Lib.hid hb1
  have BZ1 := Lib.hid (BZ.out.stay hb1)
  have hz1 := hb1.size
  have hlt1 := hc1.lt
  clear hc1 hb1
  go_wp2_with fail
  refine (VL.out W0.heap.size w1 HC1.out).mono ?_
  rintro e2 w2 ⟨t, sl, G, rfl, hwf, hsz, ho, hgl, hd2⟩
  obtain ⟨sa, sn, sc, rfl⟩ : ∃ sa sn sc, sl = .slice sa sn sc := by obtain ⟨p, q, e⟩ := ho.slice; exact ⟨p, _, q, e⟩
  have hz2 := hd2.2.size
  have hal : Below w2.heap.size w2 (w2.alloc (.cells #[.int .i64 t.k, .int .i64 t.n, .int .i64 t.e, .string t.s, .slice sa sn sc] 26)) := (Below.refl _ _).alloc (Nat.le_refl _) _
  have HD3 := Lib.hid (hd2.stay hal)
  have BZ3 := Lib.hid ((BZ1.out.overC hd2.2 (by omega)).stay hal)
  have HW := Lib.hid hwf
  have HO3 := Lib.hid (ho.stay hal)
  have HGL := Lib.hid hgl
  have BV3 := Lib.hid (Box.new w2 t.k t.n t.e t.s (.slice sa sn sc) 26)
  clear hd2 hwf ho hgl hal
  unfold V.agg
  go_wp2_with fail
  generalize (w2.alloc (.cells #[.int .i64 t.k, .int .i64 t.n, .int .i64 t.e, .string t.s, .slice sa sn sc] 26)) = W3 at *
  refine (ON.out W0.heap.size 4 (by unfold In64; omega) W3 HD3.out.1).mono ?_
  rintro e4 w4 ⟨bb, rfl, hd4⟩
  have hz4 := hd4.2.size
  have BZ4 := Lib.hid (BZ3.out.overC hd4.2 (by omega))
  have BV4 := Lib.hid (BV3.out.overC hd4.2 (by omega))
  have HO4 := Lib.hid (HO3.out.over (fun x hx => HGL.out x hx) hd4.2 hlt1)
  have HB4 := Lib.hid (HB0.out.trans (((HD3.out.trans hd4).lower HB1.out (Nat.le_refl _)).mono (by omega)))
  have hb2 := BV4.out.lt
  clear hd4
  obtain ⟨z0, z1, z2, z3, z4⟩ := BZ4.out.cells
  have zf0 := BZ4.out.free (i := 0); have zf1 := BZ4.out.free (i := 1); have zf2 := BZ4.out.free (i := 2); have zf3 := BZ4.out.free (i := 3); have zf4 := BZ4.out.free (i := 4)
  obtain ⟨v0, v1, v2, v3, v4⟩ := BV4.out.cells
  cases bb
  case false =>
    have HOF := Lib.hid (HO4.out.set5 (z := w.heap.size) (by omega) (fun x hx => by have := HGL.out x hx; omega) (.int .i64 t.k) (.int .i64 t.n) (.int .i64 t.e) (.string t.s) (.slice sa sn sc)).rep
    have HF := Lib.hid (show DrawVB 4001 w (.returned (t.agg (.slice sa sn sc))) (set5 w4 w.heap.size (.int .i64 t.k) (.int .i64 t.n) (.int .i64 t.e) (.string t.s) (.slice sa sn sc)) from
      ⟨t, _, rfl, HW.out, by omega, HOF.out, HB4.out.trans ((below_set5 w4 w.heap.size (.int .i64 t.k) (.int .i64 t.n) (.int .i64 t.e) (.string t.s) (.slice sa sn sc)).mono (Nat.le_refl _))⟩)
    go_wp2_with fail
    exact bodyPost_ret (v := t.agg (.slice sa sn sc)) (by simp [results, Tryd.results78, go_sem, z0, z1, z2, z3, z4, V.agg]) rfl HF.out
  case true =>
    have hlz : w.heap.size < w4.heap.size := by omega
    have hne1 : w.heap.size ≠ w4.heap.size := by omega
    have hne2 : w4.heap.size ≠ w.heap.size := by omega
    have HOF := Lib.hid (((HO4.out.set5 (z := w.heap.size) (by omega) (fun x hx => by have := HGL.out x hx; omega) (.int .i64 9) (.int .i64 4) (.int .i64 0) (.string ⟨#[]⟩) (.slice (some ⟨w4.heap.size, 0, none⟩) 1 1)).stay ((Below.refl _ _).alloc (Nat.le_refl _) (.cells #[.int .i64 t.k, .int .i64 t.n, .int .i64 t.e, .string t.s, .slice sa sn sc] 26))).rep)
    have BN := Lib.hid (Box.new (set5 w4 w.heap.size (.int .i64 9) (.int .i64 4) (.int .i64 0) (.string ⟨#[]⟩) (.slice (some ⟨w4.heap.size, 0, none⟩) 1 1)) t.k t.n t.e t.s (.slice sa sn sc) 26)
    have HF := Lib.hid (show DrawVB 4001 w (.returned ((V.mk 9 4 0 ⟨#[]⟩ [t]).agg (.slice (some ⟨w4.heap.size, 0, none⟩) 1 1))) ((set5 w4 w.heap.size (.int .i64 9) (.int .i64 4) (.int .i64 0) (.string ⟨#[]⟩) (.slice (some ⟨w4.heap.size, 0, none⟩) 1 1)).alloc (.cells #[.int .i64 t.k, .int .i64 t.n, .int .i64 t.e, .string t.s, .slice sa sn sc] 26)) from
      ⟨.mk 9 4 0 ⟨#[]⟩ [t], _, rfl, ⟨by show In64 9; unfold In64; omega, by show In64 4; unfold In64; omega, in0, by show ByteArray.size ⟨#[]⟩ ≤ _; simp [ByteArray.size]⟩, by simp [V.sz, szs, ByteArray.size]; omega, by
        have hr := rep_one BN.out HW.out HOF.out
        rw [size_set5] at hr
        exact hr,
       HB4.out.trans (((below_set5 w4 w.heap.size (.int .i64 9) (.int .i64 4) (.int .i64 0) (.string ⟨#[]⟩) (.slice (some ⟨w4.heap.size, 0, none⟩) 1 1)).mono (Nat.le_refl _)).alloc (by rw [size_set5]; omega) _)⟩)
    go_wp2_with fail
    exact bodyPost_ret (v := .agg #[.int .i64 9, .int .i64 4, .int .i64 0, .string ⟨#[]⟩, .slice (some ⟨w4.heap.size, 0, none⟩) 1 1]) (by simp [results, Tryd.results78, go_sem, z0, z1, z2, z3, z4, hne1, hne2, hlz]) rfl HF.out
end Go.Proofs.YtgbgeocmjdgmoaaDoor
namespace Go.Proofs.YtgbgeocmjdgmoaaDoor
set_option linter.unusedSimpArgs false
set_option linter.unusedVariables false
set_option maxRecDepth 100000
open Go.RowKit
theorem open_bytes {H : Type} {enc : TypeId × Value → H} {w : World} {sp : Nat → Bool} {hd : Bool} {v : Value} {d : DataW H} {p : List MemPlace} (hv : ∃ a len cap, v = .slice a len cap)
    (h : DataW.Trod enc Tryd.prog w 0 sp hd 22 v d p) : ∃ L : List Int, BRead w v L := by
  obtain ⟨fuel, hf⟩ := h
  obtain ⟨a0, len0, cap0, rfl⟩ := hv
  rcases Go.ChangeShapes.open_ints Tryd.underlying22 Tryd.underlying5 (by kernel_rfl) hf with ⟨hc, _⟩ | ⟨a, len, cap, zs, hc, _, hlc, hcm, hsl, _, hcell, hss⟩
  · have hc : Value.slice a0 len0 cap0 = .slice none 0 0 := by simpa [Value.cells] using hc
    exact ⟨[], none, 0, 0, 0, hc, by simp, by simp, by omega, by simp, by simp⟩
  · have hc : Value.slice a0 len0 cap0 = .slice (some a) len cap := by simpa [Value.cells] using hc
    have hle : len ≤ zs.length := by rw [hsl]; split <;> omega
    have hs0 : 0 < len → a.spot = none ∧ a.block < w.heap.size := by
      intro h0
      have h1 := hcell 0 (by omega)
      have : a.add 0 = a := by unfold Addr.add; simp
      rw [this] at h1
      refine ⟨?_, World.block_lt_of_cell? w a h1⟩
      cases hq : a.spot with
      | none => rfl
      | some q => simp [World.cell?, hq] at h1; split at h1 <;> cases h1
    have hlen : (zs.take len).length = len := by rw [List.length_take]; omega
    refine ⟨zs.take len, some a, a.block, a.off, cap, by rw [hlen]; exact hc, ?_, by rw [hlen]; exact hlc, by simpa [maxLen] using hcm, ?_, ?_⟩
    · intro hne
      have h0 : 0 < len := by rcases Nat.eq_zero_or_pos len with e | e; (subst e; simp at hne); exact e
      obtain ⟨h1, h2⟩ := hs0 h0
      refine ⟨?_, h2⟩
      cases a; simp at h1; subst h1; rfl
    · intro i hi
      have hi2 := hi
      rw [hlen] at hi
      have h1 := hcell i (by omega)
      rw [addr_add _ _ (hs0 (by omega)).1] at h1
      have e : (zs.take len)[i]'hi2 = zs.getD i 0 := by
        rw [List.getElem_take, List.getD_eq_getElem?_getD, List.getElem?_eq_getElem (by omega)]; rfl
      rw [e]
      exact h1
    · intro n hn
      have := hss n (List.mem_of_mem_take hn)
      simp [Lit.wf, IntKind.min, IntKind.max, IntKind.signed, IntKind.bits] at this
      omega
end Go.Proofs.YtgbgeocmjdgmoaaDoor
namespace Go.Proofs.YtgbgeocmjdgmoaaDoor
set_option linter.unusedSimpArgs false
set_option linter.unusedVariables false
set_option maxRecDepth 100000
open Go.RowKit
def At (s : ByteArray) (i : Nat) (L : List UInt8) : Prop := i + L.length ≤ s.size ∧ sub s.data.toList i L.length = L
theorem At.nil {s : ByteArray} {i : Nat} (h : i ≤ s.size) : At s i [] := ⟨by simpa using h, by simp [sub]⟩
theorem sub_split (l : List UInt8) (i m k : Nat) : sub l i (m + k) = sub l i m ++ sub l (i + m) k := by
  unfold sub; rw [List.take_add, List.drop_drop]
theorem At.append {s : ByteArray} {i : Nat} {A B : List UInt8} (h : At s i (A ++ B)) : At s i A ∧ At s (i + A.length) B := by
  obtain ⟨h1, h2⟩ := h
  rw [List.length_append] at h1 h2
  rw [sub_split] at h2
  have hl : (sub s.data.toList i A.length).length = A.length := sub_length _ _ _ (by show i + A.length ≤ s.size; omega)
  have := List.append_inj h2 hl
  exact ⟨⟨by omega, this.1⟩, ⟨by omega, this.2⟩⟩
theorem At.cons {s : ByteArray} {i : Nat} {b : UInt8} {L : List UInt8} (h : At s i (b :: L)) : ∃ hi : i < s.size, s[i] = b ∧ At s (i + 1) L := by
  have h0 := At.append (A := [b]) (B := L) h
  have h1 := h0.1
  have hi : i < s.size := by have := h1.1; simp at this; omega
  refine ⟨hi, ?_, h0.2⟩
  have h2 := h1.2
  have h3 : sub s.data.toList i 1 = [s[i]] := by have := sub_succ s i 0 (by omega); simpa [sub] using this
  rw [show [b].length = 1 from rfl, h3] at h2
  simpa using h2
theorem At.text {s t : ByteArray} {i : Nat} (h : At s i t.data.toList) : i + t.size ≤ s.size ∧ s.extract i (i + t.size) = t := by
  have hl : t.data.toList.length = t.size := by simp
  obtain ⟨h1, h2⟩ := h
  rw [hl] at h1 h2
  refine ⟨h1, ba_ext ?_⟩
  rw [← h2, ByteArray.data_extract]
  simp [sub, List.take_drop]
theorem wval_app (A B : List UInt8) : wval (A ++ B) = wval A * 256 ^ B.length + wval B := by
  induction B generalizing A with
  | nil => simp [wval]
  | cons b B ih =>
    rw [show A ++ b :: B = (A ++ [b]) ++ B by simp, ih, wval_snoc, show b :: B = [b] ++ B from rfl, ih [b], show wval [b] = b.toNat by simp [wval]]
    rw [Nat.add_mul, List.length_append, show [b].length = 1 from rfl, Nat.pow_add, Nat.pow_one, Nat.add_assoc, Nat.mul_comm 256 (wval A), Nat.mul_assoc]
theorem emod_mul' (n p : Int) (hp : 0 < p) : n % (p * 256) = n / p % 256 * p + n % p := by
  have h1 := Int.emod_add_mul_ediv n p
  have h2 := Int.emod_add_mul_ediv (n / p) 256
  have h3 := Int.emod_nonneg n (by omega : p ≠ 0)
  have h4 := Int.emod_lt_of_pos n hp
  have h5 : 0 ≤ n / p % 256 := Int.emod_nonneg _ (by omega)
  have h6 : n / p % 256 < 256 := Int.emod_lt_of_pos _ (by omega)
  have h7 : n / p % 256 * p ≤ 255 * p := Int.mul_le_mul_of_nonneg_right (by omega) (by omega)
  have h8 : 0 ≤ n / p % 256 * p := Int.mul_nonneg h5 (by omega)
  have e : n = n / p % 256 * p + n % p + p * 256 * (n / p / 256) := by
    have e2 : p * (n / p) = n / p % 256 * p + p * 256 * (n / p / 256) := by
      conv => lhs; rw [← h2]
      rw [Int.mul_add, Int.mul_comm p (n / p % 256), Int.mul_assoc]
    omega
  conv => lhs; rw [e]
  rw [Int.add_mul_emod_self_left, Int.emod_eq_of_lt (by omega) (by omega)]
theorem wval_bigZ : ∀ (m : Nat) (n : Int), ((wval (bigZ m n) : Nat) : Int) = n % 256 ^ m
  | 0, n => by simp [bigZ, wval]
  | m + 1, n => by
    rw [bigZ, show UInt8.ofNat (n / 256 ^ m % 256).toNat :: bigZ m n = [UInt8.ofNat (n / 256 ^ m % 256).toNat] ++ bigZ m n from rfl, wval_app, bigZ_length]
    have h5 : 0 ≤ n / 256 ^ m % 256 := Int.emod_nonneg _ (by omega)
    have h6 : n / 256 ^ m % 256 < 256 := Int.emod_lt_of_pos _ (by omega)
    have hb : wval [UInt8.ofNat (n / 256 ^ m % 256).toNat] = (n / 256 ^ m % 256).toNat := by simp [wval]; omega
    rw [hb, Int.natCast_add, Int.natCast_mul, wval_bigZ m n, Int.toNat_of_nonneg h5, Int.pow_succ, emod_mul' n (256 ^ m) (Int.pow_pos (by omega))]
    simp
theorem byte_at {s : ByteArray} {i : Nat} {b : Nat} {L : List UInt8} (hb : b < 256) (h : At s i (UInt8.ofNat b :: L)) : ∃ hi : i < s.size, s[i].toNat = b ∧ At s (i + 1) L := by
  obtain ⟨hi, h1, h2⟩ := h.cons
  refine ⟨hi, ?_, h2⟩
  rw [h1]; simp; omega
mutual
def wfV : V → Prop
  | .mk k n e s ks => (V.mk k n e s ks).wf ∧ wfVs ks
def wfVs : List V → Prop
  | [] => True
  | t :: ts => wfV t ∧ wfVs ts
 end
theorem wfV_eq (t : V) : wfV t ↔ t.wf ∧ wfVs t.kids := by cases t; rw [wfV]; rfl
theorem wfVs_mem : ∀ {ts : List V}, wfVs ts ↔ ∀ t ∈ ts, wfV t
  | [] => by simp [wfVs]
  | t :: ts => by rw [wfVs, wfVs_mem (ts := ts)]; simp
theorem RepS.wfs {w : World} {v : Value} {ts : List V} (h : RepS w v ts) : wfVs ts := by
  induction h with
  | mk a b off cap ts sls ha hc hm hbb cells wfs kids ih =>
    rw [wfVs_mem]
    intro t ht
    obtain ⟨i, hi, rfl⟩ := List.getElem_of_mem ht
    exact (wfV_eq _).2 ⟨wfs i hi, ih i hi⟩
theorem Rep.wfV {w : World} {v : Value} {t : V} (h : Rep w v t) : wfV t := by
  obtain ⟨sl, rfl, h1, h2⟩ := h
  exact (wfV_eq t).2 ⟨h1, h2.wfs⟩
theorem map_even' {t : V} {d : Int} (h : rightB t d = true) (h8 : t.k = 8) : t.kids.length % 2 = 0 := by
  rw [rightB_eq] at h
  simp only [Bool.and_eq_true, ownB] at h
  have h3 := h.1.2.2
  rw [if_neg (by omega), if_neg (by omega), if_pos h8] at h3
  unfold pairsB at h3
  simp only [Bool.and_eq_true, decide_eq_true_eq] at h3
  exact h3.1.2
theorem right_parts {t : V} {d : Int} (h : rightB t d = true) : 0 ≤ d ∧ nodeB t = true ∧ (t.k ≠ 7 → t.k ≠ 8 → t.k ≠ 9 → t.kids = []) ∧ (t.k = 9 → t.kids.length = 1) ∧ (t.k = 8 → t.kids.length % 2 = 0) ∧ rightsB t.kids (d - 1) = true := by
  have h8 := fun e => map_even' h e
  rw [rightB_eq] at h
  simp only [Bool.and_eq_true, ownB, decide_eq_true_eq] at h
  obtain ⟨⟨h1, h2, h3⟩, h4⟩ := h
  refine ⟨h1, h2, fun a b c => ?_, fun e => ?_, h8, h4⟩
  · rw [if_neg a, if_neg c, if_neg b] at h3
    simpa using h3
  · rw [if_neg (by omega), if_pos e] at h3
    simpa using h3
theorem ba_nil {s : ByteArray} (h : s.size = 0) : s = ⟨#[]⟩ := by
  apply ba_ext
  have h2 : s.data.toList.length = 0 := by rw [Array.length_toList]; exact h
  rw [List.length_eq_zero_iff.1 h2]
theorem str_at {s : ByteArray} {k : Int} {t : ByteArray} {j l : Nat} (ha : At s j t.data.toList) : mgStr s k j t.size l = some (.mk k 0 0 t [], j + t.size, l) := by
  obtain ⟨h1, h2⟩ := ha.text
  unfold mgStr; rw [if_pos h1, h2]
theorem node_leaf {t : V} (h : nodeB t = true) (hk : t.k = 0 ∨ t.k = 1 ∨ t.k = 2 ∨ t.k = 7 ∨ t.k = 8) : t.n = 0 ∧ t.e = 0 ∧ t.s.size = 0 := by
  unfold nodeB at h; rw [if_pos hk] at h; exact of_decide_eq_true h
theorem node_3 {t : V} (h : nodeB t = true) (hk : t.k = 3) : t.e = 0 ∧ t.s.size = 0 := by
  unfold nodeB at h; rw [if_neg (by omega), if_pos hk] at h; exact of_decide_eq_true h
theorem node_4 {t : V} (h : nodeB t = true) (hk : t.k = 4) : decOk t.n t.e = true ∧ t.s.size = 0 := by
  unfold nodeB at h; rw [if_neg (by omega), if_neg (by omega), if_pos hk, Bool.and_eq_true] at h; exact ⟨h.1, of_decide_eq_true h.2⟩
theorem node_5 {t : V} (h : nodeB t = true) (hk : t.k = 5) : t.n = 0 ∧ t.e = 0 ∧ t.s.size ≤ 2000 := by
  unfold nodeB at h; rw [if_neg (by omega), if_neg (by omega), if_neg (by omega), if_pos hk, Bool.and_eq_true] at h; exact of_decide_eq_true h.1
theorem node_6 {t : V} (h : nodeB t = true) (hk : t.k = 6) : t.n = 0 ∧ t.e = 0 ∧ t.s.size ≤ 2000 := by
  unfold nodeB at h; rw [if_neg (by omega), if_neg (by omega), if_neg (by omega), if_neg (by omega), if_pos hk] at h; exact of_decide_eq_true h
theorem node_9 {t : V} (h : nodeB t = true) (hk : t.k = 9) : 0 ≤ t.n ∧ t.n ≤ 1000000 ∧ t.e = 0 ∧ t.s.size = 0 := by
  unfold nodeB at h; rw [if_neg (by omega), if_neg (by omega), if_neg (by omega), if_neg (by omega), if_neg (by omega), if_pos hk] at h; exact of_decide_eq_true h
end Go.Proofs.YtgbgeocmjdgmoaaDoor
namespace Go.Proofs.YtgbgeocmjdgmoaaDoor
set_option linter.unusedSimpArgs false
set_option linter.unusedVariables false
set_option maxRecDepth 100000
open Go.RowKit
theorem wval_big (m n : Nat) (h : n < 256 ^ m) : wval (big m n) = n := by
  have e := wval_bigZ m (n : Int)
  rw [← big_bigZ] at e
  have h2 : ((n : Int)) % 256 ^ m = n := Int.emod_eq_of_lt (by omega) (by exact_mod_cast h)
  rw [h2] at e
  exact_mod_cast e
theorem byteAt_in {s : ByteArray} {i : Nat} (hi : i < s.size) : byteAt s (i : Int) = (s[i].toNat : Int) := by
  rw [byteAt_eq s (i : Int) (by simpa using hi)]; simp
theorem any_wide {s : ByteArray} {i a n k r : Nat} (ha : a ≤ 7) (hr : (r = 24 ∧ k = 1) ∨ (r = 25 ∧ k = 2) ∨ (r = 26 ∧ k = 4) ∨ (r = 27 ∧ k = 8)) (hn : n < 256 ^ k) (h : At s i (UInt8.ofNat (32 * a + r) :: big k n)) :
    anyH s i = ((a : Int), (n : Int), ((i + (k + 1) : Nat) : Int)) ∧ ∃ hi : i < s.size, s[i].toNat / 32 = a ∧ s[i].toNat % 32 < 28 := by
  obtain ⟨hi, hb, h2⟩ := byte_at (b := 32 * a + r) (by omega) h
  refine ⟨?_, hi, by rw [hb]; omega, by rw [hb]; omega⟩
  have hB : byteAt s (i : Int) = ((32 * a + r : Nat) : Int) := by rw [byteAt_in hi, hb]
  obtain ⟨h3, h4⟩ := h2
  rw [big_length] at h3 h4
  have hr2 : byteAt s (i : Int) % 32 = (r : Int) := by rw [hB]; omega
  have hk : hdManyOf (byteAt s (i : Int) % 32) = k := by
    rw [hr2]; unfold hdManyOf
    rcases hr with ⟨rfl, rfl⟩ | ⟨rfl, rfl⟩ | ⟨rfl, rfl⟩ | ⟨rfl, rfl⟩ <;> rfl
  unfold anyH
  rw [if_neg (by omega), if_neg (by rw [hr2]; omega), if_neg (by rw [hr2]; omega), if_neg (by rw [hk]; omega), hk, Int.toNat_natCast, h4, wval_big k n hn, hB]
  refine Prod.ext ?_ (Prod.ext rfl ?_)
  · show ((32 * a + r : Nat) : Int) / 32 = (a : Int); omega
  · show (i : Int) + 1 + (k : Int) = ((i + (k + 1) : Nat) : Int); omega
theorem any_at {s : ByteArray} {i a n : Nat} (ha : a ≤ 7) (hn : n < 18446744073709551616) (h : At s i (headL a n)) :
    anyH s i = ((a : Int), (n : Int), ((i + (headL a n).length : Nat) : Int)) ∧ ∃ hi : i < s.size, s[i].toNat / 32 = a ∧ s[i].toNat % 32 < 28 := by
  unfold headL at h ⊢
  by_cases c0 : n < 24
  · rw [if_pos c0] at h ⊢
    obtain ⟨hi, hb, -⟩ := byte_at (by omega) h
    refine ⟨?_, hi, by rw [hb]; omega, by rw [hb]; omega⟩
    have hB : byteAt s (i : Int) = ((32 * a + n : Nat) : Int) := by rw [byteAt_in hi, hb]
    unfold anyH
    rw [if_neg (by omega), hB, if_pos (by omega)]
    refine Prod.ext ?_ (Prod.ext ?_ ?_)
    · show ((32 * a + n : Nat) : Int) / 32 = (a : Int); omega
    · show ((32 * a + n : Nat) : Int) % 32 = (n : Int); omega
    · show (i : Int) + 1 = ((i + 1 : Nat) : Int); omega
  rw [if_neg c0] at h ⊢
  by_cases c1 : n < 256
  · rw [if_pos c1] at h ⊢
    have := any_wide (k := 1) ha (.inl ⟨rfl, rfl⟩) (by omega) h
    rwa [List.length_cons, big_length]
  rw [if_neg c1] at h ⊢
  by_cases c2 : n < 65536
  · rw [if_pos c2] at h ⊢
    have := any_wide (k := 2) ha (.inr (.inl ⟨rfl, rfl⟩)) (by omega) h
    rwa [List.length_cons, big_length]
  rw [if_neg c2] at h ⊢
  by_cases c3 : n < 4294967296
  · rw [if_pos c3] at h ⊢
    have := any_wide (k := 4) ha (.inr (.inr (.inl ⟨rfl, rfl⟩))) (by omega) h
    rwa [List.length_cons, big_length]
  rw [if_neg c3] at h ⊢
  have := any_wide (k := 8) ha (.inr (.inr (.inr ⟨rfl, rfl⟩))) (by omega) h
  rwa [List.length_cons, big_length]
theorem get_at {s : ByteArray} {i a n : Nat} (ha : a ≤ 7) (hn : n < 18446744073709551616) (h : At s i (headL a n)) :
    getH s i = ((a : Int), (n : Int), ((i + (headL a n).length : Nat) : Int)) := by
  have e := (any_at ha hn h).1
  unfold getH
  simp only [e]
  rw [if_neg]
  simp only [Int.toNat_natCast]; omega
theorem hd_at {lo : Bool} {s : ByteArray} {i a n : Nat} (ha : a ≤ 7) (hn : n < 18446744073709551616) (h : At s i (headL a n)) :
    hdR lo s i = some (a, n, i + (headL a n).length) ∧ ∃ hi : i < s.size, s[i].toNat % 32 < 28 := by
  obtain ⟨e, hi, h1, h2⟩ := any_at ha hn h
  refine ⟨?_, hi, h2⟩
  have e2 : (if lo then anyH s i else getH s i) = ((a : Int), (n : Int), ((i + (headL a n).length : Nat) : Int)) := by
    cases lo
    · rw [if_neg (by simp)]; exact get_at ha hn h
    · rw [if_pos rfl]; exact e
  unfold hdR; rw [e2, if_neg (by show ¬ (((i + (headL a n).length : Nat) : Int) < 0); omega)]; simp only [Int.toNat_natCast]
def own4 (k : Int) : Nat := if k = 4 then 4 else 1
theorem own4_le (k : Int) : 1 ≤ own4 k ∧ own4 k ≤ 4 := by unfold own4; split <;> omega
mutual
def V.cost : V → Nat
  | .mk k _ _ _ ks => own4 k + costs ks
def costs : List V → Nat
  | [] => 0
  | t :: ts => t.cost + costs ts
 end
theorem V.cost_eq (t : V) : t.cost = own4 t.k + costs t.kids := by cases t; rw [V.cost]; rfl
theorem costs_append : ∀ a b : List V, costs (a ++ b) = costs a + costs b
  | [], b => by simp [costs]
  | t :: a, b => by rw [List.cons_append, costs, costs, costs_append a b]; omega
mutual
theorem cost_le : ∀ t : V, t.cost ≤ 4 * t.nodes
  | .mk k n e s ks => by
    have := costs_le ks
    rw [V.cost_eq, V.nodes_eq]
    have h4 := own4_le k
    show own4 k + costs ks ≤ 4 * (1 + nodess ks)
    omega
theorem costs_le : ∀ ts : List V, costs ts ≤ 4 * nodess ts
  | [] => by simp [costs]
  | t :: ts => by have := cost_le t; have := costs_le ts; rw [costs, nodess]; omega
 end
theorem costs_take (ts : List V) (j : Nat) (hj : j < ts.length) : costs (ts.take (j + 1)) = costs (ts.take j) + ts[j].cost := by
  rw [List.take_succ_eq_append_getElem hj, costs_append, costs, costs, Nat.add_zero]
theorem costs_take_le (ts : List V) (j : Nat) : costs (ts.take j) ≤ costs ts := by
  have := costs_append (ts.take j) (ts.drop j)
  rw [List.take_append_drop] at this; omega
theorem cborsL_split (ts : List V) (j : Nat) : cborsL ts = cborsL (ts.take j) ++ cborsL (ts.drop j) := by
  rw [← cborsL_append, List.take_append_drop]
def CP (lo : Bool) (s : ByteArray) (t : V) : Prop := ∀ (d : Int) (f i l : Nat), rightB t d = true → hasT 4 4 t = false → t.nodes ≤ 300 → d + 3 ≤ f → t.cost ≤ l → At s i (cborL t) → cg true lo s f i l = some (t, i + (cborL t).length, l - t.cost)
theorem cg_byte {lo : Bool} {s : ByteArray} {f i l a n x : Nat} (hi : i < s.size) (hb : s[i].toNat % 32 < 28) (hd : hdR lo s i = some (a, n, x)) (hl : 1 ≤ l) :
    cg true lo s (f + 1) i l = cgHead true lo s (cg true lo s f) a n x (l - 1) := by
  rw [cg, dif_pos hi, if_neg (by omega)]
  unfold cgVal
  rw [if_neg (fun h : isOpen lo s[i].toNat => by have := h.2.1; omega), hd]
theorem cg_at {lo : Bool} {s : ByteArray} {f i l a n : Nat} (ha : a ≤ 7) (hn : n < 18446744073709551616) (h : At s i (headL a n)) (hl : 1 ≤ l) :
    cg true lo s (f + 1) i l = cgHead true lo s (cg true lo s f) a n (i + (headL a n).length) (l - 1) := by
  obtain ⟨hd, hi, hb⟩ := hd_at (lo := lo) ha hn h
  exact cg_byte hi hb hd hl
theorem hasTs_mem {a b : Int} : ∀ {ts : List V}, hasTs a b ts = false → ∀ t ∈ ts, hasT a b t = false
  | [], _, t, ht => by cases ht
  | u :: ts, h, t, ht => by
    rw [hasTs, Bool.or_eq_false_iff] at h
    rw [List.mem_cons] at ht
    rcases ht with rfl | ht
    · exact h.1
    · exact hasTs_mem h.2 t ht
theorem ckids_at {lo : Bool} {s : ByteArray} {ts : List V} {f i l : Nat} {d : Int} (hk : ∀ t ∈ ts, CP lo s t) (hr : rightsB ts d = true) (hT : hasTs 4 4 ts = false) (hN : nodess ts ≤ 300) (hd : d + 3 ≤ f) (hl : costs ts ≤ l) (ha : At s i (cborsL ts)) : mgKids (cg true lo s f) ts.length i l = some (ts, i + (cborsL ts).length, l - costs ts) := by
  have key : ∀ n, n ≤ ts.length → mgKids (cg true lo s f) n i l = some (ts.take n, i + (cborsL (ts.take n)).length, l - costs (ts.take n)) := by
    intro n
    induction n with
    | zero => intro _; simp [mgKids, cborsL, costs]
    | succ n ih =>
      intro hn
      have hn' : n < ts.length := by omega
      have hm : ts[n] ∈ ts := List.getElem_mem hn'
      have h1 := costs_take ts n hn'
      have h2 := costs_take_le ts (n + 1)
      have h4 := nodess_mem hm
      have hat : At s (i + (cborsL (ts.take n)).length) (cborL ts[n]) := by
        rw [cborsL_split ts n] at ha
        have h3 := ha.append.2
        rw [List.drop_eq_getElem_cons hn', cborsL] at h3
        exact h3.append.1
      have hrn : rightB ts[n] d = true := by
        rw [rightsB_all] at hr
        exact List.all_eq_true.1 hr _ hm
      rw [mgKids, ih (by omega), Option.bind_some]
      show (cg true lo s f (i + (cborsL (ts.take n)).length) (l - costs (ts.take n))).map _ = _
      rw [hk _ hm d f _ _ hrn (hasTs_mem hT _ hm) (by omega) hd (by omega) hat, Option.map_some]
      simp only [Option.some.injEq, Prod.mk.injEq]
      refine ⟨(List.take_succ_eq_append_getElem hn').symm, ?_, by omega⟩
      rw [cborsL_take ts n hn', List.length_append]; omega
  have := key ts.length (Nat.le_refl _)
  rwa [List.take_length] at this
theorem cnum_at {lo : Bool} {s : ByteArray} {n : Int} {f i l : Nat} (hn : In64 n) (hl : 1 ≤ l) (ha : At s i (numL n)) : cg true lo s (f + 1) i l = some (.mk 3 n 0 ⟨#[]⟩ [], i + (numL n).length, l - 1) := by
  unfold numL at ha ⊢
  unfold In64 at hn
  by_cases h : n < 0
  · rw [if_pos h] at ha ⊢
    rw [cg_at (by omega) (by omega) ha hl]
    unfold cgHead
    rw [if_pos (by omega), if_neg (by omega), if_pos rfl]
    unfold mgLeaf
    rw [show -1 - (((-1 - n).toNat : Nat) : Int) = n by omega]
  · rw [if_neg h] at ha ⊢
    rw [cg_at (by omega) (by omega) ha hl]
    unfold cgHead
    rw [if_pos (by omega), if_neg (by omega), if_neg (by omega)]
    unfold mgLeaf
    rw [show ((n.toNat : Nat) : Int) = n by omega]
theorem own4_n {k : Int} (h : k ≠ 4) : own4 k = 1 := by unfold own4; rw [if_neg h]
theorem cb_node (lo : Bool) (s : ByteArray) (k n e : Int) (b : ByteArray) (ks : List V) (hw : wfV (.mk k n e b ks)) (hk : ∀ t ∈ ks, CP lo s t) : CP lo s (.mk k n e b ks) := by
  intro d f i l hr hT hN hd hl ha
  have hki := kind_in hr
  obtain ⟨h0, hnd, hp, h9, h8, hrs⟩ := right_parts hr
  obtain ⟨f, rfl⟩ : ∃ f', f = f' + 3 := ⟨f - 3, by omega⟩
  have hwf := ((wfV_eq _).1 hw).1
  simp only [V.k, V.kids] at hp h9 h8 hrs hki
  rw [V.nodes_eq] at hN
  rw [V.cost_eq] at hl ⊢
  rw [hasT_eq, Bool.or_eq_false_iff] at hT
  simp only [V.kids, V.k, V.n] at hl hN hT ⊢
  rw [cborL_eq] at ha ⊢
  simp only [V.kids] at ha ⊢
  have hln := nodess_ge ks
  have hc : k = 0 ∨ k = 1 ∨ k = 2 ∨ k = 3 ∨ k = 4 ∨ k = 5 ∨ k = 6 ∨ k = 7 ∨ k = 8 ∨ k = 9 := by omega
  rcases hc with rfl | rfl | rfl | rfl | rfl | rfl | rfl | rfl | rfl | rfl
  · obtain rfl := hp (by decide) (by decide) (by decide)
    obtain ⟨h1, h2, h3⟩ := node_leaf hnd (.inl rfl)
    obtain rfl : n = 0 := h1
    obtain rfl : e = 0 := h2
    obtain rfl := ba_nil h3
    rw [show cborsL [] = [] from rfl, List.append_nil] at ha ⊢
    rw [show ownL (.mk 0 0 0 ⟨#[]⟩ []) = headL 7 22 from rfl] at ha ⊢
    rw [own4_n (by decide)] at hl ⊢
    rw [cg_at (by omega) (by omega) ha (by omega)]
    simp [cgHead, mgLeaf, costs]
  · obtain rfl := hp (by decide) (by decide) (by decide)
    obtain ⟨h1, h2, h3⟩ := node_leaf hnd (.inr (.inl rfl))
    obtain rfl : n = 0 := h1
    obtain rfl : e = 0 := h2
    obtain rfl := ba_nil h3
    rw [show cborsL [] = [] from rfl, List.append_nil] at ha ⊢
    rw [show ownL (.mk 1 0 0 ⟨#[]⟩ []) = headL 7 20 from rfl] at ha ⊢
    rw [own4_n (by decide)] at hl ⊢
    rw [cg_at (by omega) (by omega) ha (by omega)]
    simp [cgHead, mgLeaf, costs]
  · obtain rfl := hp (by decide) (by decide) (by decide)
    obtain ⟨h1, h2, h3⟩ := node_leaf hnd (.inr (.inr (.inl rfl)))
    obtain rfl : n = 0 := h1
    obtain rfl : e = 0 := h2
    obtain rfl := ba_nil h3
    rw [show cborsL [] = [] from rfl, List.append_nil] at ha ⊢
    rw [show ownL (.mk 2 0 0 ⟨#[]⟩ []) = headL 7 21 from rfl] at ha ⊢
    rw [own4_n (by decide)] at hl ⊢
    rw [cg_at (by omega) (by omega) ha (by omega)]
    simp [cgHead, mgLeaf, costs]
  · obtain rfl := hp (by decide) (by decide) (by decide)
    obtain ⟨h2, h3⟩ := node_3 hnd rfl
    obtain rfl : e = 0 := h2
    obtain rfl := ba_nil h3
    have e1 : ownL (.mk 3 n 0 ⟨#[]⟩ []) = numL n := by simp [ownL, V.k, V.n]
    rw [show cborsL [] = [] from rfl, List.append_nil] at ha ⊢
    rw [e1] at ha ⊢
    rw [own4_n (by decide)] at hl ⊢
    rw [cnum_at hwf.2.1 (by omega) ha]
    simp [costs]
    exact ⟨rfl, rfl⟩
  · obtain rfl := hp (by decide) (by decide) (by decide)
    obtain ⟨h2, h3⟩ := node_4 hnd rfl
    obtain rfl := ba_nil h3
    have hn64 : In64 n := hwf.2.1
    have he64 : In64 e := hwf.2.2.1
    have e1 : ownL (.mk 4 n e ⟨#[]⟩ []) = headL 6 4 ++ headL 4 2 ++ numL e ++ numL n := by simp [ownL, V.k, V.n, V.e]
    rw [show cborsL [] = [] from rfl, List.append_nil] at ha ⊢
    rw [e1] at ha ⊢
    rw [show own4 4 = 4 from rfl, show costs [] = 0 from rfl] at hl ⊢
    have a1 := ha.append.1.append.1.append.1
    have a2 := ha.append.1.append.1.append.2
    have a3 := ha.append.1.append.2
    have a4 := ha.append.2
    simp only [List.length_append] at a2 a3 a4 ⊢
    rw [cg_at (by omega) (by omega) a1 (by omega)]
    unfold cgHead
    rw [if_neg (by omega), if_neg (by omega), if_neg (by omega), if_neg (by omega), if_neg (by omega), if_pos rfl, if_neg (by omega)]
    rw [cg_at (by omega) (by omega) a2 (by omega)]
    unfold cgHead
    rw [if_neg (by omega), if_neg (by omega), if_neg (by omega), if_pos rfl, if_neg (by omega)]
    have k1 : mgKids (cg true lo s (f + 1)) 2 (i + (headL 6 4).length + (headL 4 2).length) (l - 1 - 1) = some ([.mk 3 e 0 ⟨#[]⟩ [], .mk 3 n 0 ⟨#[]⟩ []], i + (headL 6 4).length + (headL 4 2).length + (numL e).length + (numL n).length, l - 1 - 1 - 1 - 1) := by
      rw [mgKids, mgKids, mgKids, Option.bind_some]
      simp only
      rw [cnum_at he64 (by omega) (by rw [show i + (headL 6 4).length + (headL 4 2).length = i + ((headL 6 4).length + (headL 4 2).length) by omega]; exact a3), Option.map_some, Option.bind_some]
      simp only
      rw [cnum_at hn64 (by omega) (by rw [show i + (headL 6 4).length + (headL 4 2).length + (numL e).length = i + ((headL 6 4).length + (headL 4 2).length + (numL e).length) by omega]; exact a4), Option.map_some]
      rfl
    rw [k1]
    unfold mgNode
    rw [Option.map_some, Option.bind_some]
    unfold cgTag
    rw [if_pos rfl]
    unfold decOf
    simp only [V.k, V.n]
    rw [if_pos ⟨trivial, trivial, trivial⟩]
    unfold mgLeaf
    simp only [Option.some.injEq, Prod.mk.injEq, true_and]
    omega
  · obtain rfl := hp (by decide) (by decide) (by decide)
    obtain ⟨h1, h2, h3⟩ := node_5 hnd rfl
    obtain rfl : n = 0 := h1
    obtain rfl : e = 0 := h2
    have h3 : b.size ≤ 2000 := h3
    have e1 : ownL (.mk 5 0 0 b []) = headL 3 b.size ++ b.data.toList := by simp [ownL, V.k, V.s]
    rw [show cborsL [] = [] from rfl, List.append_nil] at ha ⊢
    rw [e1] at ha ⊢
    rw [own4_n (by decide)] at hl ⊢
    rw [cg_at (by omega) (by omega) ha.append.1 (by omega)]
    unfold cgHead
    rw [if_neg (by omega), if_neg (by omega), if_pos rfl, str_at ha.append.2]
    simp [costs]; omega
  · obtain rfl := hp (by decide) (by decide) (by decide)
    obtain ⟨h1, h2, h3⟩ := node_6 hnd rfl
    obtain rfl : n = 0 := h1
    obtain rfl : e = 0 := h2
    have h3 : b.size ≤ 2000 := h3
    have e1 : ownL (.mk 6 0 0 b []) = headL 2 b.size ++ b.data.toList := by simp [ownL, V.k, V.s]
    rw [show cborsL [] = [] from rfl, List.append_nil] at ha ⊢
    rw [e1] at ha ⊢
    rw [own4_n (by decide)] at hl ⊢
    rw [cg_at (by omega) (by omega) ha.append.1 (by omega)]
    unfold cgHead
    rw [if_neg (by omega), if_pos rfl, str_at ha.append.2]
    simp [costs]; omega
  · obtain ⟨h1, h2, h3⟩ := node_leaf hnd (.inr (.inr (.inr (.inl rfl))))
    obtain rfl : n = 0 := h1
    obtain rfl : e = 0 := h2
    obtain rfl := ba_nil h3
    have e1 : ownL (.mk 7 0 0 ⟨#[]⟩ ks) = headL 4 ks.length := by simp [ownL, V.k, V.kids]
    rw [e1] at ha ⊢
    rw [own4_n (by decide)] at hl ⊢
    rw [cg_at (by omega) (by omega) ha.append.1 (by omega)]
    unfold cgHead
    rw [if_neg (by omega), if_neg (by omega), if_neg (by omega), if_pos rfl, if_neg (by omega)]
    rw [ckids_at hk hrs hT.2 (by omega) (by omega) (by omega) ha.append.2]
    simp [mgNode] <;> omega
  · obtain ⟨h1, h2, h3⟩ := node_leaf hnd (.inr (.inr (.inr (.inr rfl))))
    obtain rfl : n = 0 := h1
    obtain rfl : e = 0 := h2
    obtain rfl := ba_nil h3
    have hev := h8 rfl
    have e1 : ownL (.mk 8 0 0 ⟨#[]⟩ ks) = headL 5 (ks.length / 2) := by simp [ownL, V.k, V.kids]
    rw [e1] at ha ⊢
    rw [own4_n (by decide)] at hl ⊢
    rw [cg_at (by omega) (by omega) ha.append.1 (by omega)]
    unfold cgHead
    rw [if_neg (by omega), if_neg (by omega), if_neg (by omega), if_neg (by omega), if_pos rfl, if_neg (by omega), show 2 * min (ks.length / 2) 4294967296 = ks.length by omega]
    rw [ckids_at hk hrs hT.2 (by omega) (by omega) (by omega) ha.append.2]
    simp [mgNode] <;> omega
  · obtain ⟨h1, h2, h4, h3⟩ := node_9 hnd rfl
    obtain rfl : e = 0 := h4
    have h1 : 0 ≤ n := h1
    have h2 : n ≤ 1000000 := h2
    obtain rfl := ba_nil h3
    have h9' := h9 rfl
    obtain ⟨u, rfl⟩ := List.length_eq_one_iff.1 h9'
    have hn4 : n ≠ 4 := by
      have := hT.1
      simp at this
      exact of_decide_eq_false this
    have e1 : ownL (.mk 9 n 0 ⟨#[]⟩ [u]) = headL 6 n.toNat := by simp [ownL, V.k, V.n]
    rw [e1] at ha ⊢
    rw [own4_n (by decide)] at hl ⊢
    have hcu : costs [u] = u.cost := by rw [costs, costs, Nat.add_zero]
    have hlu : cborsL [u] = cborL u := by rw [cborsL, cborsL, List.append_nil]
    have hnu : nodess [u] = u.nodes := by rw [nodess, nodess, Nat.add_zero]
    rw [hcu] at hl ⊢
    rw [hlu] at ha ⊢
    rw [hnu] at hN
    rw [cg_at (by omega) (by omega) ha.append.1 (by omega)]
    unfold cgHead
    rw [if_neg (by omega), if_neg (by omega), if_neg (by omega), if_neg (by omega), if_neg (by omega), if_pos rfl, if_neg (by omega)]
    have hru : rightB u (d - 1) = true := by rw [rightsB, Bool.and_eq_true] at hrs; exact hrs.1
    rw [hk u (by simp) (d - 1) (f + 2) _ _ hru (hasTs_mem hT.2 u (by simp)) (by omega) (by omega) (by omega) ha.append.2, Option.bind_some]
    unfold cgTag
    rw [if_neg (by omega), show ((min n.toNat 4294967296 : Nat) : Int) = n by omega]
    simp only [Option.some.injEq, Prod.mk.injEq, true_and, List.length_append]
    omega
mutual
theorem cb_all (lo : Bool) (s : ByteArray) : ∀ t : V, wfV t → CP lo s t
  | .mk k n e b ks, h => cb_node lo s k n e b ks h (cbs_all lo s ks ((wfV_eq _).1 h).2)
theorem cbs_all (lo : Bool) (s : ByteArray) : ∀ ts : List V, wfVs ts → ∀ t ∈ ts, CP lo s t
  | [], _, t, ht => by cases ht
  | u :: ts, h, t, ht => by
    rw [wfVs] at h
    rw [List.mem_cons] at ht
    rcases ht with rfl | ht
    · exact cb_all lo s t h.1
    · exact cbs_all lo s ts h.2 t ht
 end
theorem cborB_full {t : V} (h : cborB t ≠ []) : okT t = true ∧ hasT 4 4 t = false ∧ cborB t = cborL t := by
  unfold cborB at h ⊢
  split at h
  · rename_i c
    rw [Bool.and_eq_true] at c
    exact ⟨c.1, by simpa using c.2, by rw [if_pos (by rw [Bool.and_eq_true]; exact c)]⟩
  · exact absurd rfl h
theorem cg_back_all (lo : Bool) {t : V} (hw : wfV t) (ho : cborB t ≠ []) : ∃ m, cg true lo ⟨(cborB t).toArray⟩ 15 0 1204 = some (t, (cborB t).length, m) := by
  obtain ⟨h1, h2, e⟩ := cborB_full ho
  simp only [okT, Bool.and_eq_true, decide_eq_true_eq] at h1
  rw [e]
  have hat : At (⟨(cborL t).toArray⟩ : ByteArray) 0 (cborL t) := by
    refine ⟨by simp [ByteArray.size], by simp [sub]⟩
  have hc := cost_le t
  have h := cb_all lo _ t hw 12 15 0 1204 h1.1 h2 h1.2 (by omega) (by omega) hat
  rw [Nat.zero_add] at h
  exact ⟨_, h⟩
theorem cbor_back {t : V} (hw : wfV t) (ho : cborB t ≠ []) : cbR2 ⟨(cborB t).toArray⟩ 0 = (t, ((cborB t).length : Int)) := by
  obtain ⟨m, h⟩ := cg_back_all false hw ho
  unfold cbR2
  rw [if_pos ⟨by omega, by simp⟩, Int.toNat_zero, h]
  unfold cborR
  simp only
  rw [if_pos]
  rw [ByteArray.data_extract]
  simp
theorem loose_back {t : V} (hw : wfV t) (ho : cborB t ≠ []) (hl : (cborB t).length ≤ 4000) : looseR2 ⟨(cborB t).toArray⟩ = (t, true) := by
  obtain ⟨m, h⟩ := cg_back_all true hw ho
  have hz : (⟨(cborB t).toArray⟩ : ByteArray).size = (cborB t).length := by simp [ByteArray.size]
  unfold looseR2
  rw [if_pos (by omega), h]
  unfold looseR
  simp only
  rw [if_pos ⟨hz.symm, ho⟩]
end Go.Proofs.YtgbgeocmjdgmoaaDoor
