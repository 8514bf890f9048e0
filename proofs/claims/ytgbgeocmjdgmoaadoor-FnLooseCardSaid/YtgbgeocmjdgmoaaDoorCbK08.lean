/- Lemmas for the statement of the last text of this claim: texts joined. -/
import Derived.Test.YtgbgeocmjdgmoaaDoorCbK01
import Derived.Test.YtgbgeocmjdgmoaaDoorCbK05
import Derived.Test.YtgbgeocmjdgmoaaDoorShelfB
import Derived.Shelf.Strings.BuilderK
import Derived.Lib.OthersKept
namespace Go.Proofs.YtgbgeocmjdgmoaaDoor
set_option linter.unusedSimpArgs false
set_option linter.unusedVariables false
set_option maxRecDepth 100000
open Go.RowKit Go.Shelf
abbrev Bld (B b : Nat) (bs : List Value) (w : World) : Prop := Lib.IsBuilderF 105 5 B b bs w
theorem extraB : Builder.Extra Tryd.prog Tryd.laysString_ren where
  sizeBuilder := by kernel_rfl
  liesBuilder := by kernel_rfl
  t5 := Tryd.underlying5
  a5 := Tryd.isAgg5
  z5 := Tryd.sizeOf5
  v5 := Tryd.zeroValue5
  infoByte := by kernel_rfl
  cellsByte := by kernel_rfl
  sizeByte := by kernel_rfl
  neB5 := by decide
def BRet (B b : Nat) (bs : List Value) (w w' : World) : Prop := Bld B b bs w' ∧ Below B w w' ∧ Lib.OthersKept 5 (some b) w w'
theorem String_any (B b : Nat) (l : List UInt8) (w : World) (h : Bld B b (Lib.byteCells l) w) (hBw : B ≤ w.heap.size) :
    Calls Tryd.prog 117 #[.pointer (some ⟨b, 0, none⟩)] w fun e w' => e = .returned (bstr l) ∧ BRet B b (Lib.byteCells l) w w' :=
  Any.Builder_String_any_k Tryd.laysString extraB B b l w h hBw
set_option maxHeartbeats 1000000 in
theorem copyCheck_used (b : Nat) (w : World) (h0 : w.cell? ⟨b, 0, none⟩ = some (.pointer (some ⟨b, 0, none⟩))) :
    Calls Tryd.prog 244 #[.pointer (some ⟨b, 0, none⟩)] w fun e w' => e = .returned (.tuple #[]) ∧ w' = w := by
  obtain ⟨j, hj, _⟩ := Option.map_eq_some_iff.1 extraB.sizeBuilder
  go_enter Tryd.func244, Tryd.ntmps244
  go_wp2_with fail
  rw [Lib.run_neq_ptr_same w _ Tryd.underlying103 hj]
  go_wp2_with fail
  go_end0
  exact ⟨rfl, rfl⟩
set_option maxHeartbeats 1000000 in
theorem copyCheck_fresh (b : Nat) (w : World) (h0 : w.cell? ⟨b, 0, none⟩ = some (.pointer none)) (hsh : w.shape? b = some (105, 2)) (hfz : w.frozen? ⟨b, 0, none⟩ = false) :
    Calls Tryd.prog 244 #[.pointer (some ⟨b, 0, none⟩)] w fun e w' => e = .returned (.tuple #[]) ∧ w' = w.setCell ⟨b, 0, none⟩ (.pointer (some ⟨b, 0, none⟩)) := by
  obtain ⟨j, hj, hjs⟩ := Option.map_eq_some_iff.1 extraB.sizeBuilder
  go_enter Tryd.func244, Tryd.ntmps244
  go_wp2_with fail
  rw [Lib.run_to_unsafe w ⟨b, 0, none⟩ Tryd.underlying103 Tryd.underlying238 hj (by rw [hjs]; decide) hsh (Nat.zero_lt_succ 1)]
  simp only [Result.andThen]
  rw [Oper.upon_value]
  go_wp2_with fail
  rw [run_callFunc_extern Tryd.func274 (by kernel_rfl) (by kernel_rfl) (by kernel_rfl) (e := Extern.AbiNoEscape.same) (by kernel_rfl)]
  rw [Lib.run_noEscape]
  simp only [Result.andThen]
  rw [Oper.upon_value]
  go_wp2_with fail
  rw [Lib.run_from_unsafe w ⟨b, 0, none⟩ Tryd.underlying238 Tryd.underlying103 hj hsh extraB.liesBuilder]
  simp only [Result.andThen]
  rw [Oper.upon_value]
  go_wp2_with fail
  go_end0
  exact ⟨rfl, rfl⟩
theorem copyCheck_any (B b : Nat) (bs : List Value) (w : World) (h : Bld B b bs w) :
    Calls Tryd.prog 244 #[.pointer (some ⟨b, 0, none⟩)] w fun e w' => e = .returned (.tuple #[]) ∧ Lib.BuilderAtF 105 5 B b (.pointer (some ⟨b, 0, none⟩)) bs w' ∧ Below B w w' ∧ Lib.OthersKept 5 (some b) w w' := by
  rcases h with h | h
  · refine (copyCheck_fresh b w h.cell0 h.shape h.frozen0).mono ?_
    rintro e w' ⟨rfl, rfl⟩
    exact ⟨rfl, h.used _, (Below.refl B w).setCell (p := ⟨b, 0, none⟩) h.1 _, (Lib.OthersKept.refl _ _ w).setCell ⟨b, 0, none⟩ rfl _⟩
  · refine (copyCheck_used b w h.cell0).mono ?_
    rintro e w' ⟨rfl, rfl⟩
    exact ⟨rfl, h, Below.refl B _, Lib.OthersKept.refl _ _ _⟩
set_option maxHeartbeats 2000000 in
theorem WriteString_any (B b : Nat) (bs : List Value) (s : ByteArray) (w : World) (h : Bld B b bs w) (hlen : bs.length + s.size ≤ 140737488355328) (hBw : B ≤ w.heap.size) :
    Calls Tryd.prog 172 #[.pointer (some ⟨b, 0, none⟩), .string s] w fun e w' => e = .returned (.tuple #[.int .i64 s.size, .nilIface]) ∧ BRet B b (bs ++ Lib.strCells s) w w' := by
  obtain ⟨i0, hi, hz0, hz1, hz2⟩ := info_parts extraB.infoByte
  have CC := Lib.hid (copyCheck_any B b bs w h)
  go_enter Tryd.func172, Tryd.ntmps172
  go_wp2_with (go_at_call 244; refine CC.out.mono ?_)
  rintro e w1 ⟨rfl, h1, hb1, hk1⟩
  obtain ⟨hB, v, hbk, hown, hne⟩ := h1
  have c0 : w1.cell? ⟨b, 0, none⟩ = some (.pointer (some ⟨b, 0, none⟩)) := by rw [Lib.cell_of_heap hbk]; rfl
  have c1 : w1.cell? ⟨b, 1, none⟩ = some v := by rw [Lib.cell_of_heap hbk]; rfl
  go_wp2_with (at_builtin; refine Lib.wpList_append_own_stringF _ rfl _ _ 22 9 rfl B 5 i0 Tryd.underlying22 Tryd.underlying9 hi hz0 hz1 hz2 _ _ _ rfl hown s rfl ?c3 ?c4 ?c5 ?_)
  case c3 => unfold maxLen; omega
  case c4 => omega
  case c5 => have := hb1.size; omega
  intro v' w2 hown' hgrow _
  have hlt : b < w1.heap.size := by
    rcases Nat.lt_or_ge b w1.heap.size with h' | h'
    · exact h'
    · simp [Array.getElem?_eq_none h'] at hbk
  have hb2 : w2.heap[b]? = some (.cells #[.pointer (some ⟨b, 0, none⟩), v] 105 (0, 0)) := by
    rw [hgrow.block b hlt (fun e => hne e.symm)]
    exact hbk
  have d0 : w2.cell? ⟨b, 0, none⟩ = some (.pointer (some ⟨b, 0, none⟩)) := by rw [Lib.cell_of_heap hb2]; rfl
  have d1 : w2.cell? ⟨b, 1, none⟩ = some v := by rw [Lib.cell_of_heap hb2]; rfl
  have f1 : w2.frozen? ⟨b, 1, none⟩ = false := Lib.frozen_of_heap hb2 1
  obtain ⟨ao, n', cap, rfl⟩ : ∃ ao n' cap, v' = .slice ao n' cap := by
    rcases hown'.2 with ⟨hv, _⟩ | ⟨g, cap, cur, fz, hv, _⟩
    · exact ⟨_, _, _, hv⟩
    · exact ⟨_, _, _, hv⟩
  go_wp2_with fail
  go_ret2
  refine ⟨rfl, .inr ?_, ?_, (hk1.grown hgrow (Lib.ownsRowF_kind hown)).setCell ⟨b, 1, none⟩ rfl _⟩
  · exact Lib.BuilderAtF.put (T := 105) (e := 5) hB hb2 (bs' := bs ++ Lib.strCells s) (by simpa [Lib.strCells_length] using hown') extraB.neB5
  · exact (hb1.grown hgrow (by have := hb1.size; omega) (fun k hk => (hown.lt k hk).1)).setCell (p := ⟨b, 1, none⟩) hB _
end Go.Proofs.YtgbgeocmjdgmoaaDoor
namespace Go.Proofs.YtgbgeocmjdgmoaaDoor
set_option linter.unusedSimpArgs false
set_option linter.unusedVariables false
set_option maxRecDepth 100000
open Go.RowKit
theorem Bld.lt {B b : Nat} {bs : List Value} {w : World} (h : Bld B b bs w) : b < w.heap.size := h.elim (fun x => x.lt) (fun x => x.lt)
theorem bldAt_stay {B b : Nat} {p : Value} {bs : List Value} {w w' : World} (h : Lib.BuilderAtF 105 5 B b p bs w) (hb : Below w.heap.size w w') : Lib.BuilderAtF 105 5 B b p bs w' := by
  have hlt := h.lt
  obtain ⟨hB, v, hk, hown, hne⟩ := h
  exact ⟨hB, v, (hb.block b hlt).trans hk, hown.kept (row := none) ⟨hb.os, hb.tape, hb.output, hb.size, fun k hk _ => hb.block k hk⟩ (by cases hv : v.ownBlock <;> simp), hne⟩
theorem Bld.stay {B b : Nat} {bs : List Value} {w w' : World} (h : Bld B b bs w) (hb : Below w.heap.size w w') : Bld B b bs w' :=
  h.elim (fun x => .inl (bldAt_stay x hb)) (fun x => .inr (bldAt_stay x hb))
structure Good (B b : Nat) (bs : List Value) (w W : World) : Prop where
  bld : Bld B b bs W
  below : Below B w W
  kept : Lib.OthersKept 5 (some b) w W
theorem Good.stay {B b : Nat} {bs : List Value} {w W w2 : World} (hBw : B ≤ w.heap.size) (hb : Below W.heap.size W w2) (h : Good B b bs w W) : Good B b bs w w2 :=
  ⟨h.bld.stay hb, h.below.trans (hb.mono (Nat.le_trans hBw h.below.size)), fun k o hk h1 h2 => (hb.block k (lt_of_heap (h.kept k o hk h1 h2))).trans (h.kept k o hk h1 h2)⟩
theorem Good.ret {B b : Nat} {bs bs' : List Value} {w W w2 : World} (h : Good B b bs w W) (hr : BRet B b bs' W w2) : Good B b bs' w w2 :=
  ⟨hr.1, h.below.trans hr.2.1, h.kept.trans hr.2.2⟩
theorem str_cells (l : List UInt8) : Lib.strCells ⟨l.toArray⟩ = Lib.byteCells l := rfl
theorem byte_app (l m : List UInt8) : Lib.byteCells (l ++ m) = Lib.byteCells l ++ Lib.byteCells m := by simp [Lib.byteCells]
set_option maxHeartbeats 400000 in
theorem write_good (B b : Nat) (bs : List Value) (w0 : World) (hB0 : B ≤ w0.heap.size) (s : ByteArray) (hlen : bs.length + s.size ≤ 140737488355328) (w : World) (h : Good B b bs w0 w) :
    Calls Tryd.prog 172 #[.pointer (some ⟨b, 0, none⟩), .string s] w fun e w' => e = .returned (.tuple #[.int .i64 s.size, .nilIface]) ∧ Good B b (bs ++ Lib.strCells s) w0 w' :=
  (WriteString_any B b bs s w h.bld hlen (Nat.le_trans hB0 h.below.size)).mono fun e w' ⟨h1, h2⟩ => ⟨h1, h.ret h2⟩
theorem good_box {B b : Nat} {bs : List Value} {w W : World} {k n e : Int} {s : ByteArray} {sl : Value} (hbw : b < w.heap.size) (h : Good B b bs (w.alloc (.cells #[.int .i64 k, .int .i64 n, .int .i64 e, .string s, sl] 26)) W) :
    W.cell? ⟨w.heap.size, 0, none⟩ = some (.int .i64 k) ∧ W.cell? ⟨w.heap.size, 1, none⟩ = some (.int .i64 n) ∧ W.cell? ⟨w.heap.size, 2, none⟩ = some (.int .i64 e) ∧
    W.cell? ⟨w.heap.size, 3, none⟩ = some (.string s) ∧ W.cell? ⟨w.heap.size, 4, none⟩ = some sl :=
  box_cells w k n e s sl 26 (h.kept _ _ (Box.new w k n e s sl 26) (fun e => by injection e with e; omega) (fun c fz e => by injection e with _ e _; exact absurd e (by decide)))
set_option maxHeartbeats 4000000 in
theorem putCbor_any (w0 : World) (B b : Nat) (hB0 : w0.heap.size ≤ B) : ∀ (N : Nat) (v : Value) (t : V) (d : Int), t.sz < N → rightB t d = true → Rep w0 v t → t.sz ≤ 1048576 → t.nodes ≤ 300 → ∀ (bs : List Value) (w : World), Below w0.heap.size w0 w → Bld B b bs w → B ≤ w.heap.size → bs.length + (cborL t).length ≤ 1000000 →
    Calls Tryd.prog 136 #[.pointer (some ⟨b, 0, none⟩), v] w fun e w' => e = .returned (.tuple #[]) ∧ BRet B b (bs ++ Lib.byteCells (cborL t)) w w' := by
  intro N
  induction N with
  | zero => intro v t d h; omega
  | succ N ih =>
  intro v t d hN hright h hsz hnd bs w hw hbd hBw hcl
  obtain ⟨sl, rfl, hwf, hr⟩ := h
  have hts := V.sz_eq t
  have htn := V.nodes_eq t
  have hlen := szs_length t.kids
  obtain ⟨hn64, he64, hss⟩ : In64 t.n ∧ In64 t.e ∧ t.s.size ≤ 2000 := ⟨hwf.2.1, hwf.2.2.1, node_small (rightB_leaf hright).1⟩
  have hkin := kind_in hright
  have htg := fun hk => tag_n hright hk
  have hC := cborL_eq t
  have hkr := right_kids hright
  obtain ⟨a, b2, off, cap, rfl, ha, hc, hm, sls, hel⟩ := hr.opened
  have HA := Lib.hid ha; have HE := Lib.hid hel; have HW := Lib.hid hw
  have hl : t.kids.length ≤ 1048576 := by omega
  have hle := cbors_le t.kids (d - 1) hkr
  have hbl := hbd.lt
  have hcl2 : bs.length + ((ownL t).length + (cborsL t.kids).length) ≤ 1000000 := by rw [hC, List.length_append] at hcl; exact hcl
  have V1 := Lib.hid (fun (j : Nat) (hj : j < t.kids.length) (W : World) (hW : Below w0.heap.size w0 W) (bs2 : List Value) (hb2 : Bld B b bs2 W) (hBW : B ≤ W.heap.size) (hcl : bs2.length + (cborL t.kids[j]).length ≤ 1000000) => ih (t.kids[j].agg (sls j)) t.kids[j] (d - 1) (by have h1 := szs_mem (List.getElem_mem hj); omega) (rightsB_get hkr j hj) ⟨sls j, rfl, (HE.out j hj).2.1, (HE.out j hj).2.2⟩ (by have h1 := szs_mem (List.getElem_mem hj); omega) (by have h1 := nodess_mem (List.getElem_mem hj); omega) bs2 W hW hb2 hBW hcl)
  have HR := Lib.hid (show ∀ W, Good B b ((bs ++ Lib.byteCells (ownL t)) ++ Lib.byteCells (cborsL t.kids)) (w.alloc (.cells #[.int .i64 t.k, .int .i64 t.n, .int .i64 t.e, .string t.s, .slice a t.kids.length cap] 26)) W → BRet B b (bs ++ Lib.byteCells (cborL t)) w W from fun W hg => by
    rw [List.append_assoc, ← byte_app, ← hC] at hg
    exact ⟨hg.bld, ((Below.refl B w).alloc hBw _).trans hg.below, ((Lib.OthersKept.refl _ _ w).alloc _).trans hg.kept⟩)
  have HG0 := Lib.hid (show Good B b bs (w.alloc (.cells #[.int .i64 t.k, .int .i64 t.n, .int .i64 t.e, .string t.s, .slice a t.kids.length cap] 26)) (w.alloc (.cells #[.int .i64 t.k, .int .i64 t.n, .int .i64 t.e, .string t.s, .slice a t.kids.length cap] 26)) from ⟨hbd.stay ((Below.refl _ _).alloc (Nat.le_refl _) _), Below.refl _ _, Lib.OthersKept.refl _ _ _⟩)
  have HWR := Lib.hid (fun (bs2 : List Value) (W : World) (hg : Good B b bs2 (w.alloc (.cells #[.int .i64 t.k, .int .i64 t.n, .int .i64 t.e, .string t.s, .slice a t.kids.length cap] 26)) W) => show Below w0.heap.size w0 W from hw.trans ((((Below.refl w.heap.size w).alloc (Nat.le_refl _) _).mono hw.size).trans (hg.below.mono hB0)))
  have HL := Lib.hid (fun (j : Nat) (hj : j < t.kids.length) => show ((bs ++ Lib.byteCells (ownL t)) ++ Lib.byteCells (cborsL (t.kids.take j))).length + (cborL t.kids[j]).length ≤ 1000000 by
    have e1 := cborsL_take t.kids j hj
    have e2 := cbors_take_le t.kids (j + 1)
    have e3 := congrArg List.length e1
    rw [List.length_append] at e3
    rw [List.length_append, List.length_append, Lib.byteCells_length, Lib.byteCells_length]; omega)
  have HT := Lib.hid (fun (j : Nat) (hj : j < t.kids.length) => cborsL_take t.kids j hj)
  have hBz : B ≤ (w.alloc (.cells #[.int .i64 t.k, .int .i64 t.n, .int .i64 t.e, .string t.s, .slice a t.kids.length cap] 26)).heap.size := by simp; omega
  have BOX := Lib.hid (fun (bs2 : List Value) (W : World) (hg : Good B b bs2 (w.alloc (.cells #[.int .i64 t.k, .int .i64 t.n, .int .i64 t.e, .string t.s, .slice a t.kids.length cap] 26)) W) => good_box hbl hg)
  have WS := Lib.hid (fun (bs2 : List Value) (s2 : ByteArray) (hlen : bs2.length + s2.size ≤ 140737488355328) (W : World) (hg : Good B b bs2 (w.alloc (.cells #[.int .i64 t.k, .int .i64 t.n, .int .i64 t.e, .string t.s, .slice a t.kids.length cap] 26)) W) => write_good B b bs2 _ hBz s2 hlen W hg)
  have HOS := Lib.hid (show (t.k = 0 → ownL t = headL 7 22) ∧ (t.k = 1 → ownL t = headL 7 20) ∧ (t.k = 2 → ownL t = headL 7 21) ∧ (t.k = 3 → ownL t = numL t.n) ∧ (t.k = 4 → ownL t = headL 6 4 ++ headL 4 2 ++ numL t.e ++ numL t.n) ∧
      (t.k = 5 → ownL t = headL 3 t.s.size ++ t.s.data.toList) ∧ (t.k = 6 → ownL t = headL 2 t.s.size ++ t.s.data.toList) ∧ (t.k = 7 → ownL t = headL 4 t.kids.length) ∧ (t.k = 8 → ownL t = headL 5 (t.kids.length / 2)) ∧ (t.k = 9 → ownL t = headL 6 t.n.toNat) by
    unfold ownL
    refine ⟨fun h => ?_, fun h => ?_, fun h => ?_, fun h => ?_, fun h => ?_, fun h => ?_, fun h => ?_, fun h => ?_, fun h => ?_, fun h => ?_⟩ <;> rw [h] <;> rfl)
  have hcase : t.k = 0 ∨ t.k = 1 ∨ t.k = 2 ∨ t.k = 3 ∨ t.k = 4 ∨ t.k = 5 ∨ t.k = 6 ∨ t.k = 7 ∨ t.k = 8 ∨ t.k = 9 := by omega
  clear ih hel ha hc hm hN hr hwf hlen hts htn hsz hnd hright hkr hle hkin hw hcl hC
  unfold V.agg
  generalize cborL t = R at *
  generalize ownL t = O at *
  generalize t.k = k at *
  generalize t.n = n at *
  generalize t.e = e at *
  generalize t.s = s at *
  generalize t.kids = ts at *
  rcases hcase with rfl | rfl | rfl | rfl | rfl | rfl | rfl | rfl | rfl | rfl
  --ARMS
  case' inl =>
    have HO := Lib.hid (show O = headL 7 22 from HOS.out.1 rfl)
    clear HOS
    have PH := Lib.hid (fun (W : World) => PutHead_impl 7 22 W (by omega) (by omega) (by omega) (by omega))
    have hcs : bs.length + (headL 7 22).length ≤ 140737488355328 := by rw [← HO.out]; omega
    have HCS := Lib.hid hcs; clear hcs hcl2 hn64 he64 hss htg
    go_enter Tryd.func136, Tryd.ntmps136
    obtain ⟨q0, q1, q2, q3, q4⟩ := BOX.out _ _ HG0.out
    go_wp2_with fail
    refine (PH.out _).mono ?_
    rintro x1 w1 ⟨rfl, hb1⟩
    have HG1 := Lib.hid (Good.stay hBz hb1 HG0.out)
    clear q0 q1 q2 q3 q4 hb1
    obtain ⟨q0, q1, q2, q3, q4⟩ := BOX.out _ _ HG1.out
    go_wp2_with fail
    refine (WS.out _ _ HCS.out _ HG1.out).mono ?_
    rintro x2 w2 ⟨rfl, hg2⟩
    clear q0 q1 q2 q3 q4 HG1
    rw [str_cells] at hg2
    have HG2 := Lib.hid (show Good B b (bs ++ Lib.byteCells O) (w.alloc (.cells #[.int .i64 0, .int .i64 n, .int .i64 e, .string s, .slice a ts.length cap] 26)) w2 by rw [HO.out]; exact hg2)
    obtain ⟨q0, q1, q2, q3, q4⟩ := BOX.out _ _ HG2.out
    clear BOX WS HG0
    generalize (w.alloc (.cells #[.int .i64 0, .int .i64 n, .int .i64 e, .string s, .slice a ts.length cap] 26)) = W0 at HG2 HR HWR hBz
    clear PH HO
  case' inr.inl =>
    have HO := Lib.hid (show O = headL 7 20 from HOS.out.2.1 rfl)
    clear HOS
    have PH := Lib.hid (fun (W : World) => PutHead_impl 7 20 W (by omega) (by omega) (by omega) (by omega))
    have hcs : bs.length + (headL 7 20).length ≤ 140737488355328 := by rw [← HO.out]; omega
    have HCS := Lib.hid hcs; clear hcs hcl2 hn64 he64 hss htg
    go_enter Tryd.func136, Tryd.ntmps136
    obtain ⟨q0, q1, q2, q3, q4⟩ := BOX.out _ _ HG0.out
    go_wp2_with fail
    refine (PH.out _).mono ?_
    rintro x1 w1 ⟨rfl, hb1⟩
    have HG1 := Lib.hid (Good.stay hBz hb1 HG0.out)
    clear q0 q1 q2 q3 q4 hb1
    obtain ⟨q0, q1, q2, q3, q4⟩ := BOX.out _ _ HG1.out
    go_wp2_with fail
    refine (WS.out _ _ HCS.out _ HG1.out).mono ?_
    rintro x2 w2 ⟨rfl, hg2⟩
    clear q0 q1 q2 q3 q4 HG1
    rw [str_cells] at hg2
    have HG2 := Lib.hid (show Good B b (bs ++ Lib.byteCells O) (w.alloc (.cells #[.int .i64 1, .int .i64 n, .int .i64 e, .string s, .slice a ts.length cap] 26)) w2 by rw [HO.out]; exact hg2)
    obtain ⟨q0, q1, q2, q3, q4⟩ := BOX.out _ _ HG2.out
    clear BOX WS HG0
    generalize (w.alloc (.cells #[.int .i64 1, .int .i64 n, .int .i64 e, .string s, .slice a ts.length cap] 26)) = W0 at HG2 HR HWR hBz
    clear PH HO
  case' inr.inr.inl =>
    have HO := Lib.hid (show O = headL 7 21 from HOS.out.2.2.1 rfl)
    clear HOS
    have PH := Lib.hid (fun (W : World) => PutHead_impl 7 21 W (by omega) (by omega) (by omega) (by omega))
    have hcs : bs.length + (headL 7 21).length ≤ 140737488355328 := by rw [← HO.out]; omega
    have HCS := Lib.hid hcs; clear hcs hcl2 hn64 he64 hss htg
    go_enter Tryd.func136, Tryd.ntmps136
    obtain ⟨q0, q1, q2, q3, q4⟩ := BOX.out _ _ HG0.out
    go_wp2_with fail
    refine (PH.out _).mono ?_
    rintro x1 w1 ⟨rfl, hb1⟩
    have HG1 := Lib.hid (Good.stay hBz hb1 HG0.out)
    clear q0 q1 q2 q3 q4 hb1
    obtain ⟨q0, q1, q2, q3, q4⟩ := BOX.out _ _ HG1.out
    go_wp2_with fail
    refine (WS.out _ _ HCS.out _ HG1.out).mono ?_
    rintro x2 w2 ⟨rfl, hg2⟩
    clear q0 q1 q2 q3 q4 HG1
    rw [str_cells] at hg2
    have HG2 := Lib.hid (show Good B b (bs ++ Lib.byteCells O) (w.alloc (.cells #[.int .i64 2, .int .i64 n, .int .i64 e, .string s, .slice a ts.length cap] 26)) w2 by rw [HO.out]; exact hg2)
    obtain ⟨q0, q1, q2, q3, q4⟩ := BOX.out _ _ HG2.out
    clear BOX WS HG0
    generalize (w.alloc (.cells #[.int .i64 2, .int .i64 n, .int .i64 e, .string s, .slice a ts.length cap] 26)) = W0 at HG2 HR HWR hBz
    clear PH HO
  case' inr.inr.inr.inl =>
    have HO := Lib.hid (show O = numL n from HOS.out.2.2.2.1 rfl)
    clear HOS
    have PH := Lib.hid (fun (W : World) => putInt_any n hn64 W)
    have hcs : bs.length + (numL n).length ≤ 140737488355328 := by rw [← HO.out]; omega
    have HCS := Lib.hid hcs; clear hcs hcl2 hn64 he64 hss htg
    go_enter Tryd.func136, Tryd.ntmps136
    obtain ⟨q0, q1, q2, q3, q4⟩ := BOX.out _ _ HG0.out
    go_wp2_with fail
    refine (PH.out _).mono ?_
    rintro x1 w1 ⟨rfl, hb1⟩
    have HG1 := Lib.hid (Good.stay hBz hb1 HG0.out)
    clear q0 q1 q2 q3 q4 hb1
    obtain ⟨q0, q1, q2, q3, q4⟩ := BOX.out _ _ HG1.out
    go_wp2_with fail
    refine (WS.out _ _ HCS.out _ HG1.out).mono ?_
    rintro x2 w2 ⟨rfl, hg2⟩
    clear q0 q1 q2 q3 q4 HG1
    rw [str_cells] at hg2
    have HG2 := Lib.hid (show Good B b (bs ++ Lib.byteCells O) (w.alloc (.cells #[.int .i64 3, .int .i64 n, .int .i64 e, .string s, .slice a ts.length cap] 26)) w2 by rw [HO.out]; exact hg2)
    obtain ⟨q0, q1, q2, q3, q4⟩ := BOX.out _ _ HG2.out
    clear BOX WS HG0
    generalize (w.alloc (.cells #[.int .i64 3, .int .i64 n, .int .i64 e, .string s, .slice a ts.length cap] 26)) = W0 at HG2 HR HWR hBz
    clear PH HO
  case' inr.inr.inr.inr.inl =>
    have HO := Lib.hid (show O = headL 6 4 ++ headL 4 2 ++ numL e ++ numL n from HOS.out.2.2.2.2.1 rfl)
    clear HOS
    have P1 := Lib.hid (fun (W : World) => PutHead_impl 6 4 W (by omega) (by omega) (by omega) (by omega))
    have P2 := Lib.hid (fun (W : World) => PutHead_impl 4 2 W (by omega) (by omega) (by omega) (by omega))
    have PN := Lib.hid (fun (W : World) => putInt_any n hn64 W)
    have PE := Lib.hid (fun (W : World) => putInt_any e he64 W)
    have L1 := headL_le 6 4; have L2 := headL_le 4 2; have L3 := numL_le e; have L4 := numL_le n
    have S1 : ¬ 9223372036854775807 < (headL 6 4).length + (headL 4 2).length := by omega
    have S2 : ¬ 9223372036854775807 < (headL 6 4).length + (headL 4 2).length + (numL e).length := by omega
    have S3 : ¬ 9223372036854775807 < (headL 6 4).length + (headL 4 2).length + (numL e).length + (numL n).length := by omega
    have HCS := Lib.hid (show bs.length + ((⟨(headL 6 4).toArray⟩ : ByteArray) ++ ⟨(headL 4 2).toArray⟩ ++ ⟨(numL e).toArray⟩ ++ ⟨(numL n).toArray⟩).size ≤ 140737488355328 by rw [cat4, ← HO.out]; show bs.length + O.length ≤ _; omega)
    have HOS := Lib.hid (show Lib.strCells ((⟨(headL 6 4).toArray⟩ : ByteArray) ++ ⟨(headL 4 2).toArray⟩ ++ ⟨(numL e).toArray⟩ ++ ⟨(numL n).toArray⟩) = Lib.byteCells O by rw [HO.out, cat4]; rfl)
    clear L1 L2 L3 L4 hcl2 hn64 he64 hss htg
    go_enter Tryd.func136, Tryd.ntmps136
    obtain ⟨q0, q1, q2, q3, q4⟩ := BOX.out _ _ HG0.out
    go_wp2_with fail
    have hgd : Good B b bs (w.alloc (.cells #[.int .i64 4, .int .i64 n, .int .i64 e, .string s, .slice a ts.length cap] 26)) (w.alloc (.cells #[.int .i64 4, .int .i64 n, .int .i64 e, .string s, .slice a ts.length cap] 26)).drew := ⟨HG0.out.bld, HG0.out.below.drew, HG0.out.kept.drew⟩
    go_region_held3 (fun w' => w'.cell? ⟨w.heap.size, 1, none⟩ = some (.int .i64 n) ∧ w'.cell? ⟨w.heap.size, 2, none⟩ = some (.int .i64 e)) (first | with_reducible exact ⟨by assumption, by assumption⟩ | with_reducible assumption | exact ⟨q1, q2⟩ | go_keep) (first | (((first | with_reducible refine (P1.out _).mono ?_ | with_reducible refine (P2.out _).mono ?_ | with_reducible refine (PN.out _).mono ?_ | with_reducible refine (PE.out _).mono ?_); rintro x1 w1 ⟨rfl, hb1⟩; have hG := Good.stay hBz hb1 (by with_reducible assumption); obtain ⟨-, qa, qb, -, -⟩ := BOX.out _ _ hG)) | (((refine (WS.out _ _ HCS.out _ (by with_reducible assumption)).mono ?_); rintro x2 w2 ⟨rfl, hG2⟩; obtain ⟨-, qa, qb, -, -⟩ := BOX.out _ _ hG2)))
    have HG2 := Lib.hid (show Good B b (bs ++ Lib.byteCells O) (w.alloc (.cells #[.int .i64 4, .int .i64 n, .int .i64 e, .string s, .slice a ts.length cap] 26)) w2 by rw [← HOS.out]; exact hG2)
    obtain ⟨q0, q1, q2, q3, q4⟩ := BOX.out _ _ HG2.out
    clear BOX WS HG0
    generalize (w.alloc (.cells #[.int .i64 4, .int .i64 n, .int .i64 e, .string s, .slice a ts.length cap] 26)) = W0 at HG2 HR HWR hBz
    clear P1 P2 PN PE HO
  case' inr.inr.inr.inr.inr.inl =>
    have HO := Lib.hid (show O = headL 3 s.size ++ s.data.toList from HOS.out.2.2.2.2.2.1 rfl)
    clear HOS
    have hu := u64w (s.size : Int) (by omega) (by omega)
    have PH := Lib.hid (show ∀ W, Calls Tryd.prog 69 #[.int .i64 3, .int .u64 (s.size : Int)] W (TxtRet W (headL 3 s.size)) from fun W => PutHead_impl 3 (s.size : Int) W (by omega) (by omega) (by omega) (by omega))
    have hcs : bs.length + (headL 3 s.size ++ s.data.toList).length ≤ 140737488355328 := by rw [← HO.out]; omega
    have HCS := Lib.hid (show bs.length + ((⟨(headL 3 s.size).toArray⟩ : ByteArray) ++ s).size ≤ 140737488355328 by rw [cat2]; exact hcs)
    have S1 : ¬ 9223372036854775807 < (headL 3 s.size).length + s.size := by rw [List.length_append, Array.length_toList] at hcs; have : s.data.size = s.size := rfl; omega
    clear hcs hcl2 hn64 he64 hss htg
    have HOS := Lib.hid (show Lib.strCells ((⟨(headL 3 s.size).toArray⟩ : ByteArray) ++ s) = Lib.byteCells O by rw [HO.out, cat2]; rfl)
    generalize headL 3 s.size = H at *
    go_enter Tryd.func136, Tryd.ntmps136
    obtain ⟨q0, q1, q2, q3, q4⟩ := BOX.out _ _ HG0.out
    go_wp2_with fail
    have hgd : Good B b bs (w.alloc (.cells #[.int .i64 5, .int .i64 n, .int .i64 e, .string s, .slice a ts.length cap] 26)) (w.alloc (.cells #[.int .i64 5, .int .i64 n, .int .i64 e, .string s, .slice a ts.length cap] 26)).drew := ⟨HG0.out.bld, HG0.out.below.drew, HG0.out.kept.drew⟩
    go_region_held3 (fun w' => w'.cell? ⟨w.heap.size, 3, none⟩ = some (.string s)) (first | with_reducible assumption | exact q3 | go_keep) (first | (((with_reducible refine (PH.out _).mono ?_); rintro x1 w1 ⟨rfl, hb1⟩; have hG := Good.stay hBz hb1 (by with_reducible assumption); obtain ⟨-, -, -, qa, -⟩ := BOX.out _ _ hG)) | (((refine (WS.out _ _ HCS.out _ (by with_reducible assumption)).mono ?_); rintro x2 w2 ⟨rfl, hG2⟩; obtain ⟨-, -, -, qa, -⟩ := BOX.out _ _ hG2)))
    have HG2 := Lib.hid (show Good B b (bs ++ Lib.byteCells O) (w.alloc (.cells #[.int .i64 5, .int .i64 n, .int .i64 e, .string s, .slice a ts.length cap] 26)) w2 by rw [← HOS.out]; exact hG2)
    obtain ⟨q0, q1, q2, q3, q4⟩ := BOX.out _ _ HG2.out
    clear BOX WS HG0
    generalize (w.alloc (.cells #[.int .i64 5, .int .i64 n, .int .i64 e, .string s, .slice a ts.length cap] 26)) = W0 at HG2 HR HWR hBz
    clear PH HO
  case' inr.inr.inr.inr.inr.inr.inl =>
    have HO := Lib.hid (show O = headL 2 s.size ++ s.data.toList from HOS.out.2.2.2.2.2.2.1 rfl)
    clear HOS
    have hu := u64w (s.size : Int) (by omega) (by omega)
    have PH := Lib.hid (show ∀ W, Calls Tryd.prog 69 #[.int .i64 2, .int .u64 (s.size : Int)] W (TxtRet W (headL 2 s.size)) from fun W => PutHead_impl 2 (s.size : Int) W (by omega) (by omega) (by omega) (by omega))
    have hcs : bs.length + (headL 2 s.size ++ s.data.toList).length ≤ 140737488355328 := by rw [← HO.out]; omega
    have HCS := Lib.hid (show bs.length + ((⟨(headL 2 s.size).toArray⟩ : ByteArray) ++ s).size ≤ 140737488355328 by rw [cat2]; exact hcs)
    have S1 : ¬ 9223372036854775807 < (headL 2 s.size).length + s.size := by rw [List.length_append, Array.length_toList] at hcs; have : s.data.size = s.size := rfl; omega
    clear hcs hcl2 hn64 he64 hss htg
    have HOS := Lib.hid (show Lib.strCells ((⟨(headL 2 s.size).toArray⟩ : ByteArray) ++ s) = Lib.byteCells O by rw [HO.out, cat2]; rfl)
    generalize headL 2 s.size = H at *
    go_enter Tryd.func136, Tryd.ntmps136
    obtain ⟨q0, q1, q2, q3, q4⟩ := BOX.out _ _ HG0.out
    go_wp2_with fail
    have hgd : Good B b bs (w.alloc (.cells #[.int .i64 6, .int .i64 n, .int .i64 e, .string s, .slice a ts.length cap] 26)) (w.alloc (.cells #[.int .i64 6, .int .i64 n, .int .i64 e, .string s, .slice a ts.length cap] 26)).drew := ⟨HG0.out.bld, HG0.out.below.drew, HG0.out.kept.drew⟩
    go_region_held3 (fun w' => w'.cell? ⟨w.heap.size, 3, none⟩ = some (.string s)) (first | with_reducible assumption | exact q3 | go_keep) (first | (((with_reducible refine (PH.out _).mono ?_); rintro x1 w1 ⟨rfl, hb1⟩; have hG := Good.stay hBz hb1 (by with_reducible assumption); obtain ⟨-, -, -, qa, -⟩ := BOX.out _ _ hG)) | (((refine (WS.out _ _ HCS.out _ (by with_reducible assumption)).mono ?_); rintro x2 w2 ⟨rfl, hG2⟩; obtain ⟨-, -, -, qa, -⟩ := BOX.out _ _ hG2)))
    have HG2 := Lib.hid (show Good B b (bs ++ Lib.byteCells O) (w.alloc (.cells #[.int .i64 6, .int .i64 n, .int .i64 e, .string s, .slice a ts.length cap] 26)) w2 by rw [← HOS.out]; exact hG2)
    obtain ⟨q0, q1, q2, q3, q4⟩ := BOX.out _ _ HG2.out
    clear BOX WS HG0
    generalize (w.alloc (.cells #[.int .i64 6, .int .i64 n, .int .i64 e, .string s, .slice a ts.length cap] 26)) = W0 at HG2 HR HWR hBz
    clear PH HO
  case' inr.inr.inr.inr.inr.inr.inr.inl =>
    have HO := Lib.hid (show O = headL 4 ts.length from HOS.out.2.2.2.2.2.2.2.1 rfl)
    clear HOS
    have hu := u64w (ts.length : Int) (by omega) (by omega)
    have PH := Lib.hid (show ∀ W, Calls Tryd.prog 69 #[.int .i64 4, .int .u64 (ts.length : Int)] W (TxtRet W (headL 4 ts.length)) from fun W => PutHead_impl 4 (ts.length : Int) W (by omega) (by omega) (by omega) (by omega))
    have hcs : bs.length + (headL 4 ts.length).length ≤ 140737488355328 := by rw [← HO.out]; omega
    have HCS := Lib.hid hcs; clear hcs hcl2 hn64 he64 hss htg
    go_enter Tryd.func136, Tryd.ntmps136
    obtain ⟨q0, q1, q2, q3, q4⟩ := BOX.out _ _ HG0.out
    go_wp2_with fail
    refine (PH.out _).mono ?_
    rintro x1 w1 ⟨rfl, hb1⟩
    have HG1 := Lib.hid (Good.stay hBz hb1 HG0.out)
    clear q0 q1 q2 q3 q4 hb1
    obtain ⟨q0, q1, q2, q3, q4⟩ := BOX.out _ _ HG1.out
    go_wp2_with fail
    refine (WS.out _ _ HCS.out _ HG1.out).mono ?_
    rintro x2 w2 ⟨rfl, hg2⟩
    clear q0 q1 q2 q3 q4 HG1
    rw [str_cells] at hg2
    have HG2 := Lib.hid (show Good B b (bs ++ Lib.byteCells O) (w.alloc (.cells #[.int .i64 7, .int .i64 n, .int .i64 e, .string s, .slice a ts.length cap] 26)) w2 by rw [HO.out]; exact hg2)
    obtain ⟨q0, q1, q2, q3, q4⟩ := BOX.out _ _ HG2.out
    clear BOX WS HG0
    generalize (w.alloc (.cells #[.int .i64 7, .int .i64 n, .int .i64 e, .string s, .slice a ts.length cap] 26)) = W0 at HG2 HR HWR hBz
    clear PH HO
  case' inr.inr.inr.inr.inr.inr.inr.inr.inl =>
    have HO := Lib.hid (show O = headL 5 (ts.length / 2) from HOS.out.2.2.2.2.2.2.2.2.1 rfl)
    clear HOS
    have hu := u64w ((ts.length / 2 : Nat) : Int) (by omega) (by omega)
    have PH := Lib.hid (show ∀ W, Calls Tryd.prog 69 #[.int .i64 5, .int .u64 ((ts.length / 2 : Nat) : Int)] W (TxtRet W (headL 5 (ts.length / 2))) from fun W => PutHead_impl 5 ((ts.length / 2 : Nat) : Int) W (by omega) (by omega) (by omega) (by omega))
    have hcs : bs.length + (headL 5 (ts.length / 2)).length ≤ 140737488355328 := by rw [← HO.out]; omega
    have HCS := Lib.hid hcs; clear hcs hcl2 hn64 he64 hss htg
    go_enter Tryd.func136, Tryd.ntmps136
    obtain ⟨q0, q1, q2, q3, q4⟩ := BOX.out _ _ HG0.out
    go_wp2_with fail
    refine (PH.out _).mono ?_
    rintro x1 w1 ⟨rfl, hb1⟩
    have HG1 := Lib.hid (Good.stay hBz hb1 HG0.out)
    clear q0 q1 q2 q3 q4 hb1
    obtain ⟨q0, q1, q2, q3, q4⟩ := BOX.out _ _ HG1.out
    go_wp2_with fail
    refine (WS.out _ _ HCS.out _ HG1.out).mono ?_
    rintro x2 w2 ⟨rfl, hg2⟩
    clear q0 q1 q2 q3 q4 HG1
    rw [str_cells] at hg2
    have HG2 := Lib.hid (show Good B b (bs ++ Lib.byteCells O) (w.alloc (.cells #[.int .i64 8, .int .i64 n, .int .i64 e, .string s, .slice a ts.length cap] 26)) w2 by rw [HO.out]; exact hg2)
    obtain ⟨q0, q1, q2, q3, q4⟩ := BOX.out _ _ HG2.out
    clear BOX WS HG0
    generalize (w.alloc (.cells #[.int .i64 8, .int .i64 n, .int .i64 e, .string s, .slice a ts.length cap] 26)) = W0 at HG2 HR HWR hBz
    clear PH HO
  case' inr.inr.inr.inr.inr.inr.inr.inr.inr =>
    have HO := Lib.hid (show O = headL 6 n.toNat from HOS.out.2.2.2.2.2.2.2.2.2 rfl)
    clear HOS
    have hnn := htg rfl
    have hu := u64w n (by omega) (by omega)
    have PH := Lib.hid (fun (W : World) => PutHead_impl 6 n W (by omega) (by omega) (by omega) (by omega))
    have hcs : bs.length + (headL 6 n.toNat).length ≤ 140737488355328 := by rw [← HO.out]; omega
    have HCS := Lib.hid hcs; clear hcs hcl2 hn64 he64 hss htg
    go_enter Tryd.func136, Tryd.ntmps136
    obtain ⟨q0, q1, q2, q3, q4⟩ := BOX.out _ _ HG0.out
    go_wp2_with fail
    refine (PH.out _).mono ?_
    rintro x1 w1 ⟨rfl, hb1⟩
    have HG1 := Lib.hid (Good.stay hBz hb1 HG0.out)
    clear q0 q1 q2 q3 q4 hb1
    obtain ⟨q0, q1, q2, q3, q4⟩ := BOX.out _ _ HG1.out
    go_wp2_with fail
    refine (WS.out _ _ HCS.out _ HG1.out).mono ?_
    rintro x2 w2 ⟨rfl, hg2⟩
    clear q0 q1 q2 q3 q4 HG1
    rw [str_cells] at hg2
    have HG2 := Lib.hid (show Good B b (bs ++ Lib.byteCells O) (w.alloc (.cells #[.int .i64 9, .int .i64 n, .int .i64 e, .string s, .slice a ts.length cap] 26)) w2 by rw [HO.out]; exact hg2)
    obtain ⟨q0, q1, q2, q3, q4⟩ := BOX.out _ _ HG2.out
    clear BOX WS HG0
    generalize (w.alloc (.cells #[.int .i64 9, .int .i64 n, .int .i64 e, .string s, .slice a ts.length cap] 26)) = W0 at HG2 HR HWR hBz
    clear PH HO
  --ENDARMS
  all_goals
    go_wp2_with fail
    go_loopw [99, 5] (fun i _ wr => ∃ j : Nat, j ≤ ts.length ∧ i = .int .i64 j ∧ Good B b ((bs ++ Lib.byteCells O) ++ Lib.byteCells (cborsL (ts.take j))) W0 wr) (fun i _ _ => ts.length + 1 - (intOf i).toNat)
    case atStart => exact ⟨0, by omega, rfl, by rw [List.take_zero]; simpa [cborsL, Lib.byteCells] using HG2.out⟩
    case round =>
      obtain ⟨j, hj, rfl, hg⟩ := hrel
      clear q0 q1 q2 q3 q4
      have HGJ := Lib.hid hg; clear hg HG2
      by_cases hlt : j < ts.length
      · have hne : ts ≠ [] := by intro e; rw [e] at hlt; simp at hlt
        obtain ⟨rfl, hbw⟩ := HA.out hne
        have HWW := Lib.hid (HWR.out _ _ HGJ.out)
        obtain ⟨c0, c1, c2, c3, c4⟩ := (HE.out j hlt).1.keep (HWW.out.block b2 hbw)
        have VJ := Lib.hid (fun (W : World) (hW : Below wr.heap.size wr W) => V1.out j hlt W (below_step HWW.out hW (by have := HWW.out.size; omega)) _ (HGJ.out.bld.stay hW) (Nat.le_trans (Nat.le_trans hBz HGJ.out.below.size) hW.size) (HL.out j hlt))
        have HTJ := Lib.hid (HT.out j hlt)
        obtain ⟨a3, cap3, hs3⟩ := (HE.out j hlt).2.2.slice
        rw [hs3] at c4 VJ
        clear hs3 V1
        unfold V.agg at VJ
        generalize cborL ts[j] = C at *
        go_wp2_with fail
        refine (VJ.out _ ((by (with_reducible (repeat' (first | exact Below.refl _ _ | refine below_alloc ?_ _ ?_ | refine Below.setCell ?_ ?_ _ | refine Below.drew ?_ | refine below_drewN ?_ _ | refine below_step ?_ (by assumption) ?_ | refine below_mark ?_ (by assumption) ?_))); all_goals (first | omega | (simp; done) | (simp; omega))))).mono ?_
        rintro x w2 ⟨rfl, hr2⟩
        have HN := Lib.hid (show Good B b ((bs ++ Lib.byteCells O) ++ Lib.byteCells (cborsL (ts.take (j + 1)))) W0 w2 by
          rw [HTJ.out, byte_app, ← List.append_assoc]
          exact (Good.stay hBz ((by (with_reducible (repeat' (first | exact Below.refl _ _ | refine below_alloc ?_ _ ?_ | refine Below.setCell ?_ ?_ _ | refine Below.drew ?_ | refine below_drewN ?_ _ | refine below_step ?_ (by assumption) ?_ | refine below_mark ?_ (by assumption) ?_))); all_goals (first | omega | (simp; done) | (simp; omega)))) HGJ.out).ret hr2)
        clear hr2
        go_wp2_with fail
        go_roundw
        case rel => exact ⟨j + 1, by omega, by go_num, HN.out⟩
        case measure => simp [intOf]; omega
      · go_wp2_with fail
        go_end0
        have hj2 : ts.take j = ts := by rw [List.take_of_length_le (by omega)]
        have hg := HGJ.out
        rw [hj2] at hg
        exact ⟨rfl, HR.out _ hg⟩
end Go.Proofs.YtgbgeocmjdgmoaaDoor
namespace Go.Proofs.YtgbgeocmjdgmoaaDoor
set_option linter.unusedSimpArgs false
set_option linter.unusedVariables false
set_option maxRecDepth 100000
open Go.RowKit
def sizB (t : V) : Nat := (cborB t).length
theorem cborB_no {t : V} (h : (okT t && !hasT 4 4 t) = false) : cborB t = [] := by rw [cborB, h]; rfl
theorem cborB_yes {t : V} (h : (okT t && !hasT 4 4 t) = true) : cborB t = cborL t ∧ rightB t 12 = true ∧ t.nodes ≤ 300 := by
  refine ⟨by rw [cborB, h]; rfl, ?_⟩
  simp only [okT, Bool.and_eq_true, decide_eq_true_eq] at h
  exact h.1
def SizRet (t : V) (w : World) (e : Ending) (w' : World) : Prop := e = .returned (.int .i64 (sizB t)) ∧ Below w.heap.size w w'
set_option maxHeartbeats 1000000 in
theorem CborFits_spec (w0 : World) (v : Value) (t : V) (h : Rep w0 v t) (hsz : t.sz ≤ 1048576) (w : World) (hw : Below w0.heap.size w0 w) :
    Calls Tryd.prog 83 #[v] w (BoolRet (okT t && !hasT 4 4 t) w) := by
  have VO := Lib.hid (fun (W : World) (hW : Below w.heap.size w W) => ValueOk_spec w0 v t h hsz W (hw.trans (hW.mono hw.size)))
  have FO := Lib.hid (fun (W : World) (hW : Below w.heap.size w W) => l05Four_any w0 _ v t (Nat.lt_succ_self _) h hsz W (hw.trans (hW.mono hw.size)))
  obtain ⟨sl, rfl, hwf, hr⟩ := h
  obtain ⟨sa, sc, rfl⟩ := hr.slice
  clear hr hwf hsz
  unfold V.agg at *
  generalize okT t = b at *
  generalize hasT 4 4 t = f at *
  generalize t.k = k at *
  generalize t.n = n at *
  generalize t.e = e at *
  generalize t.s = s at *
  generalize t.kids = ts at *
  have BX := Lib.hid (Box.new w k n e s (.slice sa ts.length sc) 26)
  cases b
  all_goals
    go_enter Tryd.func83, Tryd.ntmps83
    go_wp2_with fail
    refine (VO.out _ ((by (with_reducible (repeat' (first | exact Below.refl _ _ | refine below_alloc ?_ _ ?_ | refine Below.setCell ?_ ?_ _ | refine Below.drew ?_ | refine below_drewN ?_ _ | refine below_step ?_ (by assumption) ?_ | refine below_mark ?_ (by assumption) ?_))); all_goals (first | omega | (simp; done) | (simp; omega))))).mono ?_
    rintro x w1 ⟨rfl, hb1⟩
    obtain ⟨p0, p1, p2, p3, p4⟩ := (BX.out.stay hb1).cells
    go_wp2_with fail
  · go_ret
    exact ⟨rfl, (by (with_reducible (repeat' (first | exact Below.refl _ _ | refine below_alloc ?_ _ ?_ | refine Below.setCell ?_ ?_ _ | refine Below.drew ?_ | refine below_drewN ?_ _ | refine below_step ?_ (by assumption) ?_ | refine below_mark ?_ (by assumption) ?_))); all_goals (first | omega | (simp; done) | (simp; omega)))⟩
  · refine (FO.out _ ((by (with_reducible (repeat' (first | exact Below.refl _ _ | refine below_alloc ?_ _ ?_ | refine Below.setCell ?_ ?_ _ | refine Below.drew ?_ | refine below_drewN ?_ _ | refine below_step ?_ (by assumption) ?_ | refine below_mark ?_ (by assumption) ?_))); all_goals (first | omega | (simp; done) | (simp; omega))))).mono ?_
    rintro x w2 ⟨rfl, hb2⟩
    go_wp2_with fail
    go_ret
    exact ⟨by simp, (by (with_reducible (repeat' (first | exact Below.refl _ _ | refine below_alloc ?_ _ ?_ | refine Below.setCell ?_ ?_ _ | refine Below.drew ?_ | refine below_drewN ?_ _ | refine below_step ?_ (by assumption) ?_ | refine below_mark ?_ (by assumption) ?_))); all_goals (first | omega | (simp; done) | (simp; omega)))⟩
set_option maxHeartbeats 1000000 in
theorem PutCbor_spec (w0 : World) (v : Value) (t : V) (h : Rep w0 v t) (hsz : t.sz ≤ 1048576) (w : World) (hw : Below w0.heap.size w0 w) :
    Calls Tryd.prog 81 #[v] w (TxtRet w (cborB t)) := by
  have FI := Lib.hid (fun (W : World) (hW : Below w.heap.size w W) => CborFits_spec w0 v t h hsz W (hw.trans (hW.mono hw.size)))
  have PU := Lib.hid (fun (hr : rightB t 12 = true) (hn : t.nodes ≤ 300) (W : World) (hW : Below w.heap.size w W) => l05Put_any w0 _ v t 12 (Nat.lt_succ_self _) hr h hsz hn W (hw.trans (hW.mono hw.size)))
  have HN := Lib.hid (@cborB_no t)
  have HY := Lib.hid (@cborB_yes t)
  obtain ⟨sl, rfl, hwf, hr⟩ := h
  obtain ⟨sa, sc, rfl⟩ := hr.slice
  clear hr hwf hsz
  unfold V.agg at *
  generalize (okT t && !hasT 4 4 t) = b at *
  generalize cborB t = R at *
  generalize cborL t = C at *
  generalize t.k = k at *
  generalize t.n = n at *
  generalize t.e = e at *
  generalize t.s = s at *
  generalize t.kids = ts at *
  have BX := Lib.hid (Box.new w k n e s (.slice sa ts.length sc) 26)
  cases b
  all_goals
    go_enter Tryd.func81, Tryd.ntmps81
    go_wp2_with fail
    refine (FI.out _ ((by (with_reducible (repeat' (first | exact Below.refl _ _ | refine below_alloc ?_ _ ?_ | refine Below.setCell ?_ ?_ _ | refine Below.drew ?_ | refine below_drewN ?_ _ | refine below_step ?_ (by assumption) ?_ | refine below_mark ?_ (by assumption) ?_))); all_goals (first | omega | (simp; done) | (simp; omega))))).mono ?_
    rintro x w1 ⟨rfl, hb1⟩
    obtain ⟨p0, p1, p2, p3, p4⟩ := (BX.out.stay hb1).cells
    go_wp2_with fail
  · go_ret
    exact ⟨by rw [HN.out (by simp)]; rfl, (by (with_reducible (repeat' (first | exact Below.refl _ _ | refine below_alloc ?_ _ ?_ | refine Below.setCell ?_ ?_ _ | refine Below.drew ?_ | refine below_drewN ?_ _ | refine below_step ?_ (by assumption) ?_ | refine below_mark ?_ (by assumption) ?_))); all_goals (first | omega | (simp; done) | (simp; omega)))⟩
  · obtain ⟨hc, hr, hn⟩ := HY.out (by simp)
    refine (PU.out hr hn _ ((by (with_reducible (repeat' (first | exact Below.refl _ _ | refine below_alloc ?_ _ ?_ | refine Below.setCell ?_ ?_ _ | refine Below.drew ?_ | refine below_drewN ?_ _ | refine below_step ?_ (by assumption) ?_ | refine below_mark ?_ (by assumption) ?_))); all_goals (first | omega | (simp; done) | (simp; omega))))).mono ?_
    rintro x w2 ⟨rfl, hb2⟩
    go_wp2_with fail
    go_ret
    exact ⟨by rw [hc]; rfl, (by (with_reducible (repeat' (first | exact Below.refl _ _ | refine below_alloc ?_ _ ?_ | refine Below.setCell ?_ ?_ _ | refine Below.drew ?_ | refine below_drewN ?_ _ | refine below_step ?_ (by assumption) ?_ | refine below_mark ?_ (by assumption) ?_))); all_goals (first | omega | (simp; done) | (simp; omega)))⟩
set_option maxHeartbeats 2000000 in
theorem PutCbor_impl (w0 : World) (hE : Env w0) (v : Value) (t : V) (h : Rep w0 v t) (hsz : t.sz ≤ 1048576) (w : World) (hw : Below w0.heap.size w0 w) :
    Calls Tryd.prog 74 #[v] w (TxtRet w (cborB t)) := by
  have VO := Lib.hid (fun (W : World) (hW : Below w.heap.size w W) => ValueOk_impl w0 hE v t h hsz W (hw.trans (hW.mono hw.size)))
  have FO := Lib.hid (fun (W : World) (hW : Below w.heap.size w W) => hasTag_any w0 v t h hsz 4 W (hw.trans (hW.mono hw.size)))
  have PU := Lib.hid (fun (b : Nat) (hb : w.heap.size ≤ b) (hr : rightB t 12 = true) (hn : t.nodes ≤ 300) (hl : (cborL t).length ≤ 1000000) (W : World) (hB : Bld b b [] W) (hW : Below w.heap.size w W) => putCbor_any w0 b b (Nat.le_trans hw.size hb) _ v t 12 (Nat.lt_succ_self _) hr h hsz hn [] W (hw.trans (hW.mono hw.size)) hB (Nat.le_of_lt hB.lt) (by simpa using hl))
  have SG := Lib.hid (fun (b : Nat) (W : World) (hB : Bld b b (Lib.byteCells (cborL t)) W) => String_any b b (cborL t) W hB (Nat.le_of_lt hB.lt))
  have HN := Lib.hid (@cborB_no t)
  have HY := Lib.hid (@cborB_yes t)
  have HLE := Lib.hid (cborB_le t)
  obtain ⟨sl, rfl, hwf, hr⟩ := h
  obtain ⟨sa, sc, rfl⟩ := hr.slice
  clear hr hwf hsz
  unfold V.agg at *
  generalize okT t = b1 at *
  generalize hasT 4 4 t = b2 at *
  generalize cborB t = R at *
  generalize cborL t = C at *
  generalize t.k = k at *
  generalize t.n = n at *
  generalize t.e = e at *
  generalize t.s = s at *
  generalize t.kids = ts at *
  have BX := Lib.hid (Box.new w k n e s (.slice sa ts.length sc) 26)
  cases b1
  · clear FO PU
    go_enter Tryd.func74, Tryd.ntmps74
    go_wp2_with fail
    refine (VO.out _ ((by (with_reducible (repeat' (first | exact Below.refl _ _ | refine below_alloc ?_ _ ?_ | refine Below.setCell ?_ ?_ _ | refine Below.drew ?_ | refine below_drewN ?_ _ | refine below_step ?_ (by assumption) ?_ | refine below_mark ?_ (by assumption) ?_))); all_goals (first | omega | (simp; done) | (simp; omega))))).mono ?_
    rintro x w1 ⟨rfl, hb1⟩
    obtain ⟨p0, p1, p2, p3, p4⟩ := (BX.out.stay hb1).cells
    go_wp2_with fail
    go_ret
    exact ⟨by rw [HN.out (by simp)]; rfl, (by (with_reducible (repeat' (first | exact Below.refl _ _ | refine below_alloc ?_ _ ?_ | refine Below.setCell ?_ ?_ _ | refine Below.drew ?_ | refine below_drewN ?_ _ | refine below_step ?_ (by assumption) ?_ | refine below_mark ?_ (by assumption) ?_))); all_goals (first | omega | (simp; done) | (simp; omega)))⟩
  · go_enter Tryd.func74, Tryd.ntmps74
    go_wp2_with fail
    refine (VO.out _ ((by (with_reducible (repeat' (first | exact Below.refl _ _ | refine below_alloc ?_ _ ?_ | refine Below.setCell ?_ ?_ _ | refine Below.drew ?_ | refine below_drewN ?_ _ | refine below_step ?_ (by assumption) ?_ | refine below_mark ?_ (by assumption) ?_))); all_goals (first | omega | (simp; done) | (simp; omega))))).mono ?_
    rintro x w1 ⟨rfl, hb1⟩
    have BX1 := Lib.hid (BX.out.stay hb1)
    have HB1 := Lib.hid (show Below w.heap.size w w1 from (by (with_reducible (repeat' (first | exact Below.refl _ _ | refine below_alloc ?_ _ ?_ | refine Below.setCell ?_ ?_ _ | refine Below.drew ?_ | refine below_drewN ?_ _ | refine below_step ?_ (by assumption) ?_ | refine below_mark ?_ (by assumption) ?_))); all_goals (first | omega | (simp; done) | (simp; omega))))
    obtain ⟨p0, p1, p2, p3, p4⟩ := BX1.out.cells
    go_wp2_with fail
    refine (FO.out _ ((by (with_reducible (repeat' (first | exact Below.refl _ _ | refine below_alloc ?_ _ ?_ | refine Below.setCell ?_ ?_ _ | refine Below.drew ?_ | refine below_drewN ?_ _ | refine below_step ?_ (by assumption) ?_ | refine below_mark ?_ (by assumption) ?_))); all_goals (first | omega | (simp; done) | (simp; omega))))).mono ?_
    rintro x w2 ⟨rfl, hb2⟩
    have BX2 := Lib.hid (BX1.out.stay hb2)
    have HB2 := Lib.hid (show Below w.heap.size w w2 from (by (with_reducible (repeat' (first | exact Below.refl _ _ | refine below_alloc ?_ _ ?_ | refine Below.setCell ?_ ?_ _ | refine Below.drew ?_ | refine below_drewN ?_ _ | refine below_step ?_ (by assumption) ?_ | refine below_mark ?_ (by assumption) ?_))); all_goals (first | omega | (simp; done) | (simp; omega))))
    clear p0 p1 p2 p3 p4
    cases b2
    · obtain ⟨p0, p1, p2, p3, p4⟩ := (BX2.out.alloc (.cells #[.pointer none, .slice none 0 0] 105)).cells
      obtain ⟨hc, hr, hn⟩ := HY.out (by simp)
      have hle := HLE.out
      have HFR := Lib.hid (show Bld w2.heap.size w2.heap.size [] (w2.alloc (.cells #[.pointer none, .slice none 0 0] 105)) from Lib.IsBuilderF.of (Lib.fresh_isBuilder _ _ _))
      have hz2 := HB2.out.size
      have PU2 := Lib.hid (PU.out w2.heap.size hz2 hr hn (by rw [← hc]; omega) (w2.alloc (.cells #[.pointer none, .slice none 0 0] 105)) HFR.out (below_alloc HB2.out _ (Nat.le_refl _)))
      clear PU
      go_wp2_with fail
      refine PU2.out.mono ?_
      rintro x w3 ⟨rfl, hr3⟩
      have HB3 := Lib.hid (show Below w.heap.size w w3 from (below_alloc HB2.out _ (Nat.le_refl _)).trans (hr3.2.1.mono hz2))
      have SG3 := Lib.hid (SG.out _ _ hr3.1)
      go_wp2_with fail
      refine SG3.out.mono ?_
      rintro x w4 ⟨rfl, hr4⟩
      have HB4 := Lib.hid (show Below w.heap.size w w4 from HB3.out.trans (hr4.2.1.mono hz2))
      go_wp2_with fail
      go_ret
      exact ⟨by rw [hc]; rfl, HB4.out⟩
    · obtain ⟨p0, p1, p2, p3, p4⟩ := BX2.out.cells
      go_wp2_with fail
      go_ret
      exact ⟨by rw [HN.out (by simp)]; rfl, HB2.out⟩
theorem CborSize_impl (w0 : World) (hE : Env w0) (v : Value) (t : V) (h : Rep w0 v t) (hsz : t.sz ≤ 1048576) (w : World) (hw : Below w0.heap.size w0 w) :
    Calls Tryd.prog 84 #[v] w (SizRet t w) := by
  have FI := Lib.hid (fun (W : World) (hW : Below w.heap.size w W) => PutCbor_impl w0 hE v t h hsz W (hw.trans (hW.mono hw.size)))
  have HL := Lib.hid (show (cborB t).length = sizB t from rfl)
  obtain ⟨sl, rfl, hwf, hr⟩ := h
  obtain ⟨sa, sc, rfl⟩ := hr.slice
  clear hr hwf hsz
  unfold SizRet
  unfold V.agg at *
  generalize sizB t = z at *
  generalize cborB t = R at *
  go_enter Tryd.func84, Tryd.ntmps84
  go_wp2_with fail
  refine (FI.out _ ((by (with_reducible (repeat' (first | exact Below.refl _ _ | refine below_alloc ?_ _ ?_ | refine Below.setCell ?_ ?_ _ | refine Below.drew ?_ | refine below_drewN ?_ _ | refine below_step ?_ (by assumption) ?_ | refine below_mark ?_ (by assumption) ?_))); all_goals (first | omega | (simp; done) | (simp; omega))))).mono ?_
  rintro x w1 ⟨rfl, hb1⟩
  go_wp2_with fail
  go_ret
  exact ⟨by rw [← HL.out]; rfl, (by (with_reducible (repeat' (first | exact Below.refl _ _ | refine below_alloc ?_ _ ?_ | refine Below.setCell ?_ ?_ _ | refine Below.drew ?_ | refine below_drewN ?_ _ | refine below_step ?_ (by assumption) ?_ | refine below_mark ?_ (by assumption) ?_))); all_goals (first | omega | (simp; done) | (simp; omega)))⟩
end Go.Proofs.YtgbgeocmjdgmoaaDoor
namespace Go.Proofs.YtgbgeocmjdgmoaaDoor
set_option linter.unusedSimpArgs false
set_option linter.unusedVariables false
set_option maxRecDepth 100000
open Go.RowKit
end Go.Proofs.YtgbgeocmjdgmoaaDoor
