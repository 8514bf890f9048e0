/- For every code: what is read of drawn bytes as CBOR of any form is alike on both sides, a right value or the zero value; a value written in the one form is read back: the law returns true. -/
import Derived.Test.YtgbgeocmjdgmoaaDoorCbK11
import Derived.Test.YtgbgeocmjdgmoaaDoorCbK13
import Derived.Test.YtgbgeocmjdgmoaaDoorCbK14
import Derived.Deep.RegionWith
import Derived.Deep.RegionHeld3
import Derived.Deep.DeepCutAuto
namespace Go.Proofs.YtgbgeocmjdgmoaaDoor
set_option linter.unusedSimpArgs false
set_option linter.unusedVariables false
set_option maxRecDepth 100000
open Go.RowKit
def TxtLe (B : Nat) (w : World) (e : Ending) (w' : World) : Prop := ∃ s : ByteArray, e = .returned (.string s) ∧ s.size ≤ B ∧ Below w.heap.size w w'
theorem TxtLe.of {B : Nat} {w w' : World} {l : List UInt8} {e : Ending} (h : TxtRet w l e w') (hl : l.length ≤ B) : TxtLe B w e w' := ⟨_, h.1, by simpa [ByteArray.size] using hl, h.2⟩
set_option maxHeartbeats 1000000 in
theorem l05Put_56w (k m n e : Int) (hk : k = 5 ∧ m = 3 ∨ k = 6 ∧ m = 2) (s : ByteArray) (hs : s.size ≤ 1048576) (sl : Value) (w : World) : Calls Tryd.prog 140 #[.agg #[.int .i64 k, .int .i64 n, .int .i64 e, .string s, sl]] w (TxtRet w (headL m.toNat s.size ++ s.data.toList)) := by
  have P1 := Lib.hid (fun (W : World) => PutHead_spec m s.size W (by omega) (by omega) (by omega) (by omega))
  have hw := u64w s.size (by omega) (by omega)
  have L1 := headL_le m.toNat s.size
  rw [Int.toNat_natCast] at P1
  generalize headL m.toNat s.size = H at *
  have S1 : ¬ 9223372036854775807 < H.length + s.size := by omega
  have BX := Lib.hid (box_cells w k n e s sl 26 (Box.new w k n e s sl 26))
  clear L1
  have hbw : Below w.heap.size w (w.alloc (.cells #[.int .i64 k, .int .i64 n, .int .i64 e, .string s, sl] 26)) := (by (repeat' (first | with_reducible exact Below.refl _ _ | with_reducible refine below_alloc ?_ _ ?_ | with_reducible refine Below.setCell ?_ ?_ _ | with_reducible refine Below.drew ?_ | with_reducible refine below_drewN ?_ _ | with_reducible refine below_step ?_ (by assumption) ?_ | with_reducible refine below_mark ?_ (by assumption) ?_)); all_goals (first | omega | (simp; done) | (simp; omega)))
  rcases hk with ⟨rfl, rfl⟩ | ⟨rfl, rfl⟩
  all_goals
    go_enter Tryd.func140, Tryd.ntmps140
    obtain ⟨q0, q1, q2, q3, q4⟩ := BX.out
    go_wp2_with fail
    go_region_held3 (fun w' => w'.cell? ⟨w.heap.size, 3, none⟩ = some (.string s) ∧ Below w.heap.size w w') (first | with_reducible exact ⟨by assumption, by assumption⟩ | with_reducible assumption | exact ⟨q3, hbw.drew⟩ | go_keep) (((with_reducible refine (P1.out _).mono ?_); rintro e2 w2 ⟨rfl, hb2⟩; have hS := keep1b hb2 (by with_reducible assumption); obtain ⟨hS1, hS3⟩ := hS))
    go_wp2_with fail
    go_ret
    exact ⟨ret_str (cat2 _ _), hS3⟩
theorem szsW_take (ts : List V) (j : Nat) (hj : j < ts.length) : szs (ts.take (j + 1)) = szs (ts.take j) + (1 + ts[j].sz) := by
  rw [List.take_succ_eq_append_getElem hj, szs_append, szs, szs]; omega
theorem szsW_take_le (ts : List V) (j : Nat) : szs (ts.take j) ≤ szs ts := by
  have := szs_append (ts.take j) (ts.drop j)
  rw [List.take_append_drop] at this; omega
theorem u64wrap_in (n : Int) : 0 ≤ IntKind.u64.wrap n ∧ IntKind.u64.wrap n < 18446744073709551616 := by
  have h9 : IntKind.u64.wrap n = n % 18446744073709551616 := by simp [IntKind.wrap, IntKind.signed, IntKind.bits]
  rw [h9]; omega
set_option maxHeartbeats 2000000 in
theorem l05Put_gen (w0 : World) : ∀ (N : Nat) (v : Value) (t : V), t.sz < N → Rep w0 v t → t.sz ≤ 4000 → ∀ (w : World), Below w0.heap.size w0 w →
    Calls Tryd.prog 140 #[v] w (TxtLe (40 * (t.sz + 1)) w) := by
  intro N
  induction N with
  | zero => intro v t h; omega
  | succ N ih =>
  intro v t hN h hsz w hw
  obtain ⟨sl, rfl, hwf, hr⟩ := h
  have hts := V.sz_eq t
  have hlen := szs_length t.kids
  have hn64 := hwf.2.1
  have he64 := hwf.2.2.1
  have hss : t.s.size ≤ 4000 := by omega
  by_cases hpk : t.k = 0 ∨ (t.k = 1 ∨ t.k = 2) ∨ t.k = 3 ∨ t.k = 4 ∨ t.k = 5 ∨ t.k = 6
  · unfold V.agg
    rcases hpk with h | h | h | h | h | h
    · rw [h]; exact (l05Put_0 _ _ _ _ _).mono fun e w' hh => TxtLe.of hh (by have := headL_le 7 22; omega)
    · exact (l05Put_12 _ _ _ h _ _ _).mono fun e w' hh => TxtLe.of hh (by have := headL_le 7 (19 + t.k).toNat; omega)
    · rw [h]; exact (l05Put_3 _ _ hn64 _ _ _).mono fun e w' hh => TxtLe.of hh (by have := numL_le t.n; omega)
    · rw [h]; exact (l05Put_4 _ _ hn64 he64 _ _ _).mono fun e w' hh => TxtLe.of hh (by
        have h1 := headL_le 6 4; have h2 := headL_le 4 2; have h3 := numL_le t.e; have h4 := numL_le t.n
        simp only [List.length_append]; omega)
    · rw [h]; exact (l05Put_56w 5 3 _ _ (.inl ⟨rfl, rfl⟩) _ (by omega) _ _).mono fun e w' hh => TxtLe.of hh (by
        have h1 := headL_le (3 : Int).toNat t.s.size
        have h2 : t.s.data.toList.length = t.s.size := by rw [Array.length_toList]; rfl
        rw [List.length_append, h2]; omega)
    · rw [h]; exact (l05Put_56w 6 2 _ _ (.inr ⟨rfl, rfl⟩) _ (by omega) _ _).mono fun e w' hh => TxtLe.of hh (by
        have h1 := headL_le (2 : Int).toNat t.s.size
        have h2 : t.s.data.toList.length = t.s.size := by rw [Array.length_toList]; rfl
        rw [List.length_append, h2]; omega)
  obtain ⟨a, b, off, cap, rfl, ha, hc, hm, sls, hel⟩ := hr.opened
  have HA := Lib.hid ha; have HE := Lib.hid hel; have HW := Lib.hid hw
  have hl : t.kids.length ≤ 4000 := by omega
  have V1 := Lib.hid (fun (j : Nat) (hj : j < t.kids.length) (W : World) (hW : Below w0.heap.size w0 W) => ih (t.kids[j].agg (sls j)) t.kids[j] (by have h1 := szs_mem (List.getElem_mem hj); omega) ⟨sls j, rfl, (HE.out j hj).2.1, (HE.out j hj).2.2⟩ (by have h1 := szs_mem (List.getElem_mem hj); omega) W hW)
  have HT := Lib.hid (fun (j : Nat) (hj : j < t.kids.length) => szsW_take t.kids j hj)
  have HTL := Lib.hid (fun (j : Nat) => szsW_take_le t.kids j)
  have HB := Lib.hid (show 9 + 40 * szs t.kids ≤ 40 * (t.sz + 1) by omega)
  have hB3 : 9 + 40 * szs t.kids ≤ 200000 := by omega
  have BX := Lib.hid (Box.new w t.k t.n t.e t.s (.slice a t.kids.length cap) 26)
  have hu := u64wrap_in t.n
  have hcase : ∃ m x : Int, (0 ≤ m ∧ m ≤ 7) ∧ (0 ≤ x ∧ x < 18446744073709551616) ∧ ((t.k == 7) = true ∧ m = 4 ∧ x = t.kids.length ∨ (t.k == 7) = false ∧ (t.k == 8) = true ∧ m = 5 ∧ x = (t.kids.length / 2 : Nat) ∨ (t.k == 7) = false ∧ (t.k == 8) = false ∧ m = 6 ∧ x = IntKind.u64.wrap t.n) := by
    by_cases h7 : t.k = 7
    · exact ⟨4, t.kids.length, by omega, by omega, .inl ⟨by simpa using h7, rfl, rfl⟩⟩
    by_cases h8 : t.k = 8
    · exact ⟨5, (t.kids.length / 2 : Nat), by omega, by omega, .inr (.inl ⟨by simpa using h7, by simpa using h8, rfl, rfl⟩)⟩
    · exact ⟨6, IntKind.u64.wrap t.n, by omega, hu, .inr (.inr ⟨by simpa using h7, by simpa using h8, rfl, rfl⟩)⟩
  obtain ⟨m, x, hm7, hx7, hcase⟩ := hcase
  have hlh := headL_le m.toNat x.toNat
  have PH := Lib.hid (fun (W : World) => PutHead_spec m x W hm7.1 hm7.2 hx7.1 hx7.2)
  have hux := u64w t.kids.length (by omega) (by omega)
  have hux2 := u64w (t.kids.length / 2 : Nat) (by omega) (by omega)
  have n0 : (t.k == 0) = false := by simp; omega
  have n1 : (t.k == 1) = false := by simp; omega
  have n2 : (t.k == 2) = false := by simp; omega
  have n3 : (t.k == 3) = false := by simp; omega
  have n4 : (t.k == 4) = false := by simp; omega
  have n5 : (t.k == 5) = false := by simp; omega
  have n6 : (t.k == 6) = false := by simp; omega
  clear ih hel ha hc hm hN hr hwf hlen hts hsz hpk hn64 he64 hss hw hu hm7 hx7
  unfold V.agg
  generalize t.sz = tz at *
  generalize headL m.toNat x.toNat = H at *
  generalize t.k = k at *
  generalize t.n = n at *
  generalize t.e = e at *
  generalize t.s = s at *
  generalize t.kids = ts at *
  have BXW := Lib.hid (show Below w.heap.size w (w.alloc (.cells #[.int .i64 k, .int .i64 n, .int .i64 e, .string s, .slice a ts.length cap] 26)) from (by (repeat' (first | with_reducible exact Below.refl _ _ | with_reducible refine below_alloc ?_ _ ?_ | with_reducible refine Below.setCell ?_ ?_ _ | with_reducible refine Below.drew ?_ | with_reducible refine below_drewN ?_ _ | with_reducible refine below_step ?_ (by assumption) ?_ | with_reducible refine below_mark ?_ (by assumption) ?_)); all_goals (first | omega | (simp; done) | (simp; omega))))
  have hH : (⟨H.toArray⟩ : ByteArray).size ≤ 9 := by simpa [ByteArray.size] using hlh
  unfold TxtRet bstr at PH
  generalize (⟨H.toArray⟩ : ByteArray) = HS at *
  clear hlh
  rcases hcase with ⟨t7, rfl, rfl⟩ | ⟨t7, t8, rfl, rfl⟩ | ⟨t7, t8, rfl, rfl⟩
  all_goals
    go_enter Tryd.func140, Tryd.ntmps140
    go_wp2_with fail
    refine (PH.out _).mono ?_
    rintro x1 w1 ⟨rfl, hb1⟩
    have hb0 := BXW.out.trans (hb1.mono BXW.out.size)
    have BX1 := Lib.hid (BX.out.stay hb1)
    go_wp2_with fail
    go_loopw [3, 4] (fun o i wr => ∃ (j : Nat) (Q : ByteArray), j ≤ ts.length ∧ i = .int .i64 j ∧ o = .string Q ∧ Q.size ≤ 9 + 40 * szs (ts.take j) ∧ Below w1.heap.size w1 wr) (fun _ i _ => ts.length + 1 - (intOf i).toNat)
    case atStart => exact ⟨0, HS, by omega, rfl, rfl, by omega, Below.refl _ _⟩
    case round =>
      obtain ⟨j, Q, hj, rfl, rfl, hQ, hbl⟩ := hrel
      have HBL := Lib.hid (hb0.trans (hbl.mono hb0.size))
      obtain ⟨q0, -, -, -, q4⟩ := (BX1.out.stay hbl).cells
      have hQ2 := HTL.out j
      by_cases hlt : j < ts.length
      · have hne : ts ≠ [] := by intro e; rw [e] at hlt; simp at hlt
        obtain ⟨rfl, hbw⟩ := HA.out hne
        have HWR := Lib.hid (HW.out.trans (HBL.out.mono HW.out.size))
        obtain ⟨c0, c1, c2, c3, c4⟩ := (HE.out j hlt).1.keep (HWR.out.block b hbw)
        have VJ := Lib.hid (fun (W : World) (hW : Below wr.heap.size wr W) => V1.out j hlt W (below_step HWR.out hW (by have := HWR.out.size; omega)))
        have HTJ := Lib.hid (HT.out j hlt)
        have HTM := Lib.hid (HTL.out (j + 1))
        obtain ⟨a3, cap3, hs3⟩ := (HE.out j hlt).2.2.slice
        rw [hs3] at c4 VJ
        clear hs3 V1
        unfold V.agg at VJ
        generalize ts[j].sz = zj at *
        go_wp2_with fail
        refine (VJ.out _ ((by (repeat' (first | with_reducible exact Below.refl _ _ | with_reducible refine below_alloc ?_ _ ?_ | with_reducible refine Below.setCell ?_ ?_ _ | with_reducible refine Below.drew ?_ | with_reducible refine below_drewN ?_ _ | with_reducible refine below_step ?_ (by assumption) ?_ | with_reducible refine below_mark ?_ (by assumption) ?_)); all_goals (first | omega | (simp; done) | (simp; omega))))).mono ?_
        rintro x w2 ⟨C, rfl, hC, hb2⟩
        have hT1 := HTJ.out
        have hT2 := HTM.out
        have S1 : ¬ 9223372036854775807 < Q.size + C.size := by omega
        go_wp2_with fail
        go_roundw
        case rel => exact ⟨j + 1, Q ++ C, by omega, by go_num, rfl, by rw [ByteArray.size_append, hT1]; omega, hbl.trans (Below.mono ((by (repeat' (first | with_reducible exact Below.refl _ _ | with_reducible refine below_alloc ?_ _ ?_ | with_reducible refine Below.setCell ?_ ?_ _ | with_reducible refine Below.drew ?_ | with_reducible refine below_drewN ?_ _ | with_reducible refine below_step ?_ (by assumption) ?_ | with_reducible refine below_mark ?_ (by assumption) ?_)); all_goals (first | omega | (simp; done) | (simp; omega)))) hbl.size)⟩
        case measure => simp [intOf]; omega
      · go_wp2_with fail
        go_ret
        exact ⟨Q, rfl, by have := HB.out; omega, HBL.out⟩
theorem RepF.opened {w : World} {G : Nat → Prop} {v : Value} {ts : List V} (h : RepF w G v ts) : ∃ a b off cap, v = .slice a ts.length cap ∧ (ts ≠ [] → a = some ⟨b, off, none⟩ ∧ b < w.heap.size ∧ G b) ∧ ts.length ≤ cap ∧ cap ≤ 9223372036854775807 ∧
    ∃ sls : Nat → Value, ∀ i (h : i < ts.length), Cells5 w b (off + i * 5) ts[i] (sls i) ∧ ts[i].wf ∧ RepF w G (sls i) ts[i].kids := by
  cases h with
  | mk a b off cap ts0 sls ha hc hm hb cells wfs kids => exact ⟨a, b, off, cap, rfl, fun hne => ⟨ha hne, hb hne⟩, hc, hm, sls, fun i hi => ⟨cells i hi, wfs i hi, kids i hi⟩⟩
theorem RepF.overT {w w' : World} {c : Nat} {v : Value} {ts : List V} (h : RepF w (fun x => c < x) v ts) (ht : Touch (fun x => x = c) (fun x => x = c) w w') : RepF w' (fun x => c < x) v ts :=
  h.keep ht.size (fun x hx hl => ht.block x hl (by omega))
def DTxt (w0 : World) (c : Nat) (v : Value) (N B : Nat) (w : World) (e : Ending) (w' : World) : Prop := ∃ s : ByteArray, e = .returned (.string s) ∧ s.size ≤ B ∧ DX w0 c v N w w'
set_option maxHeartbeats 8000000 in
theorem l05Wide_any (w0 : World) (c : Nat) (v : Value) (N : Nat) (hD : Drw w0 v N) : ∀ (M : Nat) (t : V) (sl : Value), t.sz < M → t.wf → t.sz ≤ 4000 → ∀ (w : World), CuX w0 c v N w → RepF w (fun x => c < x) sl t.kids →
    Calls Tryd.prog 142 #[.pointer (some ⟨c, 0, none⟩), t.agg sl] w (DTxt w0 c v N (60 * (t.sz + 1)) w) := by
  intro M
  induction M with
  | zero => intro t sl h; omega
  | succ M ih =>
  intro t sl hM hwf hsz w hcu hr
  obtain ⟨sa, sc, rfl⟩ := hr.slice
  have hts := V.sz_eq t
  have hlen := szs_length t.kids
  have hcw := hcu.lt
  have hnc : ¬ w.heap.size = c := by omega
  have ON := Lib.hid (fun (q : Int) (hq : In64 q) (W : World) (h : CuX w0 c v N W) => Once_any w0 c v N hD q hq W h)
  have PI := Lib.hid (fun (W : World) (h : CuX w0 c v N W) => PickS_any w0 c v N hD 2 [⟨#[]⟩, ⟨#[96]⟩, ⟨#[97, 120]⟩] 9 (by decide) (by decide) 3 3 rfl W h _ rfl)
  have hal : Below w.heap.size w (w.alloc (.cells #[.int .i64 t.k, .int .i64 t.n, .int .i64 t.e, .string t.s, .slice sa t.kids.length sc] 26)) := (Below.refl _ _).alloc (Nat.le_refl _) _
  have BX := Lib.hid (Box.new w t.k t.n t.e t.s (.slice sa t.kids.length sc) 26)
  have HD0 := Lib.hid ((DX.refl hcu).stay hal)
  have HR0 := Lib.hid (hr.stay hal)
  have LP := Lib.hid (fun (W : World) (h : RepF W (fun x => c < x) (.slice sa t.kids.length sc) t.kids) => l05Put_gen W (t.sz + 1) (t.agg (.slice sa t.kids.length sc)) t (by omega) ⟨_, rfl, hwf, h.rep⟩ hsz W (Below.refl _ _))
  have BG := Lib.hid (fun (hn : 0 ≤ t.n ∧ t.n < 65536) (W : World) => l05Big_int t.n 4 W hn.1 (by omega) (by omega) (by omega))
  have IH := Lib.hid (fun (j : Nat) (hj : j < t.kids.length) (sl2 : Value) (hw2 : t.kids[j].wf) (W : World) (h1 : CuX w0 c v N W) (h2 : RepF W (fun x => c < x) sl2 t.kids[j].kids) => ih t.kids[j] sl2 (by have h1 := szs_mem (List.getElem_mem hj); omega) hw2 (by have h1 := szs_mem (List.getElem_mem hj); omega) W h1 h2)
  have HT := Lib.hid (fun (j : Nat) (hj : j < t.kids.length) => szsW_take t.kids j hj)
  have HTL := Lib.hid (fun (j : Nat) => szsW_take_le t.kids j)
  clear ih hcu hr hal hwf hM hD
  unfold V.agg at LP ⊢
  generalize t.sz = tz at *
  generalize t.k = k at *
  generalize t.n = n at *
  generalize t.e = ee at *
  generalize t.s = s at *
  generalize t.kids = ts at *
  have hz0 : w.heap.size < (w.alloc (.cells #[.int .i64 k, .int .i64 n, .int .i64 ee, .string s, .slice sa ts.length sc] 26)).heap.size := by simp
  go_enter Tryd.func142, Tryd.ntmps142
  go_upto_region 1 with fail
  generalize (w.alloc (.cells #[.int .i64 k, .int .i64 n, .int .i64 ee, .string s, .slice sa ts.length sc] 26)) = W0 at *
  obtain ⟨z0, z1, z2, z3, z4⟩ := BX.out.cells
  by_cases h0 : k = 0
  · skip
    have n0 : (k == 0) = true := by simpa using h0
    have n3 : (k == 3) = false := by simp; omega
    have n5 : (k == 5) = false := by simp; omega
    have n6 : (k == 6) = false := by simp; omega
    have n7 : (k == 7) = false := by simp; omega
    have n8 : (k == 8) = false := by simp; omega
    clear h0
    go_wp2_with fail
    refine (ON.out 3 (by unfold In64; omega) W0 HD0.out.1).mono ?_
    rintro e1 w1 ⟨b, rfl, hd1⟩
    have HD1 := Lib.hid (HD0.out.trans hd1)
    have HR1 := Lib.hid (HR0.out.overT hd1.2)
    have BX1 := Lib.hid (BX.out.overC hd1.2 hnc)
    clear hd1 z0 z1 z2 z3 z4
    obtain ⟨z0, z1, z2, z3, z4⟩ := BX1.out.cells
    cases b
    case false =>
      go_wp2_with fail
      refine (LP.out _ HR1.out).mono ?_
      rintro ex wx ⟨Q, rfl, hQ, hbx⟩
      go_wp2_with fail
      go_ret
      exact ⟨Q, rfl, by omega, HD1.out.stay hbx⟩
    case true =>
      go_wp2_with fail
      go_ret
      exact ⟨_, rfl, by show (⟨#[247]⟩ : ByteArray).size ≤ _; have : (⟨#[247]⟩ : ByteArray).size = 1 := rfl; omega, HD1.out⟩
  by_cases h3 : k = 3
  · skip
    have n0 : (k == 0) = false := by simp; omega
    have n3 : (k == 3) = true := by simpa using h3
    have n5 : (k == 5) = false := by simp; omega
    have n6 : (k == 6) = false := by simp; omega
    have n7 : (k == 7) = false := by simp; omega
    have n8 : (k == 8) = false := by simp; omega
    clear h0 h3
    by_cases hn : 0 ≤ n ∧ n < 65536
    · obtain ⟨hn0, hn1⟩ := hn
      have hux := u64w n hn0 (by omega)
      go_wp2_with fail
      refine (ON.out 2 (by unfold In64; omega) W0 HD0.out.1).mono ?_
      rintro e1 w1 ⟨b, rfl, hd1⟩
      have HD1 := Lib.hid (HD0.out.trans hd1)
      have HR1 := Lib.hid (HR0.out.overT hd1.2)
      have BX1 := Lib.hid (BX.out.overC hd1.2 hnc)
      clear hd1 z0 z1 z2 z3 z4
      obtain ⟨z0, z1, z2, z3, z4⟩ := BX1.out.cells
      cases b
      case false =>
        go_wp2_with fail
        refine (LP.out _ HR1.out).mono ?_
        rintro ex wx ⟨Q, rfl, hQ, hbx⟩
        go_wp2_with fail
        go_ret
        exact ⟨Q, rfl, by omega, HD1.out.stay hbx⟩
      case true =>
        have P := Lib.hid (BG.out ⟨hn0, hn1⟩ w1)
        have hlb : (⟨(big (4 : Int).toNat n.toNat).toArray⟩ : ByteArray).size = 4 := by simp [ByteArray.size, big_length]
        unfold TxtRet bstr at P
        generalize (⟨(big (4 : Int).toNat n.toNat).toArray⟩ : ByteArray) = C at *
        go_wp2_with fail
        refine P.out.mono ?_
        rintro e2 w2 ⟨rfl, hb2⟩
        have hc1 : (⟨#[26]⟩ : ByteArray).size = 1 := rfl
        go_wp2_with fail
        go_ret
        exact ⟨_, rfl, by rw [ByteArray.size_append, hc1]; omega, HD1.out.stay hb2⟩
    · have hcs : decide (0 ≤ n) = false ∨ (0 ≤ n ∧ decide (n < 65536) = false) := by
        by_cases h : 0 ≤ n
        · exact .inr ⟨h, decide_eq_false (by omega)⟩
        · exact .inl (decide_eq_false h)
      rcases hcs with hc | ⟨hc1, hc⟩
      · skip
        go_wp2_with fail
        refine (LP.out _ HR0.out).mono ?_
        rintro ex wx ⟨Q, rfl, hQ, hbx⟩
        go_wp2_with fail
        go_ret
        exact ⟨Q, rfl, by omega, HD0.out.stay hbx⟩
      · skip
        go_wp2_with fail
        refine (LP.out _ HR0.out).mono ?_
        rintro ex wx ⟨Q, rfl, hQ, hbx⟩
        go_wp2_with fail
        go_ret
        exact ⟨Q, rfl, by omega, HD0.out.stay hbx⟩
  by_cases h5 : k = 5
  · skip
    have n0 : (k == 0) = false := by simp; omega
    have n3 : (k == 3) = false := by simp; omega
    have n5 : (k == 5) = true := by simpa using h5
    have n6 : (k == 6) = false := by simp; omega
    have n7 : (k == 7) = false := by simp; omega
    have n8 : (k == 8) = false := by simp; omega
    clear h0 h3 h5
    go_wp2_with fail
    refine (ON.out 2 (by unfold In64; omega) W0 HD0.out.1).mono ?_
    rintro e1 w1 ⟨b, rfl, hd1⟩
    have HD1 := Lib.hid (HD0.out.trans hd1)
    have HR1 := Lib.hid (HR0.out.overT hd1.2)
    have BX1 := Lib.hid (BX.out.overC hd1.2 hnc)
    clear hd1 z0 z1 z2 z3 z4
    obtain ⟨z0, z1, z2, z3, z4⟩ := BX1.out.cells
    cases b
    case false =>
      go_wp2_with fail
      refine (LP.out _ HR1.out).mono ?_
      rintro ex wx ⟨Q, rfl, hQ, hbx⟩
      go_wp2_with fail
      go_ret
      exact ⟨Q, rfl, by omega, HD1.out.stay hbx⟩
    case true =>
      go_wp2_with fail
      refine (LP.out _ HR1.out).mono ?_
      rintro e2 w2 ⟨Q, rfl, hQ, hb2⟩
      have HD2 := Lib.hid (HD1.out.stay hb2)
      have hc1 : (⟨#[127]⟩ : ByteArray).size = 1 := rfl
      have hc2 : (⟨#[255]⟩ : ByteArray).size = 1 := rfl
      have S1 : ¬ 9223372036854775807 < 1 + Q.size := by omega
      clear hb2
      go_wp2_with fail
      refine (PI.out w2 HD2.out.1).mono ?_
      rintro e3 w3 ⟨z, rfl, hz, hd3⟩
      have HD3 := Lib.hid (HD2.out.trans hd3)
      have S2 : ¬ 9223372036854775807 < 1 + Q.size + z.size := by omega
      have S3 : ¬ 9223372036854775807 < 1 + Q.size + z.size + 1 := by omega
      clear hd3
      go_wp2_with fail
      go_ret
      exact ⟨_, rfl, by rw [ByteArray.size_append, ByteArray.size_append, ByteArray.size_append, hc1, hc2]; omega, HD3.out⟩
  by_cases h6 : k = 6
  · skip
    have n0 : (k == 0) = false := by simp; omega
    have n3 : (k == 3) = false := by simp; omega
    have n5 : (k == 5) = false := by simp; omega
    have n6 : (k == 6) = true := by simpa using h6
    have n7 : (k == 7) = false := by simp; omega
    have n8 : (k == 8) = false := by simp; omega
    clear h0 h3 h5 h6
    go_wp2_with fail
    refine (ON.out 2 (by unfold In64; omega) W0 HD0.out.1).mono ?_
    rintro e1 w1 ⟨b, rfl, hd1⟩
    have HD1 := Lib.hid (HD0.out.trans hd1)
    have HR1 := Lib.hid (HR0.out.overT hd1.2)
    have BX1 := Lib.hid (BX.out.overC hd1.2 hnc)
    clear hd1 z0 z1 z2 z3 z4
    obtain ⟨z0, z1, z2, z3, z4⟩ := BX1.out.cells
    cases b
    case false =>
      go_wp2_with fail
      refine (LP.out _ HR1.out).mono ?_
      rintro ex wx ⟨Q, rfl, hQ, hbx⟩
      go_wp2_with fail
      go_ret
      exact ⟨Q, rfl, by omega, HD1.out.stay hbx⟩
    case true =>
      go_wp2_with fail
      refine (LP.out _ HR1.out).mono ?_
      rintro e2 w2 ⟨Q, rfl, hQ, hb2⟩
      have HD2 := Lib.hid (HD1.out.stay hb2)
      have hc1 : (⟨#[95, 88, 1, 121]⟩ : ByteArray).size = 4 := rfl
      have hc2 : (⟨#[255]⟩ : ByteArray).size = 1 := rfl
      have S1 : ¬ 9223372036854775807 < 4 + Q.size := by omega
      have S3 : ¬ 9223372036854775807 < 4 + Q.size + 1 := by omega
      clear hb2
      go_wp2_with fail
      go_ret
      exact ⟨_, rfl, by rw [ByteArray.size_append, ByteArray.size_append, hc1, hc2]; omega, HD2.out⟩
  by_cases h78 : k = 7 ∨ k = 8
  · have hk2 : ((k == 7) = true ∨ (k == 7) = false ∧ (k == 8) = true) := by
      rcases h78 with h | h
      · exact .inl (by simpa using h)
      · exact .inr ⟨by simp; omega, by simpa using h⟩
    have n0 : (k == 0) = false := by simp; omega
    have n3 : (k == 3) = false := by simp; omega
    have n5 : (k == 5) = false := by simp; omega
    have n6 : (k == 6) = false := by simp; omega
    have HK := Lib.hid h78
    have h255 : (⟨#[255]⟩ : ByteArray).size = 1 := rfl
    clear h78 h0 h3 h5 h6 LP BG PI ON
    rcases hk2 with n7 | ⟨n7, n8⟩
    all_goals
      go_wp2_with fail
      go_loopw [5, 6] (fun o i wr => ∃ (j : Nat) (Q : ByteArray), j ≤ ts.length ∧ i = .int .i64 j ∧ o = .string Q ∧ Q.size ≤ 60 * szs (ts.take j) ∧ DX w0 c v N W0 wr) (fun _ i _ => ts.length + 1 - (intOf i).toNat)
      case atStart => exact ⟨0, ⟨#[]⟩, by omega, rfl, rfl, by show (0 : Nat) ≤ _; omega, DX.refl HD0.out.1⟩
      case round =>
        obtain ⟨j, Q, hj, rfl, rfl, hQ, hdx⟩ := hrel
        have HDX := Lib.hid hdx
        have BXr := Lib.hid (BX.out.overC hdx.2 hnc)
        clear z0 z1 z2 z3 z4 hdx
        obtain ⟨z0, z1, z2, z3, z4⟩ := BXr.out.cells
        have hQ2 := HTL.out j
        by_cases hlt : j < ts.length
        · obtain ⟨a2, b, off, cap2, he, ha, hc, hm, sls, hel⟩ := (HR0.out.overT HDX.out.2).opened
          injection he with he1 he2 he3
          subst he1 he3
          have hne : ts ≠ [] := by intro e; rw [e] at hlt; simp at hlt
          obtain ⟨rfl, hbw, hbc⟩ := ha hne
          obtain ⟨c0, c1, c2, c3, c4⟩ := (hel j hlt).1
          have VJ := Lib.hid (IH.out j hlt (sls j) (hel j hlt).2.1 wr HDX.out.1 (hel j hlt).2.2)
          have HTJ := Lib.hid (HT.out j hlt)
          have HTM := Lib.hid (HTL.out (j + 1))
          obtain ⟨a3, cap3, hs3⟩ := (hel j hlt).2.2.slice
          rw [hs3] at c4 VJ
          clear hs3 hel ha he2 hm
          unfold V.agg at VJ
          generalize ts[j].sz = zj at *
          go_wp2_with fail
          refine VJ.out.mono ?_
          rintro x w2 ⟨C, rfl, hC, hd2⟩
          have HD2 := Lib.hid (HDX.out.trans hd2)
          have hT1 := HTJ.out
          have hT2 := HTM.out
          have S1 : ¬ 9223372036854775807 < Q.size + C.size := by omega
          clear hd2
          go_wp2_with fail
          go_roundw
          case rel => exact ⟨j + 1, Q ++ C, by omega, by go_num, rfl, by rw [ByteArray.size_append, hT1]; omega, HD2.out⟩
          case measure => simp [intOf]; omega
        · have hc := fun (W : World) (b : Nat) => run_str1 W b 159
          have hcc := fun (W : World) (b : Nat) => run_str1 W b 191
          have S1 : ¬ 9223372036854775807 < 1 + Q.size := by omega
          have S2 : ¬ 9223372036854775807 < 1 + Q.size + 1 := by omega
          have hq1 : ∀ x : UInt8, (⟨[x].toArray⟩ : ByteArray).size = 1 := fun _ => rfl
          have hfin : DX w0 c v N w wr := HD0.out.trans HDX.out
          rcases HK.out with rfl | rfl
          all_goals first | (exfalso; revert n7; decide) | (exfalso; revert n8; decide) | skip
          all_goals
            go_wp2_with fail
            go_ret
            exact ⟨_, rfl, by simp only [ByteArray.size_append, hq1, h255]; omega, hfin.stay ((Below.refl _ _).alloc (Nat.le_refl _) _)⟩
  have h7 : ¬ k = 7 := fun h => h78 (.inl h)
  have h8 : ¬ k = 8 := fun h => h78 (.inr h)
  have n0 : (k == 0) = false := by simp; omega
  have n3 : (k == 3) = false := by simp; omega
  have n5 : (k == 5) = false := by simp; omega
  have n6 : (k == 6) = false := by simp; omega
  have n7 : (k == 7) = false := by simp; omega
  have n8 : (k == 8) = false := by simp; omega
  clear h0 h3 h5 h6 h7 h8 h78
  go_wp2_with fail
  refine (LP.out _ HR0.out).mono ?_
  rintro ex wx ⟨Q, rfl, hQ, hbx⟩
  go_wp2_with fail
  go_ret
  exact ⟨Q, rfl, by omega, HD0.out.stay hbx⟩
def DrawSx (B : Nat) (w : World) (e : Ending) (w' : World) : Prop := ∃ (s : ByteArray), e = .returned (.string s) ∧ s.size ≤ B ∧ Below w.heap.size w w'
set_option maxHeartbeats 8000000 in
theorem DrawLoose_any (w0 : World) (v : Value) (N : Nat) (hD : Drw w0 v N) (w : World) (hw : Below w0.heap.size w0 w) :
    Calls Tryd.prog 85 #[v] w (DrawSx 700000 w) := by
  have NW := Lib.hid (fun (W : World) (hW : Below w0.heap.size w0 W) => New_any w0 v N hD W hW)
  have MK := Lib.hid (fun (c : Nat) (W : World) (h : CuX w0 c v N W) => l02Make_any w0 c v N hD 3 (by omega) 3 (by omega) (by omega) false W h)
  have VL := Lib.hid (fun (c : Nat) (W : World) (h : CuX w0 c v N W) => l05Value_any w0 c v N hD W h)
  have WI := Lib.hid (fun (c : Nat) (t : V) (sl : Value) (hwf : t.wf) (hsz : t.sz ≤ 4000) (W : World) (h : CuX w0 c v N W) (hr : RepF W (fun x => c < x) sl t.kids) => l05Wide_any w0 c v N hD (t.sz + 1) t sl (by omega) hwf hsz W h hr)
  have BL := Lib.hid (fun (c : Nat) (q : Int) (hq : In64 q) (W : World) (h : CuX w0 c v N W) => Below1_any w0 c v N hD q hq W h)
  have BE := Lib.hid (fun (c : Nat) (s : ByteArray) (hs : s.size ≤ 2000000) (W : World) (h : CuX w0 c v N W) => l01Bent_any w0 c v N hD s hs W h)
  have HW0 := Lib.hid hw
  clear hw hD
  go_enter Tryd.func85, Tryd.ntmps85
  go_wp2_with fail
  refine (NW.out w HW0.out).mono ?_
  rintro e1 w1 ⟨rfl, hc1, hb1⟩
  have HC1 := Lib.hid hc1
  have HB1 := Lib.hid hb1
  have hlt1 := hc1.lt
  clear hc1 hb1
  go_wp2_with fail
  refine (MK.out w.heap.size w1 HC1.out).mono ?_
  rintro e2 w2 ⟨t, sl, G, rfl, hwf, hsz, ho, hgl, hd2⟩
  have HD2 := Lib.hid hd2
  have HRF := Lib.hid (ho.repF.mono (G' := fun x => w.heap.size < x) (fun x hx _ => hx.elim (fun h => by have := hgl x h; omega) (fun h => by have := (ho.lt x h).1; omega)))
  have hsz2 : t.sz ≤ 2500 := hsz
  have WJ := Lib.hid (WI.out w.heap.size t sl hwf (by omega) w2 HD2.out.1 HRF.out)
  clear hd2 hwf ho hgl hsz HRF
  go_wp2_with fail
  refine WJ.out.mono ?_
  rintro e3 w3 ⟨s, rfl, hs, hd3⟩
  have HD3 := Lib.hid (HD2.out.trans hd3)
  clear hd3 WJ
  go_wp2_with fail
  refine (BL.out w.heap.size 6 (by unfold In64; omega) w3 HD3.out.1).mono ?_
  rintro e4 w4 ⟨x, rfl, hx0, hx1, hd4⟩
  have HD4 := Lib.hid (HD3.out.trans hd4)
  clear hd4
  have hx5 : (x == 0) = true ∨ (x == 0) = false ∧ (x == 1) = true ∨ (x == 0) = false ∧ (x == 1) = false ∧ (x == 2) = true ∨ (x == 0) = false ∧ (x == 1) = false ∧ (x == 2) = false := by
    by_cases h0 : x = 0
    · exact .inl (by simpa using h0)
    by_cases h1 : x = 1
    · exact .inr (.inl ⟨by simpa using h0, by simpa using h1⟩)
    by_cases h2 : x = 2
    · exact .inr (.inr (.inl ⟨by simpa using h0, by simpa using h1, by simpa using h2⟩))
    · exact .inr (.inr (.inr ⟨by simpa using h0, by simpa using h1, by simpa using h2⟩))
  clear hx0 hx1
  rcases hx5 with e0 | ⟨e0, e1⟩ | ⟨e0, e1, e2⟩ | ⟨e0, e1, e2⟩
  · go_wp2_with fail
    refine (BE.out w.heap.size s (by omega) w4 HD4.out.1).mono ?_
    rintro e5 w5 ⟨u, rfl, hu, hd5⟩
    have HB5 := Lib.hid ((HD4.out.trans hd5).lower HB1.out (Nat.le_refl _))
    clear hd5
    go_wp2_with fail
    go_ret
    exact ⟨u, rfl, by omega, HB5.out⟩
  · go_wp2_with fail
    refine (BE.out w.heap.size s (by omega) w4 HD4.out.1).mono ?_
    rintro e5 w5 ⟨u, rfl, hu, hd5⟩
    have HB5 := Lib.hid ((HD4.out.trans hd5).lower HB1.out (Nat.le_refl _))
    clear hd5
    go_wp2_with fail
    go_ret
    exact ⟨u, rfl, by omega, HB5.out⟩
  · go_wp2_with fail
    refine (VL.out w.heap.size w4 HD4.out.1).mono ?_
    rintro e5 w5 ⟨t2, sl2, G2, rfl, hwf2, hsz2, ho2, hgl2, hd5⟩
    have HB5 := Lib.hid ((HD4.out.trans hd5).lower HB1.out (Nat.le_refl _))
    have PM := Lib.hid (PutCbor_spec w5 (t2.agg sl2) t2 ⟨sl2, rfl, hwf2, ho2.rep⟩ (by omega) w5 (Below.refl _ _))
    have hls := cbB_sz t2
    clear hwf2 ho2 hgl2 hd5
    unfold TxtRet bstr at PM
    generalize (⟨(cborB t2).toArray⟩ : ByteArray) = s8 at *
    go_wp2_with fail
    refine PM.out.mono ?_
    rintro e6 w6 ⟨rfl, hb6⟩
    go_wp2_with fail
    go_ret
    exact ⟨s8, rfl, by omega, HB5.out.trans (hb6.mono HB5.out.size)⟩
  · go_wp2_with fail
    go_ret
    exact ⟨s, rfl, by omega, HD4.out.lower HB1.out (Nat.le_refl _)⟩
end Go.Proofs.YtgbgeocmjdgmoaaDoor
namespace Go.Proofs.YtgbgeocmjdgmoaaDoor
set_option linter.unusedSimpArgs false
set_option linter.unusedVariables false
set_option maxRecDepth 100000
open Go.ChangeShapes Go.WideShapes Go.ChangeAt Go.RowKit Go.Lib
open Go.ChangeMaps (open_string shut_string)
theorem bigO_any {w : World} {v : Value} {L : List Int} (h : BRead w v L) : Calls Tryd.prog 13 #[v] w fun e w' => e = .returned (.bool (decide ((1048576 : Int) < (L.length : Int)))) ∧ w = w' := by
  obtain ⟨a, b, off, cap, rfl, h1, h2, h3, h4, h5⟩ := h
  clear h1 h4 h5
  go_enter Tryd.func13, Tryd.ntmps13
  go_wp2_with fail
  go_ret
  exact ⟨rfl, rfl⟩
theorem looseR2_szL {s : ByteArray} (hs : s.size ≤ 1048576) : (looseR2 s).1.sz ≤ 1048576 := by
  have hz : VZ.sz ≤ 1048576 := by simp [VZ, V.sz, szs, ByteArray.size]
  unfold looseR2
  split
  · unfold looseR
    split
    · rename_i v j m hg
      have hgd := cg_good hs 15 0 1204 v j m hg
      split
      · show v.sz ≤ _; omega
      · exact hz
    · exact hz
  · exact hz
theorem loose_yes {s : ByteArray} (h : (looseR2 s).2 = true) : cborB (looseR2 s).1 ≠ [] := by
  unfold looseR2 at h ⊢
  split at h
  · rename_i hs
    rw [if_pos hs]
    unfold looseR at h ⊢
    split at h
    · split at h
      · rename_i hc
        rw [if_pos hc]
        exact hc.2
      · cases h
    · cases h
  · cases h
theorem loose_no {s : ByteArray} (h : (looseR2 s).2 = false) : (looseR2 s).1 = VZ := by
  unfold looseR2 at h ⊢
  split at h
  · rename_i hs
    rw [if_pos hs]
    unfold looseR at h ⊢
    split at h
    · split at h
      · cases h
      · rename_i hc
        rw [if_neg hc]
    · rfl
  · rename_i hs
    rw [if_neg hs]
theorem VZ.rep (w : World) : Rep w (.agg #[.int .i64 0, .int .i64 0, .int .i64 0, .string ⟨#[]⟩, .slice none 0 0]) VZ := ⟨.slice none 0 0, rfl, VZ.wf, (OwnS.nil w (fun _ => True)).rep⟩
def HeldB (W : World) (b : Nat) (t : V) (sl : Value) : Prop := Box W b t.k t.n t.e t.s sl 26 ∧ Rep W (t.agg sl) t
theorem HeldB.new {W : World} {t : V} {sl : Value} (h : Rep W (t.agg sl) t) : HeldB (W.alloc (.cells #[.int .i64 t.k, .int .i64 t.n, .int .i64 t.e, .string t.s, sl] 26)) W.heap.size t sl :=
  ⟨Box.new W _ _ _ _ _ _, h.keep ((Below.refl _ _).alloc (Nat.le_refl _) _)⟩
theorem HeldB.stay {W W' : World} {b : Nat} {t : V} {sl : Value} (h : HeldB W b t sl) (hb : Below W.heap.size W W') : HeldB W' b t sl := ⟨h.1.stay hb, h.2.keep hb⟩
theorem alloc_below (W : World) (o : Obj) : Below W.heap.size W (W.alloc o) := (Below.refl _ _).alloc (Nat.le_refl _) _
theorem keepc {W w2 : World} (hb : Below W.heap.size W w2) {p : Addr} {x : Value} (h : W.cell? p = some x) : w2.cell? p = some x := (hb.cell (World.block_lt_of_cell? _ _ h)).trans h
theorem str_ne_self (s : ByteArray) : (s.toList != s.toList) = false := by simp
set_option maxHeartbeats 8000000 in
theorem walk_FnLoose {w00 : World} (v0 : Value) (L : List Int) (hv : BRead w00 v0 L) (w : World) (hww : w = w00) (hE : Env w) : Calls Tryd.prog 12 #[v0] w (LawRet w) := by
  subst hww
  have BG := Lib.hid (bigO_any hv)
  by_cases hbig : L.length ≤ 1048576
  case neg =>
    have hB : decide ((1048576 : Int) < (L.length : Int)) = true := decide_eq_true (by omega)
    go_enter Tryd.func12, Tryd.ntmps12
    go_wp2_with fail
    refine BG.out.mono ?_
    rintro e0 w' ⟨rfl, rfl⟩
    go_wp2_with fail
    go_ret
    exact ⟨rfl, Below.refl _ _⟩
  have hB : decide ((1048576 : Int) < (L.length : Int)) = false := decide_eq_false (by omega)
  have hD : Drw w v0 L.length := ⟨⟨L, hv, rfl⟩, hbig⟩
  have HB := Lib.hid (Below.refl w.heap.size w)
  have D1 := Lib.hid (fun (W : World) (hW : Below w.heap.size w W) => DrawLoose_any w v0 _ hD W hW)
  have D3 := Lib.hid (fun (W : World) (hW : Below w.heap.size w W) => DrawPutCbor_any w v0 _ hD W hW)
  have CI := Lib.hid (fun (W W' : World) (hW : Below w.heap.size w W) (hh : Below W.heap.size W W') (x : Value) (t : V) (hx : Rep W x t) (hz : t.sz ≤ 1048576) => CborFits_impl W (Env.keep hE hW) x t hx hz W' hh)
  have LI := Lib.hid (fun (W : World) (hW : Below w.heap.size w W) (s : ByteArray) (hs : s.size ≤ 1048576) => Loose_impl0 W s hs W (Below.refl _ _) (Env.keep hE hW))
  clear hE hv hD hbig
  go_enter Tryd.func12, Tryd.ntmps12
  go_wp2_with fail
  refine BG.out.mono ?_
  rintro e0 w' ⟨rfl, rfl⟩
  clear BG
  go_wp2_with fail
  clear hB
  refine (D1.out _ HB.out).mono ?_
  rintro e1 w1 ⟨s, rfl, hs, hb⟩
  replace HB := Lib.hid (HB.out.trans (hb.mono HB.out.size))
  clear hb
  go_wp2_with fail
  have HYES := Lib.hid (fun (h : (looseR2 s).2 = true) => loose_yes h)
  have HNO := Lib.hid (fun (h : (looseR2 s).2 = false) => loose_no h)
  have hxz := looseR2_szL (s := s) (by omega)
  have G1 := Lib.hid (LI.out _ HB.out s (by omega))
  have GS1 := Lib.hid (fun (W : World) => Loose_spec0 W s (by omega) W (Below.refl _ _))
  unfold BRet2 at G1 GS1
  generalize (looseR2 s).1 = xx at *
  generalize (looseR2 s).2 = ok at *
  refine (G1.out).mono ?_
  rintro e2 w2 ⟨sl1, rfl, xwf, xo, hb⟩
  replace HB := Lib.hid (HB.out.trans (hb.mono HB.out.size))
  clear hb
  clear G1
  obtain ⟨a1, q1, rfl⟩ := xo.slice
  have RA1 := Lib.hid (show Rep w2 (xx.agg (.slice a1 xx.kids.length q1)) xx from ⟨_, rfl, xwf, xo.rep⟩)
  clear xwf xo
  have hal := alloc_below w2 (.cells #[.int .i64 xx.k, .int .i64 xx.n, .int .i64 xx.e, .string xx.s, .slice a1 xx.kids.length q1] 26)
  replace HB := Lib.hid (HB.out.trans (hal.mono HB.out.size))
  have A1 := Lib.hid (HeldB.new RA1.out)
  clear hal RA1
  unfold V.agg
  go_wp2_with fail
  generalize (w2.alloc (.cells #[.int .i64 xx.k, .int .i64 xx.n, .int .i64 xx.e, .string xx.s, .slice a1 xx.kids.length q1] 26)) = w3 at *
  generalize w2.heap.size = b1 at *
  refine (GS1.out _).mono ?_
  rintro e4 w4 ⟨sl2, rfl, xwf, xo, hb⟩
  replace HB := Lib.hid (HB.out.trans (hb.mono HB.out.size))
  replace A1 := Lib.hid (A1.out.stay hb)
  clear hb
  clear GS1
  obtain ⟨a2, q2, rfl⟩ := xo.slice
  have RA2 := Lib.hid (show Rep w4 (xx.agg (.slice a2 xx.kids.length q2)) xx from ⟨_, rfl, xwf, xo.rep⟩)
  clear xwf xo
  have hal := alloc_below w4 (.cells #[.int .i64 xx.k, .int .i64 xx.n, .int .i64 xx.e, .string xx.s, .slice a2 xx.kids.length q2] 26)
  replace HB := Lib.hid (HB.out.trans (hal.mono HB.out.size))
  replace A1 := Lib.hid (A1.out.stay hal)
  have A2 := Lib.hid (HeldB.new RA2.out)
  clear hal RA2
  unfold V.agg
  go_upto_region 6 with fail
  generalize (w4.alloc (.cells #[.int .i64 xx.k, .int .i64 xx.n, .int .i64 xx.e, .string xx.s, .slice a2 xx.kids.length q2] 26)) = w5 at *
  generalize w4.heap.size = b2 at *
  obtain ⟨c0, c1, c2, c3, c4⟩ := A1.out.1.cells
  obtain ⟨d0, d1, d2, d3, d4⟩ := A2.out.1.cells
  have RS := Lib.hid (lsame_any w5 (xx.sz + 1) xx _ _ (by omega) A1.out.2 A2.out.2 _ (Below.refl _ _))
  unfold LawRet at RS
  unfold V.agg at RS
  go_wp2_with fail
  refine (RS.out).mono ?_
  rintro e6 w6 ⟨rfl, hb⟩
  replace HB := Lib.hid (HB.out.trans (hb.mono HB.out.size))
  replace A1 := Lib.hid (A1.out.stay hb)
  replace A2 := Lib.hid (A2.out.stay hb)
  clear hb
  clear RS c0 c1 c2 c3 c4 d0 d1 d2 d3 d4 A2
  obtain ⟨c0, c1, c2, c3, c4⟩ := A1.out.1.cells
  cases ok
  case false =>
    obtain rfl := HNO.out rfl
    have RZ := Lib.hid (lsame_any w6 (VZ.sz + 1) VZ _ _ (by omega) A1.out.2 (VZ.rep w6) _ (Below.refl _ _))
    unfold LawRet at RZ
    unfold V.agg at RZ
    go_wp2_with fail
    refine (RZ.out).mono ?_
    rintro e7 w7 ⟨rfl, hb⟩
    replace HB := Lib.hid (HB.out.trans (hb.mono HB.out.size))
    replace A1 := Lib.hid (A1.out.stay hb)
    clear hb
    clear RZ c0 c1 c2 c3 c4
    go_wp2_with fail
    clear HYES HNO A1
    refine (D3.out _ HB.out).mono ?_
    rintro e8 w8 ⟨t1, sl3, rfl, hwf1, hsz1, hrs1, hb⟩
    replace HB := Lib.hid (HB.out.trans (hb.mono HB.out.size))
    clear hb
    obtain ⟨a3, q3, rfl⟩ := hrs1.slice
    have RA3 := Lib.hid (show Rep w8 (t1.agg (.slice a3 t1.kids.length q3)) t1 from ⟨_, rfl, hwf1, hrs1⟩)
    have HWV := Lib.hid RA3.out.wfV
    clear hwf1 hrs1
    have hal := alloc_below w8 (.cells #[.int .i64 t1.k, .int .i64 t1.n, .int .i64 t1.e, .string t1.s, .slice a3 t1.kids.length q3] 26)
    replace HB := Lib.hid (HB.out.trans (hal.mono HB.out.size))
    have A3 := Lib.hid (HeldB.new RA3.out)
    clear hal RA3
    unfold V.agg
    go_wp2_with fail
    generalize (w8.alloc (.cells #[.int .i64 t1.k, .int .i64 t1.n, .int .i64 t1.e, .string t1.s, .slice a3 t1.kids.length q3] 26)) = w9 at *
    generalize w8.heap.size = b3 at *
    have P0 := Lib.hid (PutCbor_spec _ _ t1 A3.out.2 (by omega) w9 (Below.refl _ _))
    obtain ⟨s1, hs1⟩ : ∃ s1 : ByteArray, s1 = ⟨(cborB t1).toArray⟩ := ⟨_, rfl⟩
    unfold TxtRet bstr at P0
    rw [← hs1] at P0
    have HS1 := Lib.hid hs1
    clear hs1
    refine (P0.out).mono ?_
    rintro e10 w10 ⟨rfl, hb⟩
    replace HB := Lib.hid (HB.out.trans (hb.mono HB.out.size))
    replace A3 := Lib.hid (A3.out.stay hb)
    clear hb
    clear P0
    by_cases ho : cborB t1 = []
    · obtain rfl : s1 = ⟨#[]⟩ := by rw [HS1.out, ho]
      go_wp2_with fail
      go_ret
      exact ⟨rfl, HB.out⟩
    have hs1 : ¬ s1.size = 0 := by rw [HS1.out]; intro h; exact ho (List.length_eq_zero_iff.1 (by simpa [ByteArray.size] using h))
    obtain ⟨y1, y2, y3⟩ := str_ne hs1
    have hz1 : s1.size ≤ 615000 := by rw [HS1.out]; exact cbB_sz t1
    by_cases h4 : s1.size ≤ 4000
    case neg =>
      have h5 : decide ((4000 : Int) < (s1.size : Int)) = true := decide_eq_true (by omega)
      go_wp2_with fail
      go_ret
      exact ⟨rfl, HB.out⟩
    have h5 : decide ((4000 : Int) < (s1.size : Int)) = false := decide_eq_false (by omega)
    have BK := Lib.hid (show looseR2 s1 = (t1, true) by rw [HS1.out] at h4 ⊢; exact loose_back HWV.out ho (by simpa [ByteArray.size] using h4))
    have P := Lib.hid (LI.out _ HB.out s1 (by omega))
    rw [BK.out] at P
    unfold BRet2 at P
    clear BK LI
    go_wp2_with fail
    refine P.out.mono ?_
    rintro ea wa ⟨sla, rfl, xwf, xo, hba⟩
    clear P
    obtain ⟨a7, q7, rfl⟩ := xo.slice
    replace A3 := Lib.hid (A3.out.stay hba)
    replace HB := Lib.hid (HB.out.trans (hba.mono HB.out.size))
    have RA7 := Lib.hid (show Rep wa (t1.agg (.slice a7 t1.kids.length q7)) t1 from ⟨_, rfl, xwf, xo.rep⟩)
    have hal := alloc_below wa (.cells #[.int .i64 t1.k, .int .i64 t1.n, .int .i64 t1.e, .string t1.s, .slice a7 t1.kids.length q7] 26)
    have RS := Lib.hid (lsame_any _ (t1.sz + 1) t1 _ _ (by omega) (RA7.out.keep hal) (A3.out.2.keep hal) _ (Below.refl _ _))
    have hlt : b3 < wa.heap.size := A3.out.1.lt
    have hne1 : b3 ≠ wa.heap.size := by omega
    have hne2 : wa.heap.size ≠ b3 := by omega
    replace HB := Lib.hid (HB.out.trans (hal.mono HB.out.size))
    obtain ⟨z0, z1, z2, z3, z4⟩ := A3.out.1.cells
    clear xwf xo hba RA7 hal
    unfold LawRet at RS
    unfold V.agg at RS ⊢
    go_wp2_with fail
    refine RS.out.mono ?_
    rintro eb wb ⟨rfl, hbb⟩
    go_wp2_with fail
    go_ret
    exact ⟨rfl, HB.out.trans (hbb.mono HB.out.size)⟩
  case true =>
    have RC := Lib.hid (CI.out _ w6 HB.out (Below.refl _ _) _ xx A1.out.2 (by omega))
    rw [decide_eq_true (HYES.out rfl)] at RC
    unfold BoolRet at RC
    unfold V.agg at RC
    go_wp2_with fail
    refine (RC.out).mono ?_
    rintro e7 w7 ⟨rfl, hb⟩
    replace HB := Lib.hid (HB.out.trans (hb.mono HB.out.size))
    replace A1 := Lib.hid (A1.out.stay hb)
    clear hb
    clear RC c0 c1 c2 c3 c4
    go_wp2_with fail
    clear HYES HNO A1
    refine (D3.out _ HB.out).mono ?_
    rintro e8 w8 ⟨t1, sl3, rfl, hwf1, hsz1, hrs1, hb⟩
    replace HB := Lib.hid (HB.out.trans (hb.mono HB.out.size))
    clear hb
    obtain ⟨a3, q3, rfl⟩ := hrs1.slice
    have RA3 := Lib.hid (show Rep w8 (t1.agg (.slice a3 t1.kids.length q3)) t1 from ⟨_, rfl, hwf1, hrs1⟩)
    have HWV := Lib.hid RA3.out.wfV
    clear hwf1 hrs1
    have hal := alloc_below w8 (.cells #[.int .i64 t1.k, .int .i64 t1.n, .int .i64 t1.e, .string t1.s, .slice a3 t1.kids.length q3] 26)
    replace HB := Lib.hid (HB.out.trans (hal.mono HB.out.size))
    have A3 := Lib.hid (HeldB.new RA3.out)
    clear hal RA3
    unfold V.agg
    go_wp2_with fail
    generalize (w8.alloc (.cells #[.int .i64 t1.k, .int .i64 t1.n, .int .i64 t1.e, .string t1.s, .slice a3 t1.kids.length q3] 26)) = w9 at *
    generalize w8.heap.size = b3 at *
    have P0 := Lib.hid (PutCbor_spec _ _ t1 A3.out.2 (by omega) w9 (Below.refl _ _))
    obtain ⟨s1, hs1⟩ : ∃ s1 : ByteArray, s1 = ⟨(cborB t1).toArray⟩ := ⟨_, rfl⟩
    unfold TxtRet bstr at P0
    rw [← hs1] at P0
    have HS1 := Lib.hid hs1
    clear hs1
    refine (P0.out).mono ?_
    rintro e10 w10 ⟨rfl, hb⟩
    replace HB := Lib.hid (HB.out.trans (hb.mono HB.out.size))
    replace A3 := Lib.hid (A3.out.stay hb)
    clear hb
    clear P0
    by_cases ho : cborB t1 = []
    · obtain rfl : s1 = ⟨#[]⟩ := by rw [HS1.out, ho]
      go_wp2_with fail
      go_ret
      exact ⟨rfl, HB.out⟩
    have hs1 : ¬ s1.size = 0 := by rw [HS1.out]; intro h; exact ho (List.length_eq_zero_iff.1 (by simpa [ByteArray.size] using h))
    obtain ⟨y1, y2, y3⟩ := str_ne hs1
    have hz1 : s1.size ≤ 615000 := by rw [HS1.out]; exact cbB_sz t1
    by_cases h4 : s1.size ≤ 4000
    case neg =>
      have h5 : decide ((4000 : Int) < (s1.size : Int)) = true := decide_eq_true (by omega)
      go_wp2_with fail
      go_ret
      exact ⟨rfl, HB.out⟩
    have h5 : decide ((4000 : Int) < (s1.size : Int)) = false := decide_eq_false (by omega)
    have BK := Lib.hid (show looseR2 s1 = (t1, true) by rw [HS1.out] at h4 ⊢; exact loose_back HWV.out ho (by simpa [ByteArray.size] using h4))
    have P := Lib.hid (LI.out _ HB.out s1 (by omega))
    rw [BK.out] at P
    unfold BRet2 at P
    clear BK LI
    go_wp2_with fail
    refine P.out.mono ?_
    rintro ea wa ⟨sla, rfl, xwf, xo, hba⟩
    clear P
    obtain ⟨a7, q7, rfl⟩ := xo.slice
    replace A3 := Lib.hid (A3.out.stay hba)
    replace HB := Lib.hid (HB.out.trans (hba.mono HB.out.size))
    have RA7 := Lib.hid (show Rep wa (t1.agg (.slice a7 t1.kids.length q7)) t1 from ⟨_, rfl, xwf, xo.rep⟩)
    have hal := alloc_below wa (.cells #[.int .i64 t1.k, .int .i64 t1.n, .int .i64 t1.e, .string t1.s, .slice a7 t1.kids.length q7] 26)
    have RS := Lib.hid (lsame_any _ (t1.sz + 1) t1 _ _ (by omega) (RA7.out.keep hal) (A3.out.2.keep hal) _ (Below.refl _ _))
    have hlt : b3 < wa.heap.size := A3.out.1.lt
    have hne1 : b3 ≠ wa.heap.size := by omega
    have hne2 : wa.heap.size ≠ b3 := by omega
    replace HB := Lib.hid (HB.out.trans (hal.mono HB.out.size))
    obtain ⟨z0, z1, z2, z3, z4⟩ := A3.out.1.cells
    clear xwf xo hba RA7 hal
    unfold LawRet at RS
    unfold V.agg at RS ⊢
    go_wp2_with fail
    refine RS.out.mono ?_
    rintro eb wb ⟨rfl, hbb⟩
    go_wp2_with fail
    go_ret
    exact ⟨rfl, HB.out.trans (hbb.mono HB.out.size)⟩
set_option maxRecDepth 100000 in
set_option maxHeartbeats 2000000 in
theorem lifted_FnLoose (os : Os) (started : os.Started) (H : Type) (enc : TypeId × Value → H) :
    ReturnsInHanded {} Tryd.checked os 12 .any (fun w args => (Rows.fnLooseSpec.pre enc Tryd.prog Tryd.f12 [] false w args ∧ laidMetH Tryd.prog Rows.fnLooseRow.laid w) ∧ sizedMet enc Tryd.prog Tryd.f12 (OpenSpec.ofChange Rows.fnLooseSpec) false w args)
      (Rows.fnLooseSpec.post enc Tryd.prog Tryd.f12 false true false false) := by
  refine returnsInHanded_of_change_and (C := Tryd.checked) (X := fun w _ => laidMetH Tryd.prog Rows.fnLooseRow.laid w) (fun _ _ _ hh h => h.of_heap hh) lawOwn started (by kernel_rfl) Tryd.func12
    (ChangeSpec.witness_shaped (enc := enc) (C := Tryd.checked) (os := os) (X := fun w _ => laidMetH Tryd.prog Rows.fnLooseRow.laid w) false (World.laidAll Tryd.prog os Rows.fnLooseRow.laid) #[.slice none 0 0] 8 (World.laidAll_os _ _ _)
      (World.shaped_of_ZipB (by kernel_rfl) (by kernel_rfl)) (by kernel_rfl) (by kernel_rfl) (by kernel_rfl)
      (by rw [MakeChecks.laidMetH_plain _ _ _ (by kernel_rfl)]; exact laidMet_laidAll _ (by kernel_rfl) (by kernel_rfl))) ?_
  intro W base args ds gs before hval0 hW _ _ hL _
  have hval : ∀ (j : Nat) t v, Tryd.f12.params[j]? = some t → args[j]? = some v → Value.okWide Tryd.prog W .any base t v := hval0
  have hW' := hW
  obtain ⟨p, q, hA0, hV, hpq, hfz, hnd⟩ := hW
  have hA : DataW.TrodAll enc Tryd.prog W 0 (fun _ => true) true Tryd.f12.params.toList args.toList ds p := hA0
  rw [Tryd.params12] at hA hval
  rw [MakeChecks.laidMetH_plain _ _ _ (by kernel_rfl)] at hL
  have hE : Env W := env_of (Lib.laidMet.reads hL (.tail _ (.head _))) (Lib.laidMet.reads hL (.head _))
  obtain ⟨v0, vs0, d0, ds0, p0, q0, hargs, rfl, hp, h0, r0⟩ := trodAll_cons hA
  obtain ⟨rfl, rfl, rfl⟩ := trodAll_nil r0
  obtain rfl : args = #[v0] := by cases args; simp_all
  obtain ⟨a0, w0⟩ := open_bytes (okWide_slice Tryd.underlying22 (hval 0 22 v0 rfl rfl)) h0
  refine (walk_FnLoose v0 a0 w0 W rfl hE).mono fun e W' ⟨he, hb⟩ => ?_
  subst he
  refine ⟨_, rfl, law_post rfl rfl rfl ?_ hW' hb⟩
  rw [Tryd.params12]
  intro t ht
  obtain rfl := List.mem_singleton.1 ht
  exact ⟨by kernel_rfl, of_decide_eq_true (by kernel_rfl)⟩
set_option maxHeartbeats 4000000 in
theorem row_FnLoose : Rows.FnLooseSaid :=
  OpenClaim.holds_of_wide 12 Tryd.f12 rfl rfl rfl rfl rfl rfl rfl ⟨rfl, rfl, rfl, rfl, rfl⟩ rfl rfl rfl rfl rfl (by as_aux_lemma => kernel_rfl) Tryd.func12 (by as_aux_lemma => kernel_rfl)
    (of_decide_eq_true (by as_aux_lemma => kernel_rfl)) (by unfold Func.isWrapper; first | (rw [if_pos (by decide +kernel)]; kernel_rfl) | (rw [if_neg (by decide +kernel)]; exact ⟨rfl, rfl⟩))
    (fun os started H enc _ => lifted_FnLoose os started H enc)
set_option maxHeartbeats 4000000 in
theorem holds_FnLooseCard : Rows.FnLooseCardSaid :=
  Claim7.holds_tied_plain_at .later [] [.data, .pinned] true (true, "a4cb6258458d601955f016439c5ed8fedd35fdd32397295683473c726073af0b") false row_FnLoose (fun _ h => by cases h) (by as_aux_lemma => kernel_rfl) (fun _ h => by cases h) fnLoose_row_tie rfl ⟨rfl, rfl⟩ (by as_aux_lemma => kernel_rfl) rfl
    (fun f fn hf hfn => by
      obtain rfl : f = 12 := Option.some.inj ((show Tryd.prog.funcNamed "loop.example/g00421/laws.FnLoose" = some 12 by as_aux_lemma => kernel_rfl).symm.trans hf) |>.symm
      obtain rfl : fn = Tryd.f12 := (Option.some.inj (Tryd.func12.symm.trans hfn)).symm
      exact ⟨by as_aux_lemma => kernel_rfl, fun j t ht => by
        have hm : t ∈ Tryd.f12.params.toList := by simpa using Array.mem_of_getElem? ht
        have hall : (Tryd.f12.params.toList.all fun u => !Tryd.prog.wantsStandIn u) = true := by as_aux_lemma => kernel_rfl
        exact (show Tryd.prog.wantsStandIn t = false by simpa using List.all_eq_true.1 hall t hm)⟩)
    (by as_aux_lemma => kernel_rfl)
#print axioms holds_FnLooseCard
end Go.Proofs.YtgbgeocmjdgmoaaDoor
