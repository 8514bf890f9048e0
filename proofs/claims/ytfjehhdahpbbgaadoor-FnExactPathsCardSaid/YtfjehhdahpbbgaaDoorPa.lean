/- For every value the program's Paths and the reference's return the same texts, in memory of their own, and leave the argument as it was: the law returns true. -/
import Derived.Test.YtfjehhdahpbbgaaDoorPa01
import Derived.Test.YtfjehhdahpbbgaaDoorPa04
import Derived.Test.YtfjehhdahpbbgaaDoorPa06
import Derived.Test.YtfjehhdahpbbgaaDoorTie
import Derived.Test.YtfjehhdahpbbgaaDoorCards
import Derived.PinnedBridge
import Derived.Lay
import Derived.LaidOnce
import Derived.SevenTiedAt
import Derived.Lib.LaidU8T
import Derived.Lib.LaidIn
import Derived.Handed
import Derived.Lib.LaidTab
import Derived.Shelf.Vars
import Derived.Deep.RegionWith
import Derived.Deep.DeepCutAuto
namespace Go.Proofs.YtfjehhdahpbbgaaDoor
set_option linter.unusedSimpArgs false
set_option linter.unusedVariables false
set_option maxRecDepth 100000
open Go.RowKit Go.Shelf
def StepR (w : World) (v : Value) (l : List ByteArray) (X : Option Nat) : Prop := ∃ a b off cap, v = .slice a l.length cap ∧ (l ≠ [] → a = some ⟨b, off, none⟩ ∧ b < w.heap.size ∧ X ≠ some b) ∧ l.length ≤ cap ∧ cap ≤ 9223372036854775807 ∧
  ∀ i (h : i < l.length), w.cell? ⟨b, off + i, none⟩ = some (.string l[i]) ∧ l[i].size ≤ 9223372036854775807
theorem StepR.rep {w : World} {v : Value} {l : List ByteArray} {X : Option Nat} (h : StepR w v l X) : RepSs w v l := by
  obtain ⟨a, b, off, cap, hv, ha, r⟩ := h
  exact ⟨a, b, off, cap, hv, fun hne => ⟨(ha hne).1, (ha hne).2.1⟩, r⟩
theorem StepR.keep {w w' : World} {v : Value} {l : List ByteArray} {X X' : Option Nat} (h : StepR w v l X) (hz : w.heap.size ≤ w'.heap.size) (hk : ∀ x, x < w.heap.size → X ≠ some x → w'.heap[x]? = w.heap[x]?) (hX : ∀ x, x < w.heap.size → X ≠ some x → X' ≠ some x) : StepR w' v l X' := by
  obtain ⟨a, b, off, cap, hv, ha, hc, hm, hcell⟩ := h
  refine ⟨a, b, off, cap, hv, fun hne => ⟨(ha hne).1, Nat.lt_of_lt_of_le (ha hne).2.1 hz, hX b (ha hne).2.1 (ha hne).2.2⟩, hc, hm, fun i hi => ⟨?_, (hcell i hi).2⟩⟩
  have hne : l ≠ [] := by intro e; rw [e] at hi; simp at hi
  rw [World.cell?_of_block (a := ⟨b, off + i, none⟩) (hk b (ha hne).2.1 (ha hne).2.2)]
  exact (hcell i hi).1
theorem StepR.stay {w w' : World} {v : Value} {l : List ByteArray} {X : Option Nat} (h : StepR w v l X) (hb : Below w.heap.size w w') : StepR w' v l X := h.keep hb.size (fun x hx _ => hb.block x hx) (fun x _ h => h)
theorem StepR.ofRow {w : World} {base : Nat} {v : Value} {l : List ByteArray} {X : Option Nat} (h : SRow w base v l) (hX : ∀ x, base ≤ x → X ≠ some x) : StepR w v l X := by
  rcases h.1.2 with ⟨rfl, hn⟩ | ⟨g, cap, cur, rfl, hbg, hg, hnc, hcm, _⟩
  · have : l = [] := List.eq_nil_of_length_eq_zero hn
    subst this
    exact ⟨none, 0, 0, 0, rfl, by simp, by simp, by omega, by simp⟩
  · refine ⟨some ⟨g, 0, none⟩, g, 0, cap, rfl, fun _ => ⟨rfl, lt_of_heap hg, hX g hbg⟩, hnc, by simpa [maxLen] using hcm, fun i hi => ⟨?_, h.2 _ (List.getElem_mem hi)⟩⟩
    rw [Nat.zero_add]; exact (h.cells hi).1
theorem StepR.nil (w : World) (X : Option Nat) : StepR w (.slice none 0 0) [] X := ⟨none, 0, 0, 0, rfl, by simp, by simp, by omega, by simp⟩
def NewOr (w : World) (v v' : Value) : Prop := v'.ownBlock = v.ownBlock ∨ ∃ k, v'.ownBlock = some k ∧ w.heap.size ≤ k
theorem NewOr.refl (w : World) (v : Value) : NewOr w v v := .inl rfl
theorem NewOr.trans {w w2 : World} {v v' v'' : Value} (h : NewOr w v v') (h2 : NewOr w2 v' v'') (hz : w.heap.size ≤ w2.heap.size) : NewOr w v v'' := by
  rcases h2 with h2 | ⟨k, h2, h3⟩
  · rcases h with h | ⟨k, h, h3⟩
    · exact .inl (h2.trans h)
    · exact .inr ⟨k, h2.trans h, h3⟩
  · exact .inr ⟨k, h2, by omega⟩
theorem NewOr.ofFresh {w w1 : World} {v v' : Value} (h : FreshOr w1 v v') (hz : w.heap.size ≤ w1.heap.size) : NewOr w v v' := by
  rcases h with h | h
  · exact .inl h
  · exact .inr ⟨_, h, hz⟩
theorem NewOr.ne {w : World} {v v' : Value} {x : Nat} (h : NewOr w v v') (hx : x < w.heap.size) (hn : v.ownBlock ≠ some x) : v'.ownBlock ≠ some x := by
  rcases h with h | ⟨k, h, h2⟩
  · rw [h]; exact hn
  · rw [h]; intro e; injection e with e; omega
theorem NewOr.mono {w w2 : World} {v v' : Value} (h : NewOr w2 v v') (hz : w.heap.size ≤ w2.heap.size) : NewOr w v v' := by
  rcases h with h | ⟨k, h, h2⟩
  · exact .inl h
  · exact .inr ⟨k, h, by omega⟩
theorem grownBy_sub {a b c : World} {v v' : Value} (h : a.grownBy b v.ownBlock) (h2 : b.grownBy c v'.ownBlock) (hn : NewOr a v v') : a.grownBy c v.ownBlock :=
  ⟨h2.os.trans h.os, h2.tape.trans h.tape, h2.output.trans h.output, Nat.le_trans h.size h2.size, fun i hi hr => (h2.block i (Nat.lt_of_lt_of_le hi h.size) (fun e => hn.ne hi (fun e2 => hr e2.symm) e.symm)).trans (h.block i hi hr)⟩
def PathRet (w : World) (B : Nat) (lv : Value) (l : List ByteArray) (e : Ending) (w' : World) : Prop := ∃ v', e = .returned v' ∧ SRow w' B v' l ∧ w.grownBy w' lv.ownBlock ∧ NewOr w lv v'
set_option maxHeartbeats 16000000 in
theorem pathsFrom_all (w00 : World) (hE : EnvP w00) (B : Nat) (hB0 : w00.heap.size ≤ B) : ∀ (N : Nat) (t : V) (d : Int) (st : List ByteArray), t.nodes ≤ N → N ≤ 300 → rightB t d = true → t.sz ≤ 1048576 → st.length + N ≤ 1000 → (∀ s ∈ st, s.size ≤ 1048576) → ∀ (sl vs lv : Value) (acc : List ByteArray) (w : World), RepS w00 sl t.kids → Below w00.heap.size w00 w → StepR w vs st lv.ownBlock → SRow w B lv acc → B ≤ w.heap.size → acc.length + N * 1000 ≤ 1000000 → Calls Tryd.prog 61 #[t.agg sl, vs, lv] w (PathRet w B lv (acc ++ psV t st)) := by
  intro N
  induction N with
  | zero => intro t d st h; rw [V.nodes_eq] at h; omega
  | succ N ih =>
  intro t d st hN hN3 hr htz hst hss sl vs lv acc w h0 hw hv hrow hBw hacc
  obtain ⟨a, b, off, cap, rfl, ha, hc, hm, sls, hel⟩ := h0.toF.opened
  obtain ⟨sa, sb, so, sc, rfl, hsa, hsc, hsm, hsx⟩ := id hv
  obtain ⟨la0, ln0, lc0, rfl⟩ := hrow.slice3
  have hlen : t.kids.length ≤ 300 := by have := nodess_length t.kids; rw [V.nodes_eq] at hN; omega
  have hkz : szs t.kids ≤ 1048576 := by have := V.sz_eq t; omega
  have HA := Lib.hid ha; have HEL := Lib.hid hel; have HV := Lib.hid hv; have HROW := Lib.hid hrow; have HWW := Lib.hid hw
  have hslen : st.length ≤ 1000 := by omega
  have IH := Lib.hid (fun (j : Nat) (hj : j < t.kids.length) (step : ByteArray) (hstep : step.size ≤ 1048576) (s1 v1 l1 : Value) (ac : List ByteArray) (W : World) (hR : RepS w00 s1 (t.kids[j]'hj).kids) (hW : Below w00.heap.size w00 W) (hV : StepR W v1 (st ++ [step]) l1.ownBlock) (hL : SRow W B l1 ac) (hBW : B ≤ W.heap.size) (hac : ac.length + N * 1000 ≤ 1000000) => ih (t.kids[j]'hj) (d - 1) (st ++ [step]) (by have h3 := nodes_mem (List.getElem_mem hj); rw [V.nodes_eq] at hN; omega) (by omega) (rightsB_at (right_kids hr) j hj) (by have := szs_mem (List.getElem_mem hj); omega) (by rw [List.length_append, List.length_singleton]; omega) (fun s hs => by
    rcases List.mem_append.1 hs with h | h
    · exact hss s h
    · rw [List.mem_singleton] at h; rw [h]; exact hstep) s1 v1 l1 ac W hR hW hV hL hBW hac)
  have PPT := Lib.hid (fun (W : World) (hW : Below w.heap.size w W) => PutPath_impl w (hE.keep hw) _ st hv.rep W hW)
  have KIND := Lib.hid (fun j hj => kind_kids hr j hj)
  have ACS := Lib.hid (fun (j : Nat) (hj : j < t.kids.length) => accP_step t st j hj)
  have ACL := Lib.hid (fun (j : Nat) (hj : j ≤ t.kids.length) => Nat.le_trans (acc_len t st j hj) hN)
  have ACA := Lib.hid (accP_all t st)
  have KG := Lib.hid (fun (j : Nat) (h : skipP t.k t.kids j = false) (hj : j < t.kids.length) => kidP_go (st := st) h hj)
  have KS := Lib.hid (fun (j : Nat) (h : skipP t.k t.kids j = true) => kidP_skip (st := st) h)
  have SPZ := Lib.hid (fun (j : Nat) (hj : j < t.kids.length) => stepP_sz t.k t.kids j hkz (by omega))
  have SK8 := Lib.hid (fun (j : Nat) (h8 : t.k = 8) (hj : j < t.kids.length) (h2 : ¬ j % 2 = 0) => skip_odd (all := t.kids) (i := j) h8 h2 (by omega))
  have ST8 := Lib.hid (fun (j : Nat) (h8 : t.k = 8) (hj : j < t.kids.length) => stepP_8 (all := t.kids) (i := j) h8 (by omega))
  have PTZ := Lib.hid (show (txtB (putL st)).size ≤ 9223372036854775807 from by
    show (putL st).toArray.size ≤ _
    rw [List.size_toArray]; have := putL_len st; omega)
  have AC0 := Lib.hid (accP_zero t st)
  have BX := Lib.hid (Box.new w t.k t.n t.e t.s (.slice a t.kids.length cap) 29)
  have HB0 := Lib.hid (show Below w.heap.size w (w.alloc (.cells #[.int .i64 t.k, .int .i64 t.n, .int .i64 t.e, .string t.s, .slice a t.kids.length cap] 29)) from (Below.refl _ _).alloc (Nat.le_refl _) _)
  have HEE := Lib.hid hE
  clear ha hel h0 ih hr hN hc hm htz hv hsa hsx hss hrow hw hE
  obtain ⟨R, hRR⟩ : ∃ R, R = psV t st := ⟨_, rfl⟩
  rw [← hRR] at ACA ⊢
  clear hRR
  unfold V.agg
  go_enter Tryd.func61, Tryd.ntmps61
  go_wp2_with fail
  refine (PPT.out _ HB0.out).mono ?_
  rintro e1 w1 ⟨rfl, hb1⟩
  have BX1 := Lib.hid (BX.out.stay hb1)
  have HB1 := Lib.hid (HB0.out.trans (hb1.mono HB0.out.size))
  have hz1 : w.heap.size + 1 ≤ w1.heap.size := by have := hb1.size; simp at this; omega
  clear hb1 PPT BX
  have HBL := Lib.hid (show Below w1.heap.size w1 (w1.alloc (.cells #[.string (txtB (putL st))] 9)) from (Below.refl _ _).alloc (Nat.le_refl _) _)
  have S1 := Lib.hid (src_str1 w1 (txtB (putL st)))
  have HR1 := Lib.hid (HROW.out.stay2 ((HB1.out).trans (HBL.out.mono HB1.out.size)))
  have hBw1 : B ≤ w1.heap.size := by omega
  have hacl : acc.length ≤ 1000000 := by omega
  go_wp2_with (at_builtin; refine app_strs rfl _ _ _ rfl B _ acc rfl HR1.out _ rfl [txtB (putL st)] S1.out (fun x hx => by rw [List.mem_singleton] at hx; rw [hx]; exact PTZ.out) (by simp; omega) (by simp; omega) ?_; intro v2 w2 hrow2 hg2 hfr2; obtain ⟨la1, ln1, lc1, rfl⟩ := hrow2.slice3; have HR2 := Lib.hid (show SRow w2 B (.slice la1 ln1 lc1) (acc ++ accP t st 0) from by rw [AC0.out]; exact hrow2); have HG2 := Lib.hid (grownBy_trans (grownBy_below (HB1.out.trans (HBL.out.mono HB1.out.size))) hg2); have HN2 := Lib.hid (NewOr.ofFresh (w := w.alloc (.cells #[.int .i64 t.k, .int .i64 t.n, .int .i64 t.e, .string t.s, .slice a t.kids.length cap] 29)) hfr2 (by simp; omega)); have BX2 := Lib.hid (show Box w2 w.heap.size t.k t.n t.e t.s (.slice a t.kids.length cap) 29 from (hg2.block w.heap.size (by simp; omega) (fun e => by have h := (HROW.out.lt _ e.symm).2; omega)).trans (BX1.out.stay HBL.out)); clear hrow2 hg2 hfr2; obtain ⟨x0, x1, x2, x3, x4⟩ := BX2.out.cells)
  obtain ⟨wA, hwA⟩ : ∃ wA, wA = w.alloc (.cells #[.int .i64 t.k, .int .i64 t.n, .int .i64 t.e, .string t.s, .slice a t.kids.length cap] 29) := ⟨_, rfl⟩
  have hzA : wA.heap.size = w.heap.size + 1 := by rw [hwA]; simp
  rw [← hwA] at HN2
  clear hwA
  go_loopw [2, 18] (fun o ii wr => ∃ (j : Nat) (la : Option Addr) (ln lc : Nat), o = .slice la ln lc ∧ ii = .int .i64 j ∧ j ≤ t.kids.length ∧ Hid (SRow wr B (.slice la ln lc) (acc ++ accP t st j)) ∧ Hid (w.grownBy wr (Value.slice la0 ln0 lc0).ownBlock) ∧ Hid (NewOr wA (.slice la0 ln0 lc0) (.slice la ln lc)) ∧ Hid (Box wr w.heap.size t.k t.n t.e t.s (.slice a t.kids.length cap) 29)) (fun _ ii _ => t.kids.length - (intOf ii).toNat)
  case atStart => exact ⟨0, _, _, _, rfl, rfl, by omega, HR2, HG2, HN2, BX2⟩
  case round =>
    clear HR2 HG2 HN2 BX2 x0 x1 x2 x3 x4
    obtain ⟨j, la, ln, lc, rfl, rfl, hj, HO, HGW, HNL, HX⟩ := hrel
    have HW := Lib.hid (HWW.out.grown HGW.out HWW.out.size (fun k hk => Nat.le_trans hB0 (HROW.out.lt k hk).1))
    have hzg := HGW.out.size
    have HXN := Lib.hid (show (Value.slice la ln lc).ownBlock ≠ some w.heap.size from fun e => by
      rcases HNL.out with h | ⟨k, h, h2⟩
      · rw [h] at e; have := (HROW.out.lt _ e).2; omega
      · rw [h] at e; injection e with e; omega)
    by_cases hlt : j < t.kids.length
    · have hne : t.kids ≠ [] := by intro e; rw [e] at hlt; simp at hlt
      obtain ⟨rfl, hbw, -⟩ := HA.out hne
      have hj300 : j ≤ 300 := by omega
      have hk5 := (HEL.out j hlt).1.keep (HW.out.block b hbw)
      obtain ⟨ka, kc, hks⟩ := (HEL.out j hlt).2.2.slice
      have hkr := (HEL.out j hlt).2.2.rep
      rw [hks] at hk5 hkr
      have HKR := Lib.hid hkr
      have DT := Lib.hid (fun (W : World) (hW : Below w00.heap.size w00 W) => DecText_impl j (by omega) W (HEE.out.keep hW))
      have ACS1 := Lib.hid (ACS.out j hlt)
      have hapl : (accP t st j).length ≤ 301 := Nat.le_trans (ACL.out j hj) (by omega)
      have SPJ := SPZ.out j hlt
      have IHJ := Lib.hid (fun (step : ByteArray) (hstep : step.size ≤ 1048576) (v1 l1 : Value) (ac : List ByteArray) (W : World) (hW : Below w00.heap.size w00 W) (hV : StepR W v1 (st ++ [step]) l1.ownBlock) (hL : SRow W B l1 ac) (hBW : B ≤ W.heap.size) (hac : ac.length + N * 1000 ≤ 1000000) => IH.out j hlt step hstep (.slice ka (t.kids[j]'hlt).kids.length kc) v1 l1 ac W HKR.out hW hV hL hBW hac)
      have KGJ := Lib.hid (fun (h : skipP t.k t.kids j = false) => KG.out j h hlt)
      have KSJ := Lib.hid (fun (h : skipP t.k t.kids j = true) => KS.out j h)
      have hkind := KIND.out j hlt
      have SK8J := Lib.hid (fun (h8 : t.k = 8) (h2 : ¬ j % 2 = 0) => SK8.out j h8 hlt h2)
      have ST8J := Lib.hid (fun (h8 : t.k = 8) => ST8.out j h8 hlt)
      have HEP := Lib.hid (fun (h2 : ¬ j % 2 = 0) => show Cells5 wr b (off + (j - 1) * 5) (t.kids[j - 1]'(by omega)) (sls (j - 1)) from (HEL.out (j - 1) (by omega)).1.keep (HW.out.block b hbw))
      clear hks hkr IH HEL KG KS KIND SK8 ST8 ACS ACL SPZ
      generalize hkid : t.kids[j] = kid at *
      clear hkid
      obtain ⟨x0, x1, x2, x3, x4⟩ := HX.out.cells
      obtain ⟨c0, c1, c2, c3, c4⟩ := hk5
      have hwlt : w.heap.size < wr.heap.size := HX.out.lt
      have hwne : w.heap.size ≠ wr.heap.size := by omega
      have hwne2 : wr.heap.size ≠ w.heap.size := by omega
      have HKA := Lib.hid (show Below wr.heap.size wr (wr.alloc (.cells #[.int .i64 kid.k, .int .i64 kid.n, .int .i64 kid.e, .string kid.s, .slice ka kid.kids.length kc] 29)) from (Below.refl _ _).alloc (Nat.le_refl _) _)
      have HKX := Lib.hid (Box.new wr kid.k kid.n kid.e kid.s (.slice ka kid.kids.length kc) 29)
      have hblt : b < wr.heap.size := Nat.lt_of_lt_of_le hbw HW.out.size
      rcases hkind with h7 | h8 | h9
      · have t9 : (t.k == 9) = false := by simp; omega
        have t8 : (t.k == 8) = false := by simp; omega
        have t7 : (t.k == 7) = true := by simp [h7]
        have HSK := Lib.hid (skip_not8 (k := t.k) (all := t.kids) (i := j) (by omega))
        have HST := Lib.hid (stepP_7 (k := t.k) (all := t.kids) (i := j) h7)
        rw [HST.out] at SPJ
        clear h7
        go_wp2_with fail
        refine (DT.out _ (HW.out.trans (HKA.out.mono HW.out.size))).mono ?_
        rintro e2 wq ⟨rfl, hb2⟩
        have HBQ := Lib.hid (HKA.out.trans (hb2.mono HKA.out.size))
        have HKB := Lib.hid (HKX.out.stay hb2)
        clear hb2
        have hzq := HBQ.out.size
        have HW0 := Lib.hid (HW.out.trans (HBQ.out.mono HW.out.size))
        have HGQ := Lib.hid (grownBy_trans HGW.out (grownBy_below HBQ.out))
        have hzAq : wA.heap.size ≤ wq.heap.size := by omega
        have HVW := Lib.hid (show StepR wq _ st (Value.slice la ln lc).ownBlock from HV.out.keep HGQ.out.size (fun x hx hn => HGQ.out.block x hx (fun e => hn e.symm)) (fun x hx hn => HNL.out.ne (by omega) hn))
        have HKN := Lib.hid (show (Value.slice la ln lc).ownBlock ≠ some wr.heap.size from fun e => by have := (HO.out.lt _ e).2; omega)
        have HXW := HX; clear HX
        have HX := Lib.hid (show Box wq w.heap.size t.k t.n t.e t.s (.slice (some ⟨b, off, none⟩) t.kids.length cap) 29 from (HBQ.out.block w.heap.size hwlt).trans HXW.out)
        have HOW := HO; clear HO
        have HO := Lib.hid (HOW.out.stay2 HBQ.out)
        have hBq : B ≤ wq.heap.size := by omega
        clear x0 x1 x2 x3 x4 c0 c1 c2 c3 c4 hwlt hwne hwne2
        go_upto_region 12 with fail
        have TCB := Lib.hid (show ∀ W' : World, W'.heap[wr.heap.size]? = wq.heap[wr.heap.size]? → W'.cell? ⟨wr.heap.size, 0, none⟩ = some (.int .i64 kid.k) ∧ W'.cell? ⟨wr.heap.size, 1, none⟩ = some (.int .i64 kid.n) ∧ W'.cell? ⟨wr.heap.size, 2, none⟩ = some (.int .i64 kid.e) ∧ W'.cell? ⟨wr.heap.size, 3, none⟩ = some (.string kid.s) ∧ W'.cell? ⟨wr.heap.size, 4, none⟩ = some (.slice ka kid.kids.length kc) from fun W' h => Box.cells (show Box W' wr.heap.size kid.k kid.n kid.e kid.s (.slice ka kid.kids.length kc) 29 from h.trans HKB.out))
        have TC := Lib.hid (fun (W' : World) (h : Below wq.heap.size wq W') => TCB.out W' (h.block wr.heap.size HKB.out.lt))
        have HB9 := Lib.hid (show Below wq.heap.size wq wq.drew from (Below.refl _ _).drew)
        refine wp_region_held_drew (S := fun W' => W'.cell? ⟨wr.heap.size, 0, none⟩ = some (.int .i64 kid.k) ∧ W'.cell? ⟨wr.heap.size, 1, none⟩ = some (.int .i64 kid.n) ∧ W'.cell? ⟨wr.heap.size, 2, none⟩ = some (.int .i64 kid.e) ∧ W'.cell? ⟨wr.heap.size, 3, none⟩ = some (.string kid.s) ∧ W'.cell? ⟨wr.heap.size, 4, none⟩ = some (.slice ka kid.kids.length kc)) (by kernel_rfl) (TC.out _ HB9.out) (fun hHeld => ?_)
        refine wpAnyH_take (i := 0) (v := ?_) rfl (by kernel_rfl) (by kernel_rfl) (by kernel_rfl) (fun _ _ _ h => h) (Or.inl ⟨by rfl, ?_⟩) hHeld ?_
        rotate_left
        · (intro w hSw; (try dsimp only at hSw); (try simp only [List.getElem_toArray, List.getElem_cons_succ, List.getElem_cons_zero]); go_simp <;> with_reducible rfl)
        try simp only [List.getElem_toArray, List.getElem_cons_succ, List.getElem_cons_zero, Act.put, List.setIfInBounds_toArray, List.set_cons_zero, List.set_cons_succ]
        refine wpAnyH_take (i := 1) (v := ?_) rfl (by kernel_rfl) (by kernel_rfl) (by kernel_rfl) (fun _ _ _ h => h) (Or.inl ⟨by rfl, ?_⟩) hHeld ?_
        rotate_left
        · (intro w hSw; (try dsimp only at hSw); (try simp only [List.getElem_toArray, List.getElem_cons_succ, List.getElem_cons_zero]); go_simp <;> with_reducible rfl)
        try simp only [List.getElem_toArray, List.getElem_cons_succ, List.getElem_cons_zero, Act.put, List.setIfInBounds_toArray, List.set_cons_zero, List.set_cons_succ]
        refine wpAnyH_take (i := 3) (v := ?_) rfl (by kernel_rfl) (by kernel_rfl) (by kernel_rfl) (fun _ _ _ h => h) (Or.inl ⟨by rfl, ?_⟩) hHeld ?_
        rotate_left
        · (intro w hSw; (try dsimp only at hSw); (try simp only [List.getElem_toArray, List.getElem_cons_succ, List.getElem_cons_zero]); go_simp <;> with_reducible rfl)
        try simp only [List.getElem_toArray, List.getElem_cons_succ, List.getElem_cons_zero, Act.put, List.setIfInBounds_toArray, List.set_cons_zero, List.set_cons_succ]
        refine wpAnyH_take (i := 6) (v := ?_) rfl (by kernel_rfl) (by kernel_rfl) (by kernel_rfl) (fun _ _ _ h => h) (Or.inl ⟨by rfl, ?_⟩) hHeld ?_
        rotate_left
        · (intro w hSw; (try dsimp only at hSw); (try simp only [List.getElem_toArray, List.getElem_cons_succ, List.getElem_cons_zero]); go_simp <;> with_reducible rfl)
        try simp only [List.getElem_toArray, List.getElem_cons_succ, List.getElem_cons_zero, Act.put, List.setIfInBounds_toArray, List.set_cons_zero, List.set_cons_succ]
        refine wpAnyH_ready (rs := [2, 4]) (by kernel_rfl) (by simp) ?_
        refine AllReadyH.cons rfl (fun K hK => ?_) ?_
        · have CL21 := Lib.hid (clone_any wq.drew _ st (HVW.out.stay HB9.out).rep (by omega) wq.drew (Below.refl _ _))
          go_simp
          refine CL21.out.mono ?_
          rintro e21 w21 ⟨v21, rfl, hrow, hb21⟩
          obtain ⟨va21, vn21, vc21, rfl⟩ := hrow.slice3
          have HP21 := Lib.hid (hrow.lower (show wq.heap.size ≤ _ from HB9.out.size))
          have HB21 := Lib.hid (HB9.out.trans (hb21.mono HB9.out.size))
          clear hrow hb21 CL21
          refine hK.out _ _ ?_ (fun hHeld => ?_)
          · exact TC.out _ HB21.out
          clear hK K
          try simp only [List.getElem_toArray, List.getElem_cons_succ, List.getElem_cons_zero, Act.put, List.setIfInBounds_toArray, List.set_cons_zero, List.set_cons_succ]
          refine wpAnyH_ready (rs := [4]) (by kernel_rfl) (by simp) ?_
          refine AllReadyH.cons rfl (fun K hK => ?_) ?_
          · have HB22 := Lib.hid (show Below wq.heap.size wq (w21.alloc (.cells #[.string (decB j)] 9)) from HB21.out.alloc HB21.out.size _)
            have HP22 := Lib.hid (HP21.out.stay2 (show Below w21.heap.size w21 (w21.alloc (.cells #[.string (decB j)] 9)) from (Below.refl _ _).alloc (Nat.le_refl _) _))
            have HH22 := Lib.hid (show (w21.alloc (.cells #[.string (decB j)] 9)).heap[w21.heap.size]? = some (.cells #[.string (decB j)] 9 (0, 0)) from by have h := heap_alloc_new w21 (.cells #[.string (decB j)] 9); simpa using h)
            go_simp
            refine hK.out _ _ ?_ (fun hHeld => ?_)
            · exact TC.out _ HB22.out
            clear hK K
            try simp only [List.getElem_toArray, List.getElem_cons_succ, List.getElem_cons_zero, Act.put, List.setIfInBounds_toArray, List.set_cons_zero, List.set_cons_succ]
            refine wpAnyH_ready (rs := [5]) (by kernel_rfl) (by simp) ?_
            refine AllReadyH.cons rfl (fun K hK => ?_) ?_
            · have HS23 := Lib.hid (src_str_at (w := (w21.alloc (.cells #[.string (decB j)] 9))) (b := w21.heap.size) (decB j) HH22.out)
              have hzc := HB22.out.size
              refine step_strs rfl _ _ _ rfl wq.heap.size _ st rfl HP22.out _ rfl [decB j] HS23.out (fun x hx => by rw [List.mem_singleton] at hx; rw [hx]; omega) (by simp; omega) hzc ?_
              intro v23 w23 hrow hg hfr
              obtain ⟨va23, vn23, vc23, rfl⟩ := hrow.slice3
              have HB23 := Lib.hid (HB22.out.grown hg hzc (fun x hx => (HP22.out.lt x hx).1))
              have HP23 := Lib.hid hrow
              clear hrow hg hfr hzc
              refine hK.out _ _ ?_ (fun hHeld => ?_)
              · exact TC.out _ HB23.out
              clear hK K
              try simp only [List.getElem_toArray, List.getElem_cons_succ, List.getElem_cons_zero, Act.put, List.setIfInBounds_toArray, List.set_cons_zero, List.set_cons_succ]
              refine wpAnyH_ready (rs := [7]) (by kernel_rfl) (by simp) ?_
              refine AllReadyH.cons rfl (fun K hK => ?_) ?_
              · have CL24 := Lib.hid (IHJ.out (decB j) SPJ _ (.slice la ln lc) (acc ++ accP t st j) w23 (HW0.out.trans (HB23.out.mono HW0.out.size)) (StepR.ofRow HP23.out (fun x hx e => by have := (HO.out.lt _ e).2; omega)) (HO.out.stay2 HB23.out) (Nat.le_trans hBq HB23.out.size) (by rw [List.length_append]; omega))
                unfold V.agg at CL24
                go_simp
                refine CL24.out.mono ?_
                rintro e24 w24 ⟨v24, rfl, hrow, hg, hn⟩
                obtain ⟨va24, vn24, vc24, rfl⟩ := hrow.slice3
                have HQ24 := Lib.hid hrow
                have HG24 := Lib.hid (grownBy_sub (HGQ.out) (grownBy_trans (grownBy_below HB23.out) hg) (HNL.out.mono (by omega)))
                have HN24 := Lib.hid (HNL.out.trans hn (Nat.le_trans hzAq HB23.out.size))
                have HKK := Lib.hid ((hg.block wr.heap.size (Nat.lt_of_lt_of_le HKB.out.lt HB23.out.size) (fun e => by have h := HO.out.lt _ e.symm; exact HKN.out e.symm)).trans (HB23.out.block wr.heap.size HKB.out.lt))
                have HBXN := Lib.hid ((hg.block w.heap.size (Nat.lt_of_lt_of_le HX.out.lt HB23.out.size) (fun e => HXN.out e.symm)).trans (HB23.out.block w.heap.size HX.out.lt))
                have hzf := Nat.le_trans HB23.out.size hg.size
                clear hrow hg hn CL24
                refine hK.out _ _ ?_ (fun hHeld => ?_)
                · exact TCB.out _ HKK.out
                clear hK K
                try simp only [List.getElem_toArray, List.getElem_cons_succ, List.getElem_cons_zero, Act.put, List.setIfInBounds_toArray, List.set_cons_zero, List.set_cons_succ]
                refine wpAnyH_take (i := 8) (v := ?_) rfl (by kernel_rfl) (by kernel_rfl) (by kernel_rfl) (fun _ _ _ h => h) (Or.inl ⟨by rfl, ?_⟩) hHeld ?_
                rotate_left
                · (intro w hSw; (try dsimp only at hSw); (try simp only [List.getElem_toArray, List.getElem_cons_succ, List.getElem_cons_zero]); go_simp <;> with_reducible rfl)
                try simp only [List.getElem_toArray, List.getElem_cons_succ, List.getElem_cons_zero, Act.put, List.setIfInBounds_toArray, List.set_cons_zero, List.set_cons_succ]
                refine wpAnyH_done (by kernel_rfl) ?_ _
                have HKF := Lib.hid (KGJ.out HSK.out)
                rw [HST.out] at HKF
                have FIN := Lib.hid (show SRow w24 B (.slice va24 vn24 vc24) (acc ++ accP t st (j + 1)) from by rw [ACS1.out, HKF.out, ← List.append_assoc]; exact HQ24.out)
                have FINX := Lib.hid (show Box w24 w.heap.size t.k t.n t.e t.s (.slice (some ⟨b, off, none⟩) t.kids.length cap) 29 from HBXN.out.trans HX.out)
                go_wp2_with fail
                go_roundw
                case rel => exact ⟨j + 1, _, _, _, rfl, by go_num, by omega, FIN, HG24, HN24, FINX⟩
                case measure => simp [intOf]; omega
              exact AllReadyH.nil
            exact AllReadyH.nil
          exact AllReadyH.nil
        refine AllReadyH.cons rfl (fun K hK => ?_) ?_
        · have HB25 := Lib.hid (show Below wq.heap.size wq (wq.drew.alloc (.cells #[.string (decB j)] 9)) from HB9.out.alloc HB9.out.size _)
          have HH25 := Lib.hid (show (wq.drew.alloc (.cells #[.string (decB j)] 9)).heap[wq.heap.size]? = some (.cells #[.string (decB j)] 9 (0, 0)) from by have h := heap_alloc_new wq.drew (.cells #[.string (decB j)] 9); simpa using h)
          go_simp
          refine hK.out _ _ ?_ (fun hHeld => ?_)
          · exact TC.out _ HB25.out
          clear hK K
          try simp only [List.getElem_toArray, List.getElem_cons_succ, List.getElem_cons_zero, Act.put, List.setIfInBounds_toArray, List.set_cons_zero, List.set_cons_succ]
          refine wpAnyH_ready (rs := [2]) (by kernel_rfl) (by simp) ?_
          refine AllReadyH.cons rfl (fun K hK => ?_) ?_
          · have CL26 := Lib.hid (clone_any (wq.drew.alloc (.cells #[.string (decB j)] 9)) _ st (HVW.out.stay HB25.out).rep (by omega) (wq.drew.alloc (.cells #[.string (decB j)] 9)) (Below.refl _ _))
            go_simp
            refine CL26.out.mono ?_
            rintro e26 w26 ⟨v26, rfl, hrow, hb26⟩
            obtain ⟨va26, vn26, vc26, rfl⟩ := hrow.slice3
            have HP26 := Lib.hid (hrow.lower (show wq.heap.size ≤ _ from HB25.out.size))
            have HB26 := Lib.hid (HB25.out.trans (hb26.mono HB25.out.size))
            have HH26 := Lib.hid ((hb26.block (wq.heap.size) (lt_of_heap HH25.out)).trans HH25.out)
            clear hrow hb26 CL26
            refine hK.out _ _ ?_ (fun hHeld => ?_)
            · exact TC.out _ HB26.out
            clear hK K
            try simp only [List.getElem_toArray, List.getElem_cons_succ, List.getElem_cons_zero, Act.put, List.setIfInBounds_toArray, List.set_cons_zero, List.set_cons_succ]
            refine wpAnyH_ready (rs := [5]) (by kernel_rfl) (by simp) ?_
            refine AllReadyH.cons rfl (fun K hK => ?_) ?_
            · have HS27 := Lib.hid (src_str_at (w := w26) (b := wq.heap.size) (decB j) HH26.out)
              have hzc := HB26.out.size
              refine step_strs rfl _ _ _ rfl wq.heap.size _ st rfl HP26.out _ rfl [decB j] HS27.out (fun x hx => by rw [List.mem_singleton] at hx; rw [hx]; omega) (by simp; omega) hzc ?_
              intro v27 w27 hrow hg hfr
              obtain ⟨va27, vn27, vc27, rfl⟩ := hrow.slice3
              have HB27 := Lib.hid (HB26.out.grown hg hzc (fun x hx => (HP26.out.lt x hx).1))
              have HP27 := Lib.hid hrow
              clear hrow hg hfr hzc
              refine hK.out _ _ ?_ (fun hHeld => ?_)
              · exact TC.out _ HB27.out
              clear hK K
              try simp only [List.getElem_toArray, List.getElem_cons_succ, List.getElem_cons_zero, Act.put, List.setIfInBounds_toArray, List.set_cons_zero, List.set_cons_succ]
              refine wpAnyH_ready (rs := [7]) (by kernel_rfl) (by simp) ?_
              refine AllReadyH.cons rfl (fun K hK => ?_) ?_
              · have CL28 := Lib.hid (IHJ.out (decB j) SPJ _ (.slice la ln lc) (acc ++ accP t st j) w27 (HW0.out.trans (HB27.out.mono HW0.out.size)) (StepR.ofRow HP27.out (fun x hx e => by have := (HO.out.lt _ e).2; omega)) (HO.out.stay2 HB27.out) (Nat.le_trans hBq HB27.out.size) (by rw [List.length_append]; omega))
                unfold V.agg at CL28
                go_simp
                refine CL28.out.mono ?_
                rintro e28 w28 ⟨v28, rfl, hrow, hg, hn⟩
                obtain ⟨va28, vn28, vc28, rfl⟩ := hrow.slice3
                have HQ28 := Lib.hid hrow
                have HG28 := Lib.hid (grownBy_sub (HGQ.out) (grownBy_trans (grownBy_below HB27.out) hg) (HNL.out.mono (by omega)))
                have HN28 := Lib.hid (HNL.out.trans hn (Nat.le_trans hzAq HB27.out.size))
                have HKK := Lib.hid ((hg.block wr.heap.size (Nat.lt_of_lt_of_le HKB.out.lt HB27.out.size) (fun e => by have h := HO.out.lt _ e.symm; exact HKN.out e.symm)).trans (HB27.out.block wr.heap.size HKB.out.lt))
                have HBXN := Lib.hid ((hg.block w.heap.size (Nat.lt_of_lt_of_le HX.out.lt HB27.out.size) (fun e => HXN.out e.symm)).trans (HB27.out.block w.heap.size HX.out.lt))
                have hzf := Nat.le_trans HB27.out.size hg.size
                clear hrow hg hn CL28
                refine hK.out _ _ ?_ (fun hHeld => ?_)
                · exact TCB.out _ HKK.out
                clear hK K
                try simp only [List.getElem_toArray, List.getElem_cons_succ, List.getElem_cons_zero, Act.put, List.setIfInBounds_toArray, List.set_cons_zero, List.set_cons_succ]
                refine wpAnyH_take (i := 8) (v := ?_) rfl (by kernel_rfl) (by kernel_rfl) (by kernel_rfl) (fun _ _ _ h => h) (Or.inl ⟨by rfl, ?_⟩) hHeld ?_
                rotate_left
                · (intro w hSw; (try dsimp only at hSw); (try simp only [List.getElem_toArray, List.getElem_cons_succ, List.getElem_cons_zero]); go_simp <;> with_reducible rfl)
                try simp only [List.getElem_toArray, List.getElem_cons_succ, List.getElem_cons_zero, Act.put, List.setIfInBounds_toArray, List.set_cons_zero, List.set_cons_succ]
                refine wpAnyH_done (by kernel_rfl) ?_ _
                have HKF := Lib.hid (KGJ.out HSK.out)
                rw [HST.out] at HKF
                have FIN := Lib.hid (show SRow w28 B (.slice va28 vn28 vc28) (acc ++ accP t st (j + 1)) from by rw [ACS1.out, HKF.out, ← List.append_assoc]; exact HQ28.out)
                have FINX := Lib.hid (show Box w28 w.heap.size t.k t.n t.e t.s (.slice (some ⟨b, off, none⟩) t.kids.length cap) 29 from HBXN.out.trans HX.out)
                go_wp2_with fail
                go_roundw
                case rel => exact ⟨j + 1, _, _, _, rfl, by go_num, by omega, FIN, HG28, HN28, FINX⟩
                case measure => simp [intOf]; omega
              exact AllReadyH.nil
            exact AllReadyH.nil
          exact AllReadyH.nil
        exact AllReadyH.nil
      · have t9 : (t.k == 9) = false := by simp; omega
        have t8 : (t.k == 8) = true := by simp [h8]
        have t7 : (t.k == 7) = false := by simp; omega
        by_cases h2 : j % 2 = 0
        · have HKS := Lib.hid (KSJ.out (skip_even h8 h2))
          have te : ((j : Int) % 2 == 0) = true := by simp; omega
          clear h8
          have HOS := Lib.hid (show SRow (wr.alloc (.cells #[.int .i64 kid.k, .int .i64 kid.n, .int .i64 kid.e, .string kid.s, .slice ka kid.kids.length kc] 29)) B (.slice la ln lc) (acc ++ accP t st (j + 1)) from by rw [ACS1.out, HKS.out, List.append_nil]; exact HO.out.stay2 HKA.out)
          have HGS := Lib.hid (grownBy_trans HGW.out (grownBy_below HKA.out))
          have HXS := Lib.hid (HX.out.stay HKA.out)
          clear HO HGW HX
          go_wp2_with fail
          go_roundw
          case rel => exact ⟨j + 1, _, _, _, rfl, by go_num, by omega, HOS, HGS, HNL, HXS⟩
          case measure => simp [intOf]; omega
        · have te : ((j : Int) % 2 == 0) = false := by simp; omega
          have hj1 : 1 ≤ j := by omega
          obtain ⟨d0, -, -, d3, -⟩ := HEP.out h2
          have HSKW := Lib.hid (SK8J.out h8 h2)
          have HST := Lib.hid (ST8J.out h8)
          clear h8
          rw [HST.out] at SPJ
          clear SK8J ST8J HEP
          generalize t.kids[j - 1] = pr at *
          by_cases hk5 : pr.k = 5
          · have HSK := Lib.hid (show skipP t.k t.kids j = false from by rw [HSKW.out]; simp [hk5])
            have tk : (pr.k != 5) = false := by simp [hk5]
            clear HSKW hk5
            generalize hst : pr.s = stp at *
            clear hst
            go_upto_region 12 with fail
            obtain ⟨wq, hwq⟩ : ∃ W : World, W = wr.alloc (.cells #[.int .i64 kid.k, .int .i64 kid.n, .int .i64 kid.e, .string kid.s, .slice ka kid.kids.length kc] 29) := ⟨_, rfl⟩
            have HBQ := Lib.hid (show Below wr.heap.size wr wq from by rw [hwq]; exact HKA.out)
            have HKB := Lib.hid (show Box wq wr.heap.size kid.k kid.n kid.e kid.s (.slice ka kid.kids.length kc) 29 from by rw [hwq]; exact HKX.out)
            rw [← hwq]
            clear hwq
            have hzq := HBQ.out.size
            have HW0 := Lib.hid (HW.out.trans (HBQ.out.mono HW.out.size))
            have HGQ := Lib.hid (grownBy_trans HGW.out (grownBy_below HBQ.out))
            have hzAq : wA.heap.size ≤ wq.heap.size := by omega
            have HVW := Lib.hid (show StepR wq _ st (Value.slice la ln lc).ownBlock from HV.out.keep HGQ.out.size (fun x hx hn => HGQ.out.block x hx (fun e => hn e.symm)) (fun x hx hn => HNL.out.ne (by omega) hn))
            have HKN := Lib.hid (show (Value.slice la ln lc).ownBlock ≠ some wr.heap.size from fun e => by have := (HO.out.lt _ e).2; omega)
            have HXW := HX; clear HX
            have HX := Lib.hid (show Box wq w.heap.size t.k t.n t.e t.s (.slice (some ⟨b, off, none⟩) t.kids.length cap) 29 from (HBQ.out.block w.heap.size hwlt).trans HXW.out)
            have HOW := HO; clear HO
            have HO := Lib.hid (HOW.out.stay2 HBQ.out)
            have hBq : B ≤ wq.heap.size := by omega
            clear x0 x1 x2 x3 x4 c0 c1 c2 c3 c4 hwlt hwne hwne2
            go_upto_region 12 with fail
            have TCB := Lib.hid (show ∀ W' : World, W'.heap[wr.heap.size]? = wq.heap[wr.heap.size]? → W'.cell? ⟨wr.heap.size, 0, none⟩ = some (.int .i64 kid.k) ∧ W'.cell? ⟨wr.heap.size, 1, none⟩ = some (.int .i64 kid.n) ∧ W'.cell? ⟨wr.heap.size, 2, none⟩ = some (.int .i64 kid.e) ∧ W'.cell? ⟨wr.heap.size, 3, none⟩ = some (.string kid.s) ∧ W'.cell? ⟨wr.heap.size, 4, none⟩ = some (.slice ka kid.kids.length kc) from fun W' h => Box.cells (show Box W' wr.heap.size kid.k kid.n kid.e kid.s (.slice ka kid.kids.length kc) 29 from h.trans HKB.out))
            have TC := Lib.hid (fun (W' : World) (h : Below wq.heap.size wq W') => TCB.out W' (h.block wr.heap.size HKB.out.lt))
            have HB9 := Lib.hid (show Below wq.heap.size wq wq.drew from (Below.refl _ _).drew)
            refine wp_region_held_drew (S := fun W' => W'.cell? ⟨wr.heap.size, 0, none⟩ = some (.int .i64 kid.k) ∧ W'.cell? ⟨wr.heap.size, 1, none⟩ = some (.int .i64 kid.n) ∧ W'.cell? ⟨wr.heap.size, 2, none⟩ = some (.int .i64 kid.e) ∧ W'.cell? ⟨wr.heap.size, 3, none⟩ = some (.string kid.s) ∧ W'.cell? ⟨wr.heap.size, 4, none⟩ = some (.slice ka kid.kids.length kc)) (by kernel_rfl) (TC.out _ HB9.out) (fun hHeld => ?_)
            refine wpAnyH_take (i := 0) (v := ?_) rfl (by kernel_rfl) (by kernel_rfl) (by kernel_rfl) (fun _ _ _ h => h) (Or.inl ⟨by rfl, ?_⟩) hHeld ?_
            rotate_left
            · (intro w hSw; (try dsimp only at hSw); (try simp only [List.getElem_toArray, List.getElem_cons_succ, List.getElem_cons_zero]); go_simp <;> with_reducible rfl)
            try simp only [List.getElem_toArray, List.getElem_cons_succ, List.getElem_cons_zero, Act.put, List.setIfInBounds_toArray, List.set_cons_zero, List.set_cons_succ]
            refine wpAnyH_take (i := 1) (v := ?_) rfl (by kernel_rfl) (by kernel_rfl) (by kernel_rfl) (fun _ _ _ h => h) (Or.inl ⟨by rfl, ?_⟩) hHeld ?_
            rotate_left
            · (intro w hSw; (try dsimp only at hSw); (try simp only [List.getElem_toArray, List.getElem_cons_succ, List.getElem_cons_zero]); go_simp <;> with_reducible rfl)
            try simp only [List.getElem_toArray, List.getElem_cons_succ, List.getElem_cons_zero, Act.put, List.setIfInBounds_toArray, List.set_cons_zero, List.set_cons_succ]
            refine wpAnyH_take (i := 3) (v := ?_) rfl (by kernel_rfl) (by kernel_rfl) (by kernel_rfl) (fun _ _ _ h => h) (Or.inl ⟨by rfl, ?_⟩) hHeld ?_
            rotate_left
            · (intro w hSw; (try dsimp only at hSw); (try simp only [List.getElem_toArray, List.getElem_cons_succ, List.getElem_cons_zero]); go_simp <;> with_reducible rfl)
            try simp only [List.getElem_toArray, List.getElem_cons_succ, List.getElem_cons_zero, Act.put, List.setIfInBounds_toArray, List.set_cons_zero, List.set_cons_succ]
            refine wpAnyH_take (i := 6) (v := ?_) rfl (by kernel_rfl) (by kernel_rfl) (by kernel_rfl) (fun _ _ _ h => h) (Or.inl ⟨by rfl, ?_⟩) hHeld ?_
            rotate_left
            · (intro w hSw; (try dsimp only at hSw); (try simp only [List.getElem_toArray, List.getElem_cons_succ, List.getElem_cons_zero]); go_simp <;> with_reducible rfl)
            try simp only [List.getElem_toArray, List.getElem_cons_succ, List.getElem_cons_zero, Act.put, List.setIfInBounds_toArray, List.set_cons_zero, List.set_cons_succ]
            refine wpAnyH_ready (rs := [2, 4]) (by kernel_rfl) (by simp) ?_
            refine AllReadyH.cons rfl (fun K hK => ?_) ?_
            · have CL29 := Lib.hid (clone_any wq.drew _ st (HVW.out.stay HB9.out).rep (by omega) wq.drew (Below.refl _ _))
              go_simp
              refine CL29.out.mono ?_
              rintro e29 w29 ⟨v29, rfl, hrow, hb29⟩
              obtain ⟨va29, vn29, vc29, rfl⟩ := hrow.slice3
              have HP29 := Lib.hid (hrow.lower (show wq.heap.size ≤ _ from HB9.out.size))
              have HB29 := Lib.hid (HB9.out.trans (hb29.mono HB9.out.size))
              clear hrow hb29 CL29
              refine hK.out _ _ ?_ (fun hHeld => ?_)
              · exact TC.out _ HB29.out
              clear hK K
              try simp only [List.getElem_toArray, List.getElem_cons_succ, List.getElem_cons_zero, Act.put, List.setIfInBounds_toArray, List.set_cons_zero, List.set_cons_succ]
              refine wpAnyH_ready (rs := [4]) (by kernel_rfl) (by simp) ?_
              refine AllReadyH.cons rfl (fun K hK => ?_) ?_
              · have HB30 := Lib.hid (show Below wq.heap.size wq (w29.alloc (.cells #[.string (stp)] 9)) from HB29.out.alloc HB29.out.size _)
                have HP30 := Lib.hid (HP29.out.stay2 (show Below w29.heap.size w29 (w29.alloc (.cells #[.string (stp)] 9)) from (Below.refl _ _).alloc (Nat.le_refl _) _))
                have HH30 := Lib.hid (show (w29.alloc (.cells #[.string (stp)] 9)).heap[w29.heap.size]? = some (.cells #[.string (stp)] 9 (0, 0)) from by have h := heap_alloc_new w29 (.cells #[.string (stp)] 9); simpa using h)
                go_simp
                refine hK.out _ _ ?_ (fun hHeld => ?_)
                · exact TC.out _ HB30.out
                clear hK K
                try simp only [List.getElem_toArray, List.getElem_cons_succ, List.getElem_cons_zero, Act.put, List.setIfInBounds_toArray, List.set_cons_zero, List.set_cons_succ]
                refine wpAnyH_ready (rs := [5]) (by kernel_rfl) (by simp) ?_
                refine AllReadyH.cons rfl (fun K hK => ?_) ?_
                · have HS31 := Lib.hid (src_str_at (w := (w29.alloc (.cells #[.string (stp)] 9))) (b := w29.heap.size) (stp) HH30.out)
                  have hzc := HB30.out.size
                  refine step_strs rfl _ _ _ rfl wq.heap.size _ st rfl HP30.out _ rfl [stp] HS31.out (fun x hx => by rw [List.mem_singleton] at hx; rw [hx]; omega) (by simp; omega) hzc ?_
                  intro v31 w31 hrow hg hfr
                  obtain ⟨va31, vn31, vc31, rfl⟩ := hrow.slice3
                  have HB31 := Lib.hid (HB30.out.grown hg hzc (fun x hx => (HP30.out.lt x hx).1))
                  have HP31 := Lib.hid hrow
                  clear hrow hg hfr hzc
                  refine hK.out _ _ ?_ (fun hHeld => ?_)
                  · exact TC.out _ HB31.out
                  clear hK K
                  try simp only [List.getElem_toArray, List.getElem_cons_succ, List.getElem_cons_zero, Act.put, List.setIfInBounds_toArray, List.set_cons_zero, List.set_cons_succ]
                  refine wpAnyH_ready (rs := [7]) (by kernel_rfl) (by simp) ?_
                  refine AllReadyH.cons rfl (fun K hK => ?_) ?_
                  · have CL32 := Lib.hid (IHJ.out (stp) SPJ _ (.slice la ln lc) (acc ++ accP t st j) w31 (HW0.out.trans (HB31.out.mono HW0.out.size)) (StepR.ofRow HP31.out (fun x hx e => by have := (HO.out.lt _ e).2; omega)) (HO.out.stay2 HB31.out) (Nat.le_trans hBq HB31.out.size) (by rw [List.length_append]; omega))
                    unfold V.agg at CL32
                    go_simp
                    refine CL32.out.mono ?_
                    rintro e32 w32 ⟨v32, rfl, hrow, hg, hn⟩
                    obtain ⟨va32, vn32, vc32, rfl⟩ := hrow.slice3
                    have HQ32 := Lib.hid hrow
                    have HG32 := Lib.hid (grownBy_sub (HGQ.out) (grownBy_trans (grownBy_below HB31.out) hg) (HNL.out.mono (by omega)))
                    have HN32 := Lib.hid (HNL.out.trans hn (Nat.le_trans hzAq HB31.out.size))
                    have HKK := Lib.hid ((hg.block wr.heap.size (Nat.lt_of_lt_of_le HKB.out.lt HB31.out.size) (fun e => by have h := HO.out.lt _ e.symm; exact HKN.out e.symm)).trans (HB31.out.block wr.heap.size HKB.out.lt))
                    have HBXN := Lib.hid ((hg.block w.heap.size (Nat.lt_of_lt_of_le HX.out.lt HB31.out.size) (fun e => HXN.out e.symm)).trans (HB31.out.block w.heap.size HX.out.lt))
                    have hzf := Nat.le_trans HB31.out.size hg.size
                    clear hrow hg hn CL32
                    refine hK.out _ _ ?_ (fun hHeld => ?_)
                    · exact TCB.out _ HKK.out
                    clear hK K
                    try simp only [List.getElem_toArray, List.getElem_cons_succ, List.getElem_cons_zero, Act.put, List.setIfInBounds_toArray, List.set_cons_zero, List.set_cons_succ]
                    refine wpAnyH_take (i := 8) (v := ?_) rfl (by kernel_rfl) (by kernel_rfl) (by kernel_rfl) (fun _ _ _ h => h) (Or.inl ⟨by rfl, ?_⟩) hHeld ?_
                    rotate_left
                    · (intro w hSw; (try dsimp only at hSw); (try simp only [List.getElem_toArray, List.getElem_cons_succ, List.getElem_cons_zero]); go_simp <;> with_reducible rfl)
                    try simp only [List.getElem_toArray, List.getElem_cons_succ, List.getElem_cons_zero, Act.put, List.setIfInBounds_toArray, List.set_cons_zero, List.set_cons_succ]
                    refine wpAnyH_done (by kernel_rfl) ?_ _
                    have HKF := Lib.hid (KGJ.out HSK.out)
                    rw [HST.out] at HKF
                    have FIN := Lib.hid (show SRow w32 B (.slice va32 vn32 vc32) (acc ++ accP t st (j + 1)) from by rw [ACS1.out, HKF.out, ← List.append_assoc]; exact HQ32.out)
                    have FINX := Lib.hid (show Box w32 w.heap.size t.k t.n t.e t.s (.slice (some ⟨b, off, none⟩) t.kids.length cap) 29 from HBXN.out.trans HX.out)
                    go_wp2_with fail
                    go_roundw
                    case rel => exact ⟨j + 1, _, _, _, rfl, by go_num, by omega, FIN, HG32, HN32, FINX⟩
                    case measure => simp [intOf]; omega
                  exact AllReadyH.nil
                exact AllReadyH.nil
              exact AllReadyH.nil
            refine AllReadyH.cons rfl (fun K hK => ?_) ?_
            · have HB33 := Lib.hid (show Below wq.heap.size wq (wq.drew.alloc (.cells #[.string (stp)] 9)) from HB9.out.alloc HB9.out.size _)
              have HH33 := Lib.hid (show (wq.drew.alloc (.cells #[.string (stp)] 9)).heap[wq.heap.size]? = some (.cells #[.string (stp)] 9 (0, 0)) from by have h := heap_alloc_new wq.drew (.cells #[.string (stp)] 9); simpa using h)
              go_simp
              refine hK.out _ _ ?_ (fun hHeld => ?_)
              · exact TC.out _ HB33.out
              clear hK K
              try simp only [List.getElem_toArray, List.getElem_cons_succ, List.getElem_cons_zero, Act.put, List.setIfInBounds_toArray, List.set_cons_zero, List.set_cons_succ]
              refine wpAnyH_ready (rs := [2]) (by kernel_rfl) (by simp) ?_
              refine AllReadyH.cons rfl (fun K hK => ?_) ?_
              · have CL34 := Lib.hid (clone_any (wq.drew.alloc (.cells #[.string (stp)] 9)) _ st (HVW.out.stay HB33.out).rep (by omega) (wq.drew.alloc (.cells #[.string (stp)] 9)) (Below.refl _ _))
                go_simp
                refine CL34.out.mono ?_
                rintro e34 w34 ⟨v34, rfl, hrow, hb34⟩
                obtain ⟨va34, vn34, vc34, rfl⟩ := hrow.slice3
                have HP34 := Lib.hid (hrow.lower (show wq.heap.size ≤ _ from HB33.out.size))
                have HB34 := Lib.hid (HB33.out.trans (hb34.mono HB33.out.size))
                have HH34 := Lib.hid ((hb34.block (wq.heap.size) (lt_of_heap HH33.out)).trans HH33.out)
                clear hrow hb34 CL34
                refine hK.out _ _ ?_ (fun hHeld => ?_)
                · exact TC.out _ HB34.out
                clear hK K
                try simp only [List.getElem_toArray, List.getElem_cons_succ, List.getElem_cons_zero, Act.put, List.setIfInBounds_toArray, List.set_cons_zero, List.set_cons_succ]
                refine wpAnyH_ready (rs := [5]) (by kernel_rfl) (by simp) ?_
                refine AllReadyH.cons rfl (fun K hK => ?_) ?_
                · have HS35 := Lib.hid (src_str_at (w := w34) (b := wq.heap.size) (stp) HH34.out)
                  have hzc := HB34.out.size
                  refine step_strs rfl _ _ _ rfl wq.heap.size _ st rfl HP34.out _ rfl [stp] HS35.out (fun x hx => by rw [List.mem_singleton] at hx; rw [hx]; omega) (by simp; omega) hzc ?_
                  intro v35 w35 hrow hg hfr
                  obtain ⟨va35, vn35, vc35, rfl⟩ := hrow.slice3
                  have HB35 := Lib.hid (HB34.out.grown hg hzc (fun x hx => (HP34.out.lt x hx).1))
                  have HP35 := Lib.hid hrow
                  clear hrow hg hfr hzc
                  refine hK.out _ _ ?_ (fun hHeld => ?_)
                  · exact TC.out _ HB35.out
                  clear hK K
                  try simp only [List.getElem_toArray, List.getElem_cons_succ, List.getElem_cons_zero, Act.put, List.setIfInBounds_toArray, List.set_cons_zero, List.set_cons_succ]
                  refine wpAnyH_ready (rs := [7]) (by kernel_rfl) (by simp) ?_
                  refine AllReadyH.cons rfl (fun K hK => ?_) ?_
                  · have CL36 := Lib.hid (IHJ.out (stp) SPJ _ (.slice la ln lc) (acc ++ accP t st j) w35 (HW0.out.trans (HB35.out.mono HW0.out.size)) (StepR.ofRow HP35.out (fun x hx e => by have := (HO.out.lt _ e).2; omega)) (HO.out.stay2 HB35.out) (Nat.le_trans hBq HB35.out.size) (by rw [List.length_append]; omega))
                    unfold V.agg at CL36
                    go_simp
                    refine CL36.out.mono ?_
                    rintro e36 w36 ⟨v36, rfl, hrow, hg, hn⟩
                    obtain ⟨va36, vn36, vc36, rfl⟩ := hrow.slice3
                    have HQ36 := Lib.hid hrow
                    have HG36 := Lib.hid (grownBy_sub (HGQ.out) (grownBy_trans (grownBy_below HB35.out) hg) (HNL.out.mono (by omega)))
                    have HN36 := Lib.hid (HNL.out.trans hn (Nat.le_trans hzAq HB35.out.size))
                    have HKK := Lib.hid ((hg.block wr.heap.size (Nat.lt_of_lt_of_le HKB.out.lt HB35.out.size) (fun e => by have h := HO.out.lt _ e.symm; exact HKN.out e.symm)).trans (HB35.out.block wr.heap.size HKB.out.lt))
                    have HBXN := Lib.hid ((hg.block w.heap.size (Nat.lt_of_lt_of_le HX.out.lt HB35.out.size) (fun e => HXN.out e.symm)).trans (HB35.out.block w.heap.size HX.out.lt))
                    have hzf := Nat.le_trans HB35.out.size hg.size
                    clear hrow hg hn CL36
                    refine hK.out _ _ ?_ (fun hHeld => ?_)
                    · exact TCB.out _ HKK.out
                    clear hK K
                    try simp only [List.getElem_toArray, List.getElem_cons_succ, List.getElem_cons_zero, Act.put, List.setIfInBounds_toArray, List.set_cons_zero, List.set_cons_succ]
                    refine wpAnyH_take (i := 8) (v := ?_) rfl (by kernel_rfl) (by kernel_rfl) (by kernel_rfl) (fun _ _ _ h => h) (Or.inl ⟨by rfl, ?_⟩) hHeld ?_
                    rotate_left
                    · (intro w hSw; (try dsimp only at hSw); (try simp only [List.getElem_toArray, List.getElem_cons_succ, List.getElem_cons_zero]); go_simp <;> with_reducible rfl)
                    try simp only [List.getElem_toArray, List.getElem_cons_succ, List.getElem_cons_zero, Act.put, List.setIfInBounds_toArray, List.set_cons_zero, List.set_cons_succ]
                    refine wpAnyH_done (by kernel_rfl) ?_ _
                    have HKF := Lib.hid (KGJ.out HSK.out)
                    rw [HST.out] at HKF
                    have FIN := Lib.hid (show SRow w36 B (.slice va36 vn36 vc36) (acc ++ accP t st (j + 1)) from by rw [ACS1.out, HKF.out, ← List.append_assoc]; exact HQ36.out)
                    have FINX := Lib.hid (show Box w36 w.heap.size t.k t.n t.e t.s (.slice (some ⟨b, off, none⟩) t.kids.length cap) 29 from HBXN.out.trans HX.out)
                    go_wp2_with fail
                    go_roundw
                    case rel => exact ⟨j + 1, _, _, _, rfl, by go_num, by omega, FIN, HG36, HN36, FINX⟩
                    case measure => simp [intOf]; omega
                  exact AllReadyH.nil
                exact AllReadyH.nil
              exact AllReadyH.nil
            exact AllReadyH.nil
          · have HKS := Lib.hid (KSJ.out (by rw [HSKW.out]; simp [hk5]))
            have tk : (pr.k != 5) = true := by simp [hk5]
            clear HSKW hk5
            have HOS := Lib.hid (show SRow (wr.alloc (.cells #[.int .i64 kid.k, .int .i64 kid.n, .int .i64 kid.e, .string kid.s, .slice ka kid.kids.length kc] 29)) B (.slice la ln lc) (acc ++ accP t st (j + 1)) from by rw [ACS1.out, HKS.out, List.append_nil]; exact HO.out.stay2 HKA.out)
            have HGS := Lib.hid (grownBy_trans HGW.out (grownBy_below HKA.out))
            have HXS := Lib.hid (HX.out.stay HKA.out)
            clear HO HGW HX
            go_wp2_with fail
            go_roundw
            case rel => exact ⟨j + 1, _, _, _, rfl, by go_num, by omega, HOS, HGS, HNL, HXS⟩
            case measure => simp [intOf]; omega
      · have t9 : (t.k == 9) = true := by simp [h9]
        have t8 : (t.k == 8) = false := by simp; omega
        have t7 : (t.k == 7) = false := by simp; omega
        have HSK := Lib.hid (skip_not8 (k := t.k) (all := t.kids) (i := j) (by omega))
        have HST := Lib.hid (stepP_9 (k := t.k) (all := t.kids) (i := j) h9)
        rw [HST.out] at SPJ
        clear h9
        go_upto_region 12 with fail
        obtain ⟨wq, hwq⟩ : ∃ W : World, W = wr.alloc (.cells #[.int .i64 kid.k, .int .i64 kid.n, .int .i64 kid.e, .string kid.s, .slice ka kid.kids.length kc] 29) := ⟨_, rfl⟩
        have HBQ := Lib.hid (show Below wr.heap.size wr wq from by rw [hwq]; exact HKA.out)
        have HKB := Lib.hid (show Box wq wr.heap.size kid.k kid.n kid.e kid.s (.slice ka kid.kids.length kc) 29 from by rw [hwq]; exact HKX.out)
        rw [← hwq]
        clear hwq
        have hzq := HBQ.out.size
        have HW0 := Lib.hid (HW.out.trans (HBQ.out.mono HW.out.size))
        have HGQ := Lib.hid (grownBy_trans HGW.out (grownBy_below HBQ.out))
        have hzAq : wA.heap.size ≤ wq.heap.size := by omega
        have HVW := Lib.hid (show StepR wq _ st (Value.slice la ln lc).ownBlock from HV.out.keep HGQ.out.size (fun x hx hn => HGQ.out.block x hx (fun e => hn e.symm)) (fun x hx hn => HNL.out.ne (by omega) hn))
        have HKN := Lib.hid (show (Value.slice la ln lc).ownBlock ≠ some wr.heap.size from fun e => by have := (HO.out.lt _ e).2; omega)
        have HXW := HX; clear HX
        have HX := Lib.hid (show Box wq w.heap.size t.k t.n t.e t.s (.slice (some ⟨b, off, none⟩) t.kids.length cap) 29 from (HBQ.out.block w.heap.size hwlt).trans HXW.out)
        have HOW := HO; clear HO
        have HO := Lib.hid (HOW.out.stay2 HBQ.out)
        have hBq : B ≤ wq.heap.size := by omega
        clear x0 x1 x2 x3 x4 c0 c1 c2 c3 c4 hwlt hwne hwne2
        go_upto_region 12 with fail
        have TCB := Lib.hid (show ∀ W' : World, W'.heap[wr.heap.size]? = wq.heap[wr.heap.size]? → W'.cell? ⟨wr.heap.size, 0, none⟩ = some (.int .i64 kid.k) ∧ W'.cell? ⟨wr.heap.size, 1, none⟩ = some (.int .i64 kid.n) ∧ W'.cell? ⟨wr.heap.size, 2, none⟩ = some (.int .i64 kid.e) ∧ W'.cell? ⟨wr.heap.size, 3, none⟩ = some (.string kid.s) ∧ W'.cell? ⟨wr.heap.size, 4, none⟩ = some (.slice ka kid.kids.length kc) from fun W' h => Box.cells (show Box W' wr.heap.size kid.k kid.n kid.e kid.s (.slice ka kid.kids.length kc) 29 from h.trans HKB.out))
        have TC := Lib.hid (fun (W' : World) (h : Below wq.heap.size wq W') => TCB.out W' (h.block wr.heap.size HKB.out.lt))
        have HB9 := Lib.hid (show Below wq.heap.size wq wq.drew from (Below.refl _ _).drew)
        refine wp_region_held_drew (S := fun W' => W'.cell? ⟨wr.heap.size, 0, none⟩ = some (.int .i64 kid.k) ∧ W'.cell? ⟨wr.heap.size, 1, none⟩ = some (.int .i64 kid.n) ∧ W'.cell? ⟨wr.heap.size, 2, none⟩ = some (.int .i64 kid.e) ∧ W'.cell? ⟨wr.heap.size, 3, none⟩ = some (.string kid.s) ∧ W'.cell? ⟨wr.heap.size, 4, none⟩ = some (.slice ka kid.kids.length kc)) (by kernel_rfl) (TC.out _ HB9.out) (fun hHeld => ?_)
        refine wpAnyH_take (i := 0) (v := ?_) rfl (by kernel_rfl) (by kernel_rfl) (by kernel_rfl) (fun _ _ _ h => h) (Or.inl ⟨by rfl, ?_⟩) hHeld ?_
        rotate_left
        · (intro w hSw; (try dsimp only at hSw); (try simp only [List.getElem_toArray, List.getElem_cons_succ, List.getElem_cons_zero]); go_simp <;> with_reducible rfl)
        try simp only [List.getElem_toArray, List.getElem_cons_succ, List.getElem_cons_zero, Act.put, List.setIfInBounds_toArray, List.set_cons_zero, List.set_cons_succ]
        refine wpAnyH_take (i := 1) (v := ?_) rfl (by kernel_rfl) (by kernel_rfl) (by kernel_rfl) (fun _ _ _ h => h) (Or.inl ⟨by rfl, ?_⟩) hHeld ?_
        rotate_left
        · (intro w hSw; (try dsimp only at hSw); (try simp only [List.getElem_toArray, List.getElem_cons_succ, List.getElem_cons_zero]); go_simp <;> with_reducible rfl)
        try simp only [List.getElem_toArray, List.getElem_cons_succ, List.getElem_cons_zero, Act.put, List.setIfInBounds_toArray, List.set_cons_zero, List.set_cons_succ]
        refine wpAnyH_take (i := 3) (v := ?_) rfl (by kernel_rfl) (by kernel_rfl) (by kernel_rfl) (fun _ _ _ h => h) (Or.inl ⟨by rfl, ?_⟩) hHeld ?_
        rotate_left
        · (intro w hSw; (try dsimp only at hSw); (try simp only [List.getElem_toArray, List.getElem_cons_succ, List.getElem_cons_zero]); go_simp <;> with_reducible rfl)
        try simp only [List.getElem_toArray, List.getElem_cons_succ, List.getElem_cons_zero, Act.put, List.setIfInBounds_toArray, List.set_cons_zero, List.set_cons_succ]
        refine wpAnyH_take (i := 6) (v := ?_) rfl (by kernel_rfl) (by kernel_rfl) (by kernel_rfl) (fun _ _ _ h => h) (Or.inl ⟨by rfl, ?_⟩) hHeld ?_
        rotate_left
        · (intro w hSw; (try dsimp only at hSw); (try simp only [List.getElem_toArray, List.getElem_cons_succ, List.getElem_cons_zero]); go_simp <;> with_reducible rfl)
        try simp only [List.getElem_toArray, List.getElem_cons_succ, List.getElem_cons_zero, Act.put, List.setIfInBounds_toArray, List.set_cons_zero, List.set_cons_succ]
        refine wpAnyH_ready (rs := [2, 4]) (by kernel_rfl) (by simp) ?_
        refine AllReadyH.cons rfl (fun K hK => ?_) ?_
        · have CL37 := Lib.hid (clone_any wq.drew _ st (HVW.out.stay HB9.out).rep (by omega) wq.drew (Below.refl _ _))
          go_simp
          refine CL37.out.mono ?_
          rintro e37 w37 ⟨v37, rfl, hrow, hb37⟩
          obtain ⟨va37, vn37, vc37, rfl⟩ := hrow.slice3
          have HP37 := Lib.hid (hrow.lower (show wq.heap.size ≤ _ from HB9.out.size))
          have HB37 := Lib.hid (HB9.out.trans (hb37.mono HB9.out.size))
          clear hrow hb37 CL37
          refine hK.out _ _ ?_ (fun hHeld => ?_)
          · exact TC.out _ HB37.out
          clear hK K
          try simp only [List.getElem_toArray, List.getElem_cons_succ, List.getElem_cons_zero, Act.put, List.setIfInBounds_toArray, List.set_cons_zero, List.set_cons_succ]
          refine wpAnyH_ready (rs := [4]) (by kernel_rfl) (by simp) ?_
          refine AllReadyH.cons rfl (fun K hK => ?_) ?_
          · have HB38 := Lib.hid (show Below wq.heap.size wq (w37.alloc (.cells #[.string (⟨#[116, 97, 103]⟩)] 9)) from HB37.out.alloc HB37.out.size _)
            have HP38 := Lib.hid (HP37.out.stay2 (show Below w37.heap.size w37 (w37.alloc (.cells #[.string (⟨#[116, 97, 103]⟩)] 9)) from (Below.refl _ _).alloc (Nat.le_refl _) _))
            have HH38 := Lib.hid (show (w37.alloc (.cells #[.string (⟨#[116, 97, 103]⟩)] 9)).heap[w37.heap.size]? = some (.cells #[.string (⟨#[116, 97, 103]⟩)] 9 (0, 0)) from by have h := heap_alloc_new w37 (.cells #[.string (⟨#[116, 97, 103]⟩)] 9); simpa using h)
            go_simp
            refine hK.out _ _ ?_ (fun hHeld => ?_)
            · exact TC.out _ HB38.out
            clear hK K
            try simp only [List.getElem_toArray, List.getElem_cons_succ, List.getElem_cons_zero, Act.put, List.setIfInBounds_toArray, List.set_cons_zero, List.set_cons_succ]
            refine wpAnyH_ready (rs := [5]) (by kernel_rfl) (by simp) ?_
            refine AllReadyH.cons rfl (fun K hK => ?_) ?_
            · have HS39 := Lib.hid (src_str_at (w := (w37.alloc (.cells #[.string (⟨#[116, 97, 103]⟩)] 9))) (b := w37.heap.size) (⟨#[116, 97, 103]⟩) HH38.out)
              have hzc := HB38.out.size
              refine step_strs rfl _ _ _ rfl wq.heap.size _ st rfl HP38.out _ rfl [⟨#[116, 97, 103]⟩] HS39.out (fun x hx => by rw [List.mem_singleton] at hx; rw [hx]; omega) (by simp; omega) hzc ?_
              intro v39 w39 hrow hg hfr
              obtain ⟨va39, vn39, vc39, rfl⟩ := hrow.slice3
              have HB39 := Lib.hid (HB38.out.grown hg hzc (fun x hx => (HP38.out.lt x hx).1))
              have HP39 := Lib.hid hrow
              clear hrow hg hfr hzc
              refine hK.out _ _ ?_ (fun hHeld => ?_)
              · exact TC.out _ HB39.out
              clear hK K
              try simp only [List.getElem_toArray, List.getElem_cons_succ, List.getElem_cons_zero, Act.put, List.setIfInBounds_toArray, List.set_cons_zero, List.set_cons_succ]
              refine wpAnyH_ready (rs := [7]) (by kernel_rfl) (by simp) ?_
              refine AllReadyH.cons rfl (fun K hK => ?_) ?_
              · have CL40 := Lib.hid (IHJ.out (⟨#[116, 97, 103]⟩) SPJ _ (.slice la ln lc) (acc ++ accP t st j) w39 (HW0.out.trans (HB39.out.mono HW0.out.size)) (StepR.ofRow HP39.out (fun x hx e => by have := (HO.out.lt _ e).2; omega)) (HO.out.stay2 HB39.out) (Nat.le_trans hBq HB39.out.size) (by rw [List.length_append]; omega))
                unfold V.agg at CL40
                go_simp
                refine CL40.out.mono ?_
                rintro e40 w40 ⟨v40, rfl, hrow, hg, hn⟩
                obtain ⟨va40, vn40, vc40, rfl⟩ := hrow.slice3
                have HQ40 := Lib.hid hrow
                have HG40 := Lib.hid (grownBy_sub (HGQ.out) (grownBy_trans (grownBy_below HB39.out) hg) (HNL.out.mono (by omega)))
                have HN40 := Lib.hid (HNL.out.trans hn (Nat.le_trans hzAq HB39.out.size))
                have HKK := Lib.hid ((hg.block wr.heap.size (Nat.lt_of_lt_of_le HKB.out.lt HB39.out.size) (fun e => by have h := HO.out.lt _ e.symm; exact HKN.out e.symm)).trans (HB39.out.block wr.heap.size HKB.out.lt))
                have HBXN := Lib.hid ((hg.block w.heap.size (Nat.lt_of_lt_of_le HX.out.lt HB39.out.size) (fun e => HXN.out e.symm)).trans (HB39.out.block w.heap.size HX.out.lt))
                have hzf := Nat.le_trans HB39.out.size hg.size
                clear hrow hg hn CL40
                refine hK.out _ _ ?_ (fun hHeld => ?_)
                · exact TCB.out _ HKK.out
                clear hK K
                try simp only [List.getElem_toArray, List.getElem_cons_succ, List.getElem_cons_zero, Act.put, List.setIfInBounds_toArray, List.set_cons_zero, List.set_cons_succ]
                refine wpAnyH_take (i := 8) (v := ?_) rfl (by kernel_rfl) (by kernel_rfl) (by kernel_rfl) (fun _ _ _ h => h) (Or.inl ⟨by rfl, ?_⟩) hHeld ?_
                rotate_left
                · (intro w hSw; (try dsimp only at hSw); (try simp only [List.getElem_toArray, List.getElem_cons_succ, List.getElem_cons_zero]); go_simp <;> with_reducible rfl)
                try simp only [List.getElem_toArray, List.getElem_cons_succ, List.getElem_cons_zero, Act.put, List.setIfInBounds_toArray, List.set_cons_zero, List.set_cons_succ]
                refine wpAnyH_done (by kernel_rfl) ?_ _
                have HKF := Lib.hid (KGJ.out HSK.out)
                rw [HST.out] at HKF
                have FIN := Lib.hid (show SRow w40 B (.slice va40 vn40 vc40) (acc ++ accP t st (j + 1)) from by rw [ACS1.out, HKF.out, ← List.append_assoc]; exact HQ40.out)
                have FINX := Lib.hid (show Box w40 w.heap.size t.k t.n t.e t.s (.slice (some ⟨b, off, none⟩) t.kids.length cap) 29 from HBXN.out.trans HX.out)
                go_wp2_with fail
                go_roundw
                case rel => exact ⟨j + 1, _, _, _, rfl, by go_num, by omega, FIN, HG40, HN40, FINX⟩
                case measure => simp [intOf]; omega
              exact AllReadyH.nil
            exact AllReadyH.nil
          exact AllReadyH.nil
        refine AllReadyH.cons rfl (fun K hK => ?_) ?_
        · have HB41 := Lib.hid (show Below wq.heap.size wq (wq.drew.alloc (.cells #[.string (⟨#[116, 97, 103]⟩)] 9)) from HB9.out.alloc HB9.out.size _)
          have HH41 := Lib.hid (show (wq.drew.alloc (.cells #[.string (⟨#[116, 97, 103]⟩)] 9)).heap[wq.heap.size]? = some (.cells #[.string (⟨#[116, 97, 103]⟩)] 9 (0, 0)) from by have h := heap_alloc_new wq.drew (.cells #[.string (⟨#[116, 97, 103]⟩)] 9); simpa using h)
          go_simp
          refine hK.out _ _ ?_ (fun hHeld => ?_)
          · exact TC.out _ HB41.out
          clear hK K
          try simp only [List.getElem_toArray, List.getElem_cons_succ, List.getElem_cons_zero, Act.put, List.setIfInBounds_toArray, List.set_cons_zero, List.set_cons_succ]
          refine wpAnyH_ready (rs := [2]) (by kernel_rfl) (by simp) ?_
          refine AllReadyH.cons rfl (fun K hK => ?_) ?_
          · have CL42 := Lib.hid (clone_any (wq.drew.alloc (.cells #[.string (⟨#[116, 97, 103]⟩)] 9)) _ st (HVW.out.stay HB41.out).rep (by omega) (wq.drew.alloc (.cells #[.string (⟨#[116, 97, 103]⟩)] 9)) (Below.refl _ _))
            go_simp
            refine CL42.out.mono ?_
            rintro e42 w42 ⟨v42, rfl, hrow, hb42⟩
            obtain ⟨va42, vn42, vc42, rfl⟩ := hrow.slice3
            have HP42 := Lib.hid (hrow.lower (show wq.heap.size ≤ _ from HB41.out.size))
            have HB42 := Lib.hid (HB41.out.trans (hb42.mono HB41.out.size))
            have HH42 := Lib.hid ((hb42.block (wq.heap.size) (lt_of_heap HH41.out)).trans HH41.out)
            clear hrow hb42 CL42
            refine hK.out _ _ ?_ (fun hHeld => ?_)
            · exact TC.out _ HB42.out
            clear hK K
            try simp only [List.getElem_toArray, List.getElem_cons_succ, List.getElem_cons_zero, Act.put, List.setIfInBounds_toArray, List.set_cons_zero, List.set_cons_succ]
            refine wpAnyH_ready (rs := [5]) (by kernel_rfl) (by simp) ?_
            refine AllReadyH.cons rfl (fun K hK => ?_) ?_
            · have HS43 := Lib.hid (src_str_at (w := w42) (b := wq.heap.size) (⟨#[116, 97, 103]⟩) HH42.out)
              have hzc := HB42.out.size
              refine step_strs rfl _ _ _ rfl wq.heap.size _ st rfl HP42.out _ rfl [⟨#[116, 97, 103]⟩] HS43.out (fun x hx => by rw [List.mem_singleton] at hx; rw [hx]; omega) (by simp; omega) hzc ?_
              intro v43 w43 hrow hg hfr
              obtain ⟨va43, vn43, vc43, rfl⟩ := hrow.slice3
              have HB43 := Lib.hid (HB42.out.grown hg hzc (fun x hx => (HP42.out.lt x hx).1))
              have HP43 := Lib.hid hrow
              clear hrow hg hfr hzc
              refine hK.out _ _ ?_ (fun hHeld => ?_)
              · exact TC.out _ HB43.out
              clear hK K
              try simp only [List.getElem_toArray, List.getElem_cons_succ, List.getElem_cons_zero, Act.put, List.setIfInBounds_toArray, List.set_cons_zero, List.set_cons_succ]
              refine wpAnyH_ready (rs := [7]) (by kernel_rfl) (by simp) ?_
              refine AllReadyH.cons rfl (fun K hK => ?_) ?_
              · have CL44 := Lib.hid (IHJ.out (⟨#[116, 97, 103]⟩) SPJ _ (.slice la ln lc) (acc ++ accP t st j) w43 (HW0.out.trans (HB43.out.mono HW0.out.size)) (StepR.ofRow HP43.out (fun x hx e => by have := (HO.out.lt _ e).2; omega)) (HO.out.stay2 HB43.out) (Nat.le_trans hBq HB43.out.size) (by rw [List.length_append]; omega))
                unfold V.agg at CL44
                go_simp
                refine CL44.out.mono ?_
                rintro e44 w44 ⟨v44, rfl, hrow, hg, hn⟩
                obtain ⟨va44, vn44, vc44, rfl⟩ := hrow.slice3
                have HQ44 := Lib.hid hrow
                have HG44 := Lib.hid (grownBy_sub (HGQ.out) (grownBy_trans (grownBy_below HB43.out) hg) (HNL.out.mono (by omega)))
                have HN44 := Lib.hid (HNL.out.trans hn (Nat.le_trans hzAq HB43.out.size))
                have HKK := Lib.hid ((hg.block wr.heap.size (Nat.lt_of_lt_of_le HKB.out.lt HB43.out.size) (fun e => by have h := HO.out.lt _ e.symm; exact HKN.out e.symm)).trans (HB43.out.block wr.heap.size HKB.out.lt))
                have HBXN := Lib.hid ((hg.block w.heap.size (Nat.lt_of_lt_of_le HX.out.lt HB43.out.size) (fun e => HXN.out e.symm)).trans (HB43.out.block w.heap.size HX.out.lt))
                have hzf := Nat.le_trans HB43.out.size hg.size
                clear hrow hg hn CL44
                refine hK.out _ _ ?_ (fun hHeld => ?_)
                · exact TCB.out _ HKK.out
                clear hK K
                try simp only [List.getElem_toArray, List.getElem_cons_succ, List.getElem_cons_zero, Act.put, List.setIfInBounds_toArray, List.set_cons_zero, List.set_cons_succ]
                refine wpAnyH_take (i := 8) (v := ?_) rfl (by kernel_rfl) (by kernel_rfl) (by kernel_rfl) (fun _ _ _ h => h) (Or.inl ⟨by rfl, ?_⟩) hHeld ?_
                rotate_left
                · (intro w hSw; (try dsimp only at hSw); (try simp only [List.getElem_toArray, List.getElem_cons_succ, List.getElem_cons_zero]); go_simp <;> with_reducible rfl)
                try simp only [List.getElem_toArray, List.getElem_cons_succ, List.getElem_cons_zero, Act.put, List.setIfInBounds_toArray, List.set_cons_zero, List.set_cons_succ]
                refine wpAnyH_done (by kernel_rfl) ?_ _
                have HKF := Lib.hid (KGJ.out HSK.out)
                rw [HST.out] at HKF
                have FIN := Lib.hid (show SRow w44 B (.slice va44 vn44 vc44) (acc ++ accP t st (j + 1)) from by rw [ACS1.out, HKF.out, ← List.append_assoc]; exact HQ44.out)
                have FINX := Lib.hid (show Box w44 w.heap.size t.k t.n t.e t.s (.slice (some ⟨b, off, none⟩) t.kids.length cap) 29 from HBXN.out.trans HX.out)
                go_wp2_with fail
                go_roundw
                case rel => exact ⟨j + 1, _, _, _, rfl, by go_num, by omega, FIN, HG44, HN44, FINX⟩
                case measure => simp [intOf]; omega
              exact AllReadyH.nil
            exact AllReadyH.nil
          exact AllReadyH.nil
        exact AllReadyH.nil
    · have hje : j = t.kids.length := by omega
      subst hje
      have HO2 := Lib.hid (show SRow wr B (.slice la ln lc) (acc ++ R) from by have h := HO.out; rw [ACA.out] at h; exact h)
      clear HO IH HEL KG KS KIND SK8 ST8 ACS ACL SPZ
      go_wp2_with fail
      go_ret
      exact ⟨_, rfl, HO2.out, HGW.out, HNL.out.mono (by omega)⟩
end Go.Proofs.YtfjehhdahpbbgaaDoor
namespace Go.Proofs.YtfjehhdahpbbgaaDoor
set_option linter.unusedSimpArgs false
set_option linter.unusedVariables false
set_option maxRecDepth 100000
open Go.RowKit Go.Lib Go.Shelf
theorem accept_eq : Rows.laid_unicode_utf8_acceptRanges = Lib.acceptData := by kernel_rfl
theorem first_eq : Rows.laid_unicode_utf8_first = Lib.firstData := Pinned.utf8First_eq
theorem env_of {w : World} (h3 : VarReads Tryd.prog w "unicode/utf8.first" Rows.laid_unicode_utf8_first) (h4 : VarReads Tryd.prog w "unicode/utf8.acceptRanges" Rows.laid_unicode_utf8_acceptRanges) : Env w := by
  rw [accept_eq] at h4
  rw [first_eq] at h3
  exact utf8Tabs_of_readsT (U8Types.of196 Tryd.laysValid) ⟨by kernel_rfl, by kernel_rfl, by kernel_rfl, by kernel_rfl, by kernel_rfl, by kernel_rfl, by kernel_rfl⟩ h3 h4
end Go.Proofs.YtfjehhdahpbbgaaDoor
namespace Go.Proofs.YtfjehhdahpbbgaaDoor
set_option linter.unusedSimpArgs false
set_option linter.unusedVariables false
set_option maxRecDepth 100000
open Go.RowKit Go.Lib Go.Shelf
theorem handed_and_shaped {H : Type} {enc : TypeId × Value → H} {a : Assume} {C : Checked} {os : Os} {f : FuncId} {fn : Func} {s : ChangeSpec} {conds : List PathCond} {apart fresh handsOn again : Bool} {X : World → Array Value → Prop}
    (hX : ∀ (w w' : World) (args : Array Value), w.heap = w'.heap → X w args → X w' args)
    (own : ownKnob C.prog.godebug = none) (started : os.Started) (noInit : C.prog.inits.idxOf? f = none) (hfn : C.prog.funcs[f]? = some fn)
    (witness : ∃ (w : World) (tape : Tape) (i : Input), w.os = os ∧ (w.forCall tape i).Shaped C.prog ∧ i.vars = [] ∧ Input.okWide C.prog (w.forCall tape i) .any w.heap.size f i ∧
      ((s.pre enc C.prog fn conds apart (w.forCall tape i).memory i.args ∧ X (w.forCall tape i).memory i.args) ∧ sizedMet enc C.prog fn (OpenSpec.ofChange s) apart (w.forCall tape i).memory i.args) ∧ a.holds C.prog (lone (Frame.enter C.prog f i.args .normal) [] (w.forCall tape i)))
    (contract : ∀ (W : World) (base : Nat) (args : Array Value) (ds gs : List (DataW H)) (before : List MemPlace),
      (∀ (j : Nat) t v, fn.params[j]? = some t → args[j]? = some v → Value.okWide C.prog W .any base t v) →
      DataW.Whole enc C.prog fn.params.toList s.vars apart W args.toList ds gs before →
      conds.all (PathCond.test C.prog ⟨fn.params.toList, ds, s.plain.varTypes C.prog, gs⟩) = true →
      (DataW.weightsEach C.prog (fn.params.toList ++ s.plain.varTypes C.prog) (ds ++ gs)).all (· ≤ reachBytes) = true → X W args →
      W.ShapedOpen C.prog →
      a.holds C.prog (lone (Frame.enter C.prog f args .normal) [] W) →
      Calls C.prog f args W fun e W' => ∃ v, e = .returned v ∧ s.post enc C.prog fn apart fresh handsOn again W args v W') :
    ReturnsInHanded a C os f .any (fun w args => (s.pre enc C.prog fn conds apart w args ∧ X w args) ∧ sizedMet enc C.prog fn (OpenSpec.ofChange s) apart w args) (s.post enc C.prog fn apart fresh handsOn again) := by
  refine returnsInHanded_of_calls own started noInit witness ?_
  intro w tape i _ hsh _ hok hpre hholds
  obtain ⟨_, _, _, fn', hfn', _, _, _, _, hval⟩ := hok
  have e : fn' = fn := Option.some.inj (hfn'.symm.trans hfn)
  subst e
  obtain ⟨⟨⟨ds, gs, before, hw, hc⟩, hx⟩, hz⟩ := hpre
  have hw' := DataW.Whole.of_heap (w' := w.forCall tape i) (by rfl) hw
  refine (contract (w.forCall tape i) w.heap.size i.args ds gs before hval hw' hc (hz.weights hw) (hX _ _ _ (by rfl) hx) hsh hholds).mono fun e W' ⟨v, he, hp⟩ => ?_
  subst he
  exact ChangeSpec.post_blind hp
theorem pow_eq : (Rows.laid_internal_strconv_uint64pow10 : DataW Unit) = Lib.tabData .u64 Lib.pow10Tab := by kernel_rfl
theorem envP_of {w : World} (h3 : VarReads Tryd.prog w "unicode/utf8.first" Rows.laid_unicode_utf8_first) (h4 : VarReads Tryd.prog w "unicode/utf8.acceptRanges" Rows.laid_unicode_utf8_acceptRanges)
    (h5 : VarReads Tryd.prog w "internal/strconv.uint64pow10" Rows.laid_internal_strconv_uint64pow10) (hs : w.ShapedOpen Tryd.prog) : EnvP w := by
  refine ⟨env_of h3 h4, cell_of_shapedOpen_int (t := 3) (zero := #[.int .i64 0]) hs (by decide +kernel) (by kernel_rfl) rfl (by kernel_rfl) (by kernel_rfl) Tryd.underlying3, ?_⟩
  rw [pow_eq] at h5
  obtain ⟨g', t', cs, fuel, p, hg', ht', hvar, hd⟩ := h5
  obtain rfl := Option.some.inj ((show Tryd.prog.globalNamed "internal/strconv.uint64pow10" = some (Tryd.laysItoa_ren.g 17) by kernel_rfl).symm.trans hg')
  obtain rfl := Option.some.inj ((show (Tryd.prog.globals[Tryd.laysItoa_ren.g 17]?).map (·.type) = some 159 by kernel_rfl).symm.trans ht')
  unfold TabIs
  rw [hvar, ← cells_of_tab Tryd.underlying159 Tryd.underlying96 (by kernel_rfl) (by kernel_rfl) hd]
end Go.Proofs.YtfjehhdahpbbgaaDoor
namespace Go.Proofs.YtfjehhdahpbbgaaDoor
set_option linter.unusedSimpArgs false
set_option linter.unusedVariables false
set_option maxRecDepth 100000
open Go.RowKit
set_option maxHeartbeats 1600000 in
theorem Paths_impl (w0 : World) (v : Value) (t : V) (h : Rep w0 v t) (hsz : t.sz ≤ 1048576) (w : World) (hw : Below w0.heap.size w0 w) (hE : EnvP w0) : Calls Tryd.prog 32 #[v] w (StrsRet w (pathsF t)) := by
  have VO := Lib.hid (fun (W : World) (hW : Below w.heap.size w W) => ValueOk_impl w0 hE.env v t h hsz W (hw.trans (hW.mono hw.size)))
  have SY := Lib.hid (@pathsF_yes t)
  have SN := Lib.hid (@pathsF_no t)
  obtain ⟨sl, rfl, hwf, hr⟩ := h
  obtain ⟨sa, sc, rfl⟩ := hr.slice
  have LP := Lib.hid (fun (ho : okT t = true) (W : World) (hW : Below w.heap.size w W) => pathsFrom_all w0 hE W.heap.size (Nat.le_trans hw.size hW.size) 300 t 12 [] (by unfold okT at ho; simp only [Bool.and_eq_true, decide_eq_true_eq] at ho; exact ho.2) (Nat.le_refl _) (by unfold okT at ho; simp only [Bool.and_eq_true, decide_eq_true_eq] at ho; exact ho.1) hsz (by simp) (by simp) (.slice sa t.kids.length sc) (.slice none 0 0) (.slice none 0 0) [] W hr (hw.trans (hW.mono hw.size)) (StepR.nil _ _) (SRow.nil _ _) (Nat.le_refl _) (by simp))
  clear hr hwf hsz hE
  have BX := Lib.hid (Box.new w t.k t.n t.e t.s (.slice sa t.kids.length sc) 29)
  unfold V.agg at VO LP ⊢
  generalize psV t [] = P at *
  generalize pathsF t = R at *
  generalize okT t = b at *
  cases b
  all_goals
    go_enter Tryd.func32, Tryd.ntmps32
    go_wp2_with fail
    refine (VO.out _ ((by (with_reducible (repeat' (first | exact Below.refl _ _ | refine below_alloc ?_ _ ?_ | refine Below.setCell ?_ ?_ _ | refine Below.drew ?_ | refine Go.below_drewN ?_ _ | refine below_step ?_ (by assumption) ?_ | refine below_mark ?_ (by assumption) ?_))); all_goals (first | omega | (simp; done) | (simp; omega))))).mono ?_
    rintro x w1 ⟨rfl, hb1⟩
    have HB1 := Lib.hid (show Below w.heap.size w w1 from (by (with_reducible (repeat' (first | exact Below.refl _ _ | refine below_alloc ?_ _ ?_ | refine Below.setCell ?_ ?_ _ | refine Below.drew ?_ | refine Go.below_drewN ?_ _ | refine below_step ?_ (by assumption) ?_ | refine below_mark ?_ (by assumption) ?_))); all_goals (first | omega | (simp; done) | (simp; omega))))
    obtain ⟨p0, p1, p2, p3, p4⟩ := (BX.out.stay hb1).cells
    clear hb1
  · have HN := Lib.hid (SN.out trivial)
    clear LP SY SN
    go_wp2_with fail
    go_ret
    exact ⟨_, rfl, by rw [HN.out]; exact SRow.nil _ _, HB1.out⟩
  · have HY := Lib.hid (SY.out trivial)
    have LP1 := Lib.hid (LP.out trivial w1 HB1.out)
    clear LP SY SN
    go_wp2_with fail
    refine LP1.out.mono ?_
    rintro x w2 ⟨v2, rfl, hrow, hg, -⟩
    obtain ⟨va, vn, vc, rfl⟩ := hrow.slice3
    rw [List.nil_append] at hrow
    have HR2 := Lib.hid (hrow.lower HB1.out.size)
    have HB2 := Lib.hid (HB1.out.grown hg HB1.out.size (fun k hk => by cases hk))
    clear hrow hg
    go_wp2_with fail
    go_ret
    exact ⟨_, rfl, by rw [HY.out]; exact HR2.out, HB2.out⟩
end Go.Proofs.YtfjehhdahpbbgaaDoor
namespace Go.Proofs.YtfjehhdahpbbgaaDoor
set_option linter.unusedSimpArgs false
set_option linter.unusedVariables false
set_option maxRecDepth 100000
open Go.ChangeShapes Go.WideShapes Go.ChangeAt Go.RowKit Go.Lib
open Go.ChangeMaps (open_string shut_string)
set_option maxHeartbeats 8000000 in
theorem walk_FnExactPaths {w00 : World} (v0 : Value) (t0 : V) (hv0 : Rep w00 v0 t0) (w : World) (hww : w = w00) (hE : EnvP w) : Calls Tryd.prog 8 #[v0] w (LawRet w) := by
  subst hww
  have SZ0 := Lib.hid (fun w' (hh : Below w.heap.size w w') (m : Int) (h0 : 0 ≤ m) (h1 : m ≤ 1048576) => sz_any w v0 t0 hv0 w' hh m h0 h1)
  have TO0 := Lib.hid (fun w' (hh : Below w.heap.size w w') (hz : t0.sz ≤ 1048576) => to_any w v0 t0 hv0 hz w' hh)
  have EQ0 := Lib.hid (fun w1 x y (h1 : Rep w1 x t0) (h2 : Rep w1 y t0) => eq_any w1 x y t0 h1 h2 w1 (Below.refl _ _))
  have KS := Lib.hid (fun w1 x0 (h0 : Rep w1 x0 t0) (z0 : t0.sz ≤ 1048576) => Paths_spec w1 x0 t0 h0 z0 w1 (Below.refl _ _))
  have KI := Lib.hid (fun w1 x0 (h0 : Rep w1 x0 t0) (z0 : t0.sz ≤ 1048576) (hh : Below w.heap.size w w1) => Paths_impl w1 x0 t0 h0 z0 w1 (Below.refl _ _) (EnvP.keep hE hh))
  clear hE
  have HCN0 := Lib.hid (fun (h : t0.sz ≤ 1048576) => cnts_kids_le h)
  have HR0 := Lib.hid (fun (h : t0.sz ≤ 1048576) => show (pathsF t0).length ≤ 1048576 from Nat.le_trans (pathsF_len t0) (by omega))
  obtain ⟨sl0, rfl, _, _⟩ := hv0
  unfold V.agg at SZ0 TO0 ⊢
  generalize pathsF t0 = r0 at *
  go_enter Tryd.func8, Tryd.ntmps8
  go_wp2_with fail
  have BA0_0 := Lib.hid (Box.new (w) t0.k t0.n t0.e t0.s sl0 24)
  have HOK0 := Lib.hid (fun (h : ¬ szr (1048576) (t0.sz) < 0) => szr_ok h)
  have hlo0 := szr_lo (1048576) (t0.sz)
  refine (SZ0.out _ (by (repeat' (first | with_reducible exact Below.refl _ _ | with_reducible refine below_alloc ?_ _ ?_ | with_reducible refine Below.setCell ?_ ?_ _ | with_reducible refine Below.drew ?_ | with_reducible refine Go.below_drewN ?_ _ | with_reducible refine below_step ?_ (by assumption) ?_ | with_reducible refine below_mark ?_ (by assumption) ?_)); all_goals (first | omega | (simp; done) | (simp; omega))) _ (by omega) (by omega)).mono ?_
  rintro e1 w1 ⟨rfl, hb1⟩
  have hz1 := hb1.size; try simp at hz1
  generalize szr (1048576) (t0.sz) = m0 at *
  have BA0_1 := Lib.hid (Box.stay BA0_0.out (w' := w1) (by (repeat' (first | with_reducible exact Below.refl _ _ | with_reducible refine below_alloc ?_ _ ?_ | with_reducible refine Below.setCell ?_ ?_ _ | with_reducible refine Below.drew ?_ | with_reducible refine Go.below_drewN ?_ _ | with_reducible refine below_step ?_ (by assumption) ?_ | with_reducible refine below_mark ?_ (by assumption) ?_)); all_goals (first | omega | (simp; done) | (simp; omega))))
  obtain ⟨cBA01_0, cBA01_1, cBA01_2, cBA01_3, cBA01_4⟩ := BA0_1.out.cells
  by_cases hm0 : m0 < 0
  · go_wp2_with fail
    go_ret
    exact ⟨rfl, (by (repeat' (first | with_reducible exact Below.refl _ _ | with_reducible refine below_alloc ?_ _ ?_ | with_reducible refine Below.setCell ?_ ?_ _ | with_reducible refine Below.drew ?_ | with_reducible refine Go.below_drewN ?_ _ | with_reducible refine below_step ?_ (by assumption) ?_ | with_reducible refine below_mark ?_ (by assumption) ?_)); all_goals (first | omega | (simp; done) | (simp; omega)))⟩
  obtain ⟨hq0, hr0⟩ := HOK0.out hm0
  have hm0' : ¬ m0 < 0 := hm0
  have hs0 := HCN0.out (by omega)
  go_wp2_with fail
  have hHR0 := HR0.out (by omega)
  clear cBA01_0 cBA01_1 cBA01_2 cBA01_3 cBA01_4
  refine (TO0.out _ (by (repeat' (first | with_reducible exact Below.refl _ _ | with_reducible refine below_alloc ?_ _ ?_ | with_reducible refine Below.setCell ?_ ?_ _ | with_reducible refine Below.drew ?_ | with_reducible refine Go.below_drewN ?_ _ | with_reducible refine below_step ?_ (by assumption) ?_ | with_reducible refine below_mark ?_ (by assumption) ?_)); all_goals (first | omega | (simp; done) | (simp; omega))) (by omega)).mono ?_
  rintro e2 w2 ⟨ps0, rfl, pf0, po0, hb2⟩
  have hz2 := hb2.size; try simp at hz2
  obtain ⟨pa0, pc0, rfl⟩ := po0.slice
  have pO0 := Lib.hid po0
  have pR0 := Lib.hid (po0.repV pf0)
  clear po0
  unfold V.agg at pR0 ⊢
  go_wp2_with fail
  refine (KS.out _ _ (pR0.out.keep (by (repeat' (first | with_reducible exact Below.refl _ _ | with_reducible refine below_alloc ?_ _ ?_ | with_reducible refine Below.setCell ?_ ?_ _ | with_reducible refine Below.drew ?_ | with_reducible refine Go.below_drewN ?_ _ | with_reducible refine below_step ?_ (by assumption) ?_ | with_reducible refine below_mark ?_ (by assumption) ?_)); all_goals (first | omega | (simp; done) | (simp; omega)))) (by omega)).mono ?_
  rintro e3 w3 ⟨_, rfl, qo0, hb3⟩
  have hz3 := hb3.size; try simp at hz3
  obtain ⟨qa0, qc0, rfl⟩ := qo0.slice
  have qR0 := Lib.hid qo0.rep
  clear qo0
  have BA0_3 := Lib.hid (Box.stay BA0_1.out (w' := w3) (by (repeat' (first | with_reducible exact Below.refl _ _ | with_reducible refine below_alloc ?_ _ ?_ | with_reducible refine Below.setCell ?_ ?_ _ | with_reducible refine Below.drew ?_ | with_reducible refine Go.below_drewN ?_ _ | with_reducible refine below_step ?_ (by assumption) ?_ | with_reducible refine below_mark ?_ (by assumption) ?_)); all_goals (first | omega | (simp; done) | (simp; omega))))
  obtain ⟨cBA03_0, cBA03_1, cBA03_2, cBA03_3, cBA03_4⟩ := BA0_3.out.cells
  go_wp2_with fail
  clear cBA03_0 cBA03_1 cBA03_2 cBA03_3 cBA03_4
  refine (TO0.out _ (by (repeat' (first | with_reducible exact Below.refl _ _ | with_reducible refine below_alloc ?_ _ ?_ | with_reducible refine Below.setCell ?_ ?_ _ | with_reducible refine Below.drew ?_ | with_reducible refine Go.below_drewN ?_ _ | with_reducible refine below_step ?_ (by assumption) ?_ | with_reducible refine below_mark ?_ (by assumption) ?_)); all_goals (first | omega | (simp; done) | (simp; omega))) (by omega)).mono ?_
  rintro e4 w4 ⟨xs0, rfl, xf0, xo0, hb4⟩
  have hz4 := hb4.size; try simp at hz4
  obtain ⟨xa0, xc0, rfl⟩ := xo0.slice
  have xO0 := Lib.hid xo0.bound
  have xR0 := Lib.hid (xo0.repV xf0)
  clear xo0
  unfold V.agg at xR0 ⊢
  have BX0_n := Lib.hid (Box.new w4 t0.k t0.n t0.e t0.s (.slice xa0 t0.kids.length xc0) 29)
  go_wp2_with fail
  refine (KI.out _ _ (xR0.out.keep (by (repeat' (first | with_reducible exact Below.refl _ _ | with_reducible refine below_alloc ?_ _ ?_ | with_reducible refine Below.setCell ?_ ?_ _ | with_reducible refine Below.drew ?_ | with_reducible refine Go.below_drewN ?_ _ | with_reducible refine below_step ?_ (by assumption) ?_ | with_reducible refine below_mark ?_ (by assumption) ?_)); all_goals (first | omega | (simp; done) | (simp; omega)))) (by omega) (by (repeat' (first | with_reducible exact Below.refl _ _ | with_reducible refine below_alloc ?_ _ ?_ | with_reducible refine Below.setCell ?_ ?_ _ | with_reducible refine Below.drew ?_ | with_reducible refine Go.below_drewN ?_ _ | with_reducible refine below_step ?_ (by assumption) ?_ | with_reducible refine below_mark ?_ (by assumption) ?_)); all_goals (first | omega | (simp; done) | (simp; omega)))).mono ?_
  rintro e5 w5 ⟨_, rfl, go0, hb5⟩
  have hz5 := hb5.size; try simp at hz5
  obtain ⟨ga0, gc0, rfl⟩ := go0.slice
  have gR0 := Lib.hid go0.rep
  have gO0 := Lib.hid go0
  clear go0
  go_wp2_with fail
  refine (eqStringS_any _ _ _ r0 (gR0.out.keep (by (repeat' (first | with_reducible exact Below.refl _ _ | with_reducible refine below_alloc ?_ _ ?_ | with_reducible refine Below.setCell ?_ ?_ _ | with_reducible refine Below.drew ?_ | with_reducible refine Go.below_drewN ?_ _ | with_reducible refine below_step ?_ (by assumption) ?_ | with_reducible refine below_mark ?_ (by assumption) ?_)); all_goals (first | omega | (simp; done) | (simp; omega)))) (qR0.out.keep (by (repeat' (first | with_reducible exact Below.refl _ _ | with_reducible refine below_alloc ?_ _ ?_ | with_reducible refine Below.setCell ?_ ?_ _ | with_reducible refine Below.drew ?_ | with_reducible refine Go.below_drewN ?_ _ | with_reducible refine below_step ?_ (by assumption) ?_ | with_reducible refine below_mark ?_ (by assumption) ?_)); all_goals (first | omega | (simp; done) | (simp; omega)))) _ (Below.refl _ _)).mono ?_
  rintro e6 w6 ⟨rfl, hb6⟩
  have hz6 := hb6.size; try simp at hz6
  have BX0_6 := Lib.hid (Box.stay BX0_n.out (w' := w6) (by (repeat' (first | with_reducible exact Below.refl _ _ | with_reducible refine below_alloc ?_ _ ?_ | with_reducible refine Below.setCell ?_ ?_ _ | with_reducible refine Below.drew ?_ | with_reducible refine Go.below_drewN ?_ _ | with_reducible refine below_step ?_ (by assumption) ?_ | with_reducible refine below_mark ?_ (by assumption) ?_)); all_goals (first | omega | (simp; done) | (simp; omega))))
  obtain ⟨cBX06_0, cBX06_1, cBX06_2, cBX06_3, cBX06_4⟩ := BX0_6.out.cells
  have BA0_6 := Lib.hid (Box.stay BA0_3.out (w' := w6) (by (repeat' (first | with_reducible exact Below.refl _ _ | with_reducible refine below_alloc ?_ _ ?_ | with_reducible refine Below.setCell ?_ ?_ _ | with_reducible refine Below.drew ?_ | with_reducible refine Go.below_drewN ?_ _ | with_reducible refine below_step ?_ (by assumption) ?_ | with_reducible refine below_mark ?_ (by assumption) ?_)); all_goals (first | omega | (simp; done) | (simp; omega))))
  obtain ⟨cBA06_0, cBA06_1, cBA06_2, cBA06_3, cBA06_4⟩ := BA0_6.out.cells
  go_upto_region 10 with fail
  go_cut [31] (fun s wx => s = .bool false ∧ Below w6.heap.size w6 wx)
  case first =>
    go_region_with (first | (go_at_call 12; refine (TO0.out _ (by (repeat' (first | with_reducible exact Below.refl _ _ | with_reducible refine below_alloc ?_ _ ?_ | with_reducible refine Below.setCell ?_ ?_ _ | with_reducible refine Below.drew ?_ | with_reducible refine Go.below_drewN ?_ _ | with_reducible refine below_step ?_ (by assumption) ?_ | with_reducible refine below_mark ?_ (by assumption) ?_)); all_goals (first | omega | (simp; done) | (simp; omega))) (by omega)).mono ?_; rintro e0 wa0 ⟨ys0, rfl, yf0, yo0, yb0⟩; have yR0 := Lib.hid (yo0.repV yf0); obtain ⟨y0, y1, y2, y3, y4⟩ := (Box.keep BX0_6.out (Below.trans (Below.drew (Below.refl _ _)) yb0) (Nat.le_refl _)).cells; clear yo0) | (go_at_call 14; refine (EQ0.out _ _ _ (xR0.out.keep (by (repeat' (first | with_reducible exact Below.refl _ _ | with_reducible refine below_alloc ?_ _ ?_ | with_reducible refine Below.setCell ?_ ?_ _ | with_reducible refine Below.drew ?_ | with_reducible refine Go.below_drewN ?_ _ | with_reducible refine below_step ?_ (by assumption) ?_ | with_reducible refine below_mark ?_ (by assumption) ?_)); all_goals (first | omega | (simp; done) | (simp; omega)))) yR0.out).mono ?_; rintro e0 wb0 ⟨rfl, zb0⟩))
    all_goals (go_wp2_with fail; go_meet; exact ⟨rfl, (by (repeat' (first | with_reducible exact Below.refl _ _ | with_reducible refine below_alloc ?_ _ ?_ | with_reducible refine Below.setCell ?_ ?_ _ | with_reducible refine Below.drew ?_ | with_reducible refine Go.below_drewN ?_ _ | with_reducible refine below_step ?_ (by assumption) ?_ | with_reducible refine below_mark ?_ (by assumption) ?_)); all_goals (first | omega | (simp; done) | (simp; omega)))⟩)
  case rest =>
    obtain ⟨rfl, hb7⟩ := hcut
    obtain ⟨w7, rfl⟩ : ∃ W : World, W = wc := ⟨_, rfl⟩
    have hz7 := hb7.size; try simp at hz7
    clear cBX06_0 cBX06_1 cBX06_2 cBX06_3 cBX06_4 cBA06_0 cBA06_1 cBA06_2 cBA06_3 cBA06_4
    have BX0_7 := Lib.hid (Box.stay BX0_6.out (w' := w7) (by (repeat' (first | with_reducible exact Below.refl _ _ | with_reducible refine below_alloc ?_ _ ?_ | with_reducible refine Below.setCell ?_ ?_ _ | with_reducible refine Below.drew ?_ | with_reducible refine Go.below_drewN ?_ _ | with_reducible refine below_step ?_ (by assumption) ?_ | with_reducible refine below_mark ?_ (by assumption) ?_)); all_goals (first | omega | (simp; done) | (simp; omega))))
    obtain ⟨cBX07_0, cBX07_1, cBX07_2, cBX07_3, cBX07_4⟩ := BX0_7.out.cells
    go_wp2_with fail
    have XB0 := Lib.hid ((xO0.out).keep (w' := w7) (fun x hx hxs => (show Below w4.heap.size w4 w7 by exact (by (repeat' (first | with_reducible exact Below.refl _ _ | with_reducible refine below_alloc ?_ _ ?_ | with_reducible refine Below.setCell ?_ ?_ _ | with_reducible refine Below.drew ?_ | with_reducible refine Go.below_drewN ?_ _ | with_reducible refine below_step ?_ (by assumption) ?_ | with_reducible refine below_mark ?_ (by assumption) ?_)); all_goals (first | omega | (simp; done) | (simp; omega)))).block x hxs))
    clear cBX07_0 cBX07_1 cBX07_2 cBX07_3 cBX07_4
    refine (mark_value t0 _ _ (1) _ XB0.out (by omega) (by omega)).mono ?_
    rintro e8 w8 ⟨rfl, ho8, ht8⟩
    have HT8 := Lib.hid ht8; clear ho8 ht8
    have hb8 : Below w3.heap.size w7 w8 := HT8.out.below (fun x hx => by have h1 := hx.1; (first | omega | (simp at h1; done) | (simp at h1; omega))) (by omega)
    have hz8 := HT8.out.size; try simp at hz8
    have BA0_8 := Lib.hid (Box.over (Box.stay BA0_6.out (w' := w7) (by (repeat' (first | with_reducible exact Below.refl _ _ | with_reducible refine below_alloc ?_ _ ?_ | with_reducible refine Below.setCell ?_ ?_ _ | with_reducible refine Below.drew ?_ | with_reducible refine Go.below_drewN ?_ _ | with_reducible refine below_step ?_ (by assumption) ?_ | with_reducible refine below_mark ?_ (by assumption) ?_)); all_goals (first | omega | (simp; done) | (simp; omega)))) HT8.out (fun hx => by have h1 := hx.1; have h2 := hx.2; first | omega | (simp at h1 h2; done) | (simp at h1; done) | (simp at h1; omega) | (simp at h2; omega) | (simp at h1 h2; omega)))
    have BX0_8 := Lib.hid (Box.over (Box.stay BX0_7.out (w' := w7) (by (repeat' (first | with_reducible exact Below.refl _ _ | with_reducible refine below_alloc ?_ _ ?_ | with_reducible refine Below.setCell ?_ ?_ _ | with_reducible refine Below.drew ?_ | with_reducible refine Go.below_drewN ?_ _ | with_reducible refine below_step ?_ (by assumption) ?_ | with_reducible refine below_mark ?_ (by assumption) ?_)); all_goals (first | omega | (simp; done) | (simp; omega)))) HT8.out (fun hx => by have h1 := hx.1; have h2 := hx.2; first | omega | (simp at h1 h2; done) | (simp at h1; done) | (simp at h1; omega) | (simp at h2; omega) | (simp at h1 h2; omega)))
    have gO0_8 := Lib.hid ((gO0.out.stay2 (w' := w7) (by (repeat' (first | with_reducible exact Below.refl _ _ | with_reducible refine below_alloc ?_ _ ?_ | with_reducible refine Below.setCell ?_ ?_ _ | with_reducible refine Below.drew ?_ | with_reducible refine Go.below_drewN ?_ _ | with_reducible refine below_step ?_ (by assumption) ?_ | with_reducible refine below_mark ?_ (by assumption) ?_)); all_goals (first | omega | (simp; done) | (simp; omega)))).keep (w' := w8) (fun x hx => HT8.out.block x (by have h3 := gO0.out.lt x hx; omega) (fun hy => by have h1 := (gO0.out.lt x hx).1; have h2 := hy.2; (first | omega | (simp at h1; done) | (simp at h1; omega)))))
    have gR0_8 := Lib.hid gO0_8.out.rep
    clear gO0 gR0
    have gO0 := gO0_8; have gR0 := gR0_8; clear gO0_8 gR0_8
    have tk : decide ((1 + (cnts t0.kids : Nat) : Int) < 0) = false := by simp; omega
    go_wp2_with fail
    refine (eqStringS_any _ _ _ r0 (gR0.out.keep (by (repeat' (first | with_reducible exact Below.refl _ _ | with_reducible refine below_alloc ?_ _ ?_ | with_reducible refine Below.setCell ?_ ?_ _ | with_reducible refine Below.drew ?_ | with_reducible refine Go.below_drewN ?_ _ | with_reducible refine below_step ?_ (by assumption) ?_ | with_reducible refine below_mark ?_ (by assumption) ?_)); all_goals (first | omega | (simp; done) | (simp; omega)))) (qR0.out.keep (by (repeat' (first | with_reducible exact Below.refl _ _ | with_reducible refine below_alloc ?_ _ ?_ | with_reducible refine Below.setCell ?_ ?_ _ | with_reducible refine Below.drew ?_ | with_reducible refine Go.below_drewN ?_ _ | with_reducible refine below_step ?_ (by assumption) ?_ | with_reducible refine below_mark ?_ (by assumption) ?_)); all_goals (first | omega | (simp; done) | (simp; omega)))) _ (Below.refl _ _)).mono ?_
    rintro e9 w9 ⟨rfl, hb9⟩
    have hz9 := hb9.size; try simp at hz9
    go_wp2_with fail
    have GB := Lib.hid (gO0.out.stay2 (w' := w9) (by (repeat' (first | with_reducible exact Below.refl _ _ | with_reducible refine below_alloc ?_ _ ?_ | with_reducible refine Below.setCell ?_ ?_ _ | with_reducible refine Below.drew ?_ | with_reducible refine Go.below_drewN ?_ _ | with_reducible refine below_step ?_ (by assumption) ?_ | with_reducible refine below_mark ?_ (by assumption) ?_)); all_goals (first | omega | (simp; done) | (simp; omega))))
    refine (markStringS_any _ _ r0 1 _ GB.out (by omega) (by omega) (by omega)).mono ?_
    rintro e10 w10 ⟨rfl, ho10, hg10⟩
    have HU10 := Lib.hid (fun x hx => gO0.out.lt x hx)
    have HT10 := Lib.hid (touch_of_grown hg10); have HM := Lib.hid ho10.rep; clear ho10 hg10
    have hb10 : Below w4.heap.size w9 w10 := HT10.out.below (fun x hx => by have h1 := (HU10.out x hx).1; (first | omega | (simp at h1; done) | (simp at h1; omega))) (by omega)
    have hz10 := HT10.out.size; try simp at hz10
    have BA0_10 := Lib.hid (Box.over (Box.stay BA0_8.out (w' := w9) (by (repeat' (first | with_reducible exact Below.refl _ _ | with_reducible refine below_alloc ?_ _ ?_ | with_reducible refine Below.setCell ?_ ?_ _ | with_reducible refine Below.drew ?_ | with_reducible refine Go.below_drewN ?_ _ | with_reducible refine below_step ?_ (by assumption) ?_ | with_reducible refine below_mark ?_ (by assumption) ?_)); all_goals (first | omega | (simp; done) | (simp; omega)))) HT10.out (fun hx => by have h1 := (HU10.out _ hx).1; (first | omega | (simp at h1; done) | (simp at h1; omega))))
    have t1 : ((1 + (r0.length : Int)) != (1 + (r0.length : Int))) = false := by simp
    have t2 : decide (1 + (r0.length : Int) < 0) = false := by simp; omega
    go_wp2_with fail
    refine (heldStringS_any _ _ 1 _ (HM.out.keep (by (repeat' (first | with_reducible exact Below.refl _ _ | with_reducible refine below_alloc ?_ _ ?_ | with_reducible refine Below.setCell ?_ ?_ _ | with_reducible refine Below.drew ?_ | with_reducible refine Go.below_drewN ?_ _ | with_reducible refine below_step ?_ (by assumption) ?_ | with_reducible refine below_mark ?_ (by assumption) ?_)); all_goals (first | omega | (simp; done) | (simp; omega)))) _ (Below.refl _ _) (by omega) (by omega) (by omega)).mono ?_
    rintro e11 w11 ⟨rfl, hb11⟩
    have hz11 := hb11.size; try simp at hz11
    have BA0_11 := Lib.hid (Box.stay BA0_10.out (w' := w11) (by (repeat' (first | with_reducible exact Below.refl _ _ | with_reducible refine below_alloc ?_ _ ?_ | with_reducible refine Below.setCell ?_ ?_ _ | with_reducible refine Below.drew ?_ | with_reducible refine Go.below_drewN ?_ _ | with_reducible refine below_step ?_ (by assumption) ?_ | with_reducible refine below_mark ?_ (by assumption) ?_)); all_goals (first | omega | (simp; done) | (simp; omega))))
    obtain ⟨cBA011_0, cBA011_1, cBA011_2, cBA011_3, cBA011_4⟩ := BA0_11.out.cells
    go_wp2_with fail
    clear cBA011_0 cBA011_1 cBA011_2 cBA011_3 cBA011_4
    refine (TO0.out _ (by (repeat' (first | with_reducible exact Below.refl _ _ | with_reducible refine below_alloc ?_ _ ?_ | with_reducible refine Below.setCell ?_ ?_ _ | with_reducible refine Below.drew ?_ | with_reducible refine Go.below_drewN ?_ _ | with_reducible refine below_step ?_ (by assumption) ?_ | with_reducible refine below_mark ?_ (by assumption) ?_)); all_goals (first | omega | (simp; done) | (simp; omega))) (by omega)).mono ?_
    rintro e12 w12 ⟨zs0, rfl, zf0, zo0, hb12⟩
    have hz12 := hb12.size; try simp at hz12
    obtain ⟨za0, zc0, rfl⟩ := zo0.slice
    have zO0 := Lib.hid zo0
    have zR0 := Lib.hid (zo0.repV zf0)
    clear zo0
    unfold V.agg at zR0 ⊢
    go_wp2_with fail
    refine (KI.out _ _ (zR0.out.keep (by (repeat' (first | with_reducible exact Below.refl _ _ | with_reducible refine below_alloc ?_ _ ?_ | with_reducible refine Below.setCell ?_ ?_ _ | with_reducible refine Below.drew ?_ | with_reducible refine Go.below_drewN ?_ _ | with_reducible refine below_step ?_ (by assumption) ?_ | with_reducible refine below_mark ?_ (by assumption) ?_)); all_goals (first | omega | (simp; done) | (simp; omega)))) (by omega) (by (repeat' (first | with_reducible exact Below.refl _ _ | with_reducible refine below_alloc ?_ _ ?_ | with_reducible refine Below.setCell ?_ ?_ _ | with_reducible refine Below.drew ?_ | with_reducible refine Go.below_drewN ?_ _ | with_reducible refine below_step ?_ (by assumption) ?_ | with_reducible refine below_mark ?_ (by assumption) ?_)); all_goals (first | omega | (simp; done) | (simp; omega)))).mono ?_
    rintro e13 w13 ⟨_, rfl, ho0, hb13⟩
    have hz13 := hb13.size; try simp at hz13
    obtain ⟨ha0, hc0, rfl⟩ := ho0.slice
    have hR0 := Lib.hid ho0.rep
    have hO0 := Lib.hid ho0
    clear ho0
    go_wp2_with fail
    refine (eqStringS_any _ _ _ r0 (hR0.out.keep (by (repeat' (first | with_reducible exact Below.refl _ _ | with_reducible refine below_alloc ?_ _ ?_ | with_reducible refine Below.setCell ?_ ?_ _ | with_reducible refine Below.drew ?_ | with_reducible refine Go.below_drewN ?_ _ | with_reducible refine below_step ?_ (by assumption) ?_ | with_reducible refine below_mark ?_ (by assumption) ?_)); all_goals (first | omega | (simp; done) | (simp; omega)))) (qR0.out.keep (by (repeat' (first | with_reducible exact Below.refl _ _ | with_reducible refine below_alloc ?_ _ ?_ | with_reducible refine Below.setCell ?_ ?_ _ | with_reducible refine Below.drew ?_ | with_reducible refine Go.below_drewN ?_ _ | with_reducible refine below_step ?_ (by assumption) ?_ | with_reducible refine below_mark ?_ (by assumption) ?_)); all_goals (first | omega | (simp; done) | (simp; omega)))) _ (Below.refl _ _)).mono ?_
    rintro e14 w14 ⟨rfl, hb14⟩
    have hz14 := hb14.size; try simp at hz14
    go_wp2_with fail
    refine (heldStringS_any _ _ 1 _ (HM.out.keep (by (repeat' (first | with_reducible exact Below.refl _ _ | with_reducible refine below_alloc ?_ _ ?_ | with_reducible refine Below.setCell ?_ ?_ _ | with_reducible refine Below.drew ?_ | with_reducible refine Go.below_drewN ?_ _ | with_reducible refine below_step ?_ (by assumption) ?_ | with_reducible refine below_mark ?_ (by assumption) ?_)); all_goals (first | omega | (simp; done) | (simp; omega)))) _ (Below.refl _ _) (by omega) (by omega) (by omega)).mono ?_
    rintro e15 w15 ⟨rfl, hb15⟩
    have hz15 := hb15.size; try simp at hz15
    go_wp2_with fail
    go_ret
    exact ⟨rfl, (by (repeat' (first | with_reducible exact Below.refl _ _ | with_reducible refine below_alloc ?_ _ ?_ | with_reducible refine Below.setCell ?_ ?_ _ | with_reducible refine Below.drew ?_ | with_reducible refine Go.below_drewN ?_ _ | with_reducible refine below_step ?_ (by assumption) ?_ | with_reducible refine below_mark ?_ (by assumption) ?_)); all_goals (first | omega | (simp; done) | (simp; omega)))⟩
set_option maxRecDepth 100000 in
set_option maxHeartbeats 2000000 in
theorem lifted_FnExactPaths (os : Os) (started : os.Started) (H : Type) (enc : TypeId × Value → H) :
    ReturnsInHanded {} Tryd.checked os 8 .any (fun w args => (Rows.fnExactPathsSpec.pre enc Tryd.prog Tryd.f8 [] false w args ∧ laidMetH Tryd.prog Rows.fnExactPathsRow.laid w) ∧ sizedMet enc Tryd.prog Tryd.f8 (OpenSpec.ofChange Rows.fnExactPathsSpec) false w args)
      (Rows.fnExactPathsSpec.post enc Tryd.prog Tryd.f8 false true false false) := by
  refine handed_and_shaped (C := Tryd.checked) (X := fun w _ => laidMetH Tryd.prog Rows.fnExactPathsRow.laid w) (fun _ _ _ hh h => h.of_heap hh) lawOwn started (by kernel_rfl) Tryd.func8
    (ChangeSpec.witness_shaped (enc := enc) (C := Tryd.checked) (os := os) (X := fun w _ => laidMetH Tryd.prog Rows.fnExactPathsRow.laid w) false (World.laidAll Tryd.prog os Rows.fnExactPathsRow.laid) #[.agg #[.int .i64 0, .int .i64 0, .int .i64 0, .string ByteArray.empty, .slice none 0 0]] 8 (World.laidAll_os _ _ _)
      (World.shaped_of_ZipB (by kernel_rfl) (by kernel_rfl)) (by kernel_rfl) (by kernel_rfl) (by kernel_rfl)
      (by rw [MakeChecks.laidMetH_plain _ _ _ (by kernel_rfl)]; exact laidMet_laidAll _ (by kernel_rfl) (by kernel_rfl))) ?_
  intro W base args ds gs before hval0 hW _ _ hL hSh _
  have hval : ∀ (j : Nat) t v, Tryd.f8.params[j]? = some t → args[j]? = some v → Value.okWide Tryd.prog W .any base t v := hval0
  have hW' := hW
  obtain ⟨p, q, hA0, hV, hpq, hfz, hnd⟩ := hW
  have hA : DataW.TrodAll enc Tryd.prog W 0 (fun _ => true) true Tryd.f8.params.toList args.toList ds p := hA0
  rw [Tryd.params8] at hA hval
  rw [MakeChecks.laidMetH_plain _ _ _ (by kernel_rfl)] at hL
  have hE : EnvP W := envP_of (Lib.laidMet.reads hL (.tail _ (.tail _ (.tail _ (.tail _ (.head _)))))) (Lib.laidMet.reads hL (.tail _ (.tail _ (.tail _ (.head _))))) (Lib.laidMet.reads hL (.tail _ (.tail _ (.head _)))) hSh
  obtain ⟨v0, vs0, d0, ds0, p0, q0, hargs, rfl, hp, h0, r0⟩ := trodAll_cons hA
  obtain ⟨rfl, rfl, rfl⟩ := trodAll_nil r0
  obtain rfl : args = #[v0] := by cases args; simp_all
  obtain ⟨a0, w0⟩ := open_V (okV (hval 0 24 v0 rfl rfl)) h0
  refine (walk_FnExactPaths v0 a0 w0 W rfl hE).mono fun e W' ⟨he, hb⟩ => ?_
  subst he
  refine ⟨_, rfl, law_post rfl rfl rfl ?_ hW' hb⟩
  rw [Tryd.params8]
  intro t ht
  obtain rfl := List.mem_singleton.1 ht
  exact ⟨by kernel_rfl, of_decide_eq_true (by kernel_rfl)⟩
set_option maxHeartbeats 4000000 in
theorem row_FnExactPaths : Rows.FnExactPathsSaid :=
  OpenClaim.holds_of_wide 8 Tryd.f8 rfl rfl rfl rfl rfl rfl rfl ⟨rfl, rfl, rfl, rfl, rfl⟩ rfl rfl rfl rfl rfl (by as_aux_lemma => kernel_rfl) Tryd.func8 (by as_aux_lemma => kernel_rfl)
    (of_decide_eq_true (by as_aux_lemma => kernel_rfl)) (by unfold Func.isWrapper; first | (rw [if_pos (by decide +kernel)]; kernel_rfl) | (rw [if_neg (by decide +kernel)]; exact ⟨rfl, rfl⟩))
    (fun os started H enc _ => lifted_FnExactPaths os started H enc)
set_option maxHeartbeats 4000000 in
theorem holds_FnExactPathsCard : Rows.FnExactPathsCardSaid :=
  Claim7.holds_tied_plain_at .later [] [.data, .data, .data, .data, .pinned] true (true, "c7085f3e2e44c065c9c42405b29ce271b32a0d9a161dc24b364064584e701bba") true row_FnExactPaths (fun _ h => by cases h) (by as_aux_lemma => kernel_rfl) (fun _ h => by cases h) fnExactPaths_row_tie rfl ⟨rfl, rfl⟩ (by as_aux_lemma => kernel_rfl) rfl
    (fun f fn hf hfn => by
      obtain rfl : f = 8 := Option.some.inj ((show Tryd.prog.funcNamed "loop.example/g00421/laws.FnExactPaths" = some 8 by as_aux_lemma => kernel_rfl).symm.trans hf) |>.symm
      obtain rfl : fn = Tryd.f8 := (Option.some.inj (Tryd.func8.symm.trans hfn)).symm
      exact ⟨by as_aux_lemma => kernel_rfl, fun j t ht => by
        have hm : t ∈ Tryd.f8.params.toList := by simpa using Array.mem_of_getElem? ht
        have hall : (Tryd.f8.params.toList.all fun u => !Tryd.prog.wantsStandIn u) = true := by as_aux_lemma => kernel_rfl
        exact (show Tryd.prog.wantsStandIn t = false by simpa using List.all_eq_true.1 hall t hm)⟩)
    (by as_aux_lemma => kernel_rfl)
#print axioms holds_FnExactPathsCard
end Go.Proofs.YtfjehhdahpbbgaaDoor
