/- The reference's UnmapKeys: l11Unmap. -/
import Derived.Test.YtllngpnhhpnjoaaDoorKeyT
namespace Go.Proofs.YtllngpnhhpnjoaaDoor
set_option linter.unusedVariables false
set_option maxRecDepth 100000
open Go.RowKit
/-- a turned value and true, or any value and false -/
def ByRet (o : Option V) (w : World) (e : Ending) (w' : World) : Prop := match o with
  | some u => ∃ sl, e = .returned (.tuple #[u.agg sl, .bool true]) ∧ u.wf ∧ OwnS w' (fun x => w.heap.size ≤ x) sl u.kids ∧ Below w.heap.size w w'
  | none => ∃ (t' : V) (a : Option Addr) (n c : Nat), e = .returned (.tuple #[t'.agg (.slice a n c), .bool false]) ∧ Below w.heap.size w w'
theorem zero5_wf (k n : Int) (s : ByteArray) (hk : In64 k) (hn : In64 n) (hs : s.size ≤ 9223372036854775807) : (V.mk k n 0 s []).wf := ⟨hk, hn, ⟨by show (-9223372036854775808 : Int) ≤ 0; omega, by show (0 : Int) ≤ _; omega⟩, hs⟩
theorem in64_small {n : Int} (h0 : 0 ≤ n) (h1 : n ≤ 9223372036854775807) : In64 n := ⟨by omega, h1⟩
theorem RepSs.getB {w : World} {a : Option Addr} {n c : Nat} {l : List ByteArray} (h : RepSs w (.slice a n c) l) : n = l.length ∧ l.length ≤ 9223372036854775807 ∧ ∀ j, (hj : j < l.length) → ∃ b off, a = some ⟨b, off, none⟩ ∧ w.cell? ⟨b, off + j, none⟩ = some (.string l[j]) ∧ l[j].size ≤ 9223372036854775807 := by
  obtain ⟨a', b, off, cap, hv, ha, hc, hm, hcell⟩ := h
  simp only [Value.slice.injEq] at hv
  obtain ⟨rfl, rfl, rfl⟩ := hv
  refine ⟨rfl, by omega, fun j hj => ?_⟩
  have hne : l ≠ [] := by intro e; rw [e] at hj; simp at hj
  exact ⟨b, off, (ha hne).1, (hcell j hj).1, (hcell j hj).2⟩
set_option maxHeartbeats 2000000 in
theorem l11Unmap_any (w0 : World) (nv : Value) (l : List ByteArray) (hl0 : RepSs w0 nv l) : ∀ (N : Nat) (v : Value) (t : V) (d : Int), t.sz < N → rightB t d = true → Rep w0 v t → t.sz ≤ 1048576 → ∀ (w : World), Below w0.heap.size w0 w →
    Calls Tryd.prog 82 #[v, nv] w (ByRet (trn (unS l) t) w) := by
  intro N
  induction N with
  | zero => intro v t d h; omega
  | succ N ih =>
  intro v t d hN hright h hsz w hw
  obtain ⟨sl, rfl, hwf, hr⟩ := h
  have hts := V.sz_eq t
  have hlen := szs_length t.kids
  have HPS := Lib.hid (show ∀ us, trns (unS l) (decide (t.k = 8)) 0 t.kids = some us → ∀ e w', (∃ sl, e = .returned (.tuple #[.agg #[.int .i64 t.k, .int .i64 t.n, .int .i64 t.e, .string t.s, sl], .bool true]) ∧ OwnS w' (fun x => w.heap.size ≤ x) sl us ∧ Below w.heap.size w w') → ByRet (trn (unS l) t) w e w' from
    fun us hu e w' ⟨sl, h1, h2, h3⟩ => by rw [trn_eq, hu]; exact ⟨sl, h1, hwf, h2, h3⟩)
  have HPN := Lib.hid (show trns (unS l) (decide (t.k = 8)) 0 t.kids = none → ∀ e w', (∃ t' a n c, e = .returned (.tuple #[V.agg t' (.slice a n c), .bool false]) ∧ Below w.heap.size w w') → ByRet (trn (unS l) t) w e w' from
    fun hu e w' h => by rw [trn_eq, hu]; exact h)
  obtain ⟨a, b, off, cap, rfl, ha, hc, hm, sls, hel⟩ := hr.opened
  have HA := Lib.hid ha; have HE := Lib.hid hel; have HW := Lib.hid hw
  have HR := Lib.hid (fun (j : Nat) (hj : j < t.kids.length) => rightsB_at (right_kids hright) j hj)
  have HKY := Lib.hid (fun (j : Nat) (hj : j < t.kids.length) (h8 : t.k = 8) (h2 : j % 2 = 0) => key_at hright h8 j hj h2)
  have V1 := Lib.hid (fun (j : Nat) (hj : j < t.kids.length) (W : World) (hW : Below w0.heap.size w0 W) => ih (t.kids[j].agg (sls j)) t.kids[j] (d - 1) (by have h1 := szs_mem (List.getElem_mem hj); omega) (HR.out j hj) ⟨sls j, rfl, (HE.out j hj).2.1, (HE.out j hj).2.2⟩ (by have h1 := szs_mem (List.getElem_mem hj); omega) W hW)
  have HT := Lib.hid (fun (j : Nat) (hj : j < t.kids.length) => trns_take (unS l) (decide (t.k = 8)) t.kids j hj)
  have hl : t.kids.length ≤ 1048576 := by omega
  obtain ⟨na, nn, nc, rfl⟩ : ∃ a n c, nv = .slice a n c := by obtain ⟨a, _, _, c, h, _⟩ := hl0; exact ⟨a, _, c, h⟩
  have HLB := Lib.hid (hl0.getB)
  have HLK := Lib.hid (fun (W : World) (hW : Below w0.heap.size w0 W) => (hl0.keep hW).getB.2.2)
  have HKL := Lib.hid (fun (j : Nat) (hj : j < t.kids.length) (hk : isKeyB t.kids[j] = true) => leaf_trn (unS l) (key_leaf (HR.out j hj) hk))
  have BX := Lib.hid (show Box (((w.alloc (.cells #[.int .i64 t.k, .int .i64 t.n, .int .i64 t.e, .string t.s, .slice a t.kids.length cap] 30)).alloc (.cells #[.int .i64 0, .int .i64 0, .int .i64 0, .string ⟨#[]⟩, .slice none 0 0] 30)).alloc (.cells #[.int .i64 t.k, .int .i64 t.n, .int .i64 t.e, .string t.s, .slice none 0 0] 30)) w.heap.size t.k t.n t.e t.s (.slice a t.kids.length cap) 30 from ((Box.new w _ _ _ _ _ _).alloc _).alloc _)
  have BZ := Lib.hid (show Box (((w.alloc (.cells #[.int .i64 t.k, .int .i64 t.n, .int .i64 t.e, .string t.s, .slice a t.kids.length cap] 30)).alloc (.cells #[.int .i64 0, .int .i64 0, .int .i64 0, .string ⟨#[]⟩, .slice none 0 0] 30)).alloc (.cells #[.int .i64 t.k, .int .i64 t.n, .int .i64 t.e, .string t.s, .slice none 0 0] 30)) (w.heap.size + 1) 0 0 0 ⟨#[]⟩ (.slice none 0 0) 30 by
    have := (Box.new (w.alloc (.cells #[.int .i64 t.k, .int .i64 t.n, .int .i64 t.e, .string t.s, .slice a t.kids.length cap] 30)) 0 0 0 ⟨#[]⟩ (.slice none 0 0) 30).alloc (.cells #[.int .i64 t.k, .int .i64 t.n, .int .i64 t.e, .string t.s, .slice none 0 0] 30)
    rwa [show (w.alloc (.cells #[.int .i64 t.k, .int .i64 t.n, .int .i64 t.e, .string t.s, .slice a t.kids.length cap] 30)).heap.size = w.heap.size + 1 by simp] at this)
  have BO := Lib.hid (show Box (((w.alloc (.cells #[.int .i64 t.k, .int .i64 t.n, .int .i64 t.e, .string t.s, .slice a t.kids.length cap] 30)).alloc (.cells #[.int .i64 0, .int .i64 0, .int .i64 0, .string ⟨#[]⟩, .slice none 0 0] 30)).alloc (.cells #[.int .i64 t.k, .int .i64 t.n, .int .i64 t.e, .string t.s, .slice none 0 0] 30)) (w.heap.size + 1 + 1) t.k t.n t.e t.s (.slice none 0 0) 30 by
    have := Box.new ((w.alloc (.cells #[.int .i64 t.k, .int .i64 t.n, .int .i64 t.e, .string t.s, .slice a t.kids.length cap] 30)).alloc (.cells #[.int .i64 0, .int .i64 0, .int .i64 0, .string ⟨#[]⟩, .slice none 0 0] 30)) t.k t.n t.e t.s (.slice none 0 0) 30
    rwa [show ((w.alloc (.cells #[.int .i64 t.k, .int .i64 t.n, .int .i64 t.e, .string t.s, .slice a t.kids.length cap] 30)).alloc (.cells #[.int .i64 0, .int .i64 0, .int .i64 0, .string ⟨#[]⟩, .slice none 0 0] 30)).heap.size = w.heap.size + 1 + 1 by simp] at this)
  clear ih hel ha hc hm hN hr hwf hlen hts hsz hl0 hright
  unfold V.agg
  generalize trn (unS l) t = TR at *
  generalize t.k = k at *
  generalize t.n = n at *
  generalize t.e = e at *
  generalize t.s = s at *
  generalize t.kids = ts at *
  go_enter Tryd.func82, Tryd.ntmps82
  go_wp2_with fail
  have HBW := Lib.hid (show Below w.heap.size w (((w.alloc (.cells #[.int .i64 k, .int .i64 n, .int .i64 e, .string s, .slice a ts.length cap] 30)).alloc (.cells #[.int .i64 0, .int .i64 0, .int .i64 0, .string ⟨#[]⟩, .slice none 0 0] 30)).alloc (.cells #[.int .i64 k, .int .i64 n, .int .i64 e, .string s, .slice none 0 0] 30)) from (by (repeat' (first | with_reducible exact Below.refl _ _ | with_reducible refine below_alloc ?_ _ ?_ | with_reducible refine Below.setCell ?_ ?_ _ | with_reducible refine Below.drew ?_ | with_reducible refine below_drewN ?_ _ | with_reducible refine below_step ?_ (by assumption) ?_ | with_reducible refine below_mark ?_ (by assumption) ?_)); all_goals (first | omega | (simp; done) | (simp; omega))))
  have HZW := Lib.hid (show (((w.alloc (.cells #[.int .i64 k, .int .i64 n, .int .i64 e, .string s, .slice a ts.length cap] 30)).alloc (.cells #[.int .i64 0, .int .i64 0, .int .i64 0, .string ⟨#[]⟩, .slice none 0 0] 30)).alloc (.cells #[.int .i64 k, .int .i64 n, .int .i64 e, .string s, .slice none 0 0] 30)).heap.size = w.heap.size + 1 + 1 + 1 by simp)
  generalize (((w.alloc (.cells #[.int .i64 k, .int .i64 n, .int .i64 e, .string s, .slice a ts.length cap] 30)).alloc (.cells #[.int .i64 0, .int .i64 0, .int .i64 0, .string ⟨#[]⟩, .slice none 0 0] 30)).alloc (.cells #[.int .i64 k, .int .i64 n, .int .i64 e, .string s, .slice none 0 0] 30)) = W3 at *
  obtain ⟨rfl, hl63, -⟩ := HLB.out
  clear HLB
  go_loopw [7, 8, 9] (fun i _ _ wr => ∃ (j : Nat) (G : Nat → Prop) (o : Value) (L1 : List V), j ≤ ts.length ∧ i = .int .i64 j ∧ trns (unS l) (decide (k = 8)) 0 (ts.take j) = some L1 ∧ Acc W3 wr (w.heap.size + 1 + 1) (w.heap.size + 1 + 1 + 1) k n e s L1 o G) (fun i _ _ _ => ts.length + 1 - (intOf i).toNat)
  case atStart => exact ⟨0, _, _, [], by omega, rfl, by rw [List.take_zero, trns], Acc.nil BO.out (Below.refl _ _)⟩
  case round =>
    obtain ⟨j, G, o, L1, hj, rfl, htr, hacc⟩ := hrel
    have HACC := Lib.hid hacc; have HTR := Lib.hid htr; clear hacc htr
    have HBL := Lib.hid (HBW.out.trans (HACC.out.2.2.mono (by omega)))
    have hz9 := HACC.out.2.2.size
    rw [HZW.out] at hz9
    obtain ⟨q0, q1, q2, q3, q4⟩ := (show Box wr w.heap.size k n e s (.slice a ts.length cap) 30 from (HACC.out.2.2.block w.heap.size (by omega)).trans BX.out).cells
    by_cases hlt : j < ts.length
    · have hne : ts ≠ [] := by intro e; rw [e] at hlt; simp at hlt
      obtain ⟨rfl, hbw⟩ := HA.out hne
      have HWR := Lib.hid (HW.out.trans (HBL.out.mono HW.out.size))
      obtain ⟨c0, c1, c2, c3, c4⟩ := (HE.out j hlt).1.keep (HWR.out.block b hbw)
      have VJ := Lib.hid (fun (W : World) (hW : Below wr.heap.size wr W) => V1.out j hlt W (below_step HWR.out hW (by have := HWR.out.size; omega)))
      have HTJ0 := Lib.hid (HT.out j hlt)
      rw [HTR.out, Option.bind_some] at HTJ0
      have HLEN := Lib.hid (show L1.length ≤ 1048576 by have := (trns_get _ _ _ _ _ HTR.out).1; rw [this, List.length_take]; omega)
      have HSTK := Lib.hid (show trns (unS l) (decide (k = 8)) 0 (ts.take (j + 1)) = none → trns (unS l) (decide (k = 8)) 0 ts = none from trns_none _ _ _ _)
      have HUS := Lib.hid (show ∀ (b : Bool) (t : V) (r : Option V), unS l b t r = r.bind fun u => if b = true ∧ u.k = 3 then unkey l u.n else some u from fun _ _ _ => rfl)
      have HKYJ := Lib.hid (fun h8 h2 => HKY.out j hlt h8 h2)
      have HKLJ := Lib.hid (fun hk => HKL.out j hlt hk)
      have HKWF := Lib.hid ((HE.out j hlt).2.1)
      obtain ⟨a3, cap3, hs3⟩ := (HE.out j hlt).2.2.slice
      rw [hs3] at c4 VJ
      clear hs3 V1 HT HKL HKY
      unfold V.agg at VJ
      generalize htu : trn (unS l) ts[j] = ou at *
      clear htu
      generalize ts[j] = tk at *
      cases hou : ou with
      | none =>
        have HNO := Lib.hid (HPN.out (HSTK.out (by rw [HTJ0.out, HUS.out, hou]; rfl)))
        have hnk : (k == 8) = false ∨ ((k == 8) = true ∧ (((j : Int) % 2 == 0) = false)) := by
          by_cases h8 : k = 8
          · by_cases h2 : j % 2 = 0
            · have := HKLJ.out (HKYJ.out h8 h2); rw [hou] at this; cases this
            · exact .inr ⟨by simpa using h8, by simp; omega⟩
          · exact .inl (by simpa using h8)
        rw [hou] at VJ
        clear HTJ0 HSTK HUS HKYJ HKLJ hou HPS HTR
        go_wp2_with fail
        refine (VJ.out _ (Below.refl _ _)).mono ?_
        rintro x w1 ⟨t', sa, sn, sc, rfl, hb1⟩
        unfold V.agg
        have hz1 := hb1.size
        have BXr := Lib.hid ((show Box wr w.heap.size k n e s (.slice (some ⟨b, off, none⟩) ts.length cap) 30 from (HACC.out.2.2.block w.heap.size (by omega)).trans BX.out).stay hb1)
        have BZr := Lib.hid ((show Box wr (w.heap.size + 1) 0 0 0 ⟨#[]⟩ (.slice none 0 0) 30 from (HACC.out.2.2.block (w.heap.size + 1) (by omega)).trans BZ.out).stay hb1)
        obtain ⟨p0, p1, p2, p3, p4⟩ := BXr.out.cells
        obtain ⟨z0, z1, z2, z3, z4⟩ := BZr.out.cells
        have zf0 := BZr.out.free (i := 0); have zf1 := BZr.out.free (i := 1); have zf2 := BZr.out.free (i := 2); have zf3 := BZr.out.free (i := 3); have zf4 := BZr.out.free (i := 4)
        have hw1n : w.heap.size ≠ w1.heap.size := by omega
        have hw1s : w1.heap.size ≠ w.heap.size := by omega
        have hw1l : w.heap.size < w1.heap.size := by omega
        have hw2n : w.heap.size + 1 ≠ w1.heap.size := by omega
        have hw2s : w1.heap.size ≠ w.heap.size + 1 := by omega
        have hw2l : w.heap.size + 1 < w1.heap.size := by omega
        clear q0 q1 q2 q3 q4 c0 c1 c2 c3 c4
        rcases hnk with t1 | ⟨t1, t2⟩
        all_goals
          go_wp2_with fail
          refine bodyPost_ret (v := .tuple #[.agg #[.int .i64 k, .int .i64 n, .int .i64 e, .string s, .slice (some ⟨b, off, none⟩) ts.length cap], .bool false]) (by simp [results, Tryd.results82, go_sem, z0, z1, z2, z3, z4, hw2n, hw2s, hw2l]) rfl (HNO.out _ _ ⟨.mk k n e s [], _, _, _, rfl, ?_⟩)
          have hbl9 := HBL.out
          exact (by (repeat' (first | with_reducible exact Below.refl _ _ | with_reducible refine below_alloc ?_ _ ?_ | with_reducible refine Below.setCell ?_ ?_ _ | with_reducible refine Below.drew ?_ | with_reducible refine below_drewN ?_ _ | with_reducible refine below_step ?_ (by assumption) ?_ | with_reducible refine below_mark ?_ (by assumption) ?_)); all_goals (first | omega | (simp; done) | (simp; omega)))
      | some u =>
        rw [hou] at VJ
        have HTJ1 := HTJ0
        rw [HUS.out, hou, Option.bind_some] at HTJ1
        go_wp2_with fail
        refine (VJ.out _ (Below.refl _ _)).mono ?_
        rintro x w1 ⟨s2, rfl, twf, ho, hb1⟩
        obtain ⟨sa, sn, sc, rfl⟩ : ∃ sa sn sc, s2 = .slice sa sn sc := by obtain ⟨p, q, e⟩ := ho.slice; exact ⟨p, _, q, e⟩
        unfold V.agg
        have hz1 := hb1.size
        have HO := Lib.hid ho.bound; clear ho
        have HWF := Lib.hid twf; clear twf
        have BXr := Lib.hid ((show Box wr w.heap.size k n e s (.slice (some ⟨b, off, none⟩) ts.length cap) 30 from (HACC.out.2.2.block w.heap.size (by omega)).trans BX.out).stay hb1)
        have BZr := Lib.hid ((show Box wr (w.heap.size + 1) 0 0 0 ⟨#[]⟩ (.slice none 0 0) 30 from (HACC.out.2.2.block (w.heap.size + 1) (by omega)).trans BZ.out).stay hb1)
        obtain ⟨p0, p1, p2, p3, p4⟩ := BXr.out.cells
        obtain ⟨g0, g1, g2, g3, g4⟩ := (HACC.out.1.stay hb1).cells
        have hw1n : w.heap.size ≠ w1.heap.size := by omega
        have hw1s : w1.heap.size ≠ w.heap.size := by omega
        have hw1l : w.heap.size < w1.heap.size := by omega
        have hw2n : w.heap.size + 1 ≠ w1.heap.size := by omega
        have hw2s : w1.heap.size ≠ w.heap.size + 1 := by omega
        have hw2l : w.heap.size + 1 < w1.heap.size := by omega
        have hw1m : w.heap.size + 1 + 1 ≠ w1.heap.size := by omega
        have hw1k : w.heap.size + 1 + 1 < w1.heap.size := by omega
        have hw1t : w1.heap.size ≠ w.heap.size + 1 + 1 := by omega
        clear q0 q1 q2 q3 q4 c0 c1 c2 c3 c4
        by_cases hyes : k = 8 ∧ j % 2 = 0 ∧ u.k = 3
        · have t1 : (k == 8) = true := by simpa using hyes.1
          have t2 : ((j : Int) % 2 == 0) = true := by have := hyes.2.1; simp; omega
          have t3 : (u.k == 3) = true := by simpa using hyes.2.2
          have HUK := Lib.hid (show (decide (k = 8) && decide (j % 2 = 0)) = true ∧ u.k = 3 from ⟨by simp [hyes.1, hyes.2.1], hyes.2.2⟩)
          have HIN := Lib.hid (fun W => l01In_any u.n 0 ((l.length : Int) - 1) W)
          rw [if_pos HUK.out] at HTJ1
          by_cases hin : 0 ≤ u.n ∧ u.n ≤ (l.length : Int) - 1
          · have HK := Lib.hid (show unkey l u.n = some (textV (l.getD u.n.toNat ⟨#[]⟩)) from if_pos hin)
            rw [HK.out, Option.map_some] at HTJ1
            have HTJ := HTJ1
            rw [decide_eq_true hin] at HIN
            have hix : u.n.toNat < l.length := by omega
            have HSZ := Lib.hid (show In64 u.n from HWF.out.2.1)
            obtain ⟨nb, noff, rfl, hcell, hsz2⟩ := HLK.out wr HWR.out _ hix
            have hnb : nb < wr.heap.size := World.block_lt_of_cell? _ _ hcell
            have hcell1 : w1.cell? ⟨nb, noff + u.n.toNat, none⟩ = some (.string l[u.n.toNat]) := by rw [hb1.cell (p := ⟨nb, noff + u.n.toNat, none⟩) hnb]; exact hcell
            have e9 : l.getD u.n.toNat ⟨#[]⟩ = l[u.n.toNat] := by rw [List.getD_eq_getElem?_getD, List.getElem?_eq_getElem hix]; rfl
            rw [e9] at HTJ
            have HWI := Lib.hid (zero5_wf 5 0 l[u.n.toNat] ⟨by omega, by omega⟩ ⟨by omega, by omega⟩ hsz2)
            have hnb1 : nb < w1.heap.size := by omega
            have hnb2 : w1.heap.size ≠ nb := by omega
            have hnb3 : nb ≠ w1.heap.size := by omega
            have hi1 := hin.1
            have hi2 : u.n < (l.length : Int) := by omega
            generalize l[u.n.toNat] = ls at *
            have hm1 : wrap64 ((l.length : Int) - 1) = (l.length : Int) - 1 := by unfold wrap64; omega
            clear HPN HSTK HUS HKYJ HKLJ HTJ0 HTJ1 hou hyes hin HK e9 HPS HLK hcell HTR
            have HTJ := Lib.hid HTJ
            go_wp2_with fail
            refine (HIN.out _).mono ?_
            rintro x w1' ⟨rfl, rfl⟩
            go_wp2_with fail
            refine (l02Str_any ls _).mono ?_
            rintro x w3 ⟨rfl, hb3⟩
            have hz3 := hb3.size
            simp at hz3
            have BK := Lib.hid ((Box.new w1 u.k u.n u.e u.s (.slice sa sn sc) 30).stay hb3)
            obtain ⟨y0, y1, y2, y3, y4⟩ := BK.out.cells
            have yf0 := BK.out.free (i := 0); have yf1 := BK.out.free (i := 1); have yf2 := BK.out.free (i := 2); have yf3 := BK.out.free (i := 3); have yf4 := BK.out.free (i := 4)
            clear g0 g1 g2 g3 g4 p0 p1 p2 p3 p4 BXr BZr BK
            obtain ⟨g0, g1, g2, g3, g4⟩ := (HACC.out.stay (show Below wr.heap.size wr w3 from (by (repeat' (first | with_reducible exact Below.refl _ _ | with_reducible refine below_alloc ?_ _ ?_ | with_reducible refine Below.setCell ?_ ?_ _ | with_reducible refine Below.drew ?_ | with_reducible refine below_drewN ?_ _ | with_reducible refine below_step ?_ (by assumption) ?_ | with_reducible refine below_mark ?_ (by assumption) ?_)); all_goals (first | omega | (simp; done) | (simp; omega))))).1.cells
            go_wp2_with (at_builtin; refine app_own rfl _ _ rfl (w.heap.size + 1 + 1 + 1) G (fun _ => False) _ L1 rfl ((HACC.out.stay ((by (repeat' (first | with_reducible exact Below.refl _ _ | with_reducible refine below_alloc ?_ _ ?_ | with_reducible refine Below.setCell ?_ ?_ _ | with_reducible refine Below.drew ?_ | with_reducible refine below_drewN ?_ _ | with_reducible refine below_step ?_ (by assumption) ?_ | with_reducible refine below_mark ?_ (by assumption) ?_)); all_goals (first | omega | (simp; done) | (simp; omega))))).2.1) (textV ls) (.slice none 0 0) _ rfl (by first | exact heap_alloc_here _ (by simp) | exact heap_alloc_here _ rfl) HWI.out (OwnS.nil _ _) (fun x hx => hx.elim) (by have := HLEN.out; omega) (by simp; omega) ?_; intro v2 w2 hrow2 hg2 hfr2; obtain ⟨va, vn, vc, rfl⟩ := hrow2.slice3; have HG2 := Lib.hid hg2; have HR2 := Lib.hid hrow2; have HB2 := Lib.hid (show Box w2 (w.heap.size + 1 + 1) k n e s o 30 from (hg2.block (w.heap.size + 1 + 1) (by simp; omega) (fun e => by have := (HACC.out.2.1.lt _ e.symm).1; omega)).trans (HACC.out.stay ((by (repeat' (first | with_reducible exact Below.refl _ _ | with_reducible refine below_alloc ?_ _ ?_ | with_reducible refine Below.setCell ?_ ?_ _ | with_reducible refine Below.drew ?_ | with_reducible refine below_drewN ?_ _ | with_reducible refine below_step ?_ (by assumption) ?_ | with_reducible refine below_mark ?_ (by assumption) ?_)); all_goals (first | omega | (simp; done) | (simp; omega))))).1); have hfz := HB2.out.free (i := 4); have hcc := HB2.out.cells.2.2.2.2; clear hrow2 hg2 hfr2)
            go_roundw
            case rel => exact ⟨j + 1, _, _, _, by omega, by go_num, HTJ.out, HACC.out.put (by omega) ((by (repeat' (first | with_reducible exact Below.refl _ _ | with_reducible refine below_alloc ?_ _ ?_ | with_reducible refine Below.setCell ?_ ?_ _ | with_reducible refine Below.drew ?_ | with_reducible refine below_drewN ?_ _ | with_reducible refine below_step ?_ (by assumption) ?_ | with_reducible refine below_mark ?_ (by assumption) ?_)); all_goals (first | omega | (simp; done) | (simp; omega)))) HG2.out HR2.out⟩
            case measure => simp [intOf]; omega
          · have HNO := Lib.hid (HPN.out (HSTK.out (by rw [HTJ1, show unkey l u.n = none from if_neg hin]; rfl)))
            rw [decide_eq_false hin] at HIN
            obtain ⟨z0, z1, z2, z3, z4⟩ := BZr.out.cells
            have zf0 := BZr.out.free (i := 0); have zf1 := BZr.out.free (i := 1); have zf2 := BZr.out.free (i := 2); have zf3 := BZr.out.free (i := 3); have zf4 := BZr.out.free (i := 4)
            have hm1 : wrap64 ((l.length : Int) - 1) = (l.length : Int) - 1 := by unfold wrap64; omega
            clear HPN HSTK HUS HKYJ HKLJ HTJ0 HTJ1 hou hyes hin HPS HLK HTR
            go_wp2_with fail
            refine (HIN.out _).mono ?_
            rintro x w1' ⟨rfl, rfl⟩
            go_wp2_with fail
            refine bodyPost_ret (v := .tuple #[.agg #[.int .i64 k, .int .i64 n, .int .i64 e, .string s, .slice (some ⟨b, off, none⟩) ts.length cap], .bool false]) (by simp [results, Tryd.results82, go_sem, z0, z1, z2, z3, z4, hw2n, hw2s, hw2l]) rfl (HNO.out _ _ ⟨.mk k n e s [], _, _, _, rfl, ?_⟩)
            have hbl9 := HBL.out
            exact (by (repeat' (first | with_reducible exact Below.refl _ _ | with_reducible refine below_alloc ?_ _ ?_ | with_reducible refine Below.setCell ?_ ?_ _ | with_reducible refine Below.drew ?_ | with_reducible refine below_drewN ?_ _ | with_reducible refine below_step ?_ (by assumption) ?_ | with_reducible refine below_mark ?_ (by assumption) ?_)); all_goals (first | omega | (simp; done) | (simp; omega)))
        · have HTJ := HTJ1
          rw [if_neg (by rintro ⟨h1, h2⟩; simp only [Bool.and_eq_true, decide_eq_true_eq] at h1; exact hyes ⟨h1.1, h1.2, h2⟩), Option.map_some] at HTJ
          have key : ((k == 8) = false) ∨ ((k == 8) = true ∧ (((j : Int) % 2 == 0) = false)) ∨ ((k == 8) = true ∧ (((j : Int) % 2 == 0) = true) ∧ ((u.k == 3) = false)) := by
            by_cases h8 : k = 8
            · by_cases h2 : j % 2 = 0
              · exact .inr (.inr ⟨by simpa using h8, by simp; omega, by simpa using fun e => hyes ⟨h8, h2, e⟩⟩)
              · exact .inr (.inl ⟨by simpa using h8, by simp; omega⟩)
            · exact .inl (by simpa using h8)
          clear hyes HPN HSTK HUS HKYJ HKLJ HTJ0 HTJ1 hou HPS HLK HTR BXr BZr
          have HTJ := Lib.hid HTJ
          rcases key with t1 | ⟨t1, t2⟩ | ⟨t1, t2, t3⟩
          all_goals
            go_wp2_with (at_builtin; refine app_own rfl _ _ rfl (w.heap.size + 1 + 1 + 1) G (fun x => wr.heap.size ≤ x ∧ x < w1.heap.size) _ L1 rfl ((HACC.out.stay ((by (repeat' (first | with_reducible exact Below.refl _ _ | with_reducible refine below_alloc ?_ _ ?_ | with_reducible refine Below.setCell ?_ ?_ _ | with_reducible refine Below.drew ?_ | with_reducible refine below_drewN ?_ _ | with_reducible refine below_step ?_ (by assumption) ?_ | with_reducible refine below_mark ?_ (by assumption) ?_)); all_goals (first | omega | (simp; done) | (simp; omega))))).2.1) u (.slice sa sn sc) _ rfl (by first | exact heap_alloc_here _ (by simp) | exact heap_alloc_here _ rfl) HWF.out (HO.out.keep (fun x hx hxs => (show Below w1.heap.size w1 _ from (by (repeat' (first | with_reducible exact Below.refl _ _ | with_reducible refine below_alloc ?_ _ ?_ | with_reducible refine Below.setCell ?_ ?_ _ | with_reducible refine Below.drew ?_ | with_reducible refine below_drewN ?_ _ | with_reducible refine below_step ?_ (by assumption) ?_ | with_reducible refine below_mark ?_ (by assumption) ?_)); all_goals (first | omega | (simp; done) | (simp; omega)))).block x hxs)) (fun x hx => ⟨by omega, by simp; omega, fun hG => by have := (HACC.out.2.1.inG x hG).2; omega, fun e => by have := (HACC.out.2.1.lt x e).2; omega⟩) (by have := HLEN.out; omega) (by simp; omega) ?_; intro v2 w2 hrow2 hg2 hfr2; obtain ⟨va, vn, vc, rfl⟩ := hrow2.slice3; have HG2 := Lib.hid hg2; have HR2 := Lib.hid hrow2; have HB2 := Lib.hid (show Box w2 (w.heap.size + 1 + 1) k n e s o 30 from (hg2.block (w.heap.size + 1 + 1) (by simp; omega) (fun e => by have := (HACC.out.2.1.lt _ e.symm).1; omega)).trans (HACC.out.stay ((by (repeat' (first | with_reducible exact Below.refl _ _ | with_reducible refine below_alloc ?_ _ ?_ | with_reducible refine Below.setCell ?_ ?_ _ | with_reducible refine Below.drew ?_ | with_reducible refine below_drewN ?_ _ | with_reducible refine below_step ?_ (by assumption) ?_ | with_reducible refine below_mark ?_ (by assumption) ?_)); all_goals (first | omega | (simp; done) | (simp; omega))))).1); have hfz := HB2.out.free (i := 4); have hcc := HB2.out.cells.2.2.2.2; clear hrow2 hg2 hfr2)
            go_roundw
            case rel => exact ⟨j + 1, _, _, _, by omega, by go_num, HTJ.out, HACC.out.put (by omega) ((by (repeat' (first | with_reducible exact Below.refl _ _ | with_reducible refine below_alloc ?_ _ ?_ | with_reducible refine Below.setCell ?_ ?_ _ | with_reducible refine Below.drew ?_ | with_reducible refine below_drewN ?_ _ | with_reducible refine below_step ?_ (by assumption) ?_ | with_reducible refine below_mark ?_ (by assumption) ?_)); all_goals (first | omega | (simp; done) | (simp; omega)))) HG2.out HR2.out⟩
            case measure => simp [intOf]; omega
    · have H := Lib.hid (show ts.take j = ts from List.take_of_length_le (by omega))
      have HTE := Lib.hid (show trns (unS l) (decide (k = 8)) 0 ts = some L1 by have := HTR.out; rwa [H.out] at this)
      obtain ⟨oa, on, oc, rfl⟩ := HACC.out.2.1.slice3
      obtain ⟨g0, g1, g2, g3, g4⟩ := HACC.out.1.cells
      have BZr := Lib.hid (show Box wr (w.heap.size + 1) 0 0 0 ⟨#[]⟩ (.slice none 0 0) 30 from (HACC.out.2.2.block (w.heap.size + 1) (by omega)).trans BZ.out)
      obtain ⟨z0, z1, z2, z3, z4⟩ := BZr.out.cells
      have zf0 := BZr.out.free (i := 0); have zf1 := BZr.out.free (i := 1); have zf2 := BZr.out.free (i := 2); have zf3 := BZr.out.free (i := 3); have zf4 := BZr.out.free (i := 4)
      have HO := Lib.hid (show OwnS wr (fun x => w.heap.size + 1 + 1 + 1 ≤ x) (.slice oa on oc) L1 from HACC.out.own)
      have HPY := Lib.hid (HPS.out L1 HTE.out)
      clear H HE HA V1 HT BX BO BZ BZr HACC HPN HTR HTE HPS
      go_wp2_with fail
      refine bodyPost_ret (v := .tuple #[.agg #[.int .i64 k, .int .i64 n, .int .i64 e, .string s, .slice oa on oc], .bool true]) (by simp [results, Tryd.results82, go_sem, z0, z1, z2, z3, z4]) rfl (HPY.out _ _ ⟨_, rfl, ?_, ?_⟩)
      · refine OwnS.mono (F := fun x => w.heap.size + 1 + 1 + 1 ≤ x) ?_ (fun x hx => by omega)
        repeat refine OwnS.set ?_ _ _ (by first | omega | (simp; done) | (simp; omega))
        exact HO.out
      · repeat' (refine Below.setCell ?_ ?_ _)
        all_goals (first | exact HBL.out | (simp; done) | (simp; omega))
end Go.Proofs.YtllngpnhhpnjoaaDoor
