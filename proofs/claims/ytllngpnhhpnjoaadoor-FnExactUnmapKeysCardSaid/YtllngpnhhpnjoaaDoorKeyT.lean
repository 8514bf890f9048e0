/- The reference's MapKeys: l11Map, and the whole. -/
import Derived.Test.YtllngpnhhpnjoaaDoorKeyS
namespace Go.Proofs.YtllngpnhhpnjoaaDoor
set_option linter.unusedVariables false
set_option maxRecDepth 100000
open Go.RowKit
theorem atFrom_lo (s : ByteArray) : ∀ (l : List ByteArray) (i : Nat), -1 ≤ atFrom s i l
  | [], i => by simp [atFrom]
  | x :: l, i => by rw [atFrom]; split; omega; exact atFrom_lo s l (i + 1)
theorem atS_lo (l : List ByteArray) (s : ByteArray) : -1 ≤ atS l s := atFrom_lo s l 0
set_option maxHeartbeats 2000000 in
theorem l11Map_any (w0 : World) (nv : Value) (l : List ByteArray) (hl0 : RepSs w0 nv l) : ∀ (N : Nat) (v : Value) (t : V), t.sz < N → Rep w0 v t → t.sz ≤ 1048576 → ∀ (w : World), Below w0.heap.size w0 w →
    Calls Tryd.prog 78 #[v, nv] w (ValRet w (mapT l t)) := by
  intro N
  induction N with
  | zero => intro v t h; omega
  | succ N ih =>
  intro v t hN h hsz w hw
  obtain ⟨sl, rfl, hwf, hr⟩ := h
  have hts := V.sz_eq t
  have hlen := szs_length t.kids
  have HP := Lib.hid (show ∀ e w', (∃ sl, e = .returned (.agg #[.int .i64 t.k, .int .i64 t.n, .int .i64 t.e, .string t.s, sl]) ∧ OwnS w' (fun x => w.heap.size ≤ x) sl (mapTs l (decide (t.k = 8)) t.kids) ∧ Below w.heap.size w w') → ValRet w (mapT l t) e w' from
    fun e w' ⟨sl, h1, h2, h3⟩ => by rw [mapT_eq]; exact ⟨sl, h1, hwf, h2, h3⟩)
  obtain ⟨a, b, off, cap, rfl, ha, hc, hm, sls, hel⟩ := hr.opened
  have HA := Lib.hid ha; have HE := Lib.hid hel; have HW := Lib.hid hw
  have V1 := Lib.hid (fun (j : Nat) (hj : j < t.kids.length) (W : World) (hW : Below w0.heap.size w0 W) => ih (t.kids[j].agg (sls j)) t.kids[j] (by have h1 := szs_mem (List.getElem_mem hj); omega) ⟨sls j, rfl, (HE.out j hj).2.1, (HE.out j hj).2.2⟩ (by have h1 := szs_mem (List.getElem_mem hj); omega) W hW)
  have AT := Lib.hid (fun (s : ByteArray) (W : World) (hW : Below w0.heap.size w0 W) => l11At_any w0 nv l s hl0 W hW)
  have HT := Lib.hid (fun (j : Nat) (hj : j < t.kids.length) => mapTs_take l (decide (t.k = 8)) t.kids j hj)
  have HLN := Lib.hid (fun (j : Nat) => mapTs_length l (decide (t.k = 8)) (t.kids.take j))
  have hl : t.kids.length ≤ 1048576 := by omega
  obtain ⟨na, nn, nc, rfl⟩ : ∃ a n c, nv = .slice a n c := by obtain ⟨a, _, _, c, h, _⟩ := hl0; exact ⟨a, _, c, h⟩
  have HIN := Lib.hid (fun s => show In64 (atS l s) by
    rcases Int.lt_or_le (atS l s) 0 with h | h
    · have := atS_lo l s; exact ⟨by omega, by omega⟩
    · obtain ⟨k, hk, e, _⟩ := atS_at h
      obtain ⟨_, _, _, _, _, _, hc, hm, _⟩ := hl0
      exact ⟨by omega, by omega⟩)
  have BX := Lib.hid (show Box (((w.alloc (.cells #[.int .i64 t.k, .int .i64 t.n, .int .i64 t.e, .string t.s, .slice a t.kids.length cap] 30)).alloc (.cells #[.int .i64 0, .int .i64 0, .int .i64 0, .string ⟨#[]⟩, .slice none 0 0] 30)).alloc (.cells #[.int .i64 t.k, .int .i64 t.n, .int .i64 t.e, .string t.s, .slice none 0 0] 30)) w.heap.size t.k t.n t.e t.s (.slice a t.kids.length cap) 30 from ((Box.new w _ _ _ _ _ _).alloc _).alloc _)
  have BZ := Lib.hid (show Box (((w.alloc (.cells #[.int .i64 t.k, .int .i64 t.n, .int .i64 t.e, .string t.s, .slice a t.kids.length cap] 30)).alloc (.cells #[.int .i64 0, .int .i64 0, .int .i64 0, .string ⟨#[]⟩, .slice none 0 0] 30)).alloc (.cells #[.int .i64 t.k, .int .i64 t.n, .int .i64 t.e, .string t.s, .slice none 0 0] 30)) (w.heap.size + 1) 0 0 0 ⟨#[]⟩ (.slice none 0 0) 30 by
    have := (Box.new (w.alloc (.cells #[.int .i64 t.k, .int .i64 t.n, .int .i64 t.e, .string t.s, .slice a t.kids.length cap] 30)) 0 0 0 ⟨#[]⟩ (.slice none 0 0) 30).alloc (.cells #[.int .i64 t.k, .int .i64 t.n, .int .i64 t.e, .string t.s, .slice none 0 0] 30)
    rwa [show (w.alloc (.cells #[.int .i64 t.k, .int .i64 t.n, .int .i64 t.e, .string t.s, .slice a t.kids.length cap] 30)).heap.size = w.heap.size + 1 by simp] at this)
  have BO := Lib.hid (show Box (((w.alloc (.cells #[.int .i64 t.k, .int .i64 t.n, .int .i64 t.e, .string t.s, .slice a t.kids.length cap] 30)).alloc (.cells #[.int .i64 0, .int .i64 0, .int .i64 0, .string ⟨#[]⟩, .slice none 0 0] 30)).alloc (.cells #[.int .i64 t.k, .int .i64 t.n, .int .i64 t.e, .string t.s, .slice none 0 0] 30)) (w.heap.size + 1 + 1) t.k t.n t.e t.s (.slice none 0 0) 30 by
    have := Box.new ((w.alloc (.cells #[.int .i64 t.k, .int .i64 t.n, .int .i64 t.e, .string t.s, .slice a t.kids.length cap] 30)).alloc (.cells #[.int .i64 0, .int .i64 0, .int .i64 0, .string ⟨#[]⟩, .slice none 0 0] 30)) t.k t.n t.e t.s (.slice none 0 0) 30
    rwa [show ((w.alloc (.cells #[.int .i64 t.k, .int .i64 t.n, .int .i64 t.e, .string t.s, .slice a t.kids.length cap] 30)).alloc (.cells #[.int .i64 0, .int .i64 0, .int .i64 0, .string ⟨#[]⟩, .slice none 0 0] 30)).heap.size = w.heap.size + 1 + 1 by simp] at this)
  clear ih hel ha hc hm hN hr hwf hlen hts hsz hl0
  unfold V.agg
  generalize t.k = k at *
  generalize t.n = n at *
  generalize t.e = e at *
  generalize t.s = s at *
  generalize t.kids = ts at *
  go_enter Tryd.func78, Tryd.ntmps78
  go_wp2_with fail
  have HBW := Lib.hid (show Below w.heap.size w (((w.alloc (.cells #[.int .i64 k, .int .i64 n, .int .i64 e, .string s, .slice a ts.length cap] 30)).alloc (.cells #[.int .i64 0, .int .i64 0, .int .i64 0, .string ⟨#[]⟩, .slice none 0 0] 30)).alloc (.cells #[.int .i64 k, .int .i64 n, .int .i64 e, .string s, .slice none 0 0] 30)) from (by (repeat' (first | with_reducible exact Below.refl _ _ | with_reducible refine below_alloc ?_ _ ?_ | with_reducible refine Below.setCell ?_ ?_ _ | with_reducible refine Below.drew ?_ | with_reducible refine below_drewN ?_ _ | with_reducible refine below_step ?_ (by assumption) ?_ | with_reducible refine below_mark ?_ (by assumption) ?_)); all_goals (first | omega | (simp; done) | (simp; omega))))
  have HZW := Lib.hid (show (((w.alloc (.cells #[.int .i64 k, .int .i64 n, .int .i64 e, .string s, .slice a ts.length cap] 30)).alloc (.cells #[.int .i64 0, .int .i64 0, .int .i64 0, .string ⟨#[]⟩, .slice none 0 0] 30)).alloc (.cells #[.int .i64 k, .int .i64 n, .int .i64 e, .string s, .slice none 0 0] 30)).heap.size = w.heap.size + 1 + 1 + 1 by simp)
  generalize (((w.alloc (.cells #[.int .i64 k, .int .i64 n, .int .i64 e, .string s, .slice a ts.length cap] 30)).alloc (.cells #[.int .i64 0, .int .i64 0, .int .i64 0, .string ⟨#[]⟩, .slice none 0 0] 30)).alloc (.cells #[.int .i64 k, .int .i64 n, .int .i64 e, .string s, .slice none 0 0] 30)) = W3 at *
  go_loopw [6, 7, 8] (fun i _ _ wr => ∃ (j : Nat) (G : Nat → Prop) (o : Value), j ≤ ts.length ∧ i = .int .i64 j ∧ Acc W3 wr (w.heap.size + 1 + 1) (w.heap.size + 1 + 1 + 1) k n e s (mapTs l (decide (k = 8)) (ts.take j)) o G) (fun i _ _ _ => ts.length + 1 - (intOf i).toNat)
  case atStart => exact ⟨0, _, _, by omega, rfl, by have : mapTs l (decide (k = 8)) (ts.take 0) = [] := List.eq_nil_of_length_eq_zero (by rw [HLN.out]; simp)
                                                    rw [this]; exact Acc.nil BO.out (Below.refl _ _)⟩
  case round =>
    obtain ⟨j, G, o, hj, rfl, hacc⟩ := hrel
    have HACC := Lib.hid hacc; clear hacc
    have HBL := Lib.hid (HBW.out.trans (HACC.out.2.2.mono (by omega)))
    have hz9 := HACC.out.2.2.size
    rw [HZW.out] at hz9
    obtain ⟨q0, q1, q2, q3, q4⟩ := (show Box wr w.heap.size k n e s (.slice a ts.length cap) 30 from (HACC.out.2.2.block w.heap.size (by omega)).trans BX.out).cells
    by_cases hlt : j < ts.length
    · have hne : ts ≠ [] := by intro e; rw [e] at hlt; simp at hlt
      obtain ⟨rfl, hbw⟩ := HA.out hne
      have HWR := Lib.hid (HW.out.trans (HBL.out.mono HW.out.size))
      obtain ⟨c0, c1, c2, c3, c4⟩ := (HE.out j hlt).1.keep (HWR.out.block b hbw)
      have VJ := Lib.hid (fun (W : World) (hW : Below wr.heap.size wr W) => V1.out j hlt W (below_step HWR.out hW (by have := HWR.out.size; omega)))
      have ATJ := Lib.hid (fun (s : ByteArray) (W : World) (hW : Below wr.heap.size wr W) => AT.out s W (below_step HWR.out hW (by have := HWR.out.size; omega)))
      have HTJ := Lib.hid (HT.out j hlt)
      have HLEN := Lib.hid (show (mapTs l (decide (k = 8)) (ts.take j)).length ≤ 1048576 by rw [HLN.out, List.length_take]; omega)
      obtain ⟨a3, cap3, hs3⟩ := (HE.out j hlt).2.2.slice
      rw [hs3] at c4 VJ
      clear hs3 V1 AT HT HLN
      unfold V.agg at VJ
      generalize mapT l ts[j] = u at *
      generalize mapTs l (decide (k = 8)) (ts.take j) = L1 at *
      generalize ts[j] = tk at *
      go_wp2_with fail
      refine (VJ.out _ (Below.refl _ _)).mono ?_
      rintro x w1 ⟨s2, rfl, twf, ho, hb1⟩
      obtain ⟨sa, sn, sc, rfl⟩ : ∃ sa sn sc, s2 = .slice sa sn sc := by obtain ⟨p, q, e⟩ := ho.slice; exact ⟨p, _, q, e⟩
      unfold V.agg
      have hz1 := hb1.size
      have HO := Lib.hid ho.bound; clear ho
      have HWF := Lib.hid twf; clear twf
      obtain ⟨p0, p1, p2, p3, p4⟩ := ((show Box wr w.heap.size k n e s (.slice (some ⟨b, off, none⟩) ts.length cap) 30 from (HACC.out.2.2.block w.heap.size (by omega)).trans BX.out).stay hb1).cells
      obtain ⟨g0, g1, g2, g3, g4⟩ := (HACC.out.1.stay hb1).cells
      have hw1n : w.heap.size ≠ w1.heap.size := by omega
      have hw1s : w1.heap.size ≠ w.heap.size := by omega
      have hw1l : w.heap.size < w1.heap.size := by omega
      have hw1k : w.heap.size + 1 + 1 < w1.heap.size := by omega
      have hw1t : w1.heap.size ≠ w.heap.size + 1 + 1 := by omega
      have hw1m : w.heap.size + 1 + 1 ≠ w1.heap.size := by omega
      clear q0 q1 q2 q3 q4
      go_wp2_with fail
      refine (ATJ.out _ _ ((by (repeat' (first | with_reducible exact Below.refl _ _ | with_reducible refine below_alloc ?_ _ ?_ | with_reducible refine Below.setCell ?_ ?_ _ | with_reducible refine Below.drew ?_ | with_reducible refine below_drewN ?_ _ | with_reducible refine below_step ?_ (by assumption) ?_ | with_reducible refine below_mark ?_ (by assumption) ?_)); all_goals (first | omega | (simp; done) | (simp; omega))))).mono ?_
      rintro x w1' ⟨rfl, rfl⟩
      have HINJ := Lib.hid (HIN.out u.s)
      have HKE := Lib.hid (show ∀ c : Bool, keyM l c u = if c = true ∧ u.k = 5 ∧ 0 ≤ atS l u.s then intV (atS l u.s) else u from fun c => rfl)
      generalize hgq : atS l u.s = q at *
      clear hgq
      by_cases hyes : k = 8 ∧ j % 2 = 0 ∧ u.k = 5 ∧ 0 ≤ q
      · have HK := Lib.hid (show keyM l (decide (k = 8) && decide (j % 2 = 0)) u = intV q by rw [HKE.out, if_pos ⟨by simp [hyes.1, hyes.2.1], hyes.2.2.1, hyes.2.2.2⟩])
        obtain ⟨h8, h2, h5, h0⟩ := hyes
        have t1 : (k == 8) = true := by simpa using h8
        have t2 : ((j : Int) % 2 == 0) = true := by simp; omega
        have t3 : (u.k == 5) = true := by simpa using h5
        have t4 : decide (0 ≤ q) = true := decide_eq_true h0
        have HWI := Lib.hid (show (intV q).wf from ⟨⟨by show (-9223372036854775808 : Int) ≤ 3; omega, by show (3 : Int) ≤ _; omega⟩, HINJ.out, ⟨by show (-9223372036854775808 : Int) ≤ 0; omega, by show (0 : Int) ≤ _; omega⟩, by show ByteArray.size ⟨#[]⟩ ≤ _; simp [ByteArray.size]⟩)
        clear h8 h2 h5
        go_wp2_with fail
        refine (l02Int_any q _).mono ?_
        rintro x w3 ⟨rfl, hb3⟩
        have hz3 := hb3.size
        simp at hz3
        obtain ⟨y0, y1, y2, y3, y4⟩ := (((Box.new w1 u.k u.n u.e u.s (.slice sa sn sc) 30).stay hb3)).cells
        have yf := fun i => (((Box.new w1 u.k u.n u.e u.s (.slice sa sn sc) 30).stay hb3)).free (i := i)
        have yf0 := yf 0; have yf1 := yf 1; have yf2 := yf 2; have yf3 := yf 3; have yf4 := yf 4
        clear yf g0 g1 g2 g3 g4 p0 p1 p2 p3 p4
        obtain ⟨g0, g1, g2, g3, g4⟩ := (HACC.out.stay (show Below wr.heap.size wr w3 from (by (repeat' (first | with_reducible exact Below.refl _ _ | with_reducible refine below_alloc ?_ _ ?_ | with_reducible refine Below.setCell ?_ ?_ _ | with_reducible refine Below.drew ?_ | with_reducible refine below_drewN ?_ _ | with_reducible refine below_step ?_ (by assumption) ?_ | with_reducible refine below_mark ?_ (by assumption) ?_)); all_goals (first | omega | (simp; done) | (simp; omega))))).1.cells
        go_wp2_with (at_builtin; go_loud (refine app_own rfl _ _ rfl (w.heap.size + 1 + 1 + 1) G (fun _ => False) _ L1 rfl ((HACC.out.stay ((by (repeat' (first | with_reducible exact Below.refl _ _ | with_reducible refine below_alloc ?_ _ ?_ | with_reducible refine Below.setCell ?_ ?_ _ | with_reducible refine Below.drew ?_ | with_reducible refine below_drewN ?_ _ | with_reducible refine below_step ?_ (by assumption) ?_ | with_reducible refine below_mark ?_ (by assumption) ?_)); all_goals (first | omega | (simp; done) | (simp; omega))))).2.1) (intV q) (.slice none 0 0) _ rfl (by first | exact heap_alloc_here _ (by simp) | exact heap_alloc_here _ rfl) HWI.out (OwnS.nil _ _) (fun x hx => hx.elim) (by have := HLEN.out; omega) (by simp; omega) ?_); intro v2 w2 hrow2 hg2 hfr2; obtain ⟨va, vn, vc, rfl⟩ := hrow2.slice3; have HG2 := Lib.hid hg2; have HR2 := Lib.hid hrow2; have HB2 := Lib.hid (show Box w2 (w.heap.size + 1 + 1) k n e s o 30 from (hg2.block (w.heap.size + 1 + 1) (by simp; omega) (fun e => by have := (HACC.out.2.1.lt _ e.symm).1; omega)).trans (HACC.out.stay ((by (repeat' (first | with_reducible exact Below.refl _ _ | with_reducible refine below_alloc ?_ _ ?_ | with_reducible refine Below.setCell ?_ ?_ _ | with_reducible refine Below.drew ?_ | with_reducible refine below_drewN ?_ _ | with_reducible refine below_step ?_ (by assumption) ?_ | with_reducible refine below_mark ?_ (by assumption) ?_)); all_goals (first | omega | (simp; done) | (simp; omega))))).1); have hfz := HB2.out.free (i := 4); have hcc := HB2.out.cells.2.2.2.2; clear hrow2 hg2 hfr2)
        go_roundw
        case rel => exact ⟨j + 1, _, _, by omega, by go_num, by rw [HTJ.out, HK.out]; exact HACC.out.put (by omega) ((by (repeat' (first | with_reducible exact Below.refl _ _ | with_reducible refine below_alloc ?_ _ ?_ | with_reducible refine Below.setCell ?_ ?_ _ | with_reducible refine Below.drew ?_ | with_reducible refine below_drewN ?_ _ | with_reducible refine below_step ?_ (by assumption) ?_ | with_reducible refine below_mark ?_ (by assumption) ?_)); all_goals (first | omega | (simp; done) | (simp; omega)))) HG2.out HR2.out⟩
        case measure => simp [intOf]; omega
      · have HK := Lib.hid (show keyM l (decide (k = 8) && decide (j % 2 = 0)) u = u by rw [HKE.out, if_neg]; rintro ⟨h1, h2, h3⟩; simp only [Bool.and_eq_true, decide_eq_true_eq] at h1; exact hyes ⟨h1.1, h1.2, h2, h3⟩)
        have key : ((k == 8) = false) ∨ ((k == 8) = true ∧ (((j : Int) % 2 == 0) = false)) ∨ ((k == 8) = true ∧ (((j : Int) % 2 == 0) = true) ∧ ((u.k == 5) = false)) ∨ ((k == 8) = true ∧ (((j : Int) % 2 == 0) = true) ∧ ((u.k == 5) = true) ∧ decide (0 ≤ q) = false) := by
          by_cases h8 : k = 8
          · by_cases h2 : j % 2 = 0
            · by_cases h5 : u.k = 5
              · exact .inr (.inr (.inr ⟨by simpa using h8, by simp; omega, by simpa using h5, decide_eq_false (fun e => hyes ⟨h8, h2, h5, e⟩)⟩))
              · exact .inr (.inr (.inl ⟨by simpa using h8, by simp; omega, by simpa using h5⟩))
            · exact .inr (.inl ⟨by simpa using h8, by simp; omega⟩)
          · exact .inl (by simpa using h8)
        clear hyes
        rcases key with t1 | ⟨t1, t2⟩ | ⟨t1, t2, t3⟩ | ⟨t1, t2, t3, t4⟩
        all_goals
          go_wp2_with (at_builtin; refine app_own rfl _ _ rfl (w.heap.size + 1 + 1 + 1) G (fun x => wr.heap.size ≤ x ∧ x < w1.heap.size) _ L1 rfl ((HACC.out.stay ((by (repeat' (first | with_reducible exact Below.refl _ _ | with_reducible refine below_alloc ?_ _ ?_ | with_reducible refine Below.setCell ?_ ?_ _ | with_reducible refine Below.drew ?_ | with_reducible refine below_drewN ?_ _ | with_reducible refine below_step ?_ (by assumption) ?_ | with_reducible refine below_mark ?_ (by assumption) ?_)); all_goals (first | omega | (simp; done) | (simp; omega))))).2.1) u (.slice sa sn sc) _ rfl (by first | exact heap_alloc_here _ (by simp) | exact heap_alloc_here _ rfl) HWF.out (HO.out.keep (fun x hx hxs => (show Below w1.heap.size w1 _ from (by (repeat' (first | with_reducible exact Below.refl _ _ | with_reducible refine below_alloc ?_ _ ?_ | with_reducible refine Below.setCell ?_ ?_ _ | with_reducible refine Below.drew ?_ | with_reducible refine below_drewN ?_ _ | with_reducible refine below_step ?_ (by assumption) ?_ | with_reducible refine below_mark ?_ (by assumption) ?_)); all_goals (first | omega | (simp; done) | (simp; omega)))).block x hxs)) (fun x hx => ⟨by omega, by simp; omega, fun hG => by have := (HACC.out.2.1.inG x hG).2; omega, fun e => by have := (HACC.out.2.1.lt x e).2; omega⟩) (by have := HLEN.out; omega) (by simp; omega) ?_; intro v2 w2 hrow2 hg2 hfr2; obtain ⟨va, vn, vc, rfl⟩ := hrow2.slice3; have HG2 := Lib.hid hg2; have HR2 := Lib.hid hrow2; have HB2 := Lib.hid (show Box w2 (w.heap.size + 1 + 1) k n e s o 30 from (hg2.block (w.heap.size + 1 + 1) (by simp; omega) (fun e => by have := (HACC.out.2.1.lt _ e.symm).1; omega)).trans (HACC.out.stay ((by (repeat' (first | with_reducible exact Below.refl _ _ | with_reducible refine below_alloc ?_ _ ?_ | with_reducible refine Below.setCell ?_ ?_ _ | with_reducible refine Below.drew ?_ | with_reducible refine below_drewN ?_ _ | with_reducible refine below_step ?_ (by assumption) ?_ | with_reducible refine below_mark ?_ (by assumption) ?_)); all_goals (first | omega | (simp; done) | (simp; omega))))).1); have hfz := HB2.out.free (i := 4); have hcc := HB2.out.cells.2.2.2.2; clear hrow2 hg2 hfr2)
          go_roundw
          case rel => exact ⟨j + 1, _, _, by omega, by go_num, by rw [HTJ.out, HK.out]; exact HACC.out.put (by omega) ((by (repeat' (first | with_reducible exact Below.refl _ _ | with_reducible refine below_alloc ?_ _ ?_ | with_reducible refine Below.setCell ?_ ?_ _ | with_reducible refine Below.drew ?_ | with_reducible refine below_drewN ?_ _ | with_reducible refine below_step ?_ (by assumption) ?_ | with_reducible refine below_mark ?_ (by assumption) ?_)); all_goals (first | omega | (simp; done) | (simp; omega)))) HG2.out HR2.out⟩
          case measure => simp [intOf]; omega
    · have H := Lib.hid (show ts.take j = ts from List.take_of_length_le (by omega))
      obtain ⟨oa, on, oc, rfl⟩ := HACC.out.2.1.slice3
      obtain ⟨g0, g1, g2, g3, g4⟩ := HACC.out.1.cells
      have BZr := Lib.hid (show Box wr (w.heap.size + 1) 0 0 0 ⟨#[]⟩ (.slice none 0 0) 30 from (HACC.out.2.2.block (w.heap.size + 1) (by omega)).trans BZ.out)
      obtain ⟨z0, z1, z2, z3, z4⟩ := BZr.out.cells
      have zf0 := BZr.out.free (i := 0); have zf1 := BZr.out.free (i := 1); have zf2 := BZr.out.free (i := 2); have zf3 := BZr.out.free (i := 3); have zf4 := BZr.out.free (i := 4)
      have HO := Lib.hid (show OwnS wr (fun x => w.heap.size + 1 + 1 + 1 ≤ x) (.slice oa on oc) (mapTs l (decide (k = 8)) ts) by have := HACC.out.own; rwa [H.out] at this)
      clear H HE HA V1 HT HLN AT BX BO BZ BZr HACC
      go_wp2_with fail
      refine bodyPost_ret (v := .agg #[.int .i64 k, .int .i64 n, .int .i64 e, .string s, .slice oa on oc]) (by simp [results, Tryd.results78, go_sem, z0, z1, z2, z3, z4]) rfl (HP.out _ _ ⟨_, rfl, ?_, ?_⟩)
      · refine OwnS.mono (F := fun x => w.heap.size + 1 + 1 + 1 ≤ x) ?_ (fun x hx => by omega)
        repeat refine OwnS.set ?_ _ _ (by first | omega | (simp; done) | (simp; omega))
        exact HO.out
      · repeat' (refine Below.setCell ?_ ?_ _)
        all_goals (first | exact HBL.out | (simp; done) | (simp; omega))
end Go.Proofs.YtllngpnhhpnjoaaDoor
