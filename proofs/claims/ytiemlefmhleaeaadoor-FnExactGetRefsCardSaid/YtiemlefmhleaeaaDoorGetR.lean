/- The reference's references resolved: l10Get. The reference's GetRefs. -/
import Derived.Test.YtiemlefmhleaeaaDoorPutS
import Derived.Test.YtiemlefmhleaeaaDoorPutR
namespace Go.Proofs.YtiemlefmhleaeaaDoor
set_option linter.unusedVariables false
set_option maxRecDepth 100000
open Go.RowKit
theorem getSs_len : ∀ (ts R : List V) (p : List V × List V), getSs ts R = some p → p.1.length = ts.length
  | [], R, p, h => by rw [getSs] at h; obtain rfl := Option.some.inj h; rfl
  | t :: ts, R, p, h => by
    rw [getSs] at h
    cases hg : getS t R with
    | none => rw [hg] at h; simp at h
    | some q =>
      rw [hg, Option.bind_some] at h
      cases hr : getSs ts q.2 with
      | none => rw [hr] at h; simp at h
      | some r =>
        rw [hr] at h
        obtain rfl := Option.some.inj h
        simp only [List.length_cons]
        rw [getSs_len ts q.2 r hr]
/-- a value resolved in memory of its own, what is remembered, and true; or any value and false -/
def GetSRet (Gl : Nat → Prop) (w : World) (o : Option (V × List V)) (e : Ending) (w' : World) : Prop := match o with
  | some r => ∃ sl lv', e = .returned (.tuple #[r.1.agg sl, lv', .bool true]) ∧ r.1.wf ∧ OwnS w' (fun x => w.heap.size ≤ x) sl r.1.kids ∧ RepF w' (fun x => Gl x ∨ w.heap.size ≤ x) lv' r.2 ∧ Below w.heap.size w w'
  | none => ∃ (t' : V) (a : Option Addr) (n c : Nat) (la : Option Addr) (ln lc : Nat), e = .returned (.tuple #[t'.agg (.slice a n c), .slice la ln lc, .bool false]) ∧ Below w.heap.size w w'
set_option maxHeartbeats 4000000 in
theorem l10Get_text (w0 : World) (v : Value) (t : V) (h : Rep w0 v t) (hsz : t.sz ≤ 1048576) (htx : isTx t = true) (Gl : Nat → Prop) (lv : Value) (R : List V) (w : World) (hw : Below w0.heap.size w0 w) (hl : RepF w Gl lv R) (hR : R.length + t.nodes ≤ 1000000) :
    Calls Tryd.prog 79 #[v, lv] w (GetSRet Gl w (some (t, keepR R t))) := by
  have h0 := h
  obtain ⟨sl, rfl, hwf, hr⟩ := h
  have hws := hw.size
  obtain ⟨la, lc, rfl⟩ := hl.slice
  have hlb : RepF w (fun x => Gl x ∧ x < w.heap.size) (.slice la R.length lc) R := hl.bound
  have hq : decide (t.k = 5 ∨ t.k = 6) = true := htx
  have CP := Lib.hid (fun (W : World) (hW : Below w.heap.size w W) => copy_any w0 (t.agg sl) t h0 hsz W (hw.trans (hW.mono hws)))
  have KP := Lib.hid (fun (W : World) (hW : Below w.heap.size w W) => l10Keep_far (fun x => Gl x ∧ x < w.heap.size) R (.slice la R.length lc) t sl W (hlb.stay hW) (by omega) hwf)
  have HWF := Lib.hid hwf
  have BX := Lib.hid (Box.new w t.k t.n t.e t.s sl 28)
  obtain ⟨a, cap, rfl⟩ := hr.slice
  clear h0 hr hwf hl hlb hsz htx hR
  unfold ValRet at CP
  unfold KeepFar at KP
  have HPC := Lib.hid (show ∀ e w', (∃ sl lv', e = .returned (.tuple #[.agg #[.int .i64 t.k, .int .i64 t.n, .int .i64 t.e, .string t.s, sl], lv', .bool true]) ∧ OwnS w' (fun x => w.heap.size ≤ x) sl t.kids ∧ RepF w' (fun x => Gl x ∨ w.heap.size ≤ x) lv' (keepR R t) ∧ Below w.heap.size w w') → GetSRet Gl w (some (t, keepR R t)) e w' from
    fun e w' ⟨sl, lv', h1, h2, h3, h4⟩ => ⟨sl, lv', h1, HWF.out, h2, h3, h4⟩)
  unfold V.agg at *
  generalize keepR R t = R2 at *
  generalize t.k = k at *
  generalize t.n = n at *
  generalize t.e = e at *
  generalize t.s = s at *
  generalize t.kids = ts at *
  have BZ := Lib.hid (show Box ((w.alloc (.cells #[.int .i64 k, .int .i64 n, .int .i64 e, .string s, .slice a ts.length cap] 28)).alloc (.cells #[.int .i64 0, .int .i64 0, .int .i64 0, .string ⟨#[]⟩, .slice none 0 0] 28)) (w.heap.size + 1) 0 0 0 ⟨#[]⟩ (.slice none 0 0) 28 by
    have := Box.new (w.alloc (.cells #[.int .i64 k, .int .i64 n, .int .i64 e, .string s, .slice a ts.length cap] 28)) 0 0 0 ⟨#[]⟩ (.slice none 0 0) 28
    rwa [show (w.alloc (.cells #[.int .i64 k, .int .i64 n, .int .i64 e, .string s, .slice a ts.length cap] 28)).heap.size = w.heap.size + 1 by simp] at this)
  go_enter Tryd.func79, Tryd.ntmps79
  go_wp2_with fail
  refine (l10Text_any _ _ _ _ _ _).mono ?_
  rintro x w1 ⟨h1, hb1⟩
  rw [hq] at h1
  subst h1
  have hz1 := hb1.size
  simp at hz1
  have hbw1 : Below w.heap.size w w1 := (by (repeat' (first | with_reducible exact Below.refl _ _ | with_reducible refine below_alloc ?_ _ ?_ | with_reducible refine Below.setCell ?_ ?_ _ | with_reducible refine Below.drew ?_ | with_reducible refine below_drewN ?_ _ | with_reducible refine below_step ?_ (by assumption) ?_ | with_reducible refine below_mark ?_ (by assumption) ?_)); all_goals (first | omega | (simp; done) | (simp; omega)))
  have BX1 := Lib.hid ((BX.out.alloc (.cells #[.int .i64 0, .int .i64 0, .int .i64 0, .string ⟨#[]⟩, .slice none 0 0] 28)).stay hb1)
  have BZ1 := Lib.hid (BZ.out.stay hb1)
  obtain ⟨p0, p1, p2, p3, p4⟩ := BX1.out.cells
  have hzz : w.heap.size ≤ w.heap.size + 1 := by omega
  have hxz : w.heap.size ≠ w.heap.size + 1 := by omega
  have hS0 : Sx (w.heap.size + 1) w w1 w1.drew := ⟨(NZ.refl _ _).drew, hbw1.drew, ⟨_, _, _, _, _, BZ1.out⟩⟩
  have xf0 := BZ1.out.free (i := 0); have xf1 := BZ1.out.free (i := 1); have xf2 := BZ1.out.free (i := 2); have xf3 := BZ1.out.free (i := 3); have xf4 := BZ1.out.free (i := 4)
  go_upto_region 2 with fail
  have hz22 : w.heap.size + 1 + 1 ≤ w1.heap.size := by omega
  clear HWF hq hz1 hb1 BX BZ hws hw
  go_region_with (first | (go_at_call 78; refine (CP.out _ ?_).mono ?_; exact Sx.below (by repeat' (first | with_reducible assumption | with_reducible refine Sx.set ?_ hzz _ | with_reducible refine Sx.drew ?_)); rintro e5 wc ⟨s5, rfl, wf5, ho5, hbc⟩; obtain ⟨sa5, sn5, sc5, rfl⟩ : ∃ sa sn sc, s5 = .slice sa sn sc := (by obtain ⟨p, q, e⟩ := ho5.slice; exact ⟨p, _, q, e⟩); have hSW := (show Sx (w.heap.size + 1) w w1 _ from (by repeat' (first | with_reducible assumption | with_reducible refine Sx.set ?_ hzz _ | with_reducible refine Sx.drew ?_))); have hG := Sx.next hbc hSW; have hGC := hG; have hzc := hSW.nz.size; have HO := Lib.hid (OwnS.low ho5 (B := w.heap.size + 1 + 1) (by omega)); clear ho5; obtain ⟨⟨x0, x1, x2, x3, x4, g0, g1, g2, g3, g4⟩, xf⟩ := hG.cells; have xf0 := xf 0; have xf1 := xf 1; have xf2 := xf 2; have xf3 := xf 3; have xf4 := xf 4; clear xf; obtain ⟨y0, y1, y2, y3, y4⟩ := (Box.nz BX1.out hG.nz hxz).cells) | (go_at_call 126; refine (KP.out _ ?_).mono ?_; exact Sx.below (by repeat' (first | with_reducible assumption | with_reducible refine Sx.set ?_ hzz _ | with_reducible refine Sx.drew ?_)); rintro e6 wk ⟨lv', rfl, hl6, hbk⟩; obtain ⟨lb, lcc, rfl⟩ := hl6.slice; have hSW2 := (show Sx (w.heap.size + 1) w w1 _ from (by repeat' (first | with_reducible assumption | with_reducible refine Sx.set ?_ hzz _ | with_reducible refine Sx.drew ?_))); have hG := Sx.next hbk hSW2; have hzk := hSW2.nz.size; have HL := Lib.hid (RepF.mono hl6 (G' := fun x => (Gl x ∨ w.heap.size ≤ x) ∧ x ≠ w.heap.size + 1) (fun x hx _ => by rcases hx with h | h; exact ⟨.inl h.1, by have := h.2; omega⟩; exact ⟨.inr (by omega), by omega⟩)); clear hl6; obtain ⟨⟨x0, x1, x2, x3, x4, g0, g1, g2, g3, g4⟩, xf⟩ := hG.cells; have xf0 := xf 0; have xf1 := xf 1; have xf2 := xf 2; have xf3 := xf 3; have xf4 := xf 4; clear xf; obtain ⟨y0, y1, y2, y3, y4⟩ := (Box.nz BX1.out hG.nz hxz).cells))
  all_goals
    go_wp2_with fail
    refine bodyPost_ret (v := .tuple #[.agg #[.int .i64 k, .int .i64 n, .int .i64 e, .string s, .slice sa5 sn5 sc5], .slice lb R2.length lcc, .bool true]) (by first | (simp [results, Tryd.results79, go_sem, g0, g1, g2, g3, g4]; done) | (obtain ⟨v0, v1, v2, v3, v4⟩ := (Box.stay (Sx.box hGC k n e s (.slice sa5 sn5 sc5)) hbk).cells; simp [results, Tryd.results79, go_sem, v0, v1, v2, v3, v4]; done)) rfl (HPC.out _ _ ⟨_, _, rfl, OwnS.mono (OwnS.nz (z := w.heap.size + 1) HO.out (fun x hx => by omega) (by (repeat' (first | with_reducible exact NZ.refl _ _ | with_reducible refine NZ.setCell ?_ _ | with_reducible refine NZ.drew ?_ | with_reducible refine NZ.alloc ?_ _ | with_reducible refine NZ.step ?_ (by assumption))))) (fun x hx => by omega), (RepF.nz (z := w.heap.size + 1) HL.out (fun x hx => hx.2) (by (repeat' (first | with_reducible exact NZ.refl _ _ | with_reducible refine NZ.setCell ?_ _ | with_reducible refine NZ.drew ?_ | with_reducible refine NZ.alloc ?_ _ | with_reducible refine NZ.step ?_ (by assumption))))).mono (fun x hx _ => hx.1), Sx.below (z := w.heap.size + 1) (w2 := w1) (by repeat' (first | with_reducible assumption | with_reducible refine Sx.set ?_ hzz _ | with_reducible refine Sx.drew ?_))⟩)
set_option maxHeartbeats 2000000 in
theorem l10Get_ref (w0 : World) (v : Value) (t x : V) (h : Rep w0 v t) (hk9 : t.k = 9) (hn25 : t.n = 25) (hkx : t.kids = [x]) (Gl : Nat → Prop) (lv : Value) (R : List V) (hleaf : leaves R) (w : World) (hw : Below w0.heap.size w0 w) (hl : RepF w Gl lv R) (hR : R.length ≤ 1000000) :
    Calls Tryd.prog 79 #[v, lv] w (GetSRet Gl w (if refB t R then some (refAt t R, R) else none)) := by
  obtain ⟨sl, rfl, hwf, hr⟩ := h
  rw [hkx] at hr
  obtain ⟨a, b, off, cap, rfl, ha, hc, hm, sls, hel⟩ := hr.opened
  obtain rfl := (ha (by simp)).1
  have hbw := (ha (by simp)).2
  have h0 : Cells5 w0 b off x (sls 0) ∧ x.wf ∧ RepS w0 (sls 0) x.kids := by have := hel 0 (by simp); simpa using this
  obtain ⟨a3, cap3, hs3⟩ := h0.2.2.slice
  have CX := Lib.hid (fun (W : World) (hW : Below w.heap.size w W) => h0.1.keep ((hw.trans (hW.mono hw.size)).block b hbw))
  rw [hs3] at CX
  have hx : refB t R = decide (x.k = 3 ∧ 0 ≤ x.n ∧ x.n ≤ (R.length : Int) - 1) := by unfold refB; rw [hkx]
  have hat : refAt t R = R.getD x.n.toNat t := by unfold refAt; rw [hkx]
  have hws := hw.size
  obtain ⟨la, lc, rfl⟩ := hl.slice
  have hlb : RepF w (fun x => Gl x ∧ x < w.heap.size) (.slice la R.length lc) R := hl.bound
  have HLB := Lib.hid hlb
  obtain ⟨la', lb, loff, lcap, hlv, hla, hlc, hlm, lsl, hlel⟩ := hlb.rep.opened
  obtain ⟨rfl, -, rfl⟩ : la = la' ∧ R.length = R.length ∧ lc = lcap := by simpa using hlv
  have HLA := Lib.hid hla; have HLE := Lib.hid hlel
  have BX := Lib.hid (Box.new w 9 25 t.e t.s (.slice (some ⟨b, off, none⟩) 1 cap) 28)
  have hw64 : wrap64 ((R.length : Int) - 1) = (R.length : Int) - 1 := by unfold wrap64; omega
  rw [hx, hat]
  have hagg : t.agg (.slice (some ⟨b, off, none⟩) [x].length cap) = .agg #[.int .i64 9, .int .i64 25, .int .i64 t.e, .string t.s, .slice (some ⟨b, off, none⟩) 1 cap] := by unfold V.agg; rw [hk9, hn25]; rfl
  rw [hagg]
  clear hagg hx hat hwf hr hel ha hc hm h0 hs3 hl hlb hlv hla hlel hlc hlm hw
  generalize t.e = e at *
  generalize t.s = s at *
  have BZ := Lib.hid (show Box ((w.alloc (.cells #[.int .i64 9, .int .i64 25, .int .i64 e, .string s, .slice (some ⟨b, off, none⟩) 1 cap] 28)).alloc (.cells #[.int .i64 0, .int .i64 0, .int .i64 0, .string ⟨#[]⟩, .slice none 0 0] 28)) (w.heap.size + 1) 0 0 0 ⟨#[]⟩ (.slice none 0 0) 28 by
    have := Box.new (w.alloc (.cells #[.int .i64 9, .int .i64 25, .int .i64 e, .string s, .slice (some ⟨b, off, none⟩) 1 cap] 28)) 0 0 0 ⟨#[]⟩ (.slice none 0 0) 28
    rwa [show (w.alloc (.cells #[.int .i64 9, .int .i64 25, .int .i64 e, .string s, .slice (some ⟨b, off, none⟩) 1 cap] 28)).heap.size = w.heap.size + 1 by simp] at this)
  have hb9 : ∀ W : World, Below w.heap.size w W → b < W.heap.size := fun W hW => by have := hW.size; omega
  by_cases h3 : x.k = 3
  · have t1 : (x.k != 3) = false := by simpa using h3
    by_cases hin : 0 ≤ x.n ∧ x.n ≤ (R.length : Int) - 1
    · have hdec : decide (0 ≤ x.n ∧ x.n ≤ (R.length : Int) - 1) = true := decide_eq_true hin
      rw [if_pos (by simp [h3, hin])]
      obtain ⟨j, hj⟩ : ∃ j : Nat, x.n = (j : Int) := ⟨x.n.toNat, by omega⟩
      have hjl : j < R.length := by omega
      have hget : R.getD x.n.toNat t = R[j] := by rw [hj]; simp [List.getD_eq_getElem?_getD, hjl]
      rw [hget]
      obtain ⟨rfl, hlbw⟩ := HLA.out (by intro e; rw [e] at hjl; simp at hjl)
      have hlf := (hleaf R[j] (List.getElem_mem hjl)).1
      have hk0 : R[j].kids = [] := by rw [hlf]; rfl
      have HEJ := Lib.hid (HLE.out j hjl)
      obtain ⟨a5, cap5, hs5⟩ := HEJ.out.2.2.slice
      have HOWN := Lib.hid (fun (W : World) (F : Nat → Prop) => show OwnS W F (lsl j) R[j].kids by rw [hk0]; exact RepS.ownAny (show RepS w (lsl j) [] from hk0 ▸ HEJ.out.2.2) W F)
      have LX := Lib.hid (fun (W : World) (hW : Below w.heap.size w W) => HEJ.out.1.keep (hW.block lb hlbw))
      rw [hs5] at HOWN LX
      have HWJ := Lib.hid HEJ.out.2.1
      clear hs5 HEJ HLE HLA hlf hk0 hget hleaf
      have hjI : (0 : Int) ≤ (j : Int) ∧ (j : Int) < R.length := by omega
      rw [hj] at hdec
      clear hin
      have HRJ := Lib.hid (show ∀ e w', (∃ lv', e = .returned (.tuple #[.agg #[.int .i64 R[j].k, .int .i64 R[j].n, .int .i64 R[j].e, .string R[j].s, .slice a5 R[j].kids.length cap5], lv', .bool true]) ∧ RepF w' (fun x => Gl x ∨ w.heap.size ≤ x) lv' R ∧ Below w.heap.size w w') → GetSRet Gl w (some (R[j], R)) e w' from fun e w' ⟨lv', h1, h2, h3⟩ => ⟨_, lv', h1, HWJ.out, HOWN.out _ _, h2, h3⟩)
      generalize R[j] = r at *
      rw [h3] at t1

      go_enter Tryd.func79, Tryd.ntmps79
      go_wp2_with fail
      refine (l10Text_any _ _ _ _ _ _).mono ?_
      rintro x1 w1 ⟨h1, hb1⟩
      rw [show decide ((9 : Int) = 5 ∨ (9 : Int) = 6) = false from by decide] at h1
      subst h1
      have hz1 := hb1.size
      simp at hz1
      have hbw1 : Below w.heap.size w w1 := (by (repeat' (first | with_reducible exact Below.refl _ _ | with_reducible refine below_alloc ?_ _ ?_ | with_reducible refine Below.setCell ?_ ?_ _ | with_reducible refine Below.drew ?_ | with_reducible refine below_drewN ?_ _ | with_reducible refine below_step ?_ (by assumption) ?_ | with_reducible refine below_mark ?_ (by assumption) ?_)); all_goals (first | omega | (simp; done) | (simp; omega)))
      have BX1 := Lib.hid ((BX.out.alloc (.cells #[.int .i64 0, .int .i64 0, .int .i64 0, .string ⟨#[]⟩, .slice none 0 0] 28)).stay hb1)
      have BZ1 := Lib.hid (BZ.out.stay hb1)
      obtain ⟨p0, p1, p2, p3, p4⟩ := BX1.out.cells
      obtain ⟨c0, c1, c2, c3, c4⟩ := CX.out w1 hbw1
      rw [h3] at c0
      rw [hj] at c1
      obtain ⟨z0, z1, z2, z3, z4⟩ := BZ1.out.cells
      have zf0 := BZ1.out.free (i := 0); have zf1 := BZ1.out.free (i := 1); have zf2 := BZ1.out.free (i := 2); have zf3 := BZ1.out.free (i := 3); have zf4 := BZ1.out.free (i := 4)
      have hn1 : w.heap.size ≠ w1.heap.size := by omega
      have hn2 : w1.heap.size ≠ w.heap.size := by omega
      have hn3 : w.heap.size < w1.heap.size := by omega
      have hn4 : w.heap.size + 1 ≠ w1.heap.size := by omega
      have hn5 : w1.heap.size ≠ w.heap.size + 1 := by omega
      have hn6 : w.heap.size + 1 < w1.heap.size := by omega
      obtain ⟨d0, d1, d2, d3, d4⟩ := LX.out w1 hbw1
      have hm1 : lb ≠ w1.heap.size := by omega
      have hm2 : w1.heap.size ≠ lb := by omega
      have hm3 : lb < w1.heap.size := by omega
      have hm7 : lb ≠ w.heap.size + 1 := by omega
      have hm8 : w.heap.size + 1 ≠ lb := by omega
      go_wp2_with fail
      refine (l01In_any _ _ _ _).mono ?_
      rintro e2 w2 ⟨h1, rfl⟩
      rw [hdec] at h1
      subst h1
      go_wp2_with fail
      refine bodyPost_ret (v := .tuple #[.agg #[.int .i64 r.k, .int .i64 r.n, .int .i64 r.e, .string r.s, .slice a5 r.kids.length cap5], .slice (some ⟨lb, loff, none⟩) R.length lc, .bool true]) (by simp [results, Tryd.results79, go_sem, z0, z1, z2, z3, z4, hn4, hn5, hn6]) rfl (HRJ.out _ _ ⟨_, rfl, ?_, ?_⟩)
      · refine RepF.mono (G := fun x => Gl x ∧ x < w.heap.size) (RepF.nz (z := w.heap.size + 1) (HLB.out.stay hbw1) (fun x hx => by have := hx.2; omega) (by (repeat' (first | with_reducible exact NZ.refl _ _ | with_reducible refine NZ.setCell ?_ _ | with_reducible refine NZ.drew ?_ | with_reducible refine NZ.alloc ?_ _ | with_reducible refine NZ.step ?_ (by assumption))))) (fun x hx _ => .inl hx.1)
      · exact (by (repeat' (first | with_reducible exact Below.refl _ _ | with_reducible refine below_alloc ?_ _ ?_ | with_reducible refine Below.setCell ?_ ?_ _ | with_reducible refine Below.drew ?_ | with_reducible refine below_drewN ?_ _ | with_reducible refine below_step ?_ (by assumption) ?_ | with_reducible refine below_mark ?_ (by assumption) ?_)); all_goals (first | omega | (simp; done) | (simp; omega)))
    · have hdec : decide (0 ≤ x.n ∧ x.n ≤ (R.length : Int) - 1) = false := decide_eq_false hin
      rw [if_neg (by simp only [decide_eq_true_eq]; exact fun h => hin h.2)]
      clear HLE HLA hin
      rw [h3] at t1

      go_enter Tryd.func79, Tryd.ntmps79
      go_wp2_with fail
      refine (l10Text_any _ _ _ _ _ _).mono ?_
      rintro x1 w1 ⟨h1, hb1⟩
      rw [show decide ((9 : Int) = 5 ∨ (9 : Int) = 6) = false from by decide] at h1
      subst h1
      have hz1 := hb1.size
      simp at hz1
      have hbw1 : Below w.heap.size w w1 := (by (repeat' (first | with_reducible exact Below.refl _ _ | with_reducible refine below_alloc ?_ _ ?_ | with_reducible refine Below.setCell ?_ ?_ _ | with_reducible refine Below.drew ?_ | with_reducible refine below_drewN ?_ _ | with_reducible refine below_step ?_ (by assumption) ?_ | with_reducible refine below_mark ?_ (by assumption) ?_)); all_goals (first | omega | (simp; done) | (simp; omega)))
      have BX1 := Lib.hid ((BX.out.alloc (.cells #[.int .i64 0, .int .i64 0, .int .i64 0, .string ⟨#[]⟩, .slice none 0 0] 28)).stay hb1)
      have BZ1 := Lib.hid (BZ.out.stay hb1)
      obtain ⟨p0, p1, p2, p3, p4⟩ := BX1.out.cells
      obtain ⟨c0, c1, c2, c3, c4⟩ := CX.out w1 hbw1
      rw [h3] at c0
      obtain ⟨z0, z1, z2, z3, z4⟩ := BZ1.out.cells
      have zf0 := BZ1.out.free (i := 0); have zf1 := BZ1.out.free (i := 1); have zf2 := BZ1.out.free (i := 2); have zf3 := BZ1.out.free (i := 3); have zf4 := BZ1.out.free (i := 4)
      have hn1 : w.heap.size ≠ w1.heap.size := by omega
      have hn2 : w1.heap.size ≠ w.heap.size := by omega
      have hn3 : w.heap.size < w1.heap.size := by omega
      have hn4 : w.heap.size + 1 ≠ w1.heap.size := by omega
      have hn5 : w1.heap.size ≠ w.heap.size + 1 := by omega
      have hn6 : w.heap.size + 1 < w1.heap.size := by omega
      go_wp2_with fail
      refine (l01In_any _ _ _ _).mono ?_
      rintro e2 w2 ⟨h1, rfl⟩
      rw [hdec] at h1
      subst h1
      go_wp2_with fail
      refine bodyPost_ret (v := .tuple #[.agg #[.int .i64 9, .int .i64 25, .int .i64 e, .string s, .slice (some ⟨b, off, none⟩) 1 cap], .slice la R.length lc, .bool false]) (by simp [results, Tryd.results79, go_sem, z0, z1, z2, z3, z4, hn4, hn5, hn6]) rfl ⟨.mk 9 25 e s [], _, _, _, _, _, _, rfl, ?_⟩
      exact (by (repeat' (first | with_reducible exact Below.refl _ _ | with_reducible refine below_alloc ?_ _ ?_ | with_reducible refine Below.setCell ?_ ?_ _ | with_reducible refine Below.drew ?_ | with_reducible refine below_drewN ?_ _ | with_reducible refine below_step ?_ (by assumption) ?_ | with_reducible refine below_mark ?_ (by assumption) ?_)); all_goals (first | omega | (simp; done) | (simp; omega)))
  · have t1 : (x.k != 3) = true := by simpa using h3
    rw [if_neg (by simp only [decide_eq_true_eq]; exact fun h => h3 h.1)]
    clear HLE HLA h3

    go_enter Tryd.func79, Tryd.ntmps79
    go_wp2_with fail
    refine (l10Text_any _ _ _ _ _ _).mono ?_
    rintro x1 w1 ⟨h1, hb1⟩
    rw [show decide ((9 : Int) = 5 ∨ (9 : Int) = 6) = false from by decide] at h1
    subst h1
    have hz1 := hb1.size
    simp at hz1
    have hbw1 : Below w.heap.size w w1 := (by (repeat' (first | with_reducible exact Below.refl _ _ | with_reducible refine below_alloc ?_ _ ?_ | with_reducible refine Below.setCell ?_ ?_ _ | with_reducible refine Below.drew ?_ | with_reducible refine below_drewN ?_ _ | with_reducible refine below_step ?_ (by assumption) ?_ | with_reducible refine below_mark ?_ (by assumption) ?_)); all_goals (first | omega | (simp; done) | (simp; omega)))
    have BX1 := Lib.hid ((BX.out.alloc (.cells #[.int .i64 0, .int .i64 0, .int .i64 0, .string ⟨#[]⟩, .slice none 0 0] 28)).stay hb1)
    have BZ1 := Lib.hid (BZ.out.stay hb1)
    obtain ⟨p0, p1, p2, p3, p4⟩ := BX1.out.cells
    obtain ⟨c0, c1, c2, c3, c4⟩ := CX.out w1 hbw1

    obtain ⟨z0, z1, z2, z3, z4⟩ := BZ1.out.cells
    have zf0 := BZ1.out.free (i := 0); have zf1 := BZ1.out.free (i := 1); have zf2 := BZ1.out.free (i := 2); have zf3 := BZ1.out.free (i := 3); have zf4 := BZ1.out.free (i := 4)
    have hn1 : w.heap.size ≠ w1.heap.size := by omega
    have hn2 : w1.heap.size ≠ w.heap.size := by omega
    have hn3 : w.heap.size < w1.heap.size := by omega
    have hn4 : w.heap.size + 1 ≠ w1.heap.size := by omega
    have hn5 : w1.heap.size ≠ w.heap.size + 1 := by omega
    have hn6 : w.heap.size + 1 < w1.heap.size := by omega
    go_wp2_with fail
    refine bodyPost_ret (v := .tuple #[.agg #[.int .i64 9, .int .i64 25, .int .i64 e, .string s, .slice (some ⟨b, off, none⟩) 1 cap], .slice la R.length lc, .bool false]) (by simp [results, Tryd.results79, go_sem, z0, z1, z2, z3, z4, hn4, hn5, hn6]) rfl ⟨.mk 9 25 e s [], _, _, _, _, _, _, rfl, ?_⟩
    exact (by (repeat' (first | with_reducible exact Below.refl _ _ | with_reducible refine below_alloc ?_ _ ?_ | with_reducible refine Below.setCell ?_ ?_ _ | with_reducible refine Below.drew ?_ | with_reducible refine below_drewN ?_ _ | with_reducible refine below_step ?_ (by assumption) ?_ | with_reducible refine below_mark ?_ (by assumption) ?_)); all_goals (first | omega | (simp; done) | (simp; omega)))
set_option maxHeartbeats 4000000 in
theorem l10Get_any (w0 : World) : ∀ (N : Nat) (v : Value) (t : V) (d : Int), t.sz < N → rightB t d = true → hasT 256 256 t = false → Rep w0 v t → t.sz ≤ 1048576 → ∀ (Gl : Nat → Prop) (lv : Value) (R : List V) (w : World), leaves R → Below w0.heap.size w0 w → RepF w Gl lv R → R.length + t.nodes ≤ 1000000 →
    Calls Tryd.prog 79 #[v, lv] w (GetSRet Gl w (getS t R)) := by
  intro N
  induction N with
  | zero => intro v t d h; omega
  | succ N ih =>
  intro v t d hN hright h256 h hsz Gl lv R w hleaf hw hl hR
  by_cases htx : isTx t = true
  · rw [getS_eq, if_pos htx]; exact l10Get_text w0 v t h hsz htx Gl lv R w hw hl hR
  by_cases hrf : isRf t = true
  · rw [getS_eq, if_neg htx, if_pos hrf]
    have h9 : t.k = 9 ∧ t.n = 25 := by simpa [isRf] using hrf
    have hlen : t.kids.length = 1 := by
      have h2 := hright
      rw [rightB_eq] at h2
      simp only [Bool.and_eq_true, ownB] at h2
      have h3 := h2.1.2.2
      rw [if_neg (by omega), if_pos h9.1] at h3
      simpa using h3
    obtain ⟨x, hx⟩ : ∃ x, t.kids = [x] := by
      cases hk : t.kids with
      | nil => rw [hk] at hlen; simp at hlen
      | cons x xs => rw [hk] at hlen; exact ⟨x, by rw [List.eq_nil_of_length_eq_zero (by simpa using hlen : xs.length = 0)]⟩
    exact l10Get_ref w0 v t x h h9.1 h9.2 hx Gl lv R hleaf w hw hl (by omega)
  rw [Bool.not_eq_true] at htx hrf
  have hq : decide (t.k = 5 ∨ t.k = 6) = false := htx
  have hguard : (t.k == 9) = false ∨ ((t.k == 9) = true ∧ (t.n == 25) = false) := by
    by_cases h9 : t.k = 9
    · exact .inr ⟨by simpa using h9, by simp [isRf, h9] at hrf; simpa using hrf⟩
    · exact .inl (by simpa using h9)
  obtain ⟨sl, rfl, hwf, hr⟩ := h
  have hts := V.sz_eq t
  have hws := hw.size
  have hlen := szs_length t.kids
  obtain ⟨la, lc, rfl⟩ := hl.slice
  have hlb : RepF w (fun x => Gl x ∧ x < w.heap.size) (.slice la R.length lc) R := hl.bound
  have h256k : hasTs 256 256 t.kids = false := by rw [hasT_eq] at h256; exact (Bool.or_eq_false_iff.1 h256).2
  have h256j : ∀ j (hj : j < t.kids.length), hasT 256 256 t.kids[j] = false := fun j hj => by
    cases hq : hasT 256 256 t.kids[j] with
    | false => rfl
    | true => have := hasTs_stuck 256 256 t.kids j hj hq; rw [h256k] at this; cases this
  have HPS := Lib.hid (show ∀ L R2, getSs t.kids R = some (L, R2) → ∀ e w', (∃ sl lv', e = .returned (.tuple #[.agg #[.int .i64 t.k, .int .i64 t.n, .int .i64 t.e, .string t.s, sl], lv', .bool true]) ∧ OwnS w' (fun x => w.heap.size ≤ x) sl L ∧ RepF w' (fun x => Gl x ∨ w.heap.size ≤ x) lv' R2 ∧ Below w.heap.size w w') → GetSRet Gl w (getS t R) e w' from
    fun L R2 hu e w' ⟨sl, lv', h1, h2, h3, h4⟩ => by rw [getS_eq, if_neg (by rw [htx]; simp), if_neg (by rw [hrf]; simp), hu]; exact ⟨sl, lv', h1, hwf, h2, h3, h4⟩)
  have HPN := Lib.hid (show getSs t.kids R = none → ∀ e w', (∃ (t' : V) (a : Option Addr) (n c : Nat) (la : Option Addr) (ln lc : Nat), e = .returned (.tuple #[t'.agg (.slice a n c), .slice la ln lc, .bool false]) ∧ Below w.heap.size w w') → GetSRet Gl w (getS t R) e w' from
    fun hu e w' h => by rw [getS_eq, if_neg (by rw [htx]; simp), if_neg (by rw [hrf]; simp), hu]; exact h)
  obtain ⟨a, b, off, cap, rfl, ha, hc, hm, sls, hel⟩ := hr.opened
  have HA := Lib.hid ha; have HE := Lib.hid hel; have HW := Lib.hid hw; have HLB := Lib.hid hlb
  have HR := Lib.hid (fun (j : Nat) (hj : j < t.kids.length) => rightsB_at (right_kids hright) j hj)
  have V1 := Lib.hid (fun (j : Nat) (hj : j < t.kids.length) (G' : Nat → Prop) (lv' : Value) (R' : List V) (W : World) (hlf : leaves R') (hW : Below w0.heap.size w0 W) (hl' : RepF W G' lv' R') (hR' : R'.length + t.kids[j].nodes ≤ 1000000) => ih (t.kids[j].agg (sls j)) t.kids[j] (d - 1) (by have h1 := szs_mem (List.getElem_mem hj); omega) (HR.out j hj) (h256j j hj) ⟨sls j, rfl, (HE.out j hj).2.1, (HE.out j hj).2.2⟩ (by have h1 := szs_mem (List.getElem_mem hj); omega) G' lv' R' W hlf hW hl' hR')
  have GS := Lib.hid (fun (j : Nat) (hj : j < t.kids.length) (R' : List V) (hlf : leaves R') (p : V × List V) (hp : getS t.kids[j] R' = some p) => show leaves p.2 ∧ p.2.length ≤ R'.length + t.kids[j].nodes from by
    have := (((get_same t.kids[j] (d - 1) R' (HR.out j hj) hlf).2 (h256j j hj)).2 p hp).2
    exact ⟨this.1, this.2.2.2⟩)
  have HND := Lib.hid (fun (j : Nat) (hj : j < t.kids.length) => show nodess (t.kids.take (j + 1)) = nodess (t.kids.take j) + t.kids[j].nodes ∧ nodess (t.kids.take j) + t.kids[j].nodes ≤ nodess t.kids from by
    have h3 := nodess_append (t.kids.take j) (t.kids.drop j)
    rw [List.take_append_drop, List.drop_eq_getElem_cons hj, nodess] at h3
    have h4 := nodess_append (t.kids.take j) [t.kids[j]]
    rw [List.take_succ_eq_append_getElem hj]
    rw [nodess, nodess, Nat.add_zero] at h4
    omega)
  have hnod := V.nodes_eq t
  have HT := Lib.hid (fun (j : Nat) (hj : j < t.kids.length) => getSs_take t.kids R j hj)
  have HSTK := Lib.hid (fun (j : Nat) => getSs_stuck t.kids R j)
  have HLN := Lib.hid (fun (j : Nat) (p : List V × List V) (hp : getSs (t.kids.take j) R = some p) => show p.1.length = (t.kids.take j).length from getSs_len _ _ _ hp)
  have hl9 : t.kids.length ≤ 1048576 := by omega
  have BX := Lib.hid (Box.new w t.k t.n t.e t.s (.slice a t.kids.length cap) 28)
  have hl0 : R.length + nodess t.kids ≤ 1000000 := by omega
  clear ih hel ha hc hm hN hr hwf hlen hts hsz hl hlb htx hrf hR hright h256 h256k h256j hnod
  unfold V.agg
  generalize getS t R = GR at *
  generalize t.k = k at *
  generalize t.n = n at *
  generalize t.e = e at *
  generalize t.s = s at *
  generalize t.kids = ts at *
  have BZ := Lib.hid (show Box ((w.alloc (.cells #[.int .i64 k, .int .i64 n, .int .i64 e, .string s, .slice a ts.length cap] 28)).alloc (.cells #[.int .i64 0, .int .i64 0, .int .i64 0, .string ⟨#[]⟩, .slice none 0 0] 28)) (w.heap.size + 1) 0 0 0 ⟨#[]⟩ (.slice none 0 0) 28 by
    have := Box.new (w.alloc (.cells #[.int .i64 k, .int .i64 n, .int .i64 e, .string s, .slice a ts.length cap] 28)) 0 0 0 ⟨#[]⟩ (.slice none 0 0) 28
    rwa [show (w.alloc (.cells #[.int .i64 k, .int .i64 n, .int .i64 e, .string s, .slice a ts.length cap] 28)).heap.size = w.heap.size + 1 by simp] at this)
  rcases hguard with t9 | ⟨t9, t25⟩
  all_goals
    go_enter Tryd.func79, Tryd.ntmps79
    go_wp2_with fail
    refine (l10Text_any _ _ _ _ _ _).mono ?_
    rintro x w1 ⟨h1, hb1⟩
    rw [hq] at h1
    subst h1
    have hz1 := hb1.size
    simp at hz1
    have hbw1 : Below w.heap.size w w1 := (by (repeat' (first | with_reducible exact Below.refl _ _ | with_reducible refine below_alloc ?_ _ ?_ | with_reducible refine Below.setCell ?_ ?_ _ | with_reducible refine Below.drew ?_ | with_reducible refine below_drewN ?_ _ | with_reducible refine below_step ?_ (by assumption) ?_ | with_reducible refine below_mark ?_ (by assumption) ?_)); all_goals (first | omega | (simp; done) | (simp; omega)))
    have BX1 := Lib.hid ((BX.out.alloc (.cells #[.int .i64 0, .int .i64 0, .int .i64 0, .string ⟨#[]⟩, .slice none 0 0] 28)).stay hb1)
    have BZ1 := Lib.hid (BZ.out.stay hb1)
    obtain ⟨p0, p1, p2, p3, p4⟩ := BX1.out.cells
    have BO := Lib.hid (Box.new w1 k n e s (.slice none 0 0) 28)
    have hn1 : w.heap.size ≠ w1.heap.size := by omega
    have hn2 : w1.heap.size ≠ w.heap.size := by omega
    have hn3 : w.heap.size < w1.heap.size := by omega
    go_wp2_with fail
    have HBW := Lib.hid (show Below w.heap.size w (w1.alloc (.cells #[.int .i64 k, .int .i64 n, .int .i64 e, .string s, .slice none 0 0] 28)) from (by (repeat' (first | with_reducible exact Below.refl _ _ | with_reducible refine below_alloc ?_ _ ?_ | with_reducible refine Below.setCell ?_ ?_ _ | with_reducible refine Below.drew ?_ | with_reducible refine below_drewN ?_ _ | with_reducible refine below_step ?_ (by assumption) ?_ | with_reducible refine below_mark ?_ (by assumption) ?_)); all_goals (first | omega | (simp; done) | (simp; omega))))
    have HZW := Lib.hid (show (w1.alloc (.cells #[.int .i64 k, .int .i64 n, .int .i64 e, .string s, .slice none 0 0] 28)).heap.size = w1.heap.size + 1 by simp)
    have BX3 := Lib.hid (BX1.out.alloc (.cells #[.int .i64 k, .int .i64 n, .int .i64 e, .string s, .slice none 0 0] 28))
    have BZ3 := Lib.hid (BZ1.out.alloc (.cells #[.int .i64 k, .int .i64 n, .int .i64 e, .string s, .slice none 0 0] 28))
    clear p0 p1 p2 p3 p4
    generalize w1.alloc (.cells #[.int .i64 k, .int .i64 n, .int .i64 e, .string s, .slice none 0 0] 28) = W3 at *
    go_loopw [9, 1, 10, 11, 12] (fun i l _ _ _ wr => ∃ (j : Nat) (G : Nat → Prop) (o : Value) (L1 R1 : List V) (la1 : Option Addr) (lc1 : Nat), j ≤ ts.length ∧ i = .int .i64 j ∧ l = .slice la1 R1.length lc1 ∧ getSs (ts.take j) R = some (L1, R1) ∧ leaves R1 ∧ R1.length ≤ R.length + nodess (ts.take j) ∧ Acc W3 wr w1.heap.size (w1.heap.size + 1) k n e s L1 o G ∧ RepF wr (fun x => ((Gl x ∧ x < w.heap.size) ∨ w1.heap.size ≤ x) ∧ x ≠ w1.heap.size ∧ o.ownBlock ≠ some x ∧ x < wr.heap.size) (.slice la1 R1.length lc1) R1) (fun i _ _ _ _ _ => ts.length + 1 - (intOf i).toNat)
    case atStart =>
      refine ⟨0, _, _, [], R, la, lc, by omega, rfl, rfl, by rw [List.take_zero, getSs], hleaf, by simp, Acc.nil BO.out (Below.refl _ _), ?_⟩
      refine (HLB.out.stay HBW.out).mono (fun x hx _ => ⟨.inl hx, by have := hx.2; omega, by simp [Value.ownBlock], by have := hx.2; have := HZW.out; omega⟩)
    case round =>
      obtain ⟨j, G, o, L1, R1, la1, lc1, hj, rfl, rfl, htr, hlf1, hln1, hacc, hlist⟩ := hrel
      have HACC := Lib.hid hacc; have HTR := Lib.hid htr; have HL := Lib.hid hlist; have HLF := Lib.hid hlf1; clear hacc htr hlist hlf1
      have HBL := Lib.hid (HBW.out.trans (HACC.out.2.2.mono (by omega)))
      have hz9 := HACC.out.2.2.size
      rw [HZW.out] at hz9
      have BXw := Lib.hid (show Box wr w.heap.size k n e s (.slice a ts.length cap) 28 from (HACC.out.2.2.block w.heap.size (by omega)).trans BX3.out)
      have BZw := Lib.hid (show Box wr (w.heap.size + 1) 0 0 0 ⟨#[]⟩ (.slice none 0 0) 28 from (HACC.out.2.2.block (w.heap.size + 1) (by omega)).trans BZ3.out)
      obtain ⟨q0, q1, q2, q3, q4⟩ := BXw.out.cells
      by_cases hlt : j < ts.length
      · have hne : ts ≠ [] := by intro e; rw [e] at hlt; simp at hlt
        obtain ⟨rfl, hbw⟩ := HA.out hne
        have HWR := Lib.hid (HW.out.trans (HBL.out.mono HW.out.size))
        obtain ⟨c0, c1, c2, c3, c4⟩ := (HE.out j hlt).1.keep (HWR.out.block b hbw)
        have hnd := HND.out j hlt
        have hR1 : R1.length + ts[j].nodes ≤ 1000000 := by omega
        have VJ := Lib.hid (fun (W : World) (hW : Below wr.heap.size wr W) => V1.out j hlt (fun x => ((Gl x ∧ x < w.heap.size) ∨ w1.heap.size ≤ x) ∧ x ≠ w1.heap.size ∧ o.ownBlock ≠ some x ∧ x < wr.heap.size) (.slice la1 R1.length lc1) R1 W HLF.out (below_step HWR.out hW (by have := HWR.out.size; omega)) (HL.out.stay hW) hR1)
        have GSJ := Lib.hid (fun p hp => GS.out j hlt R1 HLF.out p hp)
        have HTJ := Lib.hid (HT.out j hlt)
        rw [HTR.out, Option.bind_some] at HTJ
        have HLEN := Lib.hid (show L1.length ≤ 1048576 by have := HLN.out j _ HTR.out; rw [this, List.length_take]; omega)
        have HSTJ := Lib.hid (fun h => HPN.out (HSTK.out (j + 1) h))
        obtain ⟨a3, cap3, hs3⟩ := (HE.out j hlt).2.2.slice
        rw [hs3] at c4 VJ
        clear hs3 V1 HT HLN HSTK GS HND hR1
        unfold V.agg at VJ
        generalize ts[j] = tk at *
        cases hgs : getS tk R1 with
        | none =>
          have HNO := Lib.hid (HSTJ.out (by rw [HTJ.out, hgs]; rfl))
          rw [hgs] at VJ
          clear HSTJ HTJ GSJ hgs HPS HPN
          go_wp2_with fail
          refine (VJ.out _ ((by (repeat' (first | with_reducible exact Below.refl _ _ | with_reducible refine below_alloc ?_ _ ?_ | with_reducible refine Below.setCell ?_ ?_ _ | with_reducible refine Below.drew ?_ | with_reducible refine below_drewN ?_ _ | with_reducible refine below_step ?_ (by assumption) ?_ | with_reducible refine below_mark ?_ (by assumption) ?_)); all_goals (first | omega | (simp; done) | (simp; omega))))).mono ?_
          rintro x w5 ⟨t', sa, sn, sc, la2, ln2, lc2, rfl, hb5⟩
          unfold V.agg
          have hz5 := hb5.size
          have hbn : Below wr.heap.size wr w5 := (by (repeat' (first | with_reducible exact Below.refl _ _ | with_reducible refine below_alloc ?_ _ ?_ | with_reducible refine Below.setCell ?_ ?_ _ | with_reducible refine Below.drew ?_ | with_reducible refine below_drewN ?_ _ | with_reducible refine below_step ?_ (by assumption) ?_ | with_reducible refine below_mark ?_ (by assumption) ?_)); all_goals (first | omega | (simp; done) | (simp; omega)))
          have BZr := Lib.hid (BZw.out.stay hbn)
          have BXr := Lib.hid (BXw.out.stay hbn)
          clear q0 q1 q2 q3 q4 c0 c1 c2 c3 c4
          obtain ⟨q0, q1, q2, q3, q4⟩ := BXr.out.cells
          obtain ⟨z0, z1, z2, z3, z4⟩ := BZr.out.cells
          have zf0 := BZr.out.free (i := 0); have zf1 := BZr.out.free (i := 1); have zf2 := BZr.out.free (i := 2); have zf3 := BZr.out.free (i := 3); have zf4 := BZr.out.free (i := 4)
          have hm1 : w.heap.size ≠ w5.heap.size := by omega
          have hm2 : w5.heap.size ≠ w.heap.size := by omega
          have hm3 : w.heap.size < w5.heap.size := by omega
          have hm4 : w.heap.size + 1 ≠ w5.heap.size := by omega
          have hm5 : w5.heap.size ≠ w.heap.size + 1 := by omega
          have hm6 : w.heap.size + 1 < w5.heap.size := by omega
          go_wp2_with fail
          refine bodyPost_ret (v := .tuple #[.agg #[.int .i64 k, .int .i64 n, .int .i64 e, .string s, .slice (some ⟨b, off, none⟩) ts.length cap], .slice la1 R1.length lc1, .bool false]) (by simp [results, Tryd.results79, go_sem, z0, z1, z2, z3, z4, hm4, hm5, hm6]) rfl (HNO.out _ _ ⟨.mk k n e s [], _, _, _, _, _, _, rfl, ?_⟩)
          have hbl9 := HBL.out
          exact (by (repeat' (first | with_reducible exact Below.refl _ _ | with_reducible refine below_alloc ?_ _ ?_ | with_reducible refine Below.setCell ?_ ?_ _ | with_reducible refine Below.drew ?_ | with_reducible refine below_drewN ?_ _ | with_reducible refine below_step ?_ (by assumption) ?_ | with_reducible refine below_mark ?_ (by assumption) ?_)); all_goals (first | omega | (simp; done) | (simp; omega)))
        | some p =>
          obtain ⟨u, R2⟩ := p
          rw [hgs] at VJ HTJ
          have hgj := GSJ.out _ hgs
          clear GSJ HSTJ hgs HPN HPS
          go_wp2_with fail
          refine (VJ.out _ ((by (repeat' (first | with_reducible exact Below.refl _ _ | with_reducible refine below_alloc ?_ _ ?_ | with_reducible refine Below.setCell ?_ ?_ _ | with_reducible refine Below.drew ?_ | with_reducible refine below_drewN ?_ _ | with_reducible refine below_step ?_ (by assumption) ?_ | with_reducible refine below_mark ?_ (by assumption) ?_)); all_goals (first | omega | (simp; done) | (simp; omega))))).mono ?_
          rintro x w5 ⟨us, lv2, rfl, uwf, uo, ul, hb5⟩
          obtain ⟨ua, un, uc, rfl⟩ : ∃ sa sn sc, us = .slice sa sn sc := by obtain ⟨p, q, e⟩ := uo.slice; exact ⟨p, _, q, e⟩
          obtain ⟨la2, lc2, rfl⟩ := ul.slice
          unfold V.agg
          have hz5 := hb5.size
          have hbx : Below wr.heap.size wr w5 := (by (repeat' (first | with_reducible exact Below.refl _ _ | with_reducible refine below_alloc ?_ _ ?_ | with_reducible refine Below.setCell ?_ ?_ _ | with_reducible refine Below.drew ?_ | with_reducible refine below_drewN ?_ _ | with_reducible refine below_step ?_ (by assumption) ?_ | with_reducible refine below_mark ?_ (by assumption) ?_)); all_goals (first | omega | (simp; done) | (simp; omega)))
          have HWF := Lib.hid uwf
          have HO := Lib.hid uo.bound
          have HL2 := Lib.hid ul.bound
          have HGJ := Lib.hid hgj
          clear q0 q1 q2 q3 q4 c0 c1 c2 c3 c4 uo ul uwf VJ hgj
          obtain ⟨g0, g1, g2, g3, g4⟩ := (HACC.out.stay hbx).1.cells
          have hm1 : w1.heap.size ≠ w5.heap.size := by omega
          have hm2 : w5.heap.size ≠ w1.heap.size := by omega
          have hm3 : w1.heap.size < w5.heap.size := by omega
          clear HE HA HLB HL BXw BZw BX BZ BX1 BZ1 BX3 BZ3 BO HTR
          go_wp2_with (at_builtin; refine app_own rfl _ _ rfl (w1.heap.size + 1) G (fun x => wr.heap.size ≤ x ∧ x < w5.heap.size) _ L1 rfl ((HACC.out.stay ((by (repeat' (first | with_reducible exact Below.refl _ _ | with_reducible refine below_alloc ?_ _ ?_ | with_reducible refine Below.setCell ?_ ?_ _ | with_reducible refine Below.drew ?_ | with_reducible refine below_drewN ?_ _ | with_reducible refine below_step ?_ (by assumption) ?_ | with_reducible refine below_mark ?_ (by assumption) ?_)); all_goals (first | omega | (simp; done) | (simp; omega))))).2.1) u (.slice ua un uc) _ rfl (by first | exact heap_alloc_here _ (by simp) | exact heap_alloc_here _ rfl) HWF.out (OwnS.keep HO.out (fun x hx hxs => (heap_alloc_old _ _ (by simp; omega)).trans (heap_alloc_old _ _ hxs))) (fun x hx => by have h1 := hx.1; have h2 := hx.2; exact ⟨by omega, by simp; omega, fun hG => by have := (HACC.out.2.1.inG x hG).2; omega, fun e => by have := (HACC.out.2.1.lt x e).2; omega⟩) (by have := HLEN.out; omega) (by simp; omega) ?_; intro v2 w2 hrow2 hg2 hfr2; obtain ⟨va, vn, vc, rfl⟩ := hrow2.slice3; have HG2 := Lib.hid hg2; have HR2 := Lib.hid hrow2; have HF2 := Lib.hid hfr2; have HB2 := Lib.hid (show Box w2 w1.heap.size k n e s o 28 from (hg2.block w1.heap.size (by simp; omega) (fun e => by have := (HACC.out.2.1.lt _ e.symm).1; omega)).trans (HACC.out.stay ((by (repeat' (first | with_reducible exact Below.refl _ _ | with_reducible refine below_alloc ?_ _ ?_ | with_reducible refine Below.setCell ?_ ?_ _ | with_reducible refine Below.drew ?_ | with_reducible refine below_drewN ?_ _ | with_reducible refine below_step ?_ (by assumption) ?_ | with_reducible refine below_mark ?_ (by assumption) ?_)); all_goals (first | omega | (simp; done) | (simp; omega))))).1); have hfz := HB2.out.free (i := 4); have hcc := HB2.out.cells.2.2.2.2; clear hrow2 hg2 hfr2)
          have hb5n : Below w5.heap.size w5 ((w5.alloc (.cells #[.int .i64 u.k, .int .i64 u.n, .int .i64 u.e, .string u.s, .slice ua un uc] 28)).alloc (.cells #[.int .i64 u.k, .int .i64 u.n, .int .i64 u.e, .string u.s, .slice ua un uc] 28)) := (by (repeat' (first | with_reducible exact Below.refl _ _ | with_reducible refine below_alloc ?_ _ ?_ | with_reducible refine Below.setCell ?_ ?_ _ | with_reducible refine Below.drew ?_ | with_reducible refine below_drewN ?_ _ | with_reducible refine below_step ?_ (by assumption) ?_ | with_reducible refine below_mark ?_ (by assumption) ?_)); all_goals (first | omega | (simp; done) | (simp; omega)))
          have HLX := Lib.hid (RepF.mono (RepF.put (b := w1.heap.size) (v2 := .slice va vn vc) HL2.out (fun x hx hs => by
            rcases hx.1 with h | h
            · exact ⟨h.2.1, h.2.2.1⟩
            · exact ⟨by omega, fun e => by have := (HACC.out.2.1.lt x e).2; omega⟩) hb5n HG2.out) (G' := fun x => ((Gl x ∧ x < w.heap.size) ∨ w1.heap.size ≤ x) ∧ x ≠ w1.heap.size ∧ (Value.slice va vn vc).ownBlock ≠ some x ∧ x < (w2.setCell ⟨w1.heap.size, 4, none⟩ (.slice va vn vc)).heap.size) (fun x hx hs => ⟨hx.1.elim (fun h => h.1) (fun h => .inr (by omega)), hx.1.elim (fun h => h.2.1) (fun h => by omega), fun e => by
              rcases HF2.out with h3 | h3
              · have e2 := h3.symm.trans e
                rcases hx.1 with h | h
                · exact h.2.2.1 e2
                · have := (HACC.out.2.1.lt x e2).2; omega
              · rw [h3] at e; simp only [Option.some.injEq] at e; have := hx.2; simp at e; omega, hs⟩))
          go_roundw
          case rel => exact ⟨j + 1, _, _, _, R2, la2, lc2, by omega, by go_num, rfl, HTJ.out, HGJ.out.1, by have : R2.length ≤ R1.length + tk.nodes := HGJ.out.2; omega, HACC.out.put (by omega) ((by (repeat' (first | with_reducible exact Below.refl _ _ | with_reducible refine below_alloc ?_ _ ?_ | with_reducible refine Below.setCell ?_ ?_ _ | with_reducible refine Below.drew ?_ | with_reducible refine below_drewN ?_ _ | with_reducible refine below_step ?_ (by assumption) ?_ | with_reducible refine below_mark ?_ (by assumption) ?_)); all_goals (first | omega | (simp; done) | (simp; omega)))) HG2.out HR2.out, HLX.out⟩
          case measure => simp [intOf]; omega
      · have H := Lib.hid (show ts.take j = ts from List.take_of_length_le (by omega))
        have HE2 := Lib.hid (show getSs ts R = some (L1, R1) by have := HTR.out; rwa [H.out] at this)
        have HP := Lib.hid (HPS.out _ _ HE2.out)
        obtain ⟨oa, on, oc, rfl⟩ := HACC.out.2.1.slice3
        obtain ⟨g0, g1, g2, g3, g4⟩ := HACC.out.1.cells
        obtain ⟨z0, z1, z2, z3, z4⟩ := BZw.out.cells
        have zf0 := BZw.out.free (i := 0); have zf1 := BZw.out.free (i := 1); have zf2 := BZw.out.free (i := 2); have zf3 := BZw.out.free (i := 3); have zf4 := BZw.out.free (i := 4)
        have HO := Lib.hid (OwnS.mono (HACC.out.own.set5 (w.heap.size + 1) (by omega) (.int .i64 k) (.int .i64 n) (.int .i64 e) (.string s) (.slice oa on oc)) (F' := fun x => w.heap.size ≤ x) (fun x hx => by omega))
        have HLZ := Lib.hid (RepF.mono (RepF.nz (z := w.heap.size + 1) (w' := set5 wr (w.heap.size + 1) (.int .i64 k) (.int .i64 n) (.int .i64 e) (.string s) (.slice oa on oc)) HL.out (fun x hx => by have := hx.1; omega) (by (repeat' (first | with_reducible exact NZ.refl _ _ | with_reducible refine NZ.setCell ?_ _ | with_reducible refine NZ.drew ?_ | with_reducible refine NZ.alloc ?_ _ | with_reducible refine NZ.step ?_ (by assumption))))) (G' := fun x => Gl x ∨ w.heap.size ≤ x) (fun x hx _ => hx.1.elim (fun h => .inl h.1) (fun h => .inr (by omega))))
        have HBZ := Lib.hid (HBL.out.trans ((below_set5 wr (w.heap.size + 1) (.int .i64 k) (.int .i64 n) (.int .i64 e) (.string s) (.slice oa on oc)).mono (by omega)))
        clear H HE HA V1 HT BX BO BZ BX1 BZ1 BX3 BZ3 HACC HTR HE2 HL HLB HBW HW HBL HLN BXw BZw HPS HPN GS HND HSTK
        go_wp2_with fail
        refine bodyPost_ret (v := .tuple #[.agg #[.int .i64 k, .int .i64 n, .int .i64 e, .string s, .slice oa on oc], .slice la1 R1.length lc1, .bool true]) (by simp [results, Tryd.results79, go_sem, z0, z1, z2, z3, z4]) rfl (HP.out _ _ ⟨_, _, rfl, HO.out, HLZ.out, HBZ.out⟩)
end Go.Proofs.YtiemlefmhleaeaaDoor
namespace Go.Proofs.YtiemlefmhleaeaaDoor
set_option linter.unusedVariables false
set_option maxRecDepth 100000
open Go.RowKit
/-- what both GetRefs return, where they return true -/
def grK (x : V) : Option V := if hasT 256 256 x then none else ((getS x []).map Prod.fst).filter (fun u => okT u)
def grR (t : V) : Option V := if okT t && (decide (t.k = 9) && decide (t.n = 256)) then (match t.kids with | x :: _ => grK x | [] => none) else none
theorem gr_sz {x u : V} {d : Int} (h : rightB x d = true) (hn : x.nodes ≤ 300) (h256 : hasT 256 256 x = false) {R : List V} (hg : getS x [] = some (u, R)) : u.sz ≤ 1048576 ∧ u.nodes ≤ 300 := by
  have := (((get_same x d [] h (fun y hy => by simp at hy)).2 h256).2 _ hg).2
  simp only at this
  omega
theorem grR_sz {t : V} (h : t.sz ≤ 1048576) : ((grR t).getD t).sz ≤ 1048576 := by
  unfold grR
  split
  · rename_i h1
    cases hk : t.kids with
    | nil => exact h
    | cons x xs =>
      simp only
      unfold grK
      split
      · exact h
      · rename_i h256
        rw [Bool.not_eq_true] at h256
        cases hg : getS x [] with
        | none => exact h
        | some p =>
          simp only [Option.map_some, Option.filter]
          split
          · simp only [Bool.and_eq_true, okT, decide_eq_true_eq] at h1
            have hr := right_kids h1.1.1
            rw [hk, rightsB, Bool.and_eq_true] at hr
            have hn := V.nodes_eq t
            rw [hk, nodess] at hn
            obtain ⟨u, R⟩ := p
            exact (gr_sz hr.1 (by omega) h256 hg).1
          · exact h
  · exact h
set_option maxHeartbeats 2000000 in
theorem GetRefs_spec (w0 : World) (v : Value) (t : V) (h : Rep w0 v t) (hsz : t.sz ≤ 1048576) (w : World) (hw : Below w0.heap.size w0 w) : Calls Tryd.prog 15 #[v] w (VBRet w ((grR t).getD t) (grR t).isSome) := by
  have VO := Lib.hid (fun (W : World) (hW : Below w.heap.size w W) => ValueOk_spec w0 v t h hsz W (hw.trans (hW.mono hw.size)))
  have OW := Lib.hid (fun (W : World) (hW : Below w.heap.size w W) => copy_any w0 v t h hsz W (hw.trans (hW.mono hw.size)))
  have HP := Lib.hid (show grR t = none → ∀ e w', (∃ sl, e = .returned (.tuple #[t.agg sl, .bool false]) ∧ OwnS w' (fun x => w.heap.size ≤ x) sl t.kids ∧ Below w.heap.size w w') → VBRet w ((grR t).getD t) (grR t).isSome e w' from fun hn e w' ⟨sl, h1, h2, h3⟩ => by
    rw [hn]; obtain ⟨_, _, hwf, _⟩ := h; exact ⟨sl, h1, hwf, h2, h3⟩)
  have HS := Lib.hid (show ∀ u, grR t = some u → u.wf → ∀ e w', (∃ sl, e = .returned (.tuple #[u.agg sl, .bool true]) ∧ OwnS w' (fun x => w.heap.size ≤ x) sl u.kids ∧ Below w.heap.size w w') → VBRet w ((grR t).getD t) (grR t).isSome e w' from fun u hn hwf e w' ⟨sl, h1, h2, h3⟩ => by
    rw [hn]; exact ⟨sl, h1, hwf, h2, h3⟩)
  have HK := Lib.hid (show grR t = if okT t && (decide (t.k = 9) && decide (t.n = 256)) then (match t.kids with | x :: _ => grK x | [] => none) else none from rfl)
  obtain ⟨sl, rfl, hwf, hr⟩ := h
  by_cases hbad : okT t = true ∧ t.k = 9 ∧ t.n = 256
  · obtain ⟨hok, h9, hn9⟩ := hbad
    have hright : rightB t 12 = true := by simp only [okT, Bool.and_eq_true] at hok; exact hok.1
    have hnod : t.nodes ≤ 300 := (ok_small hok).2
    have hlen : t.kids.length = 1 := by
      have h2 := hright
      rw [rightB_eq] at h2
      simp only [Bool.and_eq_true, ownB] at h2
      have h3 := h2.1.2.2
      rw [if_neg (by omega), if_pos h9] at h3
      simpa using h3
    obtain ⟨x, hx⟩ : ∃ x, t.kids = [x] := by
      cases hk : t.kids with
      | nil => rw [hk] at hlen; simp at hlen
      | cons x xs => rw [hk] at hlen; exact ⟨x, by rw [List.eq_nil_of_length_eq_zero (by simpa using hlen : xs.length = 0)]⟩
    have hrx : rightB x 11 = true := by have := right_kids hright; rw [hx, rightsB, Bool.and_eq_true] at this; exact this.1
    have hnx : x.nodes ≤ 300 := by have := V.nodes_eq t; rw [hx, nodess] at this; omega
    have hzx : x.sz ≤ 1048576 := by have h1 := szs_mem (show x ∈ t.kids by rw [hx]; simp); have h2 := V.sz_eq t; omega
    have HK2 := Lib.hid (show grR t = grK x by rw [HK.out, hok, h9, hn9, hx]; rfl)
    clear HK
    have hr1 : RepS w0 sl [x] := hx ▸ hr
    obtain ⟨a, b, off, cap, rfl, ha, hc, hm, sls, hel⟩ := hr1.opened
    obtain rfl := (ha (by simp)).1
    have hbw := (ha (by simp)).2
    have h0 : Cells5 w0 b off x (sls 0) ∧ x.wf ∧ RepS w0 (sls 0) x.kids := by have := hel 0 (by simp); simpa using this
    obtain ⟨a3, cap3, hs3⟩ := h0.2.2.slice
    have CX := Lib.hid (fun (W : World) (hW : Below w.heap.size w W) => h0.1.keep ((hw.trans (hW.mono hw.size)).block b hbw))
    have TG := Lib.hid (fun (W : World) (hW : Below w.heap.size w W) => l10Tag_any w0 256 256 _ (x.agg (sls 0)) x (Nat.lt_succ_self _) ⟨_, rfl, h0.2.1, h0.2.2⟩ hzx W (hw.trans (hW.mono hw.size)))
    have GT := Lib.hid (fun (h256 : hasT 256 256 x = false) (a : Option Addr) (W : World) (hW : Below w.heap.size w W) => l10Get_any w0 _ (x.agg (sls 0)) x 11 (Nat.lt_succ_self _) hrx h256 ⟨_, rfl, h0.2.1, h0.2.2⟩ hzx (fun _ => False) (.slice a 0 0) [] W (fun y hy => by simp at hy) (hw.trans (hW.mono hw.size)) (repF_empty _ _ _) (by simp; omega))
    have VU := Lib.hid (fun (h256 : hasT 256 256 x = false) (u : V) (R2 : List V) (hg : getS x [] = some (u, R2)) (y : Value) (W W2 : World) (hr : Rep W y u) (hW2 : Below W.heap.size W W2) => ValueOk_spec W y u hr (gr_sz hrx hnx h256 hg).1 W2 hW2)
    rw [hs3] at CX TG GT
    have hbl : b < w.heap.size := by have := hw.size; omega
    have HKG := Lib.hid (show grK x = if hasT 256 256 x then none else ((getS x []).map Prod.fst).filter (fun u => okT u) from rfl)
    have hagg : t.agg (.slice (some ⟨b, off, none⟩) [x].length cap) = .agg #[.int .i64 9, .int .i64 256, .int .i64 t.e, .string t.s, .slice (some ⟨b, off, none⟩) 1 cap] := by unfold V.agg; rw [h9, hn9]; rfl
    have BX := Lib.hid (Box.new w 9 256 t.e t.s (.slice (some ⟨b, off, none⟩) 1 cap) 28)
    have t1 : ((9 : Int) != 9) = false := by decide
    have HPA := Lib.hid (show grR t = none → ∀ e w', (∃ sl, e = .returned (.tuple #[.agg #[.int .i64 9, .int .i64 256, .int .i64 t.e, .string t.s, sl], .bool false]) ∧ OwnS w' (fun x => w.heap.size ≤ x) sl [x] ∧ Below w.heap.size w w') → VBRet w ((grR t).getD t) (grR t).isSome e w' from fun hn e w' ⟨sl, h1, h2, h3⟩ => HP.out hn e w' ⟨sl, by rw [h1]; unfold V.agg; rw [h9, hn9], by rw [hx]; exact h2, h3⟩)
    have OWA := Lib.hid (fun (W : World) (hW : Below w.heap.size w W) => show Calls Tryd.prog 78 #[.agg #[.int .i64 9, .int .i64 256, .int .i64 t.e, .string t.s, .slice (some ⟨b, off, none⟩) 1 cap]] W (fun e w' => ∃ sl, e = .returned (.agg #[.int .i64 9, .int .i64 256, .int .i64 t.e, .string t.s, sl]) ∧ t.wf ∧ OwnS w' (fun x => W.heap.size ≤ x) sl [x] ∧ Below W.heap.size W w') from by
      have h1 := OW.out W hW
      rw [hagg] at h1
      refine h1.mono (fun e w' ⟨sl, h2, h3, h4, h5⟩ => ⟨sl, by rw [h2]; unfold V.agg; rw [h9, hn9], h3, by rw [← hx]; exact h4, h5⟩)
    )
    rw [hagg]
    rw [hagg] at VO
    rw [hok] at VO
    clear hagg hr hr1 hwf hsz HP OW hel ha hc hm h0 hs3 hw hright hok hlen hrx hzx hbw
    have OW := OWA; have HP := HPA
    clear OWA HPA
    unfold V.agg at *
    unfold BoolRet at TG
    generalize (grR t).getD t = r1 at *
    generalize (grR t).isSome = r2 at *
    generalize grR t = KR at *
    generalize t.e = e at *
    generalize t.s = s at *
    have BZ := Lib.hid (show Box ((w.alloc (.cells #[.int .i64 9, .int .i64 256, .int .i64 e, .string s, .slice (some ⟨b, off, none⟩) 1 cap] 28)).alloc (.cells #[.int .i64 0, .int .i64 0, .int .i64 0, .string ⟨#[]⟩, .slice none 0 0] 28)) (w.heap.size + 1) 0 0 0 ⟨#[]⟩ (.slice none 0 0) 28 by
      have := Box.new (w.alloc (.cells #[.int .i64 9, .int .i64 256, .int .i64 e, .string s, .slice (some ⟨b, off, none⟩) 1 cap] 28)) 0 0 0 ⟨#[]⟩ (.slice none 0 0) 28
      rwa [show (w.alloc (.cells #[.int .i64 9, .int .i64 256, .int .i64 e, .string s, .slice (some ⟨b, off, none⟩) 1 cap] 28)).heap.size = w.heap.size + 1 by simp] at this)
    cases h256 : hasT 256 256 x
    · rw [h256] at TG
      have HKG2 := Lib.hid (show grK x = ((getS x []).map Prod.fst).filter (fun u => okT u) by rw [HKG.out, h256]; rfl)
      have GT := Lib.hid (fun a W hW => GT.out h256 a W hW)
      have VU := Lib.hid (fun u R2 hg y W W2 hr hW2 => VU.out h256 u R2 hg y W W2 hr hW2)
      cases hgs : getS x [] with
      | none =>
        rw [hgs] at GT
        have H := Lib.hid (HP.out (by rw [HK2.out, HKG2.out, hgs]; rfl))
        clear VU HS HKG HK2 HP HKG2 hgs
        go_enter Tryd.func15, Tryd.ntmps15
        go_wp2_with fail
        refine (VO.out _ ((by (repeat' (first | with_reducible exact Below.refl _ _ | with_reducible refine below_alloc ?_ _ ?_ | with_reducible refine Below.setCell ?_ ?_ _ | with_reducible refine Below.drew ?_ | with_reducible refine below_drewN ?_ _ | with_reducible refine below_step ?_ (by assumption) ?_ | with_reducible refine below_mark ?_ (by assumption) ?_)); all_goals (first | omega | (simp; done) | (simp; omega))))).mono ?_
        rintro x9 w1 ⟨rfl, hb1⟩
        have hz1 := hb1.size
        try simp at hz1
        have hbw1 : Below w.heap.size w w1 := (by (repeat' (first | with_reducible exact Below.refl _ _ | with_reducible refine below_alloc ?_ _ ?_ | with_reducible refine Below.setCell ?_ ?_ _ | with_reducible refine Below.drew ?_ | with_reducible refine below_drewN ?_ _ | with_reducible refine below_step ?_ (by assumption) ?_ | with_reducible refine below_mark ?_ (by assumption) ?_)); all_goals (first | omega | (simp; done) | (simp; omega)))
        have BX1 := Lib.hid ((BX.out.alloc _).stay hb1)
        have BZ1 := Lib.hid (BZ.out.stay hb1)
        obtain ⟨p0, p1, p2, p3, p4⟩ := BX1.out.cells
        obtain ⟨c0, c1, c2, c3, c4⟩ := CX.out _ hbw1
        go_wp2_with fail
        refine (TG.out _ ((by (repeat' (first | with_reducible exact Below.refl _ _ | with_reducible refine below_alloc ?_ _ ?_ | with_reducible refine Below.setCell ?_ ?_ _ | with_reducible refine Below.drew ?_ | with_reducible refine below_drewN ?_ _ | with_reducible refine below_step ?_ (by assumption) ?_ | with_reducible refine below_mark ?_ (by assumption) ?_)); all_goals (first | omega | (simp; done) | (simp; omega))))).mono ?_
        rintro x9 w2 ⟨rfl, hb2⟩
        have hz2 := hb2.size
        try simp at hz2
        have hbw2 : Below w.heap.size w w2 := (by (repeat' (first | with_reducible exact Below.refl _ _ | with_reducible refine below_alloc ?_ _ ?_ | with_reducible refine Below.setCell ?_ ?_ _ | with_reducible refine Below.drew ?_ | with_reducible refine below_drewN ?_ _ | with_reducible refine below_step ?_ (by assumption) ?_ | with_reducible refine below_mark ?_ (by assumption) ?_)); all_goals (first | omega | (simp; done) | (simp; omega)))
        have BX2 := Lib.hid (BX1.out.stay hb2)
        have BZ2 := Lib.hid (BZ1.out.stay hb2)
        clear p0 p1 p2 p3 p4
        obtain ⟨p0, p1, p2, p3, p4⟩ := BX2.out.cells
        clear c0 c1 c2 c3 c4
        obtain ⟨c0, c1, c2, c3, c4⟩ := CX.out _ hbw2
        have hn1 : w.heap.size ≠ w2.heap.size := by omega
        have hn2 : w2.heap.size ≠ w.heap.size := by omega
        have hn3 : w.heap.size < w2.heap.size := by omega
        have hn4 : w.heap.size + 1 ≠ w2.heap.size := by omega
        have hn5 : w2.heap.size ≠ w.heap.size + 1 := by omega
        have hn6 : w.heap.size + 1 < w2.heap.size := by omega
        have hn7 : b ≠ w2.heap.size := by omega
        have hn8 : w2.heap.size ≠ b := by omega
        have hn9 : b < w2.heap.size := by omega
        go_wp2_with fail
        refine (GT.out _ _ ((by (repeat' (first | with_reducible exact Below.refl _ _ | with_reducible refine below_alloc ?_ _ ?_ | with_reducible refine Below.setCell ?_ ?_ _ | with_reducible refine Below.drew ?_ | with_reducible refine below_drewN ?_ _ | with_reducible refine below_step ?_ (by assumption) ?_ | with_reducible refine below_mark ?_ (by assumption) ?_)); all_goals (first | omega | (simp; done) | (simp; omega))))).mono ?_
        rintro x9 w3 ⟨t', a', n', c', la2, ln2, lc2, rfl, hb3⟩
        unfold V.agg
        have hz3 := hb3.size
        try simp at hz3
        have hbw3 : Below w.heap.size w w3 := (by (repeat' (first | with_reducible exact Below.refl _ _ | with_reducible refine below_alloc ?_ _ ?_ | with_reducible refine Below.setCell ?_ ?_ _ | with_reducible refine Below.drew ?_ | with_reducible refine below_drewN ?_ _ | with_reducible refine below_step ?_ (by assumption) ?_ | with_reducible refine below_mark ?_ (by assumption) ?_)); all_goals (first | omega | (simp; done) | (simp; omega)))
        have BX3 := Lib.hid ((BX2.out.alloc (.cells #[] 28)).stay hb3)
        have BZ3 := Lib.hid ((BZ2.out.alloc (.cells #[] 28)).stay hb3)
        clear p0 p1 p2 p3 p4 c0 c1 c2 c3 c4 hn1 hn2 hn3 hn4 hn5 hn6 hn7 hn8 hn9
        obtain ⟨p0, p1, p2, p3, p4⟩ := BX3.out.cells
        have hn1 : w.heap.size ≠ w3.heap.size := by omega
        have hn2 : w3.heap.size ≠ w.heap.size := by omega
        have hn3 : w.heap.size < w3.heap.size := by omega
        have hn4 : w.heap.size + 1 ≠ w3.heap.size := by omega
        have hn5 : w3.heap.size ≠ w.heap.size + 1 := by omega
        have hn6 : w.heap.size + 1 < w3.heap.size := by omega
        have hzA : (w3.alloc (.cells #[.int .i64 t'.k, .int .i64 t'.n, .int .i64 t'.e, .string t'.s, .slice a' n' c'] 28)).heap.size = w3.heap.size + 1 := by simp
        have hbw4 : Below w.heap.size w (w3.alloc (.cells #[.int .i64 t'.k, .int .i64 t'.n, .int .i64 t'.e, .string t'.s, .slice a' n' c'] 28)) := (by (repeat' (first | with_reducible exact Below.refl _ _ | with_reducible refine below_alloc ?_ _ ?_ | with_reducible refine Below.setCell ?_ ?_ _ | with_reducible refine Below.drew ?_ | with_reducible refine below_drewN ?_ _ | with_reducible refine below_step ?_ (by assumption) ?_ | with_reducible refine below_mark ?_ (by assumption) ?_)); all_goals (first | omega | (simp; done) | (simp; omega)))
        have BZ4 := Lib.hid (BZ3.out.alloc (.cells #[.int .i64 t'.k, .int .i64 t'.n, .int .i64 t'.e, .string t'.s, .slice a' n' c'] 28))
        go_wp2_with fail
        refine (OW.out _ hbw4).mono ?_
        rintro x9 w9 ⟨s9, rfl, wf9, ho9, hb9⟩
        obtain ⟨oa, on, oc, rfl⟩ : ∃ sa sn sc, s9 = .slice sa sn sc := by obtain ⟨p, q, e⟩ := ho9.slice; exact ⟨p, _, q, e⟩
        have hz9 := hb9.size
        have HO := Lib.hid (show OwnS w9 (fun x => w.heap.size + 1 + 1 ≤ x) (.slice oa on oc) [x] from ho9.mono (fun x hx => Nat.le_trans (by first | omega | (simp; omega)) hx)); clear ho9
        have BZ9 := Lib.hid (BZ4.out.stay hb9)
        have hbw9 : Below w.heap.size w w9 := hbw4.trans (hb9.mono (by omega))
        obtain ⟨z0, z1, z2, z3, z4⟩ := BZ9.out.cells
        have zf0 := BZ9.out.free (i := 0); have zf1 := BZ9.out.free (i := 1); have zf2 := BZ9.out.free (i := 2); have zf3 := BZ9.out.free (i := 3); have zf4 := BZ9.out.free (i := 4)
        go_wp2_with fail
        refine bodyPost_ret (v := .tuple #[.agg #[.int .i64 9, .int .i64 256, .int .i64 e, .string s, .slice oa on oc], .bool false]) (by simp [results, Tryd.results15, go_sem, z0, z1, z2, z3, z4]) rfl (H.out _ _ ⟨_, rfl, ?_, (hbw9.trans ((below_set5 w9 (w.heap.size + 1) _ _ _ _ _).mono (by omega)))⟩)
        refine OwnS.mono (F := fun x => w.heap.size + 1 + 1 ≤ x) ?_ (fun x hx => by omega)
        exact HO.out.set5 _ (by omega) _ _ _ _ _
      | some p =>
        obtain ⟨u, R2⟩ := p
        rw [hgs] at GT
        go_enter Tryd.func15, Tryd.ntmps15
        go_wp2_with fail
        refine (VO.out _ ((by (repeat' (first | with_reducible exact Below.refl _ _ | with_reducible refine below_alloc ?_ _ ?_ | with_reducible refine Below.setCell ?_ ?_ _ | with_reducible refine Below.drew ?_ | with_reducible refine below_drewN ?_ _ | with_reducible refine below_step ?_ (by assumption) ?_ | with_reducible refine below_mark ?_ (by assumption) ?_)); all_goals (first | omega | (simp; done) | (simp; omega))))).mono ?_
        rintro x9 w1 ⟨rfl, hb1⟩
        have hz1 := hb1.size
        try simp at hz1
        have hbw1 : Below w.heap.size w w1 := (by (repeat' (first | with_reducible exact Below.refl _ _ | with_reducible refine below_alloc ?_ _ ?_ | with_reducible refine Below.setCell ?_ ?_ _ | with_reducible refine Below.drew ?_ | with_reducible refine below_drewN ?_ _ | with_reducible refine below_step ?_ (by assumption) ?_ | with_reducible refine below_mark ?_ (by assumption) ?_)); all_goals (first | omega | (simp; done) | (simp; omega)))
        have BX1 := Lib.hid ((BX.out.alloc _).stay hb1)
        have BZ1 := Lib.hid (BZ.out.stay hb1)
        obtain ⟨p0, p1, p2, p3, p4⟩ := BX1.out.cells
        obtain ⟨c0, c1, c2, c3, c4⟩ := CX.out _ hbw1
        go_wp2_with fail
        refine (TG.out _ ((by (repeat' (first | with_reducible exact Below.refl _ _ | with_reducible refine below_alloc ?_ _ ?_ | with_reducible refine Below.setCell ?_ ?_ _ | with_reducible refine Below.drew ?_ | with_reducible refine below_drewN ?_ _ | with_reducible refine below_step ?_ (by assumption) ?_ | with_reducible refine below_mark ?_ (by assumption) ?_)); all_goals (first | omega | (simp; done) | (simp; omega))))).mono ?_
        rintro x9 w2 ⟨rfl, hb2⟩
        have hz2 := hb2.size
        try simp at hz2
        have hbw2 : Below w.heap.size w w2 := (by (repeat' (first | with_reducible exact Below.refl _ _ | with_reducible refine below_alloc ?_ _ ?_ | with_reducible refine Below.setCell ?_ ?_ _ | with_reducible refine Below.drew ?_ | with_reducible refine below_drewN ?_ _ | with_reducible refine below_step ?_ (by assumption) ?_ | with_reducible refine below_mark ?_ (by assumption) ?_)); all_goals (first | omega | (simp; done) | (simp; omega)))
        have BX2 := Lib.hid (BX1.out.stay hb2)
        have BZ2 := Lib.hid (BZ1.out.stay hb2)
        clear p0 p1 p2 p3 p4
        obtain ⟨p0, p1, p2, p3, p4⟩ := BX2.out.cells
        clear c0 c1 c2 c3 c4
        obtain ⟨c0, c1, c2, c3, c4⟩ := CX.out _ hbw2
        have hn1 : w.heap.size ≠ w2.heap.size := by omega
        have hn2 : w2.heap.size ≠ w.heap.size := by omega
        have hn3 : w.heap.size < w2.heap.size := by omega
        have hn4 : w.heap.size + 1 ≠ w2.heap.size := by omega
        have hn5 : w2.heap.size ≠ w.heap.size + 1 := by omega
        have hn6 : w.heap.size + 1 < w2.heap.size := by omega
        have hn7 : b ≠ w2.heap.size := by omega
        have hn8 : w2.heap.size ≠ b := by omega
        have hn9 : b < w2.heap.size := by omega
        go_wp2_with fail
        refine (GT.out _ _ ((by (repeat' (first | with_reducible exact Below.refl _ _ | with_reducible refine below_alloc ?_ _ ?_ | with_reducible refine Below.setCell ?_ ?_ _ | with_reducible refine Below.drew ?_ | with_reducible refine below_drewN ?_ _ | with_reducible refine below_step ?_ (by assumption) ?_ | with_reducible refine below_mark ?_ (by assumption) ?_)); all_goals (first | omega | (simp; done) | (simp; omega))))).mono ?_
        rintro x9 w3 ⟨us, lv2, rfl, uwf, uo, ul, hb3⟩
        obtain ⟨ua, un, uc, rfl⟩ : ∃ a n c, us = .slice a n c := by obtain ⟨p, q, e⟩ := uo.slice; exact ⟨p, _, q, e⟩
        obtain ⟨la2, lc2, rfl⟩ := ul.slice
        have hz3 := hb3.size
        try simp at hz3
        have hbw3 : Below w.heap.size w w3 := (by (repeat' (first | with_reducible exact Below.refl _ _ | with_reducible refine below_alloc ?_ _ ?_ | with_reducible refine Below.setCell ?_ ?_ _ | with_reducible refine Below.drew ?_ | with_reducible refine below_drewN ?_ _ | with_reducible refine below_step ?_ (by assumption) ?_ | with_reducible refine below_mark ?_ (by assumption) ?_)); all_goals (first | omega | (simp; done) | (simp; omega)))
        have BX3 := Lib.hid ((BX2.out.alloc (.cells #[] 28)).stay hb3)
        have BZ3 := Lib.hid ((BZ2.out.alloc (.cells #[] 28)).stay hb3)
        have HRU := Lib.hid (show Rep w3 (u.agg (.slice ua un uc)) u from ⟨_, rfl, uwf, uo.rep⟩)
        have UO := Lib.hid (OwnS.mono uo.bound (F' := fun x => w.heap.size + 1 + 1 ≤ x ∧ x < w3.heap.size) (fun x hx => ⟨by have := hx.1; simp at this; omega, hx.2⟩))
        have VUX := Lib.hid (fun (W2 : World) (hW2 : Below w3.heap.size w3 W2) => VU.out u R2 hgs _ w3 W2 HRU.out hW2)
        have HSU := Lib.hid (fun h => HS.out u h uwf)
        have BU3 := Lib.hid (Box.new w3 u.k u.n u.e u.s (.slice ua un uc) 28)
        clear p0 p1 p2 p3 p4 c0 c1 c2 c3 c4 hn1 hn2 hn3 hn4 hn5 hn6 hn7 hn8 hn9 uo ul uwf HRU VU HS
        unfold V.agg at *
        go_wp2_with fail
        refine (VUX.out _ ((by (repeat' (first | with_reducible exact Below.refl _ _ | with_reducible refine below_alloc ?_ _ ?_ | with_reducible refine Below.setCell ?_ ?_ _ | with_reducible refine Below.drew ?_ | with_reducible refine below_drewN ?_ _ | with_reducible refine below_step ?_ (by assumption) ?_ | with_reducible refine below_mark ?_ (by assumption) ?_)); all_goals (first | omega | (simp; done) | (simp; omega))))).mono ?_
        rintro x9 w4 ⟨rfl, hb4⟩
        have hz4 := hb4.size
        try simp at hz4
        have hb34 : Below w3.heap.size w3 w4 := (by (repeat' (first | with_reducible exact Below.refl _ _ | with_reducible refine below_alloc ?_ _ ?_ | with_reducible refine Below.setCell ?_ ?_ _ | with_reducible refine Below.drew ?_ | with_reducible refine below_drewN ?_ _ | with_reducible refine below_step ?_ (by assumption) ?_ | with_reducible refine below_mark ?_ (by assumption) ?_)); all_goals (first | omega | (simp; done) | (simp; omega)))
        have hbw4 : Below w.heap.size w w4 := hbw3.trans (hb34.mono (by omega))
        have BX4 := Lib.hid ((BX3.out.alloc _).stay hb4)
        have BZ4 := Lib.hid ((BZ3.out.alloc _).stay hb4)
        have BU4 := Lib.hid (BU3.out.stay hb4)
        have UO4 := Lib.hid (UO.out.keep (fun x hx hxs => hb34.block x hxs))
        cases hok : okT u
        · have H := Lib.hid (HP.out (by rw [HK2.out, HKG2.out, hgs]; simp [Option.filter, hok]))
          obtain ⟨p0, p1, p2, p3, p4⟩ := BX4.out.cells
          go_wp2_with fail
          refine (OW.out _ hbw4).mono ?_
          rintro x9 w9 ⟨s9, rfl, wf9, ho9, hb9⟩
          obtain ⟨oa, on, oc, rfl⟩ : ∃ sa sn sc, s9 = .slice sa sn sc := by obtain ⟨p, q, e⟩ := ho9.slice; exact ⟨p, _, q, e⟩
          have hz9 := hb9.size
          have HO := Lib.hid (show OwnS w9 (fun x => w.heap.size + 1 + 1 ≤ x) (.slice oa on oc) [x] from ho9.mono (fun x hx => Nat.le_trans (by first | omega | (simp; omega)) hx)); clear ho9
          have BZ9 := Lib.hid (BZ4.out.stay hb9)
          have hbw9 : Below w.heap.size w w9 := hbw4.trans (hb9.mono (by omega))
          obtain ⟨z0, z1, z2, z3, z4⟩ := BZ9.out.cells
          have zf0 := BZ9.out.free (i := 0); have zf1 := BZ9.out.free (i := 1); have zf2 := BZ9.out.free (i := 2); have zf3 := BZ9.out.free (i := 3); have zf4 := BZ9.out.free (i := 4)
          go_wp2_with fail
          refine bodyPost_ret (v := .tuple #[.agg #[.int .i64 9, .int .i64 256, .int .i64 e, .string s, .slice oa on oc], .bool false]) (by simp [results, Tryd.results15, go_sem, z0, z1, z2, z3, z4]) rfl (H.out _ _ ⟨_, rfl, ?_, (hbw9.trans ((below_set5 w9 (w.heap.size + 1) _ _ _ _ _).mono (by omega)))⟩)
          refine OwnS.mono (F := fun x => w.heap.size + 1 + 1 ≤ x) ?_ (fun x hx => by omega)
          exact HO.out.set5 _ (by omega) _ _ _ _ _
        · have H := Lib.hid (HSU.out (by rw [HK2.out, HKG2.out, hgs]; simp [Option.filter, hok]))
          obtain ⟨p0, p1, p2, p3, p4⟩ := BU4.out.cells
          have BZ9 := BZ4
          obtain ⟨z0, z1, z2, z3, z4⟩ := BZ9.out.cells
          have zf0 := BZ9.out.free (i := 0); have zf1 := BZ9.out.free (i := 1); have zf2 := BZ9.out.free (i := 2); have zf3 := BZ9.out.free (i := 3); have zf4 := BZ9.out.free (i := 4)
          clear HP HSU HK2 HKG2 VUX VO TG OW
          go_wp2_with fail
          refine bodyPost_ret (v := .tuple #[.agg #[.int .i64 u.k, .int .i64 u.n, .int .i64 u.e, .string u.s, .slice ua un uc], .bool true]) (by simp [results, Tryd.results15, go_sem, z0, z1, z2, z3, z4]) rfl (H.out _ _ ⟨_, rfl, ?_, (hbw4.trans ((below_set5 w4 (w.heap.size + 1) _ _ _ _ _).mono (by omega)))⟩)
          refine OwnS.mono (F := fun x => w.heap.size + 1 + 1 ≤ x ∧ x < w3.heap.size) ?_ (fun x hx => by omega)
          exact UO4.out.set5 _ (fun h => by omega) _ _ _ _ _
    · rw [h256] at TG
      have H := Lib.hid (HP.out (by rw [HK2.out, HKG.out, h256]; rfl))
      clear VU GT HS HKG HK2 HP
      go_enter Tryd.func15, Tryd.ntmps15
      go_wp2_with fail
      refine (VO.out _ ((by (repeat' (first | with_reducible exact Below.refl _ _ | with_reducible refine below_alloc ?_ _ ?_ | with_reducible refine Below.setCell ?_ ?_ _ | with_reducible refine Below.drew ?_ | with_reducible refine below_drewN ?_ _ | with_reducible refine below_step ?_ (by assumption) ?_ | with_reducible refine below_mark ?_ (by assumption) ?_)); all_goals (first | omega | (simp; done) | (simp; omega))))).mono ?_
      rintro x9 w1 ⟨rfl, hb1⟩
      have hz1 := hb1.size
      try simp at hz1
      have hbw1 : Below w.heap.size w w1 := (by (repeat' (first | with_reducible exact Below.refl _ _ | with_reducible refine below_alloc ?_ _ ?_ | with_reducible refine Below.setCell ?_ ?_ _ | with_reducible refine Below.drew ?_ | with_reducible refine below_drewN ?_ _ | with_reducible refine below_step ?_ (by assumption) ?_ | with_reducible refine below_mark ?_ (by assumption) ?_)); all_goals (first | omega | (simp; done) | (simp; omega)))
      have BX1 := Lib.hid ((BX.out.alloc _).stay hb1)
      have BZ1 := Lib.hid (BZ.out.stay hb1)
      obtain ⟨p0, p1, p2, p3, p4⟩ := BX1.out.cells
      obtain ⟨c0, c1, c2, c3, c4⟩ := CX.out _ hbw1
      go_wp2_with fail
      refine (TG.out _ ((by (repeat' (first | with_reducible exact Below.refl _ _ | with_reducible refine below_alloc ?_ _ ?_ | with_reducible refine Below.setCell ?_ ?_ _ | with_reducible refine Below.drew ?_ | with_reducible refine below_drewN ?_ _ | with_reducible refine below_step ?_ (by assumption) ?_ | with_reducible refine below_mark ?_ (by assumption) ?_)); all_goals (first | omega | (simp; done) | (simp; omega))))).mono ?_
      rintro x9 w2 ⟨rfl, hb2⟩
      have hz2 := hb2.size
      try simp at hz2
      have hbw2 : Below w.heap.size w w2 := (by (repeat' (first | with_reducible exact Below.refl _ _ | with_reducible refine below_alloc ?_ _ ?_ | with_reducible refine Below.setCell ?_ ?_ _ | with_reducible refine Below.drew ?_ | with_reducible refine below_drewN ?_ _ | with_reducible refine below_step ?_ (by assumption) ?_ | with_reducible refine below_mark ?_ (by assumption) ?_)); all_goals (first | omega | (simp; done) | (simp; omega)))
      have BX2 := Lib.hid (BX1.out.stay hb2)
      have BZ2 := Lib.hid (BZ1.out.stay hb2)
      clear p0 p1 p2 p3 p4
      obtain ⟨p0, p1, p2, p3, p4⟩ := BX2.out.cells
      go_wp2_with fail
      refine (OW.out _ hbw2).mono ?_
      rintro x9 w9 ⟨s9, rfl, wf9, ho9, hb9⟩
      obtain ⟨oa, on, oc, rfl⟩ : ∃ sa sn sc, s9 = .slice sa sn sc := by obtain ⟨p, q, e⟩ := ho9.slice; exact ⟨p, _, q, e⟩
      have hz9 := hb9.size
      have HO := Lib.hid (show OwnS w9 (fun x => w.heap.size + 1 + 1 ≤ x) (.slice oa on oc) [x] from ho9.mono (fun x hx => Nat.le_trans (by first | omega | (simp; omega)) hx)); clear ho9
      have BZ9 := Lib.hid (BZ2.out.stay hb9)
      have hbw9 : Below w.heap.size w w9 := hbw2.trans (hb9.mono (by omega))
      obtain ⟨z0, z1, z2, z3, z4⟩ := BZ9.out.cells
      have zf0 := BZ9.out.free (i := 0); have zf1 := BZ9.out.free (i := 1); have zf2 := BZ9.out.free (i := 2); have zf3 := BZ9.out.free (i := 3); have zf4 := BZ9.out.free (i := 4)
      go_wp2_with fail
      refine bodyPost_ret (v := .tuple #[.agg #[.int .i64 9, .int .i64 256, .int .i64 e, .string s, .slice oa on oc], .bool false]) (by simp [results, Tryd.results15, go_sem, z0, z1, z2, z3, z4]) rfl (H.out _ _ ⟨_, rfl, ?_, (hbw9.trans ((below_set5 w9 (w.heap.size + 1) _ _ _ _ _).mono (by omega)))⟩)
      refine OwnS.mono (F := fun x => w.heap.size + 1 + 1 ≤ x) ?_ (fun x hx => by omega)
      exact HO.out.set5 _ (by omega) _ _ _ _ _
  · have hno : grR t = none := by
      rw [HK.out, if_neg]
      simp only [Bool.and_eq_true, decide_eq_true_eq]
      exact hbad
    have H := Lib.hid (HP.out hno)
    have hcase : okT t = false ∨ (okT t = true ∧ ((t.k != 9) = true)) ∨ (okT t = true ∧ ((t.k != 9) = false) ∧ ((t.n != 256) = true)) := by
      cases hok : okT t with
      | false => exact .inl rfl
      | true =>
        by_cases h9 : t.k = 9
        · exact .inr (.inr ⟨rfl, by simpa using h9, by simpa using fun e => hbad ⟨hok, h9, e⟩⟩)
        · exact .inr (.inl ⟨rfl, by simpa using h9⟩)
    obtain ⟨sa, sc, rfl⟩ := hr.slice
    have BX := Lib.hid (Box.new w t.k t.n t.e t.s (.slice sa t.kids.length sc) 28)
    clear hr hwf hsz HP HS HK hno hbad
    unfold ValRet at OW
    unfold V.agg at *
    generalize (grR t).getD t = r1 at *
    generalize (grR t).isSome = r2 at *
    generalize okT t = b1 at *
    generalize t.k = k at *
    generalize t.n = n at *
    generalize t.e = e at *
    generalize t.s = s at *
    generalize t.kids = ts at *
    have BZ := Lib.hid (show Box ((w.alloc (.cells #[.int .i64 k, .int .i64 n, .int .i64 e, .string s, .slice sa ts.length sc] 28)).alloc (.cells #[.int .i64 0, .int .i64 0, .int .i64 0, .string ⟨#[]⟩, .slice none 0 0] 28)) (w.heap.size + 1) 0 0 0 ⟨#[]⟩ (.slice none 0 0) 28 by
      have := Box.new (w.alloc (.cells #[.int .i64 k, .int .i64 n, .int .i64 e, .string s, .slice sa ts.length sc] 28)) 0 0 0 ⟨#[]⟩ (.slice none 0 0) 28
      rwa [show (w.alloc (.cells #[.int .i64 k, .int .i64 n, .int .i64 e, .string s, .slice sa ts.length sc] 28)).heap.size = w.heap.size + 1 by simp] at this)
    rcases hcase with rfl | ⟨rfl, t1⟩ | ⟨rfl, t1, t2⟩
    all_goals
      go_enter Tryd.func15, Tryd.ntmps15
      go_wp2_with fail
      refine (VO.out _ ((by (repeat' (first | with_reducible exact Below.refl _ _ | with_reducible refine below_alloc ?_ _ ?_ | with_reducible refine Below.setCell ?_ ?_ _ | with_reducible refine Below.drew ?_ | with_reducible refine below_drewN ?_ _ | with_reducible refine below_step ?_ (by assumption) ?_ | with_reducible refine below_mark ?_ (by assumption) ?_)); all_goals (first | omega | (simp; done) | (simp; omega))))).mono ?_
      rintro x9 w1 ⟨rfl, hb1⟩
      have hz1 := hb1.size
      try simp at hz1
      have hbw1 : Below w.heap.size w w1 := (by (repeat' (first | with_reducible exact Below.refl _ _ | with_reducible refine below_alloc ?_ _ ?_ | with_reducible refine Below.setCell ?_ ?_ _ | with_reducible refine Below.drew ?_ | with_reducible refine below_drewN ?_ _ | with_reducible refine below_step ?_ (by assumption) ?_ | with_reducible refine below_mark ?_ (by assumption) ?_)); all_goals (first | omega | (simp; done) | (simp; omega)))
      have BX1 := Lib.hid ((BX.out.alloc _).stay hb1)
      have BZ1 := Lib.hid (BZ.out.stay hb1)
      obtain ⟨p0, p1, p2, p3, p4⟩ := BX1.out.cells
      go_wp2_with fail
      refine (OW.out _ hbw1).mono ?_
      rintro x9 w9 ⟨s9, rfl, wf9, ho9, hb9⟩
      obtain ⟨oa, on, oc, rfl⟩ : ∃ sa sn sc, s9 = .slice sa sn sc := by obtain ⟨p, q, e⟩ := ho9.slice; exact ⟨p, _, q, e⟩
      have hz9 := hb9.size
      have HO := Lib.hid (show OwnS w9 (fun x => w.heap.size + 1 + 1 ≤ x) (.slice oa on oc) ts from ho9.mono (fun x hx => Nat.le_trans (by first | omega | (simp; omega)) hx)); clear ho9
      have BZ9 := Lib.hid (BZ1.out.stay hb9)
      have hbw9 : Below w.heap.size w w9 := hbw1.trans (hb9.mono (by omega))
      obtain ⟨z0, z1, z2, z3, z4⟩ := BZ9.out.cells
      have zf0 := BZ9.out.free (i := 0); have zf1 := BZ9.out.free (i := 1); have zf2 := BZ9.out.free (i := 2); have zf3 := BZ9.out.free (i := 3); have zf4 := BZ9.out.free (i := 4)
      go_wp2_with fail
      refine bodyPost_ret (v := .tuple #[.agg #[.int .i64 k, .int .i64 n, .int .i64 e, .string s, .slice oa on oc], .bool false]) (by simp [results, Tryd.results15, go_sem, z0, z1, z2, z3, z4]) rfl (H.out _ _ ⟨_, rfl, ?_, (hbw9.trans ((below_set5 w9 (w.heap.size + 1) _ _ _ _ _).mono (by omega)))⟩)
      refine OwnS.mono (F := fun x => w.heap.size + 1 + 1 ≤ x) ?_ (fun x hx => by omega)
      exact HO.out.set5 _ (by omega) _ _ _ _ _
end Go.Proofs.YtiemlefmhleaeaaDoor
