/- Lemmas for the statement of the last text of this claim: texts joined. -/
import Derived.Test.YtppmoajoffeleaaDoorMg01
import Derived.Test.YtppmoajoffeleaaDoorMg02
import Derived.Test.YtppmoajoffeleaaDoorMg03
import Derived.Deep.RegionHeld3
import Derived.Deep.RegionWith
import Derived.Deep.DeepCutAuto
import Derived.Deep.RegionLaw
import Derived.BigRegion
import Derived.WalkSpells
import Derived.Lib.Hide
namespace Go.Proofs.YtppmoajoffeleaaDoor
set_option linter.unusedSimpArgs false
set_option linter.unusedVariables false
set_option maxRecDepth 100000
open Go.RowKit
theorem lkp_sz {s : ByteArray} : ∀ l : List V, l.length % 2 = 0 → ∀ y, lkp s l = some y → y.sz ≤ szs l :=
  pairs_ind (fun y h => by rw [lkp_nil] at h; cases h) (fun k x r _ ih y h => by
    rw [lkp] at h
    rw [szs, szs]
    split at h
    · obtain rfl := Option.some.inj h; omega
    · have := ih y h; omega)
theorem old1_sz {us : List V} (h : us.length % 2 = 0) (key : V) : (old1 us key).sz ≤ szs us := by
  unfold old1
  cases hl : lkp key.s us with
  | none => rw [Option.getD_none, MZ_sz]; omega
  | some y => rw [Option.getD_some]; exact lkp_sz us h y hl
theorem ba_nilM {s : ByteArray} (h : s.size = 0) : s = ⟨#[]⟩ := by
  obtain ⟨d⟩ := s
  congr
  exact Array.eq_empty_of_size_eq_zero h
theorem right_plain {t : V} {d : Int} (h : rightB t d = true) (h8 : t.k = 8) : t.n = 0 ∧ t.e = 0 ∧ t.s = ⟨#[]⟩ := by
  rw [rightB_eq] at h
  simp only [Bool.and_eq_true, ownB] at h
  have h1 := h.1.2.1
  unfold nodeB at h1
  rw [if_pos (by omega), decide_eq_true_eq] at h1
  exact ⟨h1.1, h1.2.1, ba_nilM h1.2.2⟩
theorem right_txtM {t : V} {d : Int} (h : rightB t d = true) (h5 : t.k = 5) : t = .mk 5 0 0 t.s [] := by
  rw [rightB_eq] at h
  simp only [Bool.and_eq_true, ownB] at h
  have h1 := h.1.2.1
  have h2 := h.1.2.2
  unfold nodeB at h1
  rw [if_neg (by omega), if_neg (by omega), if_neg (by omega), if_pos h5, Bool.and_eq_true, decide_eq_true_eq] at h1
  rw [if_neg (by omega), if_neg (by omega), if_neg (by omega), decide_eq_true_eq] at h2
  obtain ⟨k, n, e, s, ks⟩ := t
  have e1 : n = 0 := h1.1.1
  have e2 : e = 0 := h1.1.2.1
  have e3 : k = 5 := h5
  have e4 : ks = [] := List.eq_nil_of_length_eq_zero h2
  subst e1 e2 e3 e4
  rfl
theorem MI.sz {ts us : List V} {m : Nat} {R : List V} {c : Nat} (h : MI ts us m R c) (hm : m + 1 < ts.length) {d : Int} (hx : rightB ts[m + 1] d = true) {S : Nat} (hs : szs us ≤ S + szs (ts.take m)) :
    szs (put1 us ts[m] ts[m + 1] (mrg (old1 us ts[m]) ts[m + 1])) ≤ S + szs (ts.take (m + 2)) := by
  have ht : szs (ts.take (m + 2)) = szs (ts.take m) + (1 + ts[m].sz) + (1 + ts[m + 1].sz) := by
    rw [List.take_succ_eq_append_getElem (show m + 1 < ts.length from hm), List.take_succ_eq_append_getElem (by omega : m < ts.length), szs_append, szs_append, szs, szs, szs, szs]; omega
  by_cases h5 : ts[m].k = 5
  · have hq := h.old hm h5
    have := put1_szs (key := ts[m]) (x := ts[m + 1]) (y := mrg (old1 us ts[m]) ts[m + 1]) h.ev (mrg_sz _ ts[m + 1] d (Nat.le_refl _) hx _ (fun h8 => by
      rcases hq with e | ⟨d2, h2⟩
      · rw [e] at h8; unfold MZ at h8; simp [V.k] at h8
      · exact (right_map h2 h8).1) (fun z hz => by
      rcases hq with e | ⟨d2, h2⟩
      · rw [e] at hz; unfold MZ at hz; simp [V.kids] at hz
      · obtain ⟨j, hj, rfl⟩ := List.getElem_of_mem hz
        exact .inr ⟨d2 - 1, rightsB_at (right_kids h2) j hj⟩))
    omega
  · rw [put1_key h5]; omega
theorem box_set5M {w : World} {b : Nat} {k n e : Int} {s : ByteArray} {sl : Value} {T : TypeId} (h : Box w b k n e s sl T) (k' n' e' : Int) (s' : ByteArray) (sl' : Value) : Box (set5 w b (.int .i64 k') (.int .i64 n') (.int .i64 e') (.string s') sl') b k' n' e' s' sl' T := by
  unfold Box at *
  unfold set5
  rw [heap_setCell_same _ b 4 _ _ _ (heap_setCell_same _ b 3 _ _ _ (heap_setCell_same _ b 2 _ _ _ (heap_setCell_same _ b 1 _ _ _ (heap_setCell_same _ b 0 _ _ _ h))))]; rfl
theorem RepF.takeS {w : World} {F : Nat → Prop} {a : Option Addr} {n cap j : Nat} {ts : List V} (h : RepF w F (.slice a n cap) ts) (hj : j ≤ ts.length) : RepF w F (.slice a j cap) (ts.take j) := by
  obtain ⟨a2, b, off, cap2, e, ha, hc, hm, sls, hel⟩ := h.opened
  injection e with e1 e2 e3
  subst e1 e2 e3
  have hl : (ts.take j).length = j := by rw [List.length_take]; omega
  have := RepF.mk (w := w) (G := F) a b off cap (ts.take j) sls (fun hne => (ha (fun e => hne (by rw [e, List.take_nil]))).1) (by omega) hm (fun hne => (ha (fun e => hne (by rw [e, List.take_nil]))).2)
    (fun i hi => by rw [hl] at hi; rw [List.getElem_take]; exact (hel i (by omega)).1) (fun i hi => by rw [hl] at hi; rw [List.getElem_take]; exact (hel i (by omega)).2.1) (fun i hi => by rw [hl] at hi; rw [List.getElem_take]; exact (hel i (by omega)).2.2)
  rw [hl] at this
  exact this
theorem RepF.dropS {w : World} {F : Nat → Prop} {g off n cap j : Nat} {ts : List V} {A : Option Addr} (h : RepF w F (.slice (some ⟨g, off, none⟩) n cap) ts) (hj : j ≤ ts.length) (hA : j < ts.length → A = some ⟨g, off + j * 5, none⟩) : RepF w F (.slice A (n - j) (cap - j)) (ts.drop j) := by
  obtain ⟨a2, b, off2, cap2, e, ha, hc, hm, sls, hel⟩ := h.opened
  injection e with e1 e2 e3
  subst e2 e3
  have hl : (ts.drop j).length = ts.length - j := List.length_drop
  have hne : ts.drop j ≠ [] → j < ts.length := fun hne => by
    rcases Nat.lt_or_ge j ts.length with h | h
    · exact h
    · exact absurd (List.drop_eq_nil_of_le h) hne
  have hb : j < ts.length → g = b ∧ off = off2 ∧ b < w.heap.size ∧ F b := fun hlt => by
    have := ha (fun e => by rw [e] at hlt; simp at hlt)
    rw [this.1] at e1
    injection e1 with e1
    injection e1 with e1 e4
    exact ⟨e1, e4, this.2⟩
  have := RepF.mk (w := w) (G := F) A g (off + j * 5) (cap - j) (ts.drop j) (fun i => sls (j + i)) (fun h => hA (hne h)) (by omega) (by omega) (fun h => by obtain ⟨e1, -, h2⟩ := hb (hne h); rw [e1]; exact h2)
    (fun i hi => by
      rw [hl] at hi
      have hji : j + i < ts.length := by omega
      obtain ⟨rfl, rfl, -⟩ := hb (by omega)
      have h1 := (hel (j + i) hji).1
      rw [List.getElem_drop, show off + j * 5 + i * 5 = off + (j + i) * 5 by omega]
      exact h1)
    (fun i hi => by rw [hl] at hi; rw [List.getElem_drop]; exact (hel (j + i) (by omega)).2.1) (fun i hi => by rw [hl] at hi; rw [List.getElem_drop]; exact (hel (j + i) (by omega)).2.2)
  rw [hl] at this
  exact this
def MgsRet (w : World) (t : V) (e : Ending) (w' : World) : Prop := ∃ sl, e = .returned (t.agg sl) ∧ t.wf ∧ RepF w' (fun x => w.heap.size ≤ x) sl t.kids ∧ Below w.heap.size w w'
set_option maxHeartbeats 16000000 in
theorem l09Merge_all : ∀ (N : Nat) (p : V) (d : Int), p.nodes ≤ N → rightB p d = true → ∀ (v : V) (sv sp : Value) (w : World), Qd v → v.wf → p.wf → v.sz + p.sz ≤ 1000000 → RepS w sv v.kids → RepS w sp p.kids →
    Calls Tryd.prog 42 #[v.agg sv, p.agg sp] w (MgsRet w (mrg v p)) := by
  intro N
  induction N with
  | zero => intro p d h; rw [V.nodes_eq] at h; omega
  | succ N ih =>
  intro p d hN hp v sv sp w hQ hvw hpw hsz hv hpb
  obtain ⟨av, cv, rfl⟩ := hv.slice
  obtain ⟨ap, cp, rfl⟩ := hpb.slice
  have BV := Lib.hid (((Box.new w v.k v.n v.e v.s (.slice av v.kids.length cv) 26).alloc (.cells #[.int .i64 p.k, .int .i64 p.n, .int .i64 p.e, .string p.s, .slice ap p.kids.length cp] 26)).alloc (.cells #[.int .i64 0, .int .i64 0, .int .i64 0, .string ⟨#[]⟩, .slice none 0 0] 26))
  have BP := Lib.hid ((Box.new (w.alloc (.cells #[.int .i64 v.k, .int .i64 v.n, .int .i64 v.e, .string v.s, .slice av v.kids.length cv] 26)) p.k p.n p.e p.s (.slice ap p.kids.length cp) 26).alloc (.cells #[.int .i64 0, .int .i64 0, .int .i64 0, .string ⟨#[]⟩, .slice none 0 0] 26))
  have BZ := Lib.hid (Box.new ((w.alloc (.cells #[.int .i64 v.k, .int .i64 v.n, .int .i64 v.e, .string v.s, .slice av v.kids.length cv] 26)).alloc (.cells #[.int .i64 p.k, .int .i64 p.n, .int .i64 p.e, .string p.s, .slice ap p.kids.length cp] 26)) 0 0 0 ⟨#[]⟩ (.slice none 0 0) 26)
  obtain ⟨W0, hW0⟩ : ∃ W0, W0 = ((w.alloc (.cells #[.int .i64 v.k, .int .i64 v.n, .int .i64 v.e, .string v.s, .slice av v.kids.length cv] 26)).alloc (.cells #[.int .i64 p.k, .int .i64 p.n, .int .i64 p.e, .string p.s, .slice ap p.kids.length cp] 26)).alloc (.cells #[.int .i64 0, .int .i64 0, .int .i64 0, .string ⟨#[]⟩, .slice none 0 0] 26) := ⟨_, rfl⟩
  have hz0 : W0.heap.size = w.heap.size + 3 := by rw [hW0]; simp
  have HB0 := Lib.hid (show Below w.heap.size w W0 from by rw [hW0]; exact (by (with_reducible (repeat' (first | exact Below.refl _ _ | refine below_alloc ?_ _ ?_ | refine Below.setCell ?_ ?_ _ | refine Below.drew ?_ | refine below_drewN ?_ _ | refine below_step ?_ (by assumption) ?_ | refine below_mark ?_ (by assumption) ?_))); all_goals (first | omega | (simp; done) | (simp; omega))))
  rw [← hW0] at BV BP BZ
  rw [show (w.alloc (.cells #[.int .i64 v.k, .int .i64 v.n, .int .i64 v.e, .string v.s, .slice av v.kids.length cv] 26)).heap.size = w.heap.size + 1 by simp] at BP
  rw [show ((w.alloc (.cells #[.int .i64 v.k, .int .i64 v.n, .int .i64 v.e, .string v.s, .slice av v.kids.length cv] 26)).alloc (.cells #[.int .i64 p.k, .int .i64 p.n, .int .i64 p.e, .string p.s, .slice ap p.kids.length cp] 26)).heap.size = w.heap.size + 2 by simp] at BZ
  have hps := V.sz_eq p
  have hvs := V.sz_eq v
  by_cases h8 : p.k = 8
  case neg =>
    have CP := Lib.hid (copy_any w (p.agg (.slice ap p.kids.length cp)) p ⟨_, rfl, hpw, hpb⟩ (by omega) W0 HB0.out)
    have HMR := Lib.hid (show mrg v p = p by rw [mrg_eq, if_neg h8])
    have t8 : (p.k != 8) = true := by simpa using h8
    obtain ⟨y0, y1, y2, y3, y4⟩ := BP.out.cells
    clear ih hN hp hQ hvw hpw hv hpb h8 BV BP
    generalize mrg v p = R at *
    unfold V.agg at CP ⊢
    unfold ValRet at CP
    go_enter Tryd.func42, Tryd.ntmps42
    go_upto_region 1 with fail
    rw [← hW0]
    clear hW0
    go_wp2_with fail
    refine CP.out.mono ?_
    rintro e1 w1 ⟨sl, rfl, ywf, yo, hb1⟩
    obtain ⟨ya, yc, rfl⟩ := yo.slice
    have BZ1 := Lib.hid (BZ.out.stay hb1)
    obtain ⟨z0, z1, z2, z3, z4⟩ := BZ1.out.cells
    have zf0 := BZ1.out.free (i := 0); have zf1 := BZ1.out.free (i := 1); have zf2 := BZ1.out.free (i := 2); have zf3 := BZ1.out.free (i := 3); have zf4 := BZ1.out.free (i := 4)
    have HF := Lib.hid (show MgsRet w R (.returned (p.agg (.slice ya p.kids.length yc))) (set5 w1 (w.heap.size + 2) (.int .i64 p.k) (.int .i64 p.n) (.int .i64 p.e) (.string p.s) (.slice ya p.kids.length yc)) from by
      rw [HMR.out]
      refine ⟨_, rfl, ywf, ?_, (HB0.out.trans (hb1.mono HB0.out.size)).trans ((below_set5 w1 (w.heap.size + 2) _ _ _ _ _).mono (by omega))⟩
      refine (yo.toF.keep (Nat.le_of_eq (size_set5 _ _ _ _ _ _ _).symm) (fun x hx _ => heap_set5 _ _ _ _ _ _ _ _ (by omega))).mono (fun x hx _ => by omega))
    clear ywf yo hb1
    unfold V.agg at HF ⊢
    go_wp2_with fail
    exact bodyPost_ret (v := .agg #[.int .i64 p.k, .int .i64 p.n, .int .i64 p.e, .string p.s, .slice ya p.kids.length yc]) (by simp [results, Tryd.results42, go_sem, z0, z1, z2, z3, z4]) rfl HF.out
  have HI := Lib.hid (MI.start hp h8 hQ)
  have HR := Lib.hid (show mrg v p = .mk 8 0 0 ⟨#[]⟩ (mgs none (if v.k = 8 then v.kids else []) p.kids) by rw [mrg_eq, if_pos h8])
  have t8 : (p.k != 8) = false := by simpa using h8
  obtain ⟨apb, bp, offp, capp, hpe, hpa, -, -, slp, help⟩ := hpb.opened
  injection hpe with hpe1 hpe2 hpe3
  subst hpe1 hpe3
  have HPA := Lib.hid hpa
  have HEL := Lib.hid help
  have HRT := Lib.hid (fun j (h : j < p.kids.length) => rightsB_at (right_kids hp) j h)
  have IH := Lib.hid (fun (j : Nat) (hj : j < p.kids.length) (y : V) (s1 s2 : Value) (W : World) (hy : Qd y) (hyw : y.wf) (hs : y.sz + p.kids[j].sz ≤ 1000000) (h1 : RepS W s1 y.kids) (h2 : RepS W s2 p.kids[j].kids) =>
    ih p.kids[j] (d - 1) (by have h3 := nodes_mem (List.getElem_mem hj); rw [V.nodes_eq] at hN; omega) (HRT.out j hj) y s1 s2 W hy hyw (HEL.out j hj).2.1 hs h1 h2)
  have HAA := Lib.hid (show ¬ ((fun x => w.heap.size + 3 < x) (w.heap.size + 3)) from fun h => by have : w.heap.size + 3 < w.heap.size + 3 := h; omega)
  have hev : p.kids.length % 2 = 0 := (right_map hp h8).1
  have CV := Lib.hid (fun (W : World) (hW : Below w.heap.size w W) => copy_anyR w (v.agg (.slice av v.kids.length cv)) v ⟨_, rfl, hvw, hv⟩ (by omega) W hW)
  have hv8' : v.k = 8 → v.n = 0 ∧ v.e = 0 ∧ v.s = ⟨#[]⟩ := fun h => by
    rcases hQ with e | ⟨d2, h2⟩
    · rw [e] at h; unfold MZ at h; simp [V.k] at h
    · exact right_plain h2 h
  have hS0 : szs (if v.k = 8 then v.kids else []) ≤ v.sz := by
    split
    · omega
    · rw [szs]; omega
  have hS1 : v.sz + szs p.kids ≤ 1000000 := by omega
  have hpl : p.kids.length ≤ 1000000 := by have := szs_length p.kids; omega
  clear ih hN hp hQ hvw hpw hv hpb hpa help hps hvs hsz
  generalize v.sz = S at *
  generalize mrg v p = R0 at *
  unfold V.agg at CV ⊢
  unfold ValRetR at CV
  rw [h8] at BP hW0 ⊢
  clear h8
  generalize p.n = pn at *
  generalize p.e = pe at *
  generalize p.s = ps at *
  generalize p.kids = ts at *
  have BO := Lib.hid (Box.new W0 8 0 0 ⟨#[]⟩ (.slice none 0 0) 26)
  rw [hz0] at BO
  have HALO := Lib.hid (show Below W0.heap.size W0 (W0.alloc (.cells #[.int .i64 8, .int .i64 0, .int .i64 0, .string ⟨#[]⟩, .slice none 0 0] 26)) from (Below.refl _ _).alloc (Nat.le_refl _) _)
  obtain ⟨x0, x1, x2, x3, x4⟩ := BV.out.cells
  obtain ⟨y0, y1, y2, y3, y4⟩ := BP.out.cells
  have HMN := Lib.hid (show MO (fun x => w.heap.size + 3 < x) (W0.alloc (.cells #[.int .i64 8, .int .i64 0, .int .i64 0, .string ⟨#[]⟩, .slice none 0 0] 26)) (W0.alloc (.cells #[.int .i64 8, .int .i64 0, .int .i64 0, .string ⟨#[]⟩, .slice none 0 0] 26)) (w.heap.size + 3) none [] (.slice none 0 0) (fun _ => False) from
    ⟨Below.refl _ _, (fun g e => by cases e), BO.out, PRow.nil _ _, (fun x hx => False.elim hx)⟩)
  go_enter Tryd.func42, Tryd.ntmps42
  go_upto_region 1 with fail
  rw [← hW0]
  clear hW0
  go_upto_if 19 with fail
  generalize htk : (v.k == 8) = bk at *
  go_cut [20] from 20 to 21 (fun s wx => ∃ (o : Value) (G0 : Nat → Prop), MO (fun x => w.heap.size + 3 < x) wx wx (w.heap.size + 3) none (if v.k = 8 then v.kids else []) o G0 ∧ Below (w.heap.size + 3) W0 wx)
  case first =>
    cases bk
    case true =>
      have hv8 : v.k = 8 := by simpa using htk
      obtain ⟨hvn, hve, hvs⟩ := hv8' hv8
      have HV8 := Lib.hid hv8; have HVN := Lib.hid hvn; have HVE := Lib.hid hve; have HVS := Lib.hid hvs
      clear hv8 hvn hve hvs hv8'
      go_wp2_with fail
      have hz1 : (W0.alloc (.cells #[.int .i64 8, .int .i64 0, .int .i64 0, .string ⟨#[]⟩, .slice none 0 0] 26)).heap.size = w.heap.size + 4 := by simp; omega
      refine (CV.out (W0.alloc (.cells #[.int .i64 8, .int .i64 0, .int .i64 0, .string ⟨#[]⟩, .slice none 0 0] 26)) (HB0.out.trans (HALO.out.mono (by omega)))).mono ?_
      rintro e1 w1 ⟨o, G1, rfl, -, hrow, hb1⟩
      have hrow2 := hrow.toP
      obtain ⟨oa, on, oc, rfl⟩ := hrow2.slice3
      have BO1 := Lib.hid (BO.out.stay hb1)
      have HG1 := Lib.hid (fun x (h : G1 x) => (hrow.inG x h).1)
      have HRW := Lib.hid hrow2
      have HB1 := Lib.hid hb1
      clear hrow hrow2 hb1
      obtain ⟨z0, z1, z2, z3, z4⟩ := BO1.out.cells
      have zf0 := BO1.out.free (i := 0); have zf1 := BO1.out.free (i := 1); have zf2 := BO1.out.free (i := 2); have zf3 := BO1.out.free (i := 3); have zf4 := BO1.out.free (i := 4)
      unfold V.agg
      have HM3 := Lib.hid (show MO (fun x => w.heap.size + 3 < x) (set5 w1 (w.heap.size + 3) (.int .i64 v.k) (.int .i64 v.n) (.int .i64 v.e) (.string v.s) (.slice oa on oc)) (set5 w1 (w.heap.size + 3) (.int .i64 v.k) (.int .i64 v.n) (.int .i64 v.e) (.string v.s) (.slice oa on oc)) (w.heap.size + 3) none v.kids (.slice oa on oc) G1 from
        ⟨Below.refl _ _, (fun g e => by cases e), (by rw [HV8.out, HVN.out, HVE.out, HVS.out]; exact box_set5M BO1.out _ _ _ _ _), (HRW.out.keep (Nat.le_of_eq (size_set5 _ _ _ _ _ _ _).symm) (fun x hx _ => heap_set5 _ _ _ _ _ _ _ _ (by
          rcases hx with h | h
          · have := HG1.out x h; omega
          · have := (HRW.out.lt x h).1; omega))).base (by omega), fun x hx => by have := HG1.out x hx; show w.heap.size + 3 < x; omega⟩)
      have HB3 := Lib.hid (show Below (w.heap.size + 3) W0 (set5 w1 (w.heap.size + 3) (.int .i64 v.k) (.int .i64 v.n) (.int .i64 v.e) (.string v.s) (.slice oa on oc)) from (HALO.out.mono (Nat.le_of_eq hz0.symm)).trans ((HB1.out.mono (by omega)).trans (below_set5 w1 (w.heap.size + 3) _ _ _ _ _)))
      have HRL := Lib.hid (show MO (fun x => w.heap.size + 3 < x) (set5 w1 (w.heap.size + 3) (.int .i64 v.k) (.int .i64 v.n) (.int .i64 v.e) (.string v.s) (.slice oa on oc)) (set5 w1 (w.heap.size + 3) (.int .i64 v.k) (.int .i64 v.n) (.int .i64 v.e) (.string v.s) (.slice oa on oc)) (w.heap.size + 3) none (if v.k = 8 then v.kids else []) (.slice oa on oc) G1 from by rw [if_pos HV8.out]; exact HM3.out)
      clear HM3 HRW HB1 HG1
      go_wp2_with fail
      go_meet
      case rel => exact ⟨_, _, HRL.out, HB3.out⟩
    case false =>
      have hv8 : ¬ v.k = 8 := by simpa using htk
      have HRL := Lib.hid (show MO (fun x => w.heap.size + 3 < x) (W0.alloc (.cells #[.int .i64 8, .int .i64 0, .int .i64 0, .string ⟨#[]⟩, .slice none 0 0] 26)) (W0.alloc (.cells #[.int .i64 8, .int .i64 0, .int .i64 0, .string ⟨#[]⟩, .slice none 0 0] 26)) (w.heap.size + 3) none (if v.k = 8 then v.kids else []) (.slice none 0 0) (fun _ => False) from by rw [if_neg hv8]; exact HMN.out)
      clear hv8 hv8'
      go_wp2_with fail
      go_meet
      case rel => exact ⟨_, _, HRL.out, HALO.out.mono (Nat.le_of_eq hz0.symm)⟩
  case rest =>
    obtain ⟨o0, G00, hm3, hb3⟩ := hcut
    have HM3 := Lib.hid hm3
    have HB3 := Lib.hid hb3
    clear hm3 hb3 HMN HALO BO x0 x1 x2 x3 x4 BV CV hv8' htk
    generalize (if v.k = 8 then v.kids else []) = us0 at *
    generalize wc = W3 at *
    generalize HRR : mgs none _ ts = R1 at HI HR
    clear HRR y0 y1 y2 y3 y4
    have hzw := HB3.out.size
    have HS := Lib.hid hS0
    clear hS0
    go_wp2_with fail
    go_loopw [6] (fun ii wr => ∃ (m : Nat) (us : List V) (o : Value) (G : Nat → Prop), ii = .int .i64 m ∧ m ≤ ts.length ∧ MI ts us m R1 300 ∧ szs us ≤ S + szs (ts.take m) ∧ MO (fun x => w.heap.size + 3 < x) W3 wr (w.heap.size + 3) none us o G) (fun ii _ => ts.length - (intOf ii).toNat)
    case atStart => exact ⟨0, _, _, _, rfl, by omega, HI.out, by rw [List.take_zero, szs]; exact HS.out, HM3.out⟩
    case round =>
      obtain ⟨m, us, o, G, rfl, hin, hmi, hss, hmo⟩ := hrel
      have HMI := Lib.hid hmi; have HMO := Lib.hid hmo; have HSS := Lib.hid hss
      have hzr := hmo.bel.size
      have HB4 := Lib.hid (HB3.out.trans hmo.bel)
      have HBW := Lib.hid (HB0.out.trans (HB4.out.mono (by omega)))
      obtain ⟨y0, y1, y2, y3, y4⟩ := (show Box wr (w.heap.size + 1) 8 pn pe ps (.slice ap ts.length cp) 26 from (HB4.out.block (w.heap.size + 1) (by omega)).trans BP.out).cells
      clear hmi hmo hss
      obtain ⟨oa, on, oc, rfl⟩ := HMO.out.rows.slice3
      by_cases hlt : m < ts.length
      case neg =>
        obtain rfl : us = R1 := HMI.out.done (by omega)
        obtain ⟨z0, z1, z2, z3, z4⟩ := HMO.out.box.cells
        have BZ2 := Lib.hid (show Box wr (w.heap.size + 2) 0 0 0 ⟨#[]⟩ (.slice none 0 0) 26 from (HB4.out.block (w.heap.size + 2) (by omega)).trans BZ.out)
        obtain ⟨x0, x1, x2, x3, x4⟩ := BZ2.out.cells
        have zf0 := BZ2.out.free (i := 0); have zf1 := BZ2.out.free (i := 1); have zf2 := BZ2.out.free (i := 2); have zf3 := BZ2.out.free (i := 3); have zf4 := BZ2.out.free (i := 4)
        have HF := Lib.hid (show MgsRet w R0 (.returned (.agg #[.int .i64 8, .int .i64 0, .int .i64 0, .string ⟨#[]⟩, .slice oa on oc])) (set5 wr (w.heap.size + 2) (.int .i64 8) (.int .i64 0) (.int .i64 0) (.string ⟨#[]⟩) (.slice oa on oc)) from by
          rw [HR.out]
          refine ⟨.slice oa on oc, rfl, map_wf _, ?_, HBW.out.trans ((below_set5 wr (w.heap.size + 2) _ _ _ _ _).mono (by omega))⟩
          have hg : ∀ x, (G x ∨ (Value.slice oa on oc).ownBlock = some x) → w.heap.size + 3 < x := fun x hx => by
            rcases hx with hx | hx
            · exact HMO.out.gl x hx
            · have := (HMO.out.rows.lt x hx).1; omega
          exact (HMO.out.rows.repF.keep (Nat.le_of_eq (size_set5 _ _ _ _ _ _ _).symm) (fun x hx _ => heap_set5 _ _ _ _ _ _ _ _ (by have := hg x hx; omega))).mono (fun x hx _ => by have := hg x hx; omega))
        clear HMI HMO HB4 HBW IH HI HPA HEL HRT
        go_wp2_with fail
        exact bodyPost_ret (v := .agg #[.int .i64 8, .int .i64 0, .int .i64 0, .string ⟨#[]⟩, .slice oa on oc]) (by simp [results, Tryd.results42, go_sem, x0, x1, x2, x3, x4]) rfl HF.out
      case pos =>
        have hm1 : m + 1 < ts.length := by have := HMI.out.me; omega
        obtain ⟨rfl, hbp⟩ := HPA.out (by intro e; rw [e] at hlt; simp at hlt)
        obtain ⟨c0, c1, c2, c3, c4⟩ := (HEL.out m hlt).1.keep (HBW.out.block bp hbp)
        obtain ⟨d0, d1, d2, d3, d4⟩ := (HEL.out (m + 1) hm1).1.keep (HBW.out.block bp hbp)
        have ST := Lib.hid (HMI.out.step hm1)
        have SZ := Lib.hid (HMI.out.sz hm1 (HRT.out (m + 1) hm1) HSS.out)
        have OL := Lib.hid (HMI.out.old hm1)
        have HKT := Lib.hid (fun h5 => right_txtM (HRT.out m hlt) h5)
        have HXR := Lib.hid (HEL.out (m + 1) hm1).2.2
        have HKWF := Lib.hid (HEL.out m hlt).2.1
        have hxs : us.length ≤ 1000000 := by have := HSS.out; have := szs_length us; have := szs_take_le ts m; omega
        have hss0 : szs us + ts[m + 1].sz ≤ 1000000 := by
          have h1 := HSS.out
          have h2 := szs_take_le ts (m + 2)
          rw [List.take_succ_eq_append_getElem (show m + 1 < ts.length from hm1), szs_append, szs, szs] at h2
          have h3 : szs (ts.take m) ≤ szs (ts.take (m + 1)) := by
            rw [List.take_succ_eq_append_getElem hlt, szs_append]; omega
          omega
        have hoz := old1_sz HMI.out.ev ts[m]
        have IHX := Lib.hid (fun y s1 s2 W hy hyw hs h1 h2 => IH.out (m + 1) hm1 y s1 s2 W hy hyw hs h1 h2)
        have HUE := Lib.hid HMI.out.ev
        obtain ⟨xa, xc, hxe⟩ := HXR.out.slice
        rw [hxe] at d4 HXR
        have hlt0 : (m : Int) < (ts.length : Int) := by omega
        have hlt1 : (m : Int) + 1 < (ts.length : Int) := by omega
        have hw1 : IntKind.i64.wrap ((m : Int) + 1) = (m : Int) + 1 := by rw [IntKind.wrap_i64]; omega
        have hp1 : (0 : Int) ≤ (m : Int) + 1 := by omega
        have ht1 : ((m : Int) + 1).toNat = m + 1 := by omega
        clear hxe HMI HI HPA HEL HRT IH HS c1 c2
        obtain ⟨key, hkey⟩ : ∃ key, key = ts[m] := ⟨_, rfl⟩
        obtain ⟨x, hxx⟩ : ∃ x, x = ts[m + 1] := ⟨_, rfl⟩
        rw [← hkey] at c0 c3 ST OL SZ HKT hoz HKWF
        rw [← hxx] at d0 d1 d2 d3 d4 HXR ST IHX SZ hss0
        clear hkey hxx c4
        obtain ⟨z0, z1, z2, z3, z4⟩ := HMO.out.box.cells
        by_cases h5 : key.k = 5
        case neg =>
          have t5 : (key.k != 5) = true := by simpa using h5
          have ST2 := ST.out
          have SZ2 := SZ.out
          rw [put1_key h5] at ST2 SZ2
          go_wp2_with fail
          go_roundw
          case rel => exact ⟨m + 2, us, _, G, by go_num, by omega, ST2, SZ2, HMO.out⟩
          case measure => simp [intOf]; omega
        case pos =>
          have t5 : (key.k != 5) = false := by simpa using h5
          have H5 := Lib.hid h5
          have HKE := Lib.hid (HKT.out h5)
          have HKW := Lib.hid (show (V.mk 5 0 0 key.s []).wf from by rw [← HKT.out h5]; exact HKWF.out)
          clear h5 HKT
          have FD := Lib.hid (Field_any wr _ (V.mk 8 0 0 ⟨#[]⟩ us) ⟨.slice oa on oc, rfl, map_wf us, HMO.out.rows.rep⟩ (show (V.mk 8 0 0 ⟨#[]⟩ us).sz ≤ 1048576 by rw [V.sz]; have h0 : (⟨#[]⟩ : ByteArray).size = 0 := rfl; omega) rfl HUE.out key.s wr (Below.refl _ _))
          go_wp2_with fail
          refine FD.out.mono ?_
          rintro e5 w5 ⟨osl, rfl, owf, oo, hb5⟩
          rw [show (V.mk 8 0 0 ⟨#[]⟩ us).kids = us from rfl, show (lkp key.s us).getD MZ = old1 us key from rfl] at owf oo ⊢
          obtain ⟨qa, qc, rfl⟩ := oo.slice
          unfold V.agg
          generalize hold : old1 us key = old at *
          have HOL := Lib.hid hold
          clear hold FD
          have BQ := Lib.hid (Box.new w5 old.k old.n old.e old.s (.slice qa old.kids.length qc) 26)
          obtain ⟨W6, hW6⟩ : ∃ W6, W6 = w5.alloc (.cells #[.int .i64 old.k, .int .i64 old.n, .int .i64 old.e, .string old.s, .slice qa old.kids.length qc] 26) := ⟨_, rfl⟩
          have hz6 : W6.heap.size = w5.heap.size + 1 := by rw [hW6]; simp
          have HB6 := Lib.hid (show Below wr.heap.size wr W6 from by rw [hW6]; exact hb5.alloc hb5.size _)
          have HM6 := Lib.hid (HMO.out.over HB6.out)
          have HOQ := Lib.hid (show OwnS W6 (fun x => wr.heap.size ≤ x) (.slice qa old.kids.length qc) old.kids from by rw [hW6]; exact oo.alloc _)
          rw [← hW6] at BQ
          have hz5 := hb5.size
          have HBW6 := Lib.hid (HBW.out.trans (HB6.out.mono (by omega)))
          have BP6 := Lib.hid (show Box W6 (w.heap.size + 1) 8 pn pe ps (.slice (some ⟨bp, offp, none⟩) ts.length cp) 26 from (HB6.out.block (w.heap.size + 1) (by omega)).trans ((HB4.out.block (w.heap.size + 1) (by omega)).trans BP.out))
          have HXC := Lib.hid (show Cells5 W6 bp (offp + (m + 1) * 5) x (.slice xa x.kids.length xc) from (show Cells5 wr bp (offp + (m + 1) * 5) x (.slice xa x.kids.length xc) from ⟨d0, d1, d2, d3, d4⟩).keep (HB6.out.block bp (by omega)))
          have HXR6 := Lib.hid (HXR.out.keep HBW6.out)
          have HOW := Lib.hid owf
          have hb34 : w.heap.size + 3 < wr.heap.size := HMO.out.box.lt
          have HOLT0 := Lib.hid (show ∀ k, (Value.slice oa on oc).ownBlock = some k → w.heap.size + 4 ≤ k ∧ k < wr.heap.size from fun k e => by have := HMO.out.rows.lt k e; omega)
          have KY := Lib.hid (l02Key_any W6 _ us HM6.out.rows.rep (by omega) key.s W6 (Below.refl _ _))
          clear oo owf hb5 HMO c0 c3 d0 d1 d2 d3 d4 y0 y1 y2 y3 y4 z0 z1 z2 z3 z4 HB4 HBW
          go_upto_region 12 with fail
          rw [← hW6]
          clear hW6
          obtain ⟨z0, z1, z2, z3, z4⟩ := HM6.out.box.cells
          have zf4 := HM6.out.box.free (i := 4)
          obtain ⟨y0, y1, y2, y3, y4⟩ := BP6.out.cells
          obtain ⟨q0, q1, q2, q3, q4⟩ := BQ.out.cells
          obtain ⟨d0, d1, d2, d3, d4⟩ := HXC.out
          go_wp2_with fail
          refine KY.out.mono ?_
          rintro e7 w7 ⟨rfl, hw7⟩
          obtain rfl := hw7
          clear KY
          have HXK := Lib.hid (show x.k = 0 ∨ ¬ x.k = 0 from Decidable.em _)
          rcases fk_in key.s us HUE.out 0 with ⟨hF, hO⟩ | ⟨j, hj0, hF, hj, hO, hD, hS⟩
          · rw [hF]
            clear hF
            have PN := Lib.hid (put1_no (y := mrg old x) (x := x) H5.out HUE.out hO)
            rcases HXK.out with hx0 | hx0
            · have PE := PN.out
              rw [if_pos hx0] at PE
              rw [PE] at ST SZ
              have t6 : (x.k == 0) = true := by simpa using hx0
              clear hx0 PE PN IHX OL hO HXK HXC
              generalize x.k = xk at *
              go_wp2_with fail
              go_roundw
              case rel => exact ⟨m + 2, us, _, G, by go_num, by omega, ST.out, SZ.out, HM6.out⟩
              case measure => simp [intOf]; omega
            · have PE := PN.out
              rw [if_neg hx0] at PE
              rw [PE] at ST SZ
              have OQ := OL.out H5.out
              have t6 : (x.k == 0) = false := by simpa using hx0
              have CL := Lib.hid (fun (W : World) (hW : Below W6.heap.size W6 W) => IHX.out old (.slice qa old.kids.length qc) (.slice xa x.kids.length xc) W OQ HOW.out (by omega) (HOQ.out.rep.keep hW) (HXR6.out.keep (hW.mono (by omega))))
              clear hx0 PE PN IHX OL hO HXK OQ
              generalize mrg old x = y at *
              unfold V.agg at CL
              obtain ⟨W9, hW9⟩ : ∃ W9 : World, W9 = W6.drew := ⟨_, rfl⟩
              have hz9 : W6.heap.size = W9.heap.size := by rw [hW9]; rfl
              have HB9 := Lib.hid (show Below W6.heap.size W6 W9 from by rw [hW9]; exact (Below.refl _ _).drew)
              have HW9 := Lib.hid hW9
              subst hW9
              have HOLT := Lib.hid HOLT0.out
              have TC := Lib.hid (show ∀ W' : World, W'.heap[w.heap.size + 1]? = W6.heap[w.heap.size + 1]? → W'.heap[bp]? = W6.heap[bp]? → W'.heap[w5.heap.size]? = W6.heap[w5.heap.size]? → W'.cell? ⟨w.heap.size + 1, 4, none⟩ = some (.slice (some ⟨bp, offp, none⟩) ts.length cp) ∧ W'.cell? ⟨bp, offp + (m + 1) * 5, none⟩ = some (.int .i64 x.k) ∧ W'.cell? ⟨bp, offp + (m + 1) * 5 + 1, none⟩ = some (.int .i64 x.n) ∧ W'.cell? ⟨bp, offp + (m + 1) * 5 + 2, none⟩ = some (.int .i64 x.e) ∧ W'.cell? ⟨bp, offp + (m + 1) * 5 + 3, none⟩ = some (.string x.s) ∧ W'.cell? ⟨bp, offp + (m + 1) * 5 + 4, none⟩ = some (.slice xa x.kids.length xc) ∧ W'.cell? ⟨w5.heap.size, 0, none⟩ = some (.int .i64 old.k) ∧ W'.cell? ⟨w5.heap.size, 1, none⟩ = some (.int .i64 old.n) ∧ W'.cell? ⟨w5.heap.size, 2, none⟩ = some (.int .i64 old.e) ∧ W'.cell? ⟨w5.heap.size, 3, none⟩ = some (.string old.s) ∧ W'.cell? ⟨w5.heap.size, 4, none⟩ = some (.slice qa old.kids.length qc) from fun W' h1 h2 h3 => ⟨by rw [World.cell?_of_block (a := ⟨w.heap.size + 1, 4, none⟩) h1]; exact y4, by rw [World.cell?_of_block (a := ⟨bp, offp + (m + 1) * 5, none⟩) h2]; exact d0, by rw [World.cell?_of_block (a := ⟨bp, offp + (m + 1) * 5 + 1, none⟩) h2]; exact d1, by rw [World.cell?_of_block (a := ⟨bp, offp + (m + 1) * 5 + 2, none⟩) h2]; exact d2, by rw [World.cell?_of_block (a := ⟨bp, offp + (m + 1) * 5 + 3, none⟩) h2]; exact d3, by rw [World.cell?_of_block (a := ⟨bp, offp + (m + 1) * 5 + 4, none⟩) h2]; exact d4, by rw [World.cell?_of_block (a := ⟨w5.heap.size, 0, none⟩) h3]; exact q0, by rw [World.cell?_of_block (a := ⟨w5.heap.size, 1, none⟩) h3]; exact q1, by rw [World.cell?_of_block (a := ⟨w5.heap.size, 2, none⟩) h3]; exact q2, by rw [World.cell?_of_block (a := ⟨w5.heap.size, 3, none⟩) h3]; exact q3, by rw [World.cell?_of_block (a := ⟨w5.heap.size, 4, none⟩) h3]; exact q4⟩)
              have TCB := Lib.hid (show ∀ W' : World, Below W6.heap.size W6 W' → W'.cell? ⟨w.heap.size + 1, 4, none⟩ = some (.slice (some ⟨bp, offp, none⟩) ts.length cp) ∧ W'.cell? ⟨bp, offp + (m + 1) * 5, none⟩ = some (.int .i64 x.k) ∧ W'.cell? ⟨bp, offp + (m + 1) * 5 + 1, none⟩ = some (.int .i64 x.n) ∧ W'.cell? ⟨bp, offp + (m + 1) * 5 + 2, none⟩ = some (.int .i64 x.e) ∧ W'.cell? ⟨bp, offp + (m + 1) * 5 + 3, none⟩ = some (.string x.s) ∧ W'.cell? ⟨bp, offp + (m + 1) * 5 + 4, none⟩ = some (.slice xa x.kids.length xc) ∧ W'.cell? ⟨w5.heap.size, 0, none⟩ = some (.int .i64 old.k) ∧ W'.cell? ⟨w5.heap.size, 1, none⟩ = some (.int .i64 old.n) ∧ W'.cell? ⟨w5.heap.size, 2, none⟩ = some (.int .i64 old.e) ∧ W'.cell? ⟨w5.heap.size, 3, none⟩ = some (.string old.s) ∧ W'.cell? ⟨w5.heap.size, 4, none⟩ = some (.slice qa old.kids.length qc) from fun W' h => TC.out W' (h.block _ (by omega)) (h.block _ (by omega)) (h.block _ (by omega)))
              go_upto_region 13 with fail
              clear y0 y1 y2 y3 y4 d0 d1 d2 d3 d4 q0 q1 q2 q3 q4 z0 z1 z2 z3 z4 zf4
              refine wp_region_held_drew (S := (fun W' => W'.cell? ⟨w.heap.size + 1, 4, none⟩ = some (.slice (some ⟨bp, offp, none⟩) ts.length cp) ∧ W'.cell? ⟨bp, offp + (m + 1) * 5, none⟩ = some (.int .i64 x.k) ∧ W'.cell? ⟨bp, offp + (m + 1) * 5 + 1, none⟩ = some (.int .i64 x.n) ∧ W'.cell? ⟨bp, offp + (m + 1) * 5 + 2, none⟩ = some (.int .i64 x.e) ∧ W'.cell? ⟨bp, offp + (m + 1) * 5 + 3, none⟩ = some (.string x.s) ∧ W'.cell? ⟨bp, offp + (m + 1) * 5 + 4, none⟩ = some (.slice xa x.kids.length xc) ∧ W'.cell? ⟨w5.heap.size, 0, none⟩ = some (.int .i64 old.k) ∧ W'.cell? ⟨w5.heap.size, 1, none⟩ = some (.int .i64 old.n) ∧ W'.cell? ⟨w5.heap.size, 2, none⟩ = some (.int .i64 old.e) ∧ W'.cell? ⟨w5.heap.size, 3, none⟩ = some (.string old.s) ∧ W'.cell? ⟨w5.heap.size, 4, none⟩ = some (.slice qa old.kids.length qc))) (by kernel_rfl) ?_ (fun hHeld => ?_)
              · exact TCB.out _ HB9.out
              refine wpAnyH_take (i := 0) (v := ?_) rfl (by kernel_rfl) (by kernel_rfl) (by kernel_rfl) (fun _ _ _ h => h) (Or.inl ⟨by rfl, ?_⟩) hHeld ?_
              rotate_left
              · (intro w hSw; (try dsimp only at hSw); (try simp only [List.getElem_toArray, List.getElem_cons_succ, List.getElem_cons_zero]); go_simp <;> with_reducible rfl)
              try simp only [List.getElem_toArray, List.getElem_cons_succ, List.getElem_cons_zero, Act.put, List.setIfInBounds_toArray, List.set_cons_zero, List.set_cons_succ]
              refine wpAnyH_take (i := 2) (v := ?_) rfl (by kernel_rfl) (by kernel_rfl) (by kernel_rfl) (fun _ _ _ h => h) (Or.inl ⟨by rfl, ?_⟩) hHeld ?_
              rotate_left
              · (intro w hSw; (try dsimp only at hSw); (try simp only [List.getElem_toArray, List.getElem_cons_succ, List.getElem_cons_zero]); go_simp <;> with_reducible rfl)
              try simp only [List.getElem_toArray, List.getElem_cons_succ, List.getElem_cons_zero, Act.put, List.setIfInBounds_toArray, List.set_cons_zero, List.set_cons_succ]
              refine wpAnyH_take (i := 4) (v := ?_) rfl (by kernel_rfl) (by kernel_rfl) (by kernel_rfl) (fun _ _ _ h => h) (Or.inl ⟨by rfl, ?_⟩) hHeld ?_
              rotate_left
              · (intro w hSw; (try dsimp only at hSw); (try simp only [List.getElem_toArray, List.getElem_cons_succ, List.getElem_cons_zero]); go_simp <;> with_reducible rfl)
              try simp only [List.getElem_toArray, List.getElem_cons_succ, List.getElem_cons_zero, Act.put, List.setIfInBounds_toArray, List.set_cons_zero, List.set_cons_succ]
              refine wpAnyH_take (i := 5) (v := ?_) rfl (by kernel_rfl) (by kernel_rfl) (by kernel_rfl) (fun _ _ _ h => h) (Or.inl ⟨by rfl, ?_⟩) hHeld ?_
              rotate_left
              · (intro w hSw; (try dsimp only at hSw); (try simp only [List.getElem_toArray, List.getElem_cons_succ, List.getElem_cons_zero]); go_simp <;> with_reducible rfl)
              try simp only [List.getElem_toArray, List.getElem_cons_succ, List.getElem_cons_zero, Act.put, List.setIfInBounds_toArray, List.set_cons_zero, List.set_cons_succ]
              refine wpAnyH_take (i := 6) (v := ?_) rfl (by kernel_rfl) (by kernel_rfl) (by kernel_rfl) (fun _ _ _ h => h) (Or.inl ⟨by rfl, ?_⟩) hHeld ?_
              rotate_left
              · (intro w hSw; (try dsimp only at hSw); (try simp only [List.getElem_toArray, List.getElem_cons_succ, List.getElem_cons_zero]); go_simp <;> with_reducible rfl)
              try simp only [List.getElem_toArray, List.getElem_cons_succ, List.getElem_cons_zero, Act.put, List.setIfInBounds_toArray, List.set_cons_zero, List.set_cons_succ]
              refine wpAnyH_take (i := 7) (v := ?_) rfl (by kernel_rfl) (by kernel_rfl) (by kernel_rfl) (fun _ _ _ h => h) (Or.inl ⟨by rfl, ?_⟩) hHeld ?_
              rotate_left
              · (intro w hSw; (try dsimp only at hSw); (try simp only [List.getElem_toArray, List.getElem_cons_succ, List.getElem_cons_zero]); go_simp <;> with_reducible rfl)
              try simp only [List.getElem_toArray, List.getElem_cons_succ, List.getElem_cons_zero, Act.put, List.setIfInBounds_toArray, List.set_cons_zero, List.set_cons_succ]
              refine wpAnyH_take (i := 8) (v := ?_) rfl (by kernel_rfl) (by kernel_rfl) (by kernel_rfl) (fun _ _ _ h => h) (Or.inl ⟨by rfl, ?_⟩) hHeld ?_
              rotate_left
              · (intro w hSw; (try dsimp only at hSw); (try simp only [List.getElem_toArray, List.getElem_cons_succ, List.getElem_cons_zero]); go_simp <;> with_reducible rfl)
              try simp only [List.getElem_toArray, List.getElem_cons_succ, List.getElem_cons_zero, Act.put, List.setIfInBounds_toArray, List.set_cons_zero, List.set_cons_succ]
              refine wpAnyH_take (i := 9) (v := ?_) rfl (by kernel_rfl) (by kernel_rfl) (by kernel_rfl) (fun _ _ _ h => h) (Or.inl ⟨by rfl, ?_⟩) hHeld ?_
              rotate_left
              · (intro w hSw; (try dsimp only at hSw); (try simp only [List.getElem_toArray, List.getElem_cons_succ, List.getElem_cons_zero]); go_simp <;> with_reducible rfl)
              try simp only [List.getElem_toArray, List.getElem_cons_succ, List.getElem_cons_zero, Act.put, List.setIfInBounds_toArray, List.set_cons_zero, List.set_cons_succ]
              refine wpAnyH_take (i := 10) (v := ?_) rfl (by kernel_rfl) (by kernel_rfl) (by kernel_rfl) (fun _ _ _ h => h) (Or.inl ⟨by rfl, ?_⟩) hHeld ?_
              rotate_left
              · (intro w hSw; (try dsimp only at hSw); (try simp only [List.getElem_toArray, List.getElem_cons_succ, List.getElem_cons_zero]); go_simp <;> with_reducible rfl)
              try simp only [List.getElem_toArray, List.getElem_cons_succ, List.getElem_cons_zero, Act.put, List.setIfInBounds_toArray, List.set_cons_zero, List.set_cons_succ]
              refine wpAnyH_ready (rs := [1, 3]) (by kernel_rfl) (by simp) ?_
              refine AllReadyH.cons rfl (fun K hK => ?_) ?_
              · obtain ⟨g0, g1, g2, g3, g4⟩ := (HM6.out.over HB9.out).box.cells
                go_simp
                refine hK.out _ _ ?_ (fun hHeld => ?_)
                · exact TCB.out _ HB9.out
                clear hK K g0 g1 g2 g3 g4
                try simp only [List.getElem_toArray, List.getElem_cons_succ, List.getElem_cons_zero, Act.put, List.setIfInBounds_toArray, List.set_cons_zero, List.set_cons_succ]
                refine wpAnyH_ready (rs := [3]) (by kernel_rfl) (by simp) ?_
                refine AllReadyH.cons rfl (fun K hK => ?_) ?_
                · go_simp
                  refine (l02Str_any key.s _).mono ?_
                  rintro e8 wS ⟨rfl, hbS⟩
                  have HBS := Lib.hid (HB9.out.trans (hbS.mono HB9.out.size))
                  clear hbS
                  refine hK.out _ _ ?_ (fun hHeld => ?_)
                  · exact TCB.out _ HBS.out
                  clear hK K
                  try simp only [List.getElem_toArray, List.getElem_cons_succ, List.getElem_cons_zero, Act.put, List.setIfInBounds_toArray, List.set_cons_zero, List.set_cons_succ]
                  refine wpAnyH_ready (rs := [11]) (by kernel_rfl) (by simp) ?_
                  refine AllReadyH.cons rfl (fun K hK => ?_) ?_
                  · go_simp
                    refine (CL.out _ HBS.out).mono ?_
                    rintro e7 wz ⟨ys, rfl, ywf, yrep, hb7⟩
                    obtain ⟨ya, yn, yc, rfl⟩ : ∃ sa sn sc, ys = .slice sa sn sc := (by obtain ⟨p, q, e⟩ := yrep.slice; exact ⟨p, _, q, e⟩)
                    unfold V.agg
                    have HBZ := Lib.hid (HBS.out.trans (hb7.mono HBS.out.size))
                    have HYW := Lib.hid ywf
                    have HYZ := Lib.hid (yrep.mono (G' := fun z => W6.heap.size ≤ z ∧ z < wz.heap.size) (fun z hz hzs => ⟨Nat.le_trans HBS.out.size hz, hzs⟩))
                    have HMZ := Lib.hid (HM6.out.over HBZ.out)
                    clear ywf yrep hb7
                    refine hK.out _ _ ?_ (fun hHeld => ?_)
                    · exact TCB.out _ HBZ.out
                    clear hK K
                    try simp only [List.getElem_toArray, List.getElem_cons_succ, List.getElem_cons_zero, Act.put, List.setIfInBounds_toArray, List.set_cons_zero, List.set_cons_succ]
                    refine wpAnyH_ready (rs := [12]) (by kernel_rfl) (by simp) ?_
                    refine AllReadyH.cons rfl (fun K hK => ?_) ?_
                    · go_simp
                      have HBA := Lib.hid (show Below W6.heap.size W6 (wz.alloc (.cells #[.int .i64 5, .int .i64 0, .int .i64 0, .string key.s, .slice none 0 0, .int .i64 y.k, .int .i64 y.n, .int .i64 y.e, .string y.s, .slice ya yn yc] 26)) from HBZ.out.alloc HBZ.out.size _)
                      refine hK.out _ _ ?_ (fun hHeld => ?_)
                      · exact TCB.out _ HBA.out
                      clear hK K
                      try simp only [List.getElem_toArray, List.getElem_cons_succ, List.getElem_cons_zero, Act.put, List.setIfInBounds_toArray, List.set_cons_zero, List.set_cons_succ]
                      refine wpAnyH_ready (rs := [13]) (by kernel_rfl) (by simp) ?_
                      refine AllReadyH.cons rfl (fun K hK => ?_) ?_
                      · have hzz : W6.heap.size ≤ wz.heap.size := HBZ.out.size
                        have HSR := Lib.hid (show VSrc (wz.alloc (.cells #[.int .i64 5, .int .i64 0, .int .i64 0, .string key.s, .slice none 0 0, .int .i64 y.k, .int .i64 y.n, .int .i64 y.e, .string y.s, .slice ya yn yc] 26)) (fun z => W6.heap.size ≤ z ∧ z < wz.heap.size) (.slice (some ⟨wz.heap.size, 0, none⟩) 2 2) [.mk 5 0 0 key.s [], y] [.slice none 0 0, .slice ya yn yc] from vsrc_lt [.mk 5 0 0 key.s [], y] [.slice none 0 0, .slice ya yn yc] rfl (fun j hj => by rcases (show j = 0 ∨ j = 1 by simp at hj; omega) with rfl | rfl; exact HKW.out; exact HYW.out) (fun j hj => by rcases (show j = 0 ∨ j = 1 by simp at hj; omega) with rfl | rfl; exact RepF.nil _ _; exact HYZ.out) _ rfl _ _ rfl)
                        have HRA := Lib.hid (HMZ.out.rows.stay (show Below wz.heap.size wz (wz.alloc (.cells #[.int .i64 5, .int .i64 0, .int .i64 0, .string key.s, .slice none 0 0, .int .i64 y.k, .int .i64 y.n, .int .i64 y.e, .string y.s, .slice ya yn yc] 26)) from (Below.refl _ _).alloc (Nat.le_refl _) _))
                        refine step_vals rfl _ _ rfl (w.heap.size + 3 + 1) G (fun z => W6.heap.size ≤ z ∧ z < wz.heap.size) _ us [.mk 5 0 0 key.s [], y] [.slice none 0 0, .slice ya yn yc] rfl HRA.out _ rfl HSR.out (fun z hz => ⟨by have := hz.2; simp; omega, fun e => by have := (HM6.out.rows.lt z e).2; have := hz.1; omega⟩) (by simp; omega) (by simp; omega) ?_
                        intro v2 w2 hrow2 hg2 hfr2
                        obtain ⟨va, vn, vc, rfl⟩ := hrow2.slice3
                        have hkp : ∀ z, z < W6.heap.size → (Value.slice oa on oc).ownBlock ≠ some z → w2.heap[z]? = W6.heap[z]? := fun z hz hzo => (hg2.block z (by simp; omega) (fun e => hzo e.symm)).trans (HBA.out.block z hz)
                        have HKP := Lib.hid hkp
                        have HB2 := Lib.hid (show Box w2 (w.heap.size + 3) 8 0 0 ⟨#[]⟩ (.slice oa on oc) 26 from (hkp (w.heap.size + 3) HM6.out.box.lt (fun e => by have := (HM6.out.rows.lt _ e).1; omega)).trans HM6.out.box)
                        have HG2 := Lib.hid hg2
                        have HR2 := Lib.hid hrow2
                        clear hrow2 hg2 hfr2 hkp HSR HRA
                        refine hK.out _ _ ?_ (fun hHeld => ?_)
                        · exact TC.out _ (HKP.out _ (by omega) (fun e => by have := HOLT.out _ e; omega)) (HKP.out _ (by omega) (fun e => by have := HOLT.out _ e; omega)) (HKP.out _ (by omega) (fun e => by have := HOLT.out _ e; omega))
                        clear hK K
                        try simp only [List.getElem_toArray, List.getElem_cons_succ, List.getElem_cons_zero, Act.put, List.setIfInBounds_toArray, List.set_cons_zero, List.set_cons_succ]
                        refine wpAnyH_take (i := 14) (v := ?_) rfl (by kernel_rfl) (by kernel_rfl) (by kernel_rfl) (fun _ _ _ h => h) (Or.inl ⟨by rfl, ?_⟩) hHeld ?_
                        rotate_left
                        · (intro w hSw; (try dsimp only at hSw); (try simp only [List.getElem_toArray, List.getElem_cons_succ, List.getElem_cons_zero]); go_simp <;> with_reducible rfl)
                        try simp only [List.getElem_toArray, List.getElem_cons_succ, List.getElem_cons_zero, Act.put, List.setIfInBounds_toArray, List.set_cons_zero, List.set_cons_succ]
                        refine wpAnyH_ready (rs := [15]) (by kernel_rfl) (by simp) ?_
                        refine AllReadyH.cons rfl (fun K hK => ?_) ?_
                        · have hfz := HB2.out.free (i := 4)
                          have hcc := HB2.out.cells.2.2.2.2
                          go_simp
                          refine hK.out _ _ ?_ (fun hHeld => ?_)
                          · exact TC.out _ ((heap_setCell_other _ _ _ _ (show ¬ (w.heap.size + 1 = w.heap.size + 3) by omega)).trans (HKP.out _ (by omega) (fun e => by have := HOLT.out _ e; omega))) ((heap_setCell_other _ _ _ _ (show ¬ (bp = w.heap.size + 3) by omega)).trans (HKP.out _ (by omega) (fun e => by have := HOLT.out _ e; omega))) ((heap_setCell_other _ _ _ _ (show ¬ (w5.heap.size = w.heap.size + 3) by omega)).trans (HKP.out _ (by omega) (fun e => by have := HOLT.out _ e; omega)))
                          clear hK K
                          have FINR := Lib.hid (HMZ.out.put ((Below.refl _ _).alloc (Nat.le_refl _) _) HG2.out (fun g e => by cases e) HR2.out (fun z hz => by
                            rcases hz with h | h
                            · exact HMZ.out.gl z h
                            · exact (show w.heap.size + 3 < z from Nat.lt_of_lt_of_le (by omega) h.1)) HAA.out)
                          have FINR := Lib.hid (show ∃ (m' : Nat) (us : List V) (o : Value) (G : Nat → Prop), Value.int .i64 ((m : Int) + 2) = .int .i64 m' ∧ m' ≤ ts.length ∧ MI ts us m' R1 300 ∧ szs us ≤ S + szs (ts.take m') ∧ MO (fun x => w.heap.size + 3 < x) W3 (w2.setCell ⟨w.heap.size + 3, 4, none⟩ (.slice va vn vc)) (w.heap.size + 3) none us o G from ⟨m + 2, _, _, _, by go_num, by omega, ST.out, SZ.out, by rw [HKE.out]; exact FINR.out⟩)
                          try simp only [List.getElem_toArray, List.getElem_cons_succ, List.getElem_cons_zero, Act.put, List.setIfInBounds_toArray, List.set_cons_zero, List.set_cons_succ]
                          refine wpAnyH_done (by kernel_rfl) ?_ _
                          go_wp2_with fail
                          go_roundw
                          case rel => exact FINR.out
                          case measure => simp [intOf]; omega
                        exact AllReadyH.nil
                      exact AllReadyH.nil
                    exact AllReadyH.nil
                  exact AllReadyH.nil
                exact AllReadyH.nil
              refine AllReadyH.cons rfl (fun K hK => ?_) ?_
              · go_simp
                refine (l02Str_any key.s _).mono ?_
                rintro e8 wS ⟨rfl, hbS⟩
                have HBS := Lib.hid (HB9.out.trans (hbS.mono HB9.out.size))
                clear hbS
                refine hK.out _ _ ?_ (fun hHeld => ?_)
                · exact TCB.out _ HBS.out
                clear hK K
                try simp only [List.getElem_toArray, List.getElem_cons_succ, List.getElem_cons_zero, Act.put, List.setIfInBounds_toArray, List.set_cons_zero, List.set_cons_succ]
                refine wpAnyH_ready (rs := [1, 11]) (by kernel_rfl) (by simp) ?_
                refine AllReadyH.cons rfl (fun K hK => ?_) ?_
                · obtain ⟨g0, g1, g2, g3, g4⟩ := (HM6.out.over HBS.out).box.cells
                  go_simp
                  refine hK.out _ _ ?_ (fun hHeld => ?_)
                  · exact TCB.out _ HBS.out
                  clear hK K g0 g1 g2 g3 g4
                  try simp only [List.getElem_toArray, List.getElem_cons_succ, List.getElem_cons_zero, Act.put, List.setIfInBounds_toArray, List.set_cons_zero, List.set_cons_succ]
                  refine wpAnyH_ready (rs := [11]) (by kernel_rfl) (by simp) ?_
                  refine AllReadyH.cons rfl (fun K hK => ?_) ?_
                  · go_simp
                    refine (CL.out _ HBS.out).mono ?_
                    rintro e7 wz ⟨ys, rfl, ywf, yrep, hb7⟩
                    obtain ⟨ya, yn, yc, rfl⟩ : ∃ sa sn sc, ys = .slice sa sn sc := (by obtain ⟨p, q, e⟩ := yrep.slice; exact ⟨p, _, q, e⟩)
                    unfold V.agg
                    have HBZ := Lib.hid (HBS.out.trans (hb7.mono HBS.out.size))
                    have HYW := Lib.hid ywf
                    have HYZ := Lib.hid (yrep.mono (G' := fun z => W6.heap.size ≤ z ∧ z < wz.heap.size) (fun z hz hzs => ⟨Nat.le_trans HBS.out.size hz, hzs⟩))
                    have HMZ := Lib.hid (HM6.out.over HBZ.out)
                    clear ywf yrep hb7
                    refine hK.out _ _ ?_ (fun hHeld => ?_)
                    · exact TCB.out _ HBZ.out
                    clear hK K
                    try simp only [List.getElem_toArray, List.getElem_cons_succ, List.getElem_cons_zero, Act.put, List.setIfInBounds_toArray, List.set_cons_zero, List.set_cons_succ]
                    refine wpAnyH_ready (rs := [12]) (by kernel_rfl) (by simp) ?_
                    refine AllReadyH.cons rfl (fun K hK => ?_) ?_
                    · go_simp
                      have HBA := Lib.hid (show Below W6.heap.size W6 (wz.alloc (.cells #[.int .i64 5, .int .i64 0, .int .i64 0, .string key.s, .slice none 0 0, .int .i64 y.k, .int .i64 y.n, .int .i64 y.e, .string y.s, .slice ya yn yc] 26)) from HBZ.out.alloc HBZ.out.size _)
                      refine hK.out _ _ ?_ (fun hHeld => ?_)
                      · exact TCB.out _ HBA.out
                      clear hK K
                      try simp only [List.getElem_toArray, List.getElem_cons_succ, List.getElem_cons_zero, Act.put, List.setIfInBounds_toArray, List.set_cons_zero, List.set_cons_succ]
                      refine wpAnyH_ready (rs := [13]) (by kernel_rfl) (by simp) ?_
                      refine AllReadyH.cons rfl (fun K hK => ?_) ?_
                      · have hzz : W6.heap.size ≤ wz.heap.size := HBZ.out.size
                        have HSR := Lib.hid (show VSrc (wz.alloc (.cells #[.int .i64 5, .int .i64 0, .int .i64 0, .string key.s, .slice none 0 0, .int .i64 y.k, .int .i64 y.n, .int .i64 y.e, .string y.s, .slice ya yn yc] 26)) (fun z => W6.heap.size ≤ z ∧ z < wz.heap.size) (.slice (some ⟨wz.heap.size, 0, none⟩) 2 2) [.mk 5 0 0 key.s [], y] [.slice none 0 0, .slice ya yn yc] from vsrc_lt [.mk 5 0 0 key.s [], y] [.slice none 0 0, .slice ya yn yc] rfl (fun j hj => by rcases (show j = 0 ∨ j = 1 by simp at hj; omega) with rfl | rfl; exact HKW.out; exact HYW.out) (fun j hj => by rcases (show j = 0 ∨ j = 1 by simp at hj; omega) with rfl | rfl; exact RepF.nil _ _; exact HYZ.out) _ rfl _ _ rfl)
                        have HRA := Lib.hid (HMZ.out.rows.stay (show Below wz.heap.size wz (wz.alloc (.cells #[.int .i64 5, .int .i64 0, .int .i64 0, .string key.s, .slice none 0 0, .int .i64 y.k, .int .i64 y.n, .int .i64 y.e, .string y.s, .slice ya yn yc] 26)) from (Below.refl _ _).alloc (Nat.le_refl _) _))
                        refine step_vals rfl _ _ rfl (w.heap.size + 3 + 1) G (fun z => W6.heap.size ≤ z ∧ z < wz.heap.size) _ us [.mk 5 0 0 key.s [], y] [.slice none 0 0, .slice ya yn yc] rfl HRA.out _ rfl HSR.out (fun z hz => ⟨by have := hz.2; simp; omega, fun e => by have := (HM6.out.rows.lt z e).2; have := hz.1; omega⟩) (by simp; omega) (by simp; omega) ?_
                        intro v2 w2 hrow2 hg2 hfr2
                        obtain ⟨va, vn, vc, rfl⟩ := hrow2.slice3
                        have hkp : ∀ z, z < W6.heap.size → (Value.slice oa on oc).ownBlock ≠ some z → w2.heap[z]? = W6.heap[z]? := fun z hz hzo => (hg2.block z (by simp; omega) (fun e => hzo e.symm)).trans (HBA.out.block z hz)
                        have HKP := Lib.hid hkp
                        have HB2 := Lib.hid (show Box w2 (w.heap.size + 3) 8 0 0 ⟨#[]⟩ (.slice oa on oc) 26 from (hkp (w.heap.size + 3) HM6.out.box.lt (fun e => by have := (HM6.out.rows.lt _ e).1; omega)).trans HM6.out.box)
                        have HG2 := Lib.hid hg2
                        have HR2 := Lib.hid hrow2
                        clear hrow2 hg2 hfr2 hkp HSR HRA
                        refine hK.out _ _ ?_ (fun hHeld => ?_)
                        · exact TC.out _ (HKP.out _ (by omega) (fun e => by have := HOLT.out _ e; omega)) (HKP.out _ (by omega) (fun e => by have := HOLT.out _ e; omega)) (HKP.out _ (by omega) (fun e => by have := HOLT.out _ e; omega))
                        clear hK K
                        try simp only [List.getElem_toArray, List.getElem_cons_succ, List.getElem_cons_zero, Act.put, List.setIfInBounds_toArray, List.set_cons_zero, List.set_cons_succ]
                        refine wpAnyH_take (i := 14) (v := ?_) rfl (by kernel_rfl) (by kernel_rfl) (by kernel_rfl) (fun _ _ _ h => h) (Or.inl ⟨by rfl, ?_⟩) hHeld ?_
                        rotate_left
                        · (intro w hSw; (try dsimp only at hSw); (try simp only [List.getElem_toArray, List.getElem_cons_succ, List.getElem_cons_zero]); go_simp <;> with_reducible rfl)
                        try simp only [List.getElem_toArray, List.getElem_cons_succ, List.getElem_cons_zero, Act.put, List.setIfInBounds_toArray, List.set_cons_zero, List.set_cons_succ]
                        refine wpAnyH_ready (rs := [15]) (by kernel_rfl) (by simp) ?_
                        refine AllReadyH.cons rfl (fun K hK => ?_) ?_
                        · have hfz := HB2.out.free (i := 4)
                          have hcc := HB2.out.cells.2.2.2.2
                          go_simp
                          refine hK.out _ _ ?_ (fun hHeld => ?_)
                          · exact TC.out _ ((heap_setCell_other _ _ _ _ (show ¬ (w.heap.size + 1 = w.heap.size + 3) by omega)).trans (HKP.out _ (by omega) (fun e => by have := HOLT.out _ e; omega))) ((heap_setCell_other _ _ _ _ (show ¬ (bp = w.heap.size + 3) by omega)).trans (HKP.out _ (by omega) (fun e => by have := HOLT.out _ e; omega))) ((heap_setCell_other _ _ _ _ (show ¬ (w5.heap.size = w.heap.size + 3) by omega)).trans (HKP.out _ (by omega) (fun e => by have := HOLT.out _ e; omega)))
                          clear hK K
                          have FINR := Lib.hid (HMZ.out.put ((Below.refl _ _).alloc (Nat.le_refl _) _) HG2.out (fun g e => by cases e) HR2.out (fun z hz => by
                            rcases hz with h | h
                            · exact HMZ.out.gl z h
                            · exact (show w.heap.size + 3 < z from Nat.lt_of_lt_of_le (by omega) h.1)) HAA.out)
                          have FINR := Lib.hid (show ∃ (m' : Nat) (us : List V) (o : Value) (G : Nat → Prop), Value.int .i64 ((m : Int) + 2) = .int .i64 m' ∧ m' ≤ ts.length ∧ MI ts us m' R1 300 ∧ szs us ≤ S + szs (ts.take m') ∧ MO (fun x => w.heap.size + 3 < x) W3 (w2.setCell ⟨w.heap.size + 3, 4, none⟩ (.slice va vn vc)) (w.heap.size + 3) none us o G from ⟨m + 2, _, _, _, by go_num, by omega, ST.out, SZ.out, by rw [HKE.out]; exact FINR.out⟩)
                          try simp only [List.getElem_toArray, List.getElem_cons_succ, List.getElem_cons_zero, Act.put, List.setIfInBounds_toArray, List.set_cons_zero, List.set_cons_succ]
                          refine wpAnyH_done (by kernel_rfl) ?_ _
                          go_wp2_with fail
                          go_roundw
                          case rel => exact FINR.out
                          case measure => simp [intOf]; omega
                        exact AllReadyH.nil
                      exact AllReadyH.nil
                    exact AllReadyH.nil
                  exact AllReadyH.nil
                refine AllReadyH.cons rfl (fun K hK => ?_) ?_
                · go_simp
                  refine (CL.out _ HBS.out).mono ?_
                  rintro e7 wz ⟨ys, rfl, ywf, yrep, hb7⟩
                  obtain ⟨ya, yn, yc, rfl⟩ : ∃ sa sn sc, ys = .slice sa sn sc := (by obtain ⟨p, q, e⟩ := yrep.slice; exact ⟨p, _, q, e⟩)
                  unfold V.agg
                  have HBZ := Lib.hid (HBS.out.trans (hb7.mono HBS.out.size))
                  have HYW := Lib.hid ywf
                  have HYZ := Lib.hid (yrep.mono (G' := fun z => W6.heap.size ≤ z ∧ z < wz.heap.size) (fun z hz hzs => ⟨Nat.le_trans HBS.out.size hz, hzs⟩))
                  have HMZ := Lib.hid (HM6.out.over HBZ.out)
                  clear ywf yrep hb7
                  refine hK.out _ _ ?_ (fun hHeld => ?_)
                  · exact TCB.out _ HBZ.out
                  clear hK K
                  try simp only [List.getElem_toArray, List.getElem_cons_succ, List.getElem_cons_zero, Act.put, List.setIfInBounds_toArray, List.set_cons_zero, List.set_cons_succ]
                  refine wpAnyH_ready (rs := [1, 12]) (by kernel_rfl) (by simp) ?_
                  refine AllReadyH.cons rfl (fun K hK => ?_) ?_
                  · obtain ⟨g0, g1, g2, g3, g4⟩ := (HM6.out.over HBZ.out).box.cells
                    go_simp
                    refine hK.out _ _ ?_ (fun hHeld => ?_)
                    · exact TCB.out _ HBZ.out
                    clear hK K g0 g1 g2 g3 g4
                    try simp only [List.getElem_toArray, List.getElem_cons_succ, List.getElem_cons_zero, Act.put, List.setIfInBounds_toArray, List.set_cons_zero, List.set_cons_succ]
                    refine wpAnyH_ready (rs := [12]) (by kernel_rfl) (by simp) ?_
                    refine AllReadyH.cons rfl (fun K hK => ?_) ?_
                    · go_simp
                      have HBA := Lib.hid (show Below W6.heap.size W6 (wz.alloc (.cells #[.int .i64 5, .int .i64 0, .int .i64 0, .string key.s, .slice none 0 0, .int .i64 y.k, .int .i64 y.n, .int .i64 y.e, .string y.s, .slice ya yn yc] 26)) from HBZ.out.alloc HBZ.out.size _)
                      refine hK.out _ _ ?_ (fun hHeld => ?_)
                      · exact TCB.out _ HBA.out
                      clear hK K
                      try simp only [List.getElem_toArray, List.getElem_cons_succ, List.getElem_cons_zero, Act.put, List.setIfInBounds_toArray, List.set_cons_zero, List.set_cons_succ]
                      refine wpAnyH_ready (rs := [13]) (by kernel_rfl) (by simp) ?_
                      refine AllReadyH.cons rfl (fun K hK => ?_) ?_
                      · have hzz : W6.heap.size ≤ wz.heap.size := HBZ.out.size
                        have HSR := Lib.hid (show VSrc (wz.alloc (.cells #[.int .i64 5, .int .i64 0, .int .i64 0, .string key.s, .slice none 0 0, .int .i64 y.k, .int .i64 y.n, .int .i64 y.e, .string y.s, .slice ya yn yc] 26)) (fun z => W6.heap.size ≤ z ∧ z < wz.heap.size) (.slice (some ⟨wz.heap.size, 0, none⟩) 2 2) [.mk 5 0 0 key.s [], y] [.slice none 0 0, .slice ya yn yc] from vsrc_lt [.mk 5 0 0 key.s [], y] [.slice none 0 0, .slice ya yn yc] rfl (fun j hj => by rcases (show j = 0 ∨ j = 1 by simp at hj; omega) with rfl | rfl; exact HKW.out; exact HYW.out) (fun j hj => by rcases (show j = 0 ∨ j = 1 by simp at hj; omega) with rfl | rfl; exact RepF.nil _ _; exact HYZ.out) _ rfl _ _ rfl)
                        have HRA := Lib.hid (HMZ.out.rows.stay (show Below wz.heap.size wz (wz.alloc (.cells #[.int .i64 5, .int .i64 0, .int .i64 0, .string key.s, .slice none 0 0, .int .i64 y.k, .int .i64 y.n, .int .i64 y.e, .string y.s, .slice ya yn yc] 26)) from (Below.refl _ _).alloc (Nat.le_refl _) _))
                        refine step_vals rfl _ _ rfl (w.heap.size + 3 + 1) G (fun z => W6.heap.size ≤ z ∧ z < wz.heap.size) _ us [.mk 5 0 0 key.s [], y] [.slice none 0 0, .slice ya yn yc] rfl HRA.out _ rfl HSR.out (fun z hz => ⟨by have := hz.2; simp; omega, fun e => by have := (HM6.out.rows.lt z e).2; have := hz.1; omega⟩) (by simp; omega) (by simp; omega) ?_
                        intro v2 w2 hrow2 hg2 hfr2
                        obtain ⟨va, vn, vc, rfl⟩ := hrow2.slice3
                        have hkp : ∀ z, z < W6.heap.size → (Value.slice oa on oc).ownBlock ≠ some z → w2.heap[z]? = W6.heap[z]? := fun z hz hzo => (hg2.block z (by simp; omega) (fun e => hzo e.symm)).trans (HBA.out.block z hz)
                        have HKP := Lib.hid hkp
                        have HB2 := Lib.hid (show Box w2 (w.heap.size + 3) 8 0 0 ⟨#[]⟩ (.slice oa on oc) 26 from (hkp (w.heap.size + 3) HM6.out.box.lt (fun e => by have := (HM6.out.rows.lt _ e).1; omega)).trans HM6.out.box)
                        have HG2 := Lib.hid hg2
                        have HR2 := Lib.hid hrow2
                        clear hrow2 hg2 hfr2 hkp HSR HRA
                        refine hK.out _ _ ?_ (fun hHeld => ?_)
                        · exact TC.out _ (HKP.out _ (by omega) (fun e => by have := HOLT.out _ e; omega)) (HKP.out _ (by omega) (fun e => by have := HOLT.out _ e; omega)) (HKP.out _ (by omega) (fun e => by have := HOLT.out _ e; omega))
                        clear hK K
                        try simp only [List.getElem_toArray, List.getElem_cons_succ, List.getElem_cons_zero, Act.put, List.setIfInBounds_toArray, List.set_cons_zero, List.set_cons_succ]
                        refine wpAnyH_take (i := 14) (v := ?_) rfl (by kernel_rfl) (by kernel_rfl) (by kernel_rfl) (fun _ _ _ h => h) (Or.inl ⟨by rfl, ?_⟩) hHeld ?_
                        rotate_left
                        · (intro w hSw; (try dsimp only at hSw); (try simp only [List.getElem_toArray, List.getElem_cons_succ, List.getElem_cons_zero]); go_simp <;> with_reducible rfl)
                        try simp only [List.getElem_toArray, List.getElem_cons_succ, List.getElem_cons_zero, Act.put, List.setIfInBounds_toArray, List.set_cons_zero, List.set_cons_succ]
                        refine wpAnyH_ready (rs := [15]) (by kernel_rfl) (by simp) ?_
                        refine AllReadyH.cons rfl (fun K hK => ?_) ?_
                        · have hfz := HB2.out.free (i := 4)
                          have hcc := HB2.out.cells.2.2.2.2
                          go_simp
                          refine hK.out _ _ ?_ (fun hHeld => ?_)
                          · exact TC.out _ ((heap_setCell_other _ _ _ _ (show ¬ (w.heap.size + 1 = w.heap.size + 3) by omega)).trans (HKP.out _ (by omega) (fun e => by have := HOLT.out _ e; omega))) ((heap_setCell_other _ _ _ _ (show ¬ (bp = w.heap.size + 3) by omega)).trans (HKP.out _ (by omega) (fun e => by have := HOLT.out _ e; omega))) ((heap_setCell_other _ _ _ _ (show ¬ (w5.heap.size = w.heap.size + 3) by omega)).trans (HKP.out _ (by omega) (fun e => by have := HOLT.out _ e; omega)))
                          clear hK K
                          have FINR := Lib.hid (HMZ.out.put ((Below.refl _ _).alloc (Nat.le_refl _) _) HG2.out (fun g e => by cases e) HR2.out (fun z hz => by
                            rcases hz with h | h
                            · exact HMZ.out.gl z h
                            · exact (show w.heap.size + 3 < z from Nat.lt_of_lt_of_le (by omega) h.1)) HAA.out)
                          have FINR := Lib.hid (show ∃ (m' : Nat) (us : List V) (o : Value) (G : Nat → Prop), Value.int .i64 ((m : Int) + 2) = .int .i64 m' ∧ m' ≤ ts.length ∧ MI ts us m' R1 300 ∧ szs us ≤ S + szs (ts.take m') ∧ MO (fun x => w.heap.size + 3 < x) W3 (w2.setCell ⟨w.heap.size + 3, 4, none⟩ (.slice va vn vc)) (w.heap.size + 3) none us o G from ⟨m + 2, _, _, _, by go_num, by omega, ST.out, SZ.out, by rw [HKE.out]; exact FINR.out⟩)
                          try simp only [List.getElem_toArray, List.getElem_cons_succ, List.getElem_cons_zero, Act.put, List.setIfInBounds_toArray, List.set_cons_zero, List.set_cons_succ]
                          refine wpAnyH_done (by kernel_rfl) ?_ _
                          go_wp2_with fail
                          go_roundw
                          case rel => exact FINR.out
                          case measure => simp [intOf]; omega
                        exact AllReadyH.nil
                      exact AllReadyH.nil
                    exact AllReadyH.nil
                  refine AllReadyH.cons rfl (fun K hK => ?_) ?_
                  · go_simp
                    have HBA := Lib.hid (show Below W6.heap.size W6 (wz.alloc (.cells #[.int .i64 5, .int .i64 0, .int .i64 0, .string key.s, .slice none 0 0, .int .i64 y.k, .int .i64 y.n, .int .i64 y.e, .string y.s, .slice ya yn yc] 26)) from HBZ.out.alloc HBZ.out.size _)
                    refine hK.out _ _ ?_ (fun hHeld => ?_)
                    · exact TCB.out _ HBA.out
                    clear hK K
                    try simp only [List.getElem_toArray, List.getElem_cons_succ, List.getElem_cons_zero, Act.put, List.setIfInBounds_toArray, List.set_cons_zero, List.set_cons_succ]
                    refine wpAnyH_ready (rs := [1]) (by kernel_rfl) (by simp) ?_
                    refine AllReadyH.cons rfl (fun K hK => ?_) ?_
                    · obtain ⟨g0, g1, g2, g3, g4⟩ := (HM6.out.over HBA.out).box.cells
                      go_simp
                      refine hK.out _ _ ?_ (fun hHeld => ?_)
                      · exact TCB.out _ HBA.out
                      clear hK K g0 g1 g2 g3 g4
                      try simp only [List.getElem_toArray, List.getElem_cons_succ, List.getElem_cons_zero, Act.put, List.setIfInBounds_toArray, List.set_cons_zero, List.set_cons_succ]
                      refine wpAnyH_ready (rs := [13]) (by kernel_rfl) (by simp) ?_
                      refine AllReadyH.cons rfl (fun K hK => ?_) ?_
                      · have hzz : W6.heap.size ≤ wz.heap.size := HBZ.out.size
                        have HSR := Lib.hid (show VSrc (wz.alloc (.cells #[.int .i64 5, .int .i64 0, .int .i64 0, .string key.s, .slice none 0 0, .int .i64 y.k, .int .i64 y.n, .int .i64 y.e, .string y.s, .slice ya yn yc] 26)) (fun z => W6.heap.size ≤ z ∧ z < wz.heap.size) (.slice (some ⟨wz.heap.size, 0, none⟩) 2 2) [.mk 5 0 0 key.s [], y] [.slice none 0 0, .slice ya yn yc] from vsrc_lt [.mk 5 0 0 key.s [], y] [.slice none 0 0, .slice ya yn yc] rfl (fun j hj => by rcases (show j = 0 ∨ j = 1 by simp at hj; omega) with rfl | rfl; exact HKW.out; exact HYW.out) (fun j hj => by rcases (show j = 0 ∨ j = 1 by simp at hj; omega) with rfl | rfl; exact RepF.nil _ _; exact HYZ.out) _ rfl _ _ rfl)
                        have HRA := Lib.hid (HMZ.out.rows.stay (show Below wz.heap.size wz (wz.alloc (.cells #[.int .i64 5, .int .i64 0, .int .i64 0, .string key.s, .slice none 0 0, .int .i64 y.k, .int .i64 y.n, .int .i64 y.e, .string y.s, .slice ya yn yc] 26)) from (Below.refl _ _).alloc (Nat.le_refl _) _))
                        refine step_vals rfl _ _ rfl (w.heap.size + 3 + 1) G (fun z => W6.heap.size ≤ z ∧ z < wz.heap.size) _ us [.mk 5 0 0 key.s [], y] [.slice none 0 0, .slice ya yn yc] rfl HRA.out _ rfl HSR.out (fun z hz => ⟨by have := hz.2; simp; omega, fun e => by have := (HM6.out.rows.lt z e).2; have := hz.1; omega⟩) (by simp; omega) (by simp; omega) ?_
                        intro v2 w2 hrow2 hg2 hfr2
                        obtain ⟨va, vn, vc, rfl⟩ := hrow2.slice3
                        have hkp : ∀ z, z < W6.heap.size → (Value.slice oa on oc).ownBlock ≠ some z → w2.heap[z]? = W6.heap[z]? := fun z hz hzo => (hg2.block z (by simp; omega) (fun e => hzo e.symm)).trans (HBA.out.block z hz)
                        have HKP := Lib.hid hkp
                        have HB2 := Lib.hid (show Box w2 (w.heap.size + 3) 8 0 0 ⟨#[]⟩ (.slice oa on oc) 26 from (hkp (w.heap.size + 3) HM6.out.box.lt (fun e => by have := (HM6.out.rows.lt _ e).1; omega)).trans HM6.out.box)
                        have HG2 := Lib.hid hg2
                        have HR2 := Lib.hid hrow2
                        clear hrow2 hg2 hfr2 hkp HSR HRA
                        refine hK.out _ _ ?_ (fun hHeld => ?_)
                        · exact TC.out _ (HKP.out _ (by omega) (fun e => by have := HOLT.out _ e; omega)) (HKP.out _ (by omega) (fun e => by have := HOLT.out _ e; omega)) (HKP.out _ (by omega) (fun e => by have := HOLT.out _ e; omega))
                        clear hK K
                        try simp only [List.getElem_toArray, List.getElem_cons_succ, List.getElem_cons_zero, Act.put, List.setIfInBounds_toArray, List.set_cons_zero, List.set_cons_succ]
                        refine wpAnyH_take (i := 14) (v := ?_) rfl (by kernel_rfl) (by kernel_rfl) (by kernel_rfl) (fun _ _ _ h => h) (Or.inl ⟨by rfl, ?_⟩) hHeld ?_
                        rotate_left
                        · (intro w hSw; (try dsimp only at hSw); (try simp only [List.getElem_toArray, List.getElem_cons_succ, List.getElem_cons_zero]); go_simp <;> with_reducible rfl)
                        try simp only [List.getElem_toArray, List.getElem_cons_succ, List.getElem_cons_zero, Act.put, List.setIfInBounds_toArray, List.set_cons_zero, List.set_cons_succ]
                        refine wpAnyH_ready (rs := [15]) (by kernel_rfl) (by simp) ?_
                        refine AllReadyH.cons rfl (fun K hK => ?_) ?_
                        · have hfz := HB2.out.free (i := 4)
                          have hcc := HB2.out.cells.2.2.2.2
                          go_simp
                          refine hK.out _ _ ?_ (fun hHeld => ?_)
                          · exact TC.out _ ((heap_setCell_other _ _ _ _ (show ¬ (w.heap.size + 1 = w.heap.size + 3) by omega)).trans (HKP.out _ (by omega) (fun e => by have := HOLT.out _ e; omega))) ((heap_setCell_other _ _ _ _ (show ¬ (bp = w.heap.size + 3) by omega)).trans (HKP.out _ (by omega) (fun e => by have := HOLT.out _ e; omega))) ((heap_setCell_other _ _ _ _ (show ¬ (w5.heap.size = w.heap.size + 3) by omega)).trans (HKP.out _ (by omega) (fun e => by have := HOLT.out _ e; omega)))
                          clear hK K
                          have FINR := Lib.hid (HMZ.out.put ((Below.refl _ _).alloc (Nat.le_refl _) _) HG2.out (fun g e => by cases e) HR2.out (fun z hz => by
                            rcases hz with h | h
                            · exact HMZ.out.gl z h
                            · exact (show w.heap.size + 3 < z from Nat.lt_of_lt_of_le (by omega) h.1)) HAA.out)
                          have FINR := Lib.hid (show ∃ (m' : Nat) (us : List V) (o : Value) (G : Nat → Prop), Value.int .i64 ((m : Int) + 2) = .int .i64 m' ∧ m' ≤ ts.length ∧ MI ts us m' R1 300 ∧ szs us ≤ S + szs (ts.take m') ∧ MO (fun x => w.heap.size + 3 < x) W3 (w2.setCell ⟨w.heap.size + 3, 4, none⟩ (.slice va vn vc)) (w.heap.size + 3) none us o G from ⟨m + 2, _, _, _, by go_num, by omega, ST.out, SZ.out, by rw [HKE.out]; exact FINR.out⟩)
                          try simp only [List.getElem_toArray, List.getElem_cons_succ, List.getElem_cons_zero, Act.put, List.setIfInBounds_toArray, List.set_cons_zero, List.set_cons_succ]
                          refine wpAnyH_done (by kernel_rfl) ?_ _
                          go_wp2_with fail
                          go_roundw
                          case rel => exact FINR.out
                          case measure => simp [intOf]; omega
                        exact AllReadyH.nil
                      exact AllReadyH.nil
                    exact AllReadyH.nil
                  exact AllReadyH.nil
                exact AllReadyH.nil
              exact AllReadyH.nil
          · rw [hF, Nat.zero_add]
            clear hF
            have PA := Lib.hid (put1_at (y := mrg old x) (x := x) H5.out hj hO hD hS)
            have hol : old = us[j + 1] := by rw [← HOL.out]; unfold old1; rw [hO]; rfl
            obtain ⟨go, ocap, hoe⟩ := HM6.out.rows.some1 (by intro e; rw [e] at hj; simp at hj)
            obtain ⟨rfl, hon, rfl⟩ : oa = some ⟨go, 0, none⟩ ∧ on = us.length ∧ oc = ocap := by injection hoe with e1 e2 e3; exact ⟨e1, e2, e3⟩
            clear hoe
            subst hon
            have hgo := (HM6.out.rows.lt go rfl)
            have hwj2 : IntKind.i64.wrap ((j : Int) + 2) = (j : Int) + 2 := by rw [IntKind.wrap_i64]; omega
            have hwj1 : IntKind.i64.wrap ((j : Int) + 1) = (j : Int) + 1 := by rw [IntKind.wrap_i64]; omega
            have hjj : (j : Int) + 1 < (us.length : Int) := by omega
            have hj0' : (0 : Int) ≤ (j : Int) + 1 := by omega
            have hjt : ((j : Int) + 1).toNat = j + 1 := by omega
            have hjn : j + 1 < us.length := hj
            have HJ := Lib.hid hj
            rcases HXK.out with hx0 | hx0
            · have PE := PA.out
              rw [if_pos hx0] at PE
              rw [PE] at ST SZ
              have t6 : (x.k == 0) = true := by simpa using hx0
              obtain ⟨-, hle, hcm, -⟩ := HM6.out.rows.open
              have hHF : ∀ z, (G z ∨ (Value.slice (some ⟨go, 0, none⟩) us.length oc).ownBlock = some z) → z < W6.heap.size ∧ w.heap.size + 3 < z := fun z hz => by
                rcases hz with h | h
                · exact ⟨HM6.out.rows.inG z h, HM6.out.gl z h⟩
                · have := HM6.out.rows.lt z h; omega
              have HHF := Lib.hid hHF
              obtain ⟨A, hA⟩ : ∃ A : Option Addr, (if oc = j + 2 then (some ⟨go, 0, none⟩ : Option Addr) else some ⟨go, (j + 2) * 5, none⟩) = A := ⟨_, rfl⟩
              have HT1 := Lib.hid (HM6.out.rows.repF.takeS (j := j) (by omega))
              have HT2 := Lib.hid (HM6.out.rows.repF.dropS (j := j + 2) (A := A) (by omega) (fun h => by rw [← hA, if_neg (by omega), Nat.zero_add]))
              have hba : Below W6.heap.size W6 (W6.alloc (.cells #[] 26)).drew := ((Below.refl _ _).alloc (Nat.le_refl _) _).drew
              obtain ⟨sm1, hs1⟩ := vsrc_of (HT1.out.stay hba)
              have HS1 := Lib.hid hs1
              have HBA := Lib.hid hba
              have HRA := Lib.hid (show PRow (W6.alloc (.cells #[] 26)).drew (w.heap.size + 3 + 1) (fun _ => False) (.slice (some ⟨W6.heap.size, 0, none⟩) 0 0) [] from (PRow.made0 (w := W6) (base := w.heap.size + 3 + 1) (by omega)).keep (Nat.le_refl _) (fun _ _ _ => rfl))
              have hic : j ≤ oc := by omega
              have hjc : j + 2 ≤ oc := by omega
              have hj20 : (0 : Int) ≤ (j : Int) + 2 := by omega
              have hj2t : ((j : Int) + 2).toNat = j + 2 := by omega
              have hj2l : (j : Int) + 2 ≤ (us.length : Int) := by omega
              have hjn2 : j + 2 ≤ us.length := by omega
              have htl : (us.take j).length = j := by rw [List.length_take]; omega
              have hdl : (us.drop (j + 2)).length = us.length - (j + 2) := List.length_drop
              clear hx0 PE PA IHX OL hO hD hS HXK hol hs1 hba HHF hHF
              have HHF := Lib.hid (show ∀ z, (G z ∨ (Value.slice (some ⟨go, 0, none⟩) us.length oc).ownBlock = some z) → z < W6.heap.size ∧ w.heap.size + 3 < z from fun z hz => by
                rcases hz with h | h
                · exact ⟨HM6.out.rows.inG z h, HM6.out.gl z h⟩
                · have := HM6.out.rows.lt z h; omega)
              have hsa : (W6.alloc (.cells #[] 26)).drew.heap.size = W6.heap.size + 1 := (show (W6.alloc (.cells #[] 26)).heap.size = W6.heap.size + 1 by simp)
              have hn1 : w.heap.size + 3 ≠ W6.heap.size := by omega
              have hn2 : W6.heap.size ≠ w.heap.size + 3 := by omega
              have hn3 : w.heap.size + 3 < W6.heap.size := by omega
              have hn7 : w.heap.size + 3 + 1 ≤ W6.heap.size := by omega
              clear hz6
              have za4 : (W6.alloc (.cells #[] 26)).cell? ⟨w.heap.size + 3, 4, none⟩ = some (.slice (some ⟨go, 0, none⟩) us.length oc) := by rw [World.cell?_of_block (a := ⟨w.heap.size + 3, 4, none⟩) (Below.heap_alloc W6 _ _ hn3)]; exact z4
              generalize x.k = xk at *
              go_wp2_with fail
              go_region_law (first
                | (refine step_vals rfl _ _ rfl (w.heap.size + 3 + 1) _ (fun z => G z ∨ (Value.slice (some ⟨go, 0, none⟩) us.length oc).ownBlock = some z) _ _ (us.drop (j + 2)) sm2 rfl HR1.out _ rfl HS2.out (fun z hz => ⟨by have := (HHF.out z hz).1; omega, fun e => by have := (HHF.out z hz).1; have := HF1.out z e; omega⟩) (by rw [hdl]; simp; omega) (by omega) ?_; intro v2 w2 hrow2 hg2 hfr2; obtain ⟨va, vn, vc, rfl⟩ := hrow2.slice3; have HR2 := Lib.hid hrow2; have HKP := Lib.hid (show Below W6.heap.size W6 w2 from ⟨hg2.os.trans HB1.out.os, hg2.tape.trans HB1.out.tape, hg2.output.trans HB1.out.output, Nat.le_trans HB1.out.size hg2.size, fun z hz => (hg2.block z (by have := HB1.out.size; omega) (fun e => by have := HF1.out z e.symm; omega)).trans (HB1.out.block z hz)⟩); have HB2 := Lib.hid ((HM6.out.over HKP.out).box); have hfz := HB2.out.free (i := 4); have hcc := HB2.out.cells.2.2.2.2; clear hrow2 hg2 hfr2)
                | (refine step_vals rfl _ _ rfl (w.heap.size + 3 + 1) (fun _ => False) (fun z => G z ∨ (Value.slice (some ⟨go, 0, none⟩) us.length oc).ownBlock = some z) _ [] (us.take j) sm1 rfl HRA.out _ rfl HS1.out (fun z hz => ⟨by have := (HHF.out z hz).1; rw [hsa]; omega, fun e => by have := (HHF.out z hz).1; have e2 : W6.heap.size = z := Option.some.inj e; omega⟩) (by simp; omega) (by rw [hsa]; omega) ?_; intro v1 w1 hrow1 hg1 hfr1; obtain ⟨v1a, v1n, v1c, rfl⟩ := hrow1.slice3; have HR1 := Lib.hid hrow1; have HB1 := Lib.hid (show Below W6.heap.size W6 w1 from ⟨hg1.os.trans HBA.out.os, hg1.tape.trans HBA.out.tape, hg1.output.trans HBA.out.output, Nat.le_trans HBA.out.size hg1.size, fun z hz => (hg1.block z (by rw [hsa]; omega) (fun e => by have e2 : z = W6.heap.size := Option.some.inj e; omega)).trans (HBA.out.block z hz)⟩); have HF1 := Lib.hid (show ∀ z, (Value.slice v1a v1n v1c).ownBlock = some z → W6.heap.size ≤ z from fun z e => by rcases hfr1 with h | h; (rw [h] at e; have e2 : W6.heap.size = z := Option.some.inj e; omega); (rw [h] at e; have e2 := Option.some.inj e; rw [hsa] at e2; omega)); have hz1 : w.heap.size + 3 + 1 ≤ w1.heap.size := (by have := HB1.out.size; omega); have hzz1 : W6.heap.size ≤ w1.heap.size := HB1.out.size; obtain ⟨sm2, hs2⟩ := vsrc_of (HT2.out.stay HB1.out); have HS2 := Lib.hid hs2; obtain ⟨g0, g1, g2, g3, g4⟩ := (HM6.out.over HB1.out).box.cells; clear hrow1 hg1 hfr1 hs2 g0 g1 g2 g3))
              all_goals
                go_wp2_with fail
                go_roundw
                case rel => exact ⟨m + 2, _, _, _, by go_num, by omega, ST.out, SZ.out, HM6.out.put HKP.out (show w2.grownBy w2 (Value.slice (some ⟨go, 0, none⟩) us.length oc).ownBlock from ⟨rfl, rfl, rfl, Nat.le_refl _, fun _ _ _ => rfl⟩) (fun g e => by cases e) (show PRow w2 (w.heap.size + 3 + 1) _ (.slice va vn vc) (us.take j ++ us.drop (j + 2)) from HR2.out) (fun z hz => by
                  rcases hz with h | h
                  · rcases h with h | h
                    · exact h.elim
                    · exact (HHF.out z h).2
                  · exact (HHF.out z h).2) HAA.out⟩
                case measure => simp [intOf]; omega
            · have PE := PA.out
              rw [if_neg hx0] at PE
              rw [PE] at ST SZ
              have OQ := OL.out H5.out
              have t6 : (x.k == 0) = false := by simpa using hx0
              have CL := Lib.hid (fun (W : World) (hW : Below W6.heap.size W6 W) => IHX.out old (.slice qa old.kids.length qc) (.slice xa x.kids.length xc) W OQ HOW.out (by omega) (HOQ.out.rep.keep hW) (HXR6.out.keep (hW.mono (by omega))))
              clear hx0 PE PA IHX OL hO hD hS HXK OQ hol
              generalize mrg old x = y at *
              unfold V.agg at CL
              obtain ⟨W9, hW9⟩ : ∃ W9 : World, W9 = W6.drew := ⟨_, rfl⟩
              have hz9 : W6.heap.size = W9.heap.size := by rw [hW9]; rfl
              have HB9 := Lib.hid (show Below W6.heap.size W6 W9 from by rw [hW9]; exact (Below.refl _ _).drew)
              have HW9 := Lib.hid hW9
              subst hW9
              go_wp2_with fail
              go_region_law (go_simp; go_at_call 42; refine (CL.out _ HB9.out).mono ?_; rintro e7 wz ⟨ys, rfl, ywf, yrep, hb7⟩; obtain ⟨ya, yn, yc, rfl⟩ : ∃ sa sn sc, ys = .slice sa sn sc := (by obtain ⟨p, q, e⟩ := yrep.slice; exact ⟨p, _, q, e⟩); unfold V.agg; have HYW := Lib.hid ywf; have HBZ := Lib.hid (HB9.out.trans (hb7.mono (Nat.le_of_eq hz9))); have HYZ := Lib.hid (yrep.mono (G' := (fun z => W6.heap.size ≤ z ∧ z < wz.heap.size)) (fun z hz hzs => ⟨hz, hzs⟩)); clear ywf yrep hb7; have HMZ := Lib.hid (HM6.out.over HBZ.out); obtain ⟨g0, g1, g2, g3, g4⟩ := HMZ.out.box.cells; have gf4 := HMZ.out.box.free (i := 4); have hzz : W6.heap.size ≤ wz.heap.size := HBZ.out.size; have hm4 : w.heap.size + 3 ≠ wz.heap.size := (by omega); have hm5 : wz.heap.size ≠ w.heap.size + 3 := (by omega); have hm6 : w.heap.size + 3 < wz.heap.size := (by omega); obtain ⟨-, -, -, cur7, hcur7, -, -⟩ := HMZ.out.rows.open; have fz : ∀ q, wz.frozen? ⟨go, q, none⟩ = false := (fun q => frozen_of_row wz go q _ _ hcur7); have fz0 := fz ((j + 1) * 5); have fz1 := fz ((j + 1) * 5 + 1); have fz2 := fz ((j + 1) * 5 + 2); have fz3 := fz ((j + 1) * 5 + 3); have fz4 := fz ((j + 1) * 5 + 4); clear fz hcur7; obtain ⟨ea7, ec7, ⟨e0, e1, e2, e3, e4⟩, -, -⟩ := HMZ.out.rows.elem (j + 1) HJ.out)
              all_goals
                go_wp2_with fail
                go_roundw
                case rel => exact ⟨m + 2, _, _, _, by go_num, by omega, ST.out, SZ.out, HM6.out.sto HBZ.out HJ.out HYW.out HYZ.out (fun z hz => ⟨hz.2, (by have := hz.1; omega), (show w.heap.size + 3 < z from Nat.lt_of_lt_of_le (by omega) hz.1)⟩) HAA.out⟩
                case measure => simp [intOf]; omega
end Go.Proofs.YtppmoajoffeleaaDoor
namespace Go.Proofs.YtppmoajoffeleaaDoor
set_option linter.unusedSimpArgs false
set_option linter.unusedVariables false
set_option maxRecDepth 100000
open Go.RowKit
theorem str_ne {s : ByteArray} (h : ¬ s.size = 0) : (s.toList = [] ↔ False) ∧ s.toList.isEmpty = false ∧ (s.toList == []) = false := by
  have h1 : s.toList ≠ [] := fun e => h (by have := congrArg List.length e; rw [ByteArray.toList_eq] at this; simpa using this)
  refine ⟨⟨h1, False.elim⟩, ?_, ?_⟩
  · rcases h2 : s.toList with _ | ⟨x, l⟩
    · exact absurd h2 h1
    · rfl
  · rcases h2 : s.toList with _ | ⟨x, l⟩
    · exact absurd h2 h1
    · rfl
def NodeRet (b : Bool) (w : World) (e : Ending) (w' : World) : Prop := e = .returned (.bool b) ∧ Below w.heap.size w w'

set_option maxHeartbeats 1000000 in
theorem node_a (k n e : Int) (s : ByteArray) (sl : Value) (w : World) (hk : k = 0 ∨ k = 1 ∨ k = 2 ∨ k = 7 ∨ k = 8) : Calls Tryd.prog 74 #[.agg #[.int .i64 k, .int .i64 n, .int .i64 e, .string s, sl]] w (NodeRet (decide (n = 0 ∧ e = 0 ∧ s.size = 0)) w) := by
  by_cases hn : n = 0
  case neg =>
    have t1 : (n == 0) = false := by simpa using hn
    rw [decide_eq_false (fun h => hn h.1)]
    clear hn
    rcases hk with rfl | rfl | rfl | rfl | rfl
    all_goals
      go_enter Tryd.func74, Tryd.ntmps74
      go_wp2_with fail
      go_ret
      exact ⟨rfl, (by (repeat' (first | with_reducible exact Below.refl _ _ | with_reducible refine below_alloc ?_ _ ?_ | with_reducible refine Below.setCell ?_ ?_ _ | with_reducible refine Below.drew ?_ | with_reducible refine below_drewN ?_ _ | with_reducible refine below_step ?_ (by assumption) ?_ | with_reducible refine below_mark ?_ (by assumption) ?_)); all_goals (first | omega | (simp; done) | (simp; omega)))⟩
  by_cases he : e = 0
  case neg =>
    have t2 : (e == 0) = false := by simpa using he
    rw [decide_eq_false (fun h => he h.2.1)]
    clear he
    subst hn
    rcases hk with rfl | rfl | rfl | rfl | rfl
    all_goals
      go_enter Tryd.func74, Tryd.ntmps74
      go_wp2_with fail
      go_ret
      exact ⟨rfl, (by (repeat' (first | with_reducible exact Below.refl _ _ | with_reducible refine below_alloc ?_ _ ?_ | with_reducible refine Below.setCell ?_ ?_ _ | with_reducible refine Below.drew ?_ | with_reducible refine below_drewN ?_ _ | with_reducible refine below_step ?_ (by assumption) ?_ | with_reducible refine below_mark ?_ (by assumption) ?_)); all_goals (first | omega | (simp; done) | (simp; omega)))⟩
  by_cases hs : s.size = 0
  case neg =>
    obtain ⟨s1, s2, s3⟩ := str_ne hs
    rw [decide_eq_false (fun h => hs h.2.2)]
    clear hs
    subst hn
    subst he
    rcases hk with rfl | rfl | rfl | rfl | rfl
    all_goals
      go_enter Tryd.func74, Tryd.ntmps74
      go_wp2_with fail
      go_ret
      exact ⟨rfl, (by (repeat' (first | with_reducible exact Below.refl _ _ | with_reducible refine below_alloc ?_ _ ?_ | with_reducible refine Below.setCell ?_ ?_ _ | with_reducible refine Below.drew ?_ | with_reducible refine below_drewN ?_ _ | with_reducible refine below_step ?_ (by assumption) ?_ | with_reducible refine below_mark ?_ (by assumption) ?_)); all_goals (first | omega | (simp; done) | (simp; omega)))⟩
  obtain rfl := ba_empty hs
  subst hn
  subst he
  rw [decide_eq_true ⟨rfl, rfl, rfl⟩]
  rcases hk with rfl | rfl | rfl | rfl | rfl
  all_goals
    go_enter Tryd.func74, Tryd.ntmps74
    go_wp2_with fail
    go_ret
    exact ⟨rfl, (by (repeat' (first | with_reducible exact Below.refl _ _ | with_reducible refine below_alloc ?_ _ ?_ | with_reducible refine Below.setCell ?_ ?_ _ | with_reducible refine Below.drew ?_ | with_reducible refine below_drewN ?_ _ | with_reducible refine below_step ?_ (by assumption) ?_ | with_reducible refine below_mark ?_ (by assumption) ?_)); all_goals (first | omega | (simp; done) | (simp; omega)))⟩

set_option maxHeartbeats 1000000 in
theorem node_b (k n e : Int) (s : ByteArray) (sl : Value) (w : World) (hk : k = 3) : Calls Tryd.prog 74 #[.agg #[.int .i64 k, .int .i64 n, .int .i64 e, .string s, sl]] w (NodeRet (decide (e = 0 ∧ s.size = 0)) w) := by
  by_cases he : e = 0
  case neg =>
    have t2 : (e == 0) = false := by simpa using he
    rw [decide_eq_false (fun h => he h.1)]
    clear he
    rcases hk with rfl
    all_goals
      go_enter Tryd.func74, Tryd.ntmps74
      go_wp2_with fail
      go_ret
      exact ⟨rfl, (by (repeat' (first | with_reducible exact Below.refl _ _ | with_reducible refine below_alloc ?_ _ ?_ | with_reducible refine Below.setCell ?_ ?_ _ | with_reducible refine Below.drew ?_ | with_reducible refine below_drewN ?_ _ | with_reducible refine below_step ?_ (by assumption) ?_ | with_reducible refine below_mark ?_ (by assumption) ?_)); all_goals (first | omega | (simp; done) | (simp; omega)))⟩
  by_cases hs : s.size = 0
  case neg =>
    obtain ⟨s1, s2, s3⟩ := str_ne hs
    rw [decide_eq_false (fun h => hs h.2)]
    clear hs
    subst he
    rcases hk with rfl
    all_goals
      go_enter Tryd.func74, Tryd.ntmps74
      go_wp2_with fail
      go_ret
      exact ⟨rfl, (by (repeat' (first | with_reducible exact Below.refl _ _ | with_reducible refine below_alloc ?_ _ ?_ | with_reducible refine Below.setCell ?_ ?_ _ | with_reducible refine Below.drew ?_ | with_reducible refine below_drewN ?_ _ | with_reducible refine below_step ?_ (by assumption) ?_ | with_reducible refine below_mark ?_ (by assumption) ?_)); all_goals (first | omega | (simp; done) | (simp; omega)))⟩
  obtain rfl := ba_empty hs
  subst he
  rw [decide_eq_true ⟨rfl, rfl⟩]
  rcases hk with rfl
  all_goals
    go_enter Tryd.func74, Tryd.ntmps74
    go_wp2_with fail
    go_ret
    exact ⟨rfl, (by (repeat' (first | with_reducible exact Below.refl _ _ | with_reducible refine below_alloc ?_ _ ?_ | with_reducible refine Below.setCell ?_ ?_ _ | with_reducible refine Below.drew ?_ | with_reducible refine below_drewN ?_ _ | with_reducible refine below_step ?_ (by assumption) ?_ | with_reducible refine below_mark ?_ (by assumption) ?_)); all_goals (first | omega | (simp; done) | (simp; omega)))⟩

set_option maxHeartbeats 1000000 in
theorem node_c (n e : Int) (s : ByteArray) (sl : Value) (w : World) (hn : In64 n) (he : In64 e) : Calls Tryd.prog 74 #[.agg #[.int .i64 4, .int .i64 n, .int .i64 e, .string s, sl]] w (NodeRet (decOk n e && decide (s.size = 0)) w) := by
  have DC := Lib.hid (fun W => isDec_any 4 n e s sl hn he W)
  have B0 := Lib.hid (Box.new w 4 n e s sl 26)
  cases hd : decOk n e
  case false =>
    rw [hd] at DC
    rw [Bool.false_and]
    clear hd
    go_enter Tryd.func74, Tryd.ntmps74
    go_wp2_with fail
    refine (DC.out _).mono ?_
    rintro x w1 ⟨rfl, hb1⟩
    go_wp2_with fail
    go_ret
    exact ⟨rfl, (by (repeat' (first | with_reducible exact Below.refl _ _ | with_reducible refine below_alloc ?_ _ ?_ | with_reducible refine Below.setCell ?_ ?_ _ | with_reducible refine Below.drew ?_ | with_reducible refine below_drewN ?_ _ | with_reducible refine below_step ?_ (by assumption) ?_ | with_reducible refine below_mark ?_ (by assumption) ?_)); all_goals (first | omega | (simp; done) | (simp; omega)))⟩
  case true =>
    rw [hd] at DC
    rw [Bool.true_and]
    clear hd
    have P0 := Lib.hid (Box.new (w.alloc (.cells #[.int .i64 4, .int .i64 n, .int .i64 e, .string s, sl] 26)) 4 0 0 ⟨#[]⟩ (.slice none 0 0) 26)
    rw [show (w.alloc (.cells #[.int .i64 4, .int .i64 n, .int .i64 e, .string s, sl] 26)).heap.size = w.heap.size + 1 by simp] at P0
    have hss : ∃ b : Bool, b = decide (s.size = 0) := ⟨_, rfl⟩
    obtain ⟨b, hb⟩ := hss
    rw [← hb]
    have HB := Lib.hid hb; clear hb
    have t1 : (n == n) = true := by simp
    have t2 : (e == e) = true := by simp
    by_cases hs : s.size = 0
    case neg =>
      have H := Lib.hid (show b = false by rw [HB.out, decide_eq_false hs])
      obtain ⟨s1, s2, s3⟩ := str_ne hs
      clear hs
      go_enter Tryd.func74, Tryd.ntmps74
      go_wp2_with fail
      refine (DC.out _).mono ?_
      rintro x w1 ⟨rfl, hb1⟩
      have hz1 := hb1.size
      simp at hz1
      obtain ⟨p0, p1, p2, p3, p4⟩ := ((B0.out.alloc _).stay hb1).cells
      have PX := Lib.hid (P0.out.stay hb1)
      obtain ⟨q0, q1, q2, q3, q4⟩ := PX.out.cells
      have f0 : ∀ o, w1.frozen? ⟨w.heap.size + 1, o, none⟩ = false := fun o => frozen_of_row w1 _ o _ _ PX.out
      go_wp2_with fail
      go_region
      all_goals go_wp2_with fail
      all_goals go_ret
      all_goals exact ⟨by rw [H.out]; rfl, (by (repeat' (first | with_reducible exact Below.refl _ _ | with_reducible refine below_alloc ?_ _ ?_ | with_reducible refine Below.setCell ?_ ?_ _ | with_reducible refine Below.drew ?_ | with_reducible refine below_drewN ?_ _ | with_reducible refine below_step ?_ (by assumption) ?_ | with_reducible refine below_mark ?_ (by assumption) ?_)); all_goals (first | omega | (simp; done) | (simp; omega)))⟩
    case pos =>
      have H := Lib.hid (show b = true by rw [HB.out, decide_eq_true hs])
      obtain rfl := ba_empty hs
      clear hs
      go_enter Tryd.func74, Tryd.ntmps74
      go_wp2_with fail
      refine (DC.out _).mono ?_
      rintro x w1 ⟨rfl, hb1⟩
      have hz1 := hb1.size
      simp at hz1
      obtain ⟨p0, p1, p2, p3, p4⟩ := ((B0.out.alloc _).stay hb1).cells
      have PX := Lib.hid (P0.out.stay hb1)
      obtain ⟨q0, q1, q2, q3, q4⟩ := PX.out.cells
      have f0 : ∀ o, w1.frozen? ⟨w.heap.size + 1, o, none⟩ = false := fun o => frozen_of_row w1 _ o _ _ PX.out
      go_wp2_with fail
      go_region
      all_goals go_wp2_with fail
      all_goals go_ret
      all_goals exact ⟨by rw [H.out]; rfl, (by (repeat' (first | with_reducible exact Below.refl _ _ | with_reducible refine below_alloc ?_ _ ?_ | with_reducible refine Below.setCell ?_ ?_ _ | with_reducible refine Below.drew ?_ | with_reducible refine below_drewN ?_ _ | with_reducible refine below_step ?_ (by assumption) ?_ | with_reducible refine below_mark ?_ (by assumption) ?_)); all_goals (first | omega | (simp; done) | (simp; omega)))⟩

set_option maxHeartbeats 2000000 in
theorem node_d (n e : Int) (s : ByteArray) (sl : Value) (w : World) (hsz : s.size ≤ 9223372036854775807) (hE : Env w) : Calls Tryd.prog 74 #[.agg #[.int .i64 5, .int .i64 n, .int .i64 e, .string s, sl]] w (NodeRet (decide (n = 0 ∧ e = 0 ∧ s.size ≤ 2000) && txt s) w) := by
  have TX := Lib.hid (fun W (hW : Below w.heap.size w W) => textOk_impl s W hsz (hE.keep hW))
  clear hE
  have B0 := Lib.hid (Box.new w 5 n e s sl 26)
  have P0 := Lib.hid (Box.new (w.alloc (.cells #[.int .i64 5, .int .i64 n, .int .i64 e, .string s, sl] 26)) 5 0 0 ⟨#[]⟩ (.slice none 0 0) 26)
  rw [show (w.alloc (.cells #[.int .i64 5, .int .i64 n, .int .i64 e, .string s, sl] 26)).heap.size = w.heap.size + 1 by simp] at P0
  have ts := ba_yes (rfl : s = s)
  obtain ⟨b, hb⟩ : ∃ b : Bool, b = (decide (n = 0 ∧ e = 0 ∧ s.size ≤ 2000) && txt s) := ⟨_, rfl⟩
  rw [← hb]
  have HB := Lib.hid hb; clear hb
  by_cases h1 : s.size ≤ 2000
  case neg =>
    have H := Lib.hid (show b = false by rw [HB.out, decide_eq_false (fun h => h1 h.2.2)]; rfl)
    have h2 : (2000 : Int) < s.size := by omega
    clear h1 HB TX
    go_enter Tryd.func74, Tryd.ntmps74
    go_wp2_with fail
    go_ret
    exact ⟨by rw [H.out]; rfl, (by (repeat' (first | with_reducible exact Below.refl _ _ | with_reducible refine below_alloc ?_ _ ?_ | with_reducible refine Below.setCell ?_ ?_ _ | with_reducible refine Below.drew ?_ | with_reducible refine below_drewN ?_ _ | with_reducible refine below_step ?_ (by assumption) ?_ | with_reducible refine below_mark ?_ (by assumption) ?_)); all_goals (first | omega | (simp; done) | (simp; omega)))⟩
  have h2 : ¬ (2000 : Int) < s.size := by omega
  cases ht : txt s
  case false =>
    rw [ht] at TX HB
    have H := Lib.hid (show b = false by rw [HB.out]; simp)
    clear h1 HB ht
    go_enter Tryd.func74, Tryd.ntmps74
    go_wp2_with fail
    refine (TX.out _ (by (repeat' (first | with_reducible exact Below.refl _ _ | with_reducible refine below_alloc ?_ _ ?_ | with_reducible refine Below.setCell ?_ ?_ _ | with_reducible refine Below.drew ?_ | with_reducible refine below_drewN ?_ _ | with_reducible refine below_step ?_ (by assumption) ?_ | with_reducible refine below_mark ?_ (by assumption) ?_)); all_goals (first | omega | (simp; done) | (simp; omega)))).mono ?_
    rintro x0 w1 ⟨rfl, hb1⟩
    have hz1 := hb1.size
    simp at hz1
    obtain ⟨p0, p1, p2, p3, p4⟩ := ((B0.out.alloc _).stay hb1).cells
    have PX := Lib.hid (P0.out.stay hb1)
    obtain ⟨q0, q1, q2, q3, q4⟩ := PX.out.cells
    have f0 : ∀ o, w1.frozen? ⟨w.heap.size + 1, o, none⟩ = false := fun o => frozen_of_row w1 _ o _ _ PX.out
    go_wp2_with fail
    go_ret
    exact ⟨by rw [H.out]; rfl, (by (repeat' (first | with_reducible exact Below.refl _ _ | with_reducible refine below_alloc ?_ _ ?_ | with_reducible refine Below.setCell ?_ ?_ _ | with_reducible refine Below.drew ?_ | with_reducible refine below_drewN ?_ _ | with_reducible refine below_step ?_ (by assumption) ?_ | with_reducible refine below_mark ?_ (by assumption) ?_)); all_goals (first | omega | (simp; done) | (simp; omega)))⟩
  case true =>
    rw [ht] at TX HB
    clear ht
    by_cases hn : n = 0
    case neg =>
      have H := Lib.hid (show b = false by rw [HB.out]; simp [hn])
      have t1 : (n == 0) = false := by simpa using hn
      clear h1 HB hn
      go_enter Tryd.func74, Tryd.ntmps74
      go_wp2_with fail
      refine (TX.out _ (by (repeat' (first | with_reducible exact Below.refl _ _ | with_reducible refine below_alloc ?_ _ ?_ | with_reducible refine Below.setCell ?_ ?_ _ | with_reducible refine Below.drew ?_ | with_reducible refine below_drewN ?_ _ | with_reducible refine below_step ?_ (by assumption) ?_ | with_reducible refine below_mark ?_ (by assumption) ?_)); all_goals (first | omega | (simp; done) | (simp; omega)))).mono ?_
      rintro x0 w1 ⟨rfl, hb1⟩
      have hz1 := hb1.size
      simp at hz1
      obtain ⟨p0, p1, p2, p3, p4⟩ := ((B0.out.alloc _).stay hb1).cells
      have PX := Lib.hid (P0.out.stay hb1)
      obtain ⟨q0, q1, q2, q3, q4⟩ := PX.out.cells
      have f0 : ∀ o, w1.frozen? ⟨w.heap.size + 1, o, none⟩ = false := fun o => frozen_of_row w1 _ o _ _ PX.out
      go_wp2_with fail
      go_ret
      exact ⟨by rw [H.out]; rfl, (by (repeat' (first | with_reducible exact Below.refl _ _ | with_reducible refine below_alloc ?_ _ ?_ | with_reducible refine Below.setCell ?_ ?_ _ | with_reducible refine Below.drew ?_ | with_reducible refine below_drewN ?_ _ | with_reducible refine below_step ?_ (by assumption) ?_ | with_reducible refine below_mark ?_ (by assumption) ?_)); all_goals (first | omega | (simp; done) | (simp; omega)))⟩
    by_cases he : e = 0
    case neg =>
      have H := Lib.hid (show b = false by rw [HB.out]; simp [he])
      have t2 : (e == 0) = false := by simpa using he
      subst hn
      clear h1 HB he
      go_enter Tryd.func74, Tryd.ntmps74
      go_wp2_with fail
      refine (TX.out _ (by (repeat' (first | with_reducible exact Below.refl _ _ | with_reducible refine below_alloc ?_ _ ?_ | with_reducible refine Below.setCell ?_ ?_ _ | with_reducible refine Below.drew ?_ | with_reducible refine below_drewN ?_ _ | with_reducible refine below_step ?_ (by assumption) ?_ | with_reducible refine below_mark ?_ (by assumption) ?_)); all_goals (first | omega | (simp; done) | (simp; omega)))).mono ?_
      rintro x0 w1 ⟨rfl, hb1⟩
      have hz1 := hb1.size
      simp at hz1
      obtain ⟨p0, p1, p2, p3, p4⟩ := ((B0.out.alloc _).stay hb1).cells
      have PX := Lib.hid (P0.out.stay hb1)
      obtain ⟨q0, q1, q2, q3, q4⟩ := PX.out.cells
      have f0 : ∀ o, w1.frozen? ⟨w.heap.size + 1, o, none⟩ = false := fun o => frozen_of_row w1 _ o _ _ PX.out
      go_wp2_with fail
      go_ret
      exact ⟨by rw [H.out]; rfl, (by (repeat' (first | with_reducible exact Below.refl _ _ | with_reducible refine below_alloc ?_ _ ?_ | with_reducible refine Below.setCell ?_ ?_ _ | with_reducible refine Below.drew ?_ | with_reducible refine below_drewN ?_ _ | with_reducible refine below_step ?_ (by assumption) ?_ | with_reducible refine below_mark ?_ (by assumption) ?_)); all_goals (first | omega | (simp; done) | (simp; omega)))⟩
    have H := Lib.hid (show b = true by rw [HB.out]; simp [hn, he, h1])
    subst hn
    subst he
    clear h1 HB
    go_enter Tryd.func74, Tryd.ntmps74
    go_wp2_with fail
    refine (TX.out _ (by (repeat' (first | with_reducible exact Below.refl _ _ | with_reducible refine below_alloc ?_ _ ?_ | with_reducible refine Below.setCell ?_ ?_ _ | with_reducible refine Below.drew ?_ | with_reducible refine below_drewN ?_ _ | with_reducible refine below_step ?_ (by assumption) ?_ | with_reducible refine below_mark ?_ (by assumption) ?_)); all_goals (first | omega | (simp; done) | (simp; omega)))).mono ?_
    rintro x0 w1 ⟨rfl, hb1⟩
    have hz1 := hb1.size
    simp at hz1
    obtain ⟨p0, p1, p2, p3, p4⟩ := ((B0.out.alloc _).stay hb1).cells
    have PX := Lib.hid (P0.out.stay hb1)
    obtain ⟨q0, q1, q2, q3, q4⟩ := PX.out.cells
    have f0 : ∀ o, w1.frozen? ⟨w.heap.size + 1, o, none⟩ = false := fun o => frozen_of_row w1 _ o _ _ PX.out
    go_wp2_with fail
    go_ret
    exact ⟨by rw [H.out]; rfl, (by (repeat' (first | with_reducible exact Below.refl _ _ | with_reducible refine below_alloc ?_ _ ?_ | with_reducible refine Below.setCell ?_ ?_ _ | with_reducible refine Below.drew ?_ | with_reducible refine below_drewN ?_ _ | with_reducible refine below_step ?_ (by assumption) ?_ | with_reducible refine below_mark ?_ (by assumption) ?_)); all_goals (first | omega | (simp; done) | (simp; omega)))⟩

set_option maxHeartbeats 2000000 in
theorem node_e (n e : Int) (s : ByteArray) (sl : Value) (w : World) (hsz : s.size ≤ 9223372036854775807) : Calls Tryd.prog 74 #[.agg #[.int .i64 6, .int .i64 n, .int .i64 e, .string s, sl]] w (NodeRet (decide (n = 0 ∧ e = 0 ∧ s.size ≤ 2000)) w) := by
  have B0 := Lib.hid (Box.new w 6 n e s sl 26)
  have P0 := Lib.hid (Box.new (w.alloc (.cells #[.int .i64 6, .int .i64 n, .int .i64 e, .string s, sl] 26)) 6 0 0 ⟨#[]⟩ (.slice none 0 0) 26)
  rw [show (w.alloc (.cells #[.int .i64 6, .int .i64 n, .int .i64 e, .string s, sl] 26)).heap.size = w.heap.size + 1 by simp] at P0
  have ts := ba_yes (rfl : s = s)
  obtain ⟨b, hb⟩ : ∃ b : Bool, b = decide (n = 0 ∧ e = 0 ∧ s.size ≤ 2000) := ⟨_, rfl⟩
  rw [← hb]
  have HB := Lib.hid hb; clear hb
  by_cases h1 : s.size ≤ 2000
  case neg =>
    have H := Lib.hid (show b = false by rw [HB.out, decide_eq_false (fun h => h1 h.2.2)])
    have h2 : (2000 : Int) < s.size := by omega
    clear h1 HB
    go_enter Tryd.func74, Tryd.ntmps74
    go_wp2_with fail
    go_ret
    exact ⟨by rw [H.out]; rfl, (by (repeat' (first | with_reducible exact Below.refl _ _ | with_reducible refine below_alloc ?_ _ ?_ | with_reducible refine Below.setCell ?_ ?_ _ | with_reducible refine Below.drew ?_ | with_reducible refine below_drewN ?_ _ | with_reducible refine below_step ?_ (by assumption) ?_ | with_reducible refine below_mark ?_ (by assumption) ?_)); all_goals (first | omega | (simp; done) | (simp; omega)))⟩
  have h2 : ¬ (2000 : Int) < s.size := by omega
  by_cases hn : n = 0
  case neg =>
    have H := Lib.hid (show b = false by rw [HB.out]; simp [hn])
    have t1 : (n == 0) = false := by simpa using hn
    clear h1 HB hn
    go_enter Tryd.func74, Tryd.ntmps74
    go_wp2_with fail
    go_ret
    exact ⟨by rw [H.out]; rfl, (by (repeat' (first | with_reducible exact Below.refl _ _ | with_reducible refine below_alloc ?_ _ ?_ | with_reducible refine Below.setCell ?_ ?_ _ | with_reducible refine Below.drew ?_ | with_reducible refine below_drewN ?_ _ | with_reducible refine below_step ?_ (by assumption) ?_ | with_reducible refine below_mark ?_ (by assumption) ?_)); all_goals (first | omega | (simp; done) | (simp; omega)))⟩
  by_cases he : e = 0
  case neg =>
    have H := Lib.hid (show b = false by rw [HB.out]; simp [he])
    have t2 : (e == 0) = false := by simpa using he
    subst hn
    clear h1 HB he
    go_enter Tryd.func74, Tryd.ntmps74
    go_wp2_with fail
    go_ret
    exact ⟨by rw [H.out]; rfl, (by (repeat' (first | with_reducible exact Below.refl _ _ | with_reducible refine below_alloc ?_ _ ?_ | with_reducible refine Below.setCell ?_ ?_ _ | with_reducible refine Below.drew ?_ | with_reducible refine below_drewN ?_ _ | with_reducible refine below_step ?_ (by assumption) ?_ | with_reducible refine below_mark ?_ (by assumption) ?_)); all_goals (first | omega | (simp; done) | (simp; omega)))⟩
  have H := Lib.hid (show b = true by rw [HB.out]; simp [hn, he, h1])
  subst hn
  subst he
  clear h1 HB
  go_enter Tryd.func74, Tryd.ntmps74
  go_wp2_with fail
  go_ret
  exact ⟨by rw [H.out]; rfl, (by (repeat' (first | with_reducible exact Below.refl _ _ | with_reducible refine below_alloc ?_ _ ?_ | with_reducible refine Below.setCell ?_ ?_ _ | with_reducible refine Below.drew ?_ | with_reducible refine below_drewN ?_ _ | with_reducible refine below_step ?_ (by assumption) ?_ | with_reducible refine below_mark ?_ (by assumption) ?_)); all_goals (first | omega | (simp; done) | (simp; omega)))⟩

set_option maxHeartbeats 2000000 in
theorem node_f (n e : Int) (s : ByteArray) (sl : Value) (w : World) : Calls Tryd.prog 74 #[.agg #[.int .i64 9, .int .i64 n, .int .i64 e, .string s, sl]] w (NodeRet (decide (0 ≤ n ∧ n ≤ 1000000 ∧ e = 0 ∧ s.size = 0)) w) := by
  obtain ⟨b, hb⟩ : ∃ b : Bool, b = decide (0 ≤ n ∧ n ≤ 1000000 ∧ e = 0 ∧ s.size = 0) := ⟨_, rfl⟩
  rw [← hb]
  have HB := Lib.hid hb; clear hb
  have tn : (n == n) = true := by simp
  by_cases h1 : 0 ≤ n ∧ n ≤ 1000000
  case neg =>
    have H := Lib.hid (show b = false by rw [HB.out, decide_eq_false (fun h => h1 ⟨h.1, h.2.1⟩)])
    have W1 := Lib.hid (fun W => within_no n 0 1000000 W (by omega))
    clear h1 HB
    go_enter Tryd.func74, Tryd.ntmps74
    go_wp2_with fail
    refine (W1.out _).mono ?_
    rintro x0 w1 ⟨rfl, rfl⟩
    go_wp2_with fail
    go_ret
    exact ⟨by rw [H.out]; rfl, (by (repeat' (first | with_reducible exact Below.refl _ _ | with_reducible refine below_alloc ?_ _ ?_ | with_reducible refine Below.setCell ?_ ?_ _ | with_reducible refine Below.drew ?_ | with_reducible refine below_drewN ?_ _ | with_reducible refine below_step ?_ (by assumption) ?_ | with_reducible refine below_mark ?_ (by assumption) ?_)); all_goals (first | omega | (simp; done) | (simp; omega)))⟩
  have W1 := Lib.hid (fun W => within_yes n 0 1000000 W h1.1 h1.2)
  by_cases he : e = 0
  case neg =>
    have H := Lib.hid (show b = false by rw [HB.out, decide_eq_false (fun h => he h.2.2.1)])
    have t2 : (e == 0) = false := by simpa using he
    clear h1 HB he
    go_enter Tryd.func74, Tryd.ntmps74
    go_wp2_with fail
    refine (W1.out _).mono ?_
    rintro x0 w1 ⟨rfl, rfl⟩
    go_wp2_with fail
    go_ret
    exact ⟨by rw [H.out]; rfl, (by (repeat' (first | with_reducible exact Below.refl _ _ | with_reducible refine below_alloc ?_ _ ?_ | with_reducible refine Below.setCell ?_ ?_ _ | with_reducible refine Below.drew ?_ | with_reducible refine below_drewN ?_ _ | with_reducible refine below_step ?_ (by assumption) ?_ | with_reducible refine below_mark ?_ (by assumption) ?_)); all_goals (first | omega | (simp; done) | (simp; omega)))⟩
  by_cases hs : s.size = 0
  case neg =>
    have H := Lib.hid (show b = false by rw [HB.out, decide_eq_false (fun h => hs h.2.2.2)])
    obtain ⟨s1, s2, s3⟩ := str_ne hs
    subst he
    clear h1 HB hs
    go_enter Tryd.func74, Tryd.ntmps74
    go_wp2_with fail
    refine (W1.out _).mono ?_
    rintro x0 w1 ⟨rfl, rfl⟩
    go_wp2_with fail
    go_ret
    exact ⟨by rw [H.out]; rfl, (by (repeat' (first | with_reducible exact Below.refl _ _ | with_reducible refine below_alloc ?_ _ ?_ | with_reducible refine Below.setCell ?_ ?_ _ | with_reducible refine Below.drew ?_ | with_reducible refine below_drewN ?_ _ | with_reducible refine below_step ?_ (by assumption) ?_ | with_reducible refine below_mark ?_ (by assumption) ?_)); all_goals (first | omega | (simp; done) | (simp; omega)))⟩
  have H := Lib.hid (show b = true by rw [HB.out]; simp [h1, he, hs])
  obtain rfl := ba_empty hs
  subst he
  clear h1 HB hs
  go_enter Tryd.func74, Tryd.ntmps74
  go_wp2_with fail
  refine (W1.out _).mono ?_
  rintro x0 w1 ⟨rfl, rfl⟩
  go_wp2_with fail
  go_ret
  exact ⟨by rw [H.out]; rfl, (by (repeat' (first | with_reducible exact Below.refl _ _ | with_reducible refine below_alloc ?_ _ ?_ | with_reducible refine Below.setCell ?_ ?_ _ | with_reducible refine Below.drew ?_ | with_reducible refine below_drewN ?_ _ | with_reducible refine below_step ?_ (by assumption) ?_ | with_reducible refine below_mark ?_ (by assumption) ?_)); all_goals (first | omega | (simp; done) | (simp; omega)))⟩

set_option maxHeartbeats 2000000 in
theorem node_g (k n e : Int) (s : ByteArray) (sl : Value) (w : World) (hk : k < 0 ∨ 9 < k) : Calls Tryd.prog 74 #[.agg #[.int .i64 k, .int .i64 n, .int .i64 e, .string s, sl]] w (NodeRet false w) := by
  have t0 : (k == 0) = false := by simp; omega
  have t1 : (k == 1) = false := by simp; omega
  have t2 : (k == 2) = false := by simp; omega
  have t3 : (k == 3) = false := by simp; omega
  have t4 : (k == 4) = false := by simp; omega
  have t5 : (k == 5) = false := by simp; omega
  have t6 : (k == 6) = false := by simp; omega
  have t7 : (k == 7) = false := by simp; omega
  have t8 : (k == 8) = false := by simp; omega
  have t9 : (k == 9) = false := by simp; omega
  clear hk
  go_enter Tryd.func74, Tryd.ntmps74
  go_wp2_with fail
  go_ret
  exact ⟨rfl, (by (repeat' (first | with_reducible exact Below.refl _ _ | with_reducible refine below_alloc ?_ _ ?_ | with_reducible refine Below.setCell ?_ ?_ _ | with_reducible refine Below.drew ?_ | with_reducible refine below_drewN ?_ _ | with_reducible refine below_step ?_ (by assumption) ?_ | with_reducible refine below_mark ?_ (by assumption) ?_)); all_goals (first | omega | (simp; done) | (simp; omega)))⟩
theorem isNode_any (t : V) (sl : Value) (w : World) (hw : t.wf) (hE : Env w) : Calls Tryd.prog 74 #[t.agg sl] w (NodeRet (nodeB t) w) := by
  obtain ⟨wk, wn, we, ws⟩ := hw
  unfold nodeB V.agg
  by_cases h1 : t.k = 0 ∨ t.k = 1 ∨ t.k = 2 ∨ t.k = 7 ∨ t.k = 8
  · rw [if_pos h1]; exact node_a t.k t.n t.e t.s sl w h1
  rw [if_neg h1]
  by_cases h2 : t.k = 3
  · rw [if_pos h2]; exact node_b t.k t.n t.e t.s sl w h2
  rw [if_neg h2]
  by_cases h3 : t.k = 4
  · rw [if_pos h3, h3]; exact node_c t.n t.e t.s sl w wn we
  rw [if_neg h3]
  by_cases h4 : t.k = 5
  · rw [if_pos h4, h4]; exact node_d t.n t.e t.s sl w ws hE
  rw [if_neg h4]
  by_cases h5 : t.k = 6
  · rw [if_pos h5, h5]; exact node_e t.n t.e t.s sl w ws
  rw [if_neg h5]
  by_cases h6 : t.k = 9
  · rw [if_pos h6, h6]; exact node_f t.n t.e t.s sl w
  rw [if_neg h6]
  exact node_g t.k t.n t.e t.s sl w (by omega)

end Go.Proofs.YtppmoajoffeleaaDoor
namespace Go.Proofs.YtppmoajoffeleaaDoor
set_option linter.unusedSimpArgs false
set_option linter.unusedVariables false
set_option maxRecDepth 100000
open Go.RowKit
def PredRet (I J : World → Prop) (e : Ending) (w' : World) : Prop := (e = .returned (.bool false) ∧ I w') ∨ (e = .returned (.bool true) ∧ J w')
def IdxRet (I J : Nat → World → Prop) (n : Nat) (e : Ending) (w' : World) : Prop := (e = .returned (.int .i64 (-1)) ∧ I n w') ∨ ∃ i, i < n ∧ e = .returned (.int .i64 (i : Nat)) ∧ J i w'
def HasRet (I J : Nat → World → Prop) (n : Nat) (e : Ending) (w' : World) : Prop := (e = .returned (.bool false) ∧ I n w') ∨ ∃ i, i < n ∧ e = .returned (.bool true) ∧ J i w'
set_option maxHeartbeats 1000000 in
theorem index2_any (w0 : World) (F : FuncId) (c1 c2 : Value) (hF : ∀ (args : Array Value) (w : World), (callFunc F args).run Tryd.prog w = .ok (.enter F args) w) (v : Value) (ts : List V) (h : RepS w0 v ts) (I J : Nat → World → Prop)
    (hI0 : ∀ i w, I i w → Below w0.heap.size w0 w)
    (hY : ∀ i (hi : i < ts.length) (sl : Value) (w : World), RepS w0 sl ts[i].kids → ts[i].wf → I i w → Calls Tryd.prog F #[ts[i].agg sl, c1, c2] w (PredRet (I (i + 1)) (J i))) (w : World) (hw : I 0 w) :
    Calls Tryd.prog 100 #[v, .func (.func F) #[] #[c1, c2]] w (IdxRet I J ts.length) := by
  obtain ⟨a, b, off, cap, rfl, ha, hc, hm, sls, hel⟩ := h.opened
  have HA := Lib.hid ha; have HE := Lib.hid hel; have HY := Lib.hid hY; have HI := Lib.hid hI0; have HW := Lib.hid hw
  have hl63 : ts.length ≤ 9223372036854775807 := by omega
  have HP1 := Lib.hid (show ∀ w', I ts.length w' → IdxRet I J ts.length (.returned (.int .i64 (-1))) w' from fun w' h => .inl ⟨rfl, h⟩)
  have HP2 := Lib.hid (show ∀ i w', i < ts.length → J i w' → IdxRet I J ts.length (.returned (.int .i64 (i : Nat))) w' from fun i w' h1 h2 => .inr ⟨i, h1, rfl, h2⟩)
  clear ha hel hY hI0 hw hc hm h
  go_enter Tryd.func100, Tryd.ntmps100
  go_wp2_with fail
  go_loopw [8] (fun i wr => ∃ k : Nat, k ≤ ts.length ∧ i = .int .i64 k ∧ Hid (I k wr)) (fun i _ => ts.length - (intOf i).toNat)
  case atStart => exact ⟨0, by omega, rfl, HW⟩
  case round =>
    obtain ⟨k, hk, rfl, HK⟩ := hrel
    by_cases hlt : k < ts.length
    · have hne : ts ≠ [] := by intro e; rw [e] at hlt; simp at hlt
      obtain ⟨rfl, hbw⟩ := HA.out hne
      have HWR := Lib.hid (HI.out k wr HK.out)
      obtain ⟨c0, c1', c2', c3, c4⟩ := (HE.out k hlt).1.keep (HWR.out.block b hbw)
      have Y1 := Lib.hid (HY.out k hlt (sls k) wr (HE.out k hlt).2.2 (HE.out k hlt).2.1 HK.out)
      obtain ⟨a3, cap3, hs3⟩ := (HE.out k hlt).2.2.slice
      rw [hs3] at c4 Y1
      unfold V.agg at Y1
      clear hs3
      generalize ts[k].k = xk at *
      generalize ts[k].n = xn at *
      generalize ts[k].e = xe at *
      generalize ts[k].s = xs at *
      go_wp2_with fail
      refine Y1.out.mono ?_
      rintro e1 w1 hpost
      rcases hpost with ⟨rfl, hi1⟩ | ⟨rfl, hj1⟩
      · have HI1 := Lib.hid hi1; clear hi1
        go_wp2_with fail
        go_roundw
        case rel => exact ⟨k + 1, by omega, by go_num, HI1⟩
        case measure => simp [intOf]; omega
      · have HP := Lib.hid (HP2.out k w1 hlt hj1); clear hj1
        go_wp2_with fail
        go_ret
        exact HP.out
    · have hkl : k = ts.length := by omega
      subst hkl
      have HP := Lib.hid (HP1.out wr HK.out)
      go_wp2_with fail
      go_ret
      exact HP.out
set_option maxHeartbeats 400000 in
theorem has2_any (w0 : World) (F : FuncId) (c1 c2 : Value) (hF : ∀ (args : Array Value) (w : World), (callFunc F args).run Tryd.prog w = .ok (.enter F args) w) (v : Value) (ts : List V) (h : RepS w0 v ts) (I J : Nat → World → Prop)
    (hI0 : ∀ i w, I i w → Below w0.heap.size w0 w)
    (hY : ∀ i (hi : i < ts.length) (sl : Value) (w : World), RepS w0 sl ts[i].kids → ts[i].wf → I i w → Calls Tryd.prog F #[ts[i].agg sl, c1, c2] w (PredRet (I (i + 1)) (J i))) (w : World) (hw : I 0 w) :
    Calls Tryd.prog 76 #[v, .func (.func F) #[] #[c1, c2]] w (HasRet I J ts.length) := by
  have IX := Lib.hid (index2_any w0 F c1 c2 hF v ts h I J hI0 hY w hw)
  obtain ⟨a, b, off, cap, rfl, _⟩ := h.opened
  have HP1 := Lib.hid (show ∀ w', I ts.length w' → HasRet I J ts.length (.returned (.bool false)) w' from fun w' h => .inl ⟨rfl, h⟩)
  have HP2 := Lib.hid (show ∀ i w', i < ts.length → J i w' → HasRet I J ts.length (.returned (.bool true)) w' from fun i w' h1 h2 => .inr ⟨i, h1, rfl, h2⟩)
  clear hI0 hY hw h
  go_enter Tryd.func76, Tryd.ntmps76
  go_wp2_with fail
  refine IX.out.mono ?_
  rintro e1 w1 hpost
  rcases hpost with ⟨rfl, hi1⟩ | ⟨i, hi, rfl, hj1⟩
  · have HP := Lib.hid (HP1.out w1 hi1); clear hi1
    go_wp2_with fail
    go_ret
    exact HP.out
  · have HP := Lib.hid (HP2.out i w1 hi hj1); clear hj1
    have h0 : (0 : Int) ≤ (i : Int) := by omega
    go_wp2_with fail
    go_ret
    exact HP.out
end Go.Proofs.YtppmoajoffeleaaDoor
