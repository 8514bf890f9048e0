/- Lemmas for the statement of the last text of this claim: texts joined. -/
import Derived.Test.YtfjehhdahpbbgaaDoorSo01
import Derived.Test.YtfjehhdahpbbgaaDoorSo04
import Derived.Test.YtfjehhdahpbbgaaDoorSo06
import Derived.Test.YtfjehhdahpbbgaaDoorSo08
import Derived.WalkSpells
import Derived.Lib.Hide
import Derived.Deep.RegionWith
import Derived.Test.YtfjehhdahpbbgaaDoorShelfB
import Derived.Shelf.Strings.BuilderK
import Derived.Lib.OthersKept
namespace Go.Proofs.YtfjehhdahpbbgaaDoor
set_option linter.unusedSimpArgs false
set_option linter.unusedVariables false
set_option maxRecDepth 100000
open Go.RowKit
theorem upr_get : ∀ (l : List (V × V)) (q : Nat) (h : q < l.length), (upr l)[2 * q]? = some l[q].1 ∧ (upr l)[2 * q + 1]? = some l[q].2
  | p :: r, 0, _ => by simp [upr]
  | p :: r, q + 1, h => by
    have := upr_get r q (by simpa using h)
    rw [upr, show 2 * (q + 1) = 2 * q + 1 + 1 by omega]
    simpa using this
theorem upr_take2 : ∀ (l : List (V × V)) (q : Nat), (upr l).take (2 * q) = upr (l.take q)
  | [], q => by simp [upr]
  | p :: r, 0 => by simp [upr]
  | p :: r, q + 1 => by rw [upr, List.take_succ_cons, upr, ← upr_take2 r q, show 2 * (q + 1) = 2 * q + 1 + 1 by omega]; simp
theorem upr_drop2 : ∀ (l : List (V × V)) (q : Nat), (upr l).drop (2 * q) = upr (l.drop q)
  | [], q => by simp [upr]
  | p :: r, 0 => by simp [upr]
  | p :: r, q + 1 => by rw [upr, List.drop_succ_cons, ← upr_drop2 r q, show 2 * (q + 1) = 2 * q + 1 + 1 by omega]; simp
theorem upr_ins (out : List (V × V)) (x : V × V) (m : Nat) (h : m = 2 * dn out x out.length) : (upr out).take m ++ [x.1, x.2] ++ (upr out).drop m = upr (insP out x) := by
  subst h
  unfold insP
  rw [upr_take2, upr_drop2, upr_app, upr]
  simp
theorem prs_get (l : List V) (j : Nat) (h : 2 * j + 1 < l.length) (h2 : j < (prs l).length) : (prs l)[j] = (l[2 * j], l[2 * j + 1]) := by
  have := prs_at l j h
  rw [List.getD_eq_getElem?_getD, List.getElem?_eq_getElem h2, Option.getD_some] at this
  exact this
theorem fold_take (l : List (V × V)) (j : Nat) (h : j < l.length) : (l.take (j + 1)).foldl insP [] = insP ((l.take j).foldl insP []) l[j] := by
  rw [List.take_succ_eq_append_getElem h, List.foldl_append]; rfl
theorem fold_mem (l : List (V × V)) (y : V × V) : ∀ out : List (V × V), y ∈ l.foldl insP out → y ∈ out ∨ y ∈ l := by
  induction l with
  | nil => intro out h; exact .inl h
  | cons x l ih =>
    intro out h
    rw [List.foldl_cons] at h
    rcases ih _ h with h | h
    · rw [insP_mem] at h
      rcases h with rfl | h
      · exact .inr (List.mem_cons_self ..)
      · exact .inl h
    · exact .inr (List.mem_cons_of_mem _ h)
theorem vsrc_blk {w : World} {F : Nat → Prop} {T : TypeId} {b : Nat} (us : List V) (sms : List Value) (hl : sms.length = us.length) (hw : ∀ i (h : i < us.length), us[i].wf) (hk : ∀ i (h : i < us.length), RepF w F (sms.getD i undef) us[i].kids) (cs : Array Value) (hcs : cs = (flat us sms).toArray) (hh : w.heap[b]? = some (.cells cs T (0, 0))) (n m : Nat) (hn : n = us.length) :
    VSrc w F (.slice (some ⟨b, 0, none⟩) n m) us sms := by
  subst hcs hn
  refine ⟨Src.ofSlice _ Tryd.underlying27 _ _ _ _ (by rw [flat_length _ _ hl]) ?_ (flat_one us sms ?_), hl, hw, hk⟩
  · intro j u hu
    rw [addr_add _ _ rfl, Nat.zero_add]
    rw [cell_of_row _ _ _ _ _ (0, 0) hh]
    simpa using hu
  · intro s hs
    obtain ⟨i, hi, rfl⟩ := List.getElem_of_mem hs
    obtain ⟨a, cap, e⟩ := (hk i (by omega)).slice
    rw [List.getD_eq_getElem?_getD, List.getElem?_eq_getElem hi] at e
    exact ⟨a, _, cap, e⟩
structure SOut (B : Nat) (w : World) (v : Value) (us : List V) : Prop where
  ex : ∃ G, PRow w B G v us ∧ ∀ x, G x → B ≤ x
theorem SOut.stay {B : Nat} {w w' : World} {v : Value} {us : List V} (h : SOut B w v us) (hb : Below w.heap.size w w') : SOut B w' v us := by
  obtain ⟨G, h1, h2⟩ := h.ex
  exact ⟨G, h1.stay hb, h2⟩
theorem SOut.repF {B : Nat} {w : World} {v : Value} {us : List V} (h : SOut B w v us) : RepF w (fun x => B ≤ x) v us := by
  obtain ⟨G, h1, h2⟩ := h.ex
  exact h1.repF.mono (fun x hx _ => hx.elim (h2 x) (fun h => (h1.lt x h).1))
theorem SOut.some1 {B : Nat} {w : World} {v : Value} {us : List V} (h : SOut B w v us) (hne : us ≠ []) : ∃ g cap, v = .slice (some ⟨g, 0, none⟩) us.length cap ∧ us.length ≤ cap ∧ g < w.heap.size := by
  obtain ⟨G, h1, h2⟩ := h.ex
  obtain ⟨g, cap, rfl⟩ := h1.some1 hne
  obtain ⟨a2, b, off, cap2, e, ha, hc, hm, sls, hel⟩ := h1.repF.opened
  injection e with e1 e2 e3
  subst e3
  exact ⟨g, cap, rfl, hc, (h1.lt g rfl).2⟩
theorem SOut.elem {B : Nat} {w : World} {g n cap : Nat} {us : List V} (h : SOut B w (.slice (some ⟨g, 0, none⟩) n cap) us) (j : Nat) (hj : j < us.length) : ∃ a c, Cells5 w g (j * 5) us[j] (.slice a us[j].kids.length c) ∧ us[j].wf ∧ RepF w (fun x => B ≤ x) (.slice a us[j].kids.length c) us[j].kids := by
  obtain ⟨G, h1, h2⟩ := h.ex
  obtain ⟨a, c, e1, e2, e3⟩ := h1.elem j hj
  exact ⟨a, c, e1, e2, e3.mono (fun x hx _ => h2 x hx)⟩

theorem PRow.lower {w : World} {B B' : Nat} {G : Nat → Prop} {v : Value} {ts : List V} (h : PRow w B G v ts) (hB : B' ≤ B) : PRow w B' G v ts := by
  obtain ⟨sls, h⟩ := h
  refine ⟨sls, ⟨⟨h.row.1, ?_⟩, h.len, h.wfs, h.kids, h.own, h.inG⟩⟩
  rcases h.row.2 with h2 | ⟨g, cap, cur, rfl, hbg, r⟩
  · exact .inl h2
  · exact .inr ⟨g, cap, cur, rfl, by omega, r⟩
theorem RepF.dropG {w : World} {F : Nat → Prop} {oa : Option Addr} {n cap j : Nat} {ts : List V} (h : RepF w F (.slice oa n cap) ts) (hj : j ≤ ts.length) : RepF w F (.slice (if cap = j then oa else Option.map (fun x => x.add (j * 5)) oa) (n - j) (cap - j)) (ts.drop j) := by
  obtain ⟨a2, b, off2, cap2, e, ha, hc, hm, sls, hel⟩ := h.opened
  injection e with e1 e2 e3
  subst e1 e2 e3
  by_cases hlt : j < ts.length
  · obtain ⟨h1, -⟩ := ha (by intro e; rw [e] at hlt; simp at hlt)
    subst h1
    exact h.dropS hj (fun _ => by rw [if_neg (by omega)]; simp [addr_add])
  · have hjl : j = ts.length := by omega
    subst hjl
    rw [List.drop_length]
    have := RepF.mk (w := w) (G := F) (if cap = ts.length then oa else Option.map (fun x => x.add (ts.length * 5)) oa) b off2 (cap - ts.length) [] sls (fun h => absurd rfl h) (by simp) (by omega) (fun h => absurd rfl h) (by simp) (by simp) (by simp)
    simpa using this
theorem upr_at (l : List (V × V)) (q : Nat) (h : q < l.length) (h2 : 2 * q < (upr l).length) : (upr l)[2 * q] = l[q].1 := by
  have := (upr_get l q h).1
  rw [List.getElem?_eq_getElem h2] at this
  injection this
theorem SOut.key {B : Nat} {w : World} {g n cap : Nat} {l : List (V × V)} (h : SOut B w (.slice (some ⟨g, 0, none⟩) n cap) (upr l)) (q : Nat) (hq : q < l.length) : ∃ a c, Cells5 w g (2 * q * 5) l[q].1 (.slice a l[q].1.kids.length c) ∧ l[q].1.wf ∧ RepF w (fun x => B ≤ x) (.slice a l[q].1.kids.length c) l[q].1.kids := by
  have hl : 2 * q < (upr l).length := by rw [upr_len]; omega
  have := h.elem (2 * q) hl
  rw [upr_at l q hq hl] at this
  exact this
theorem dn_down {out : List (V × V)} {x : V × V} {q : Nat} (h : 0 < cmpK (out.getD q PZ).1 x.1) : dn out x (q + 1) = dn out x q := by rw [dn, if_pos h]
theorem dn_stop {out : List (V × V)} {x : V × V} {q : Nat} (h : ¬ (0 < q ∧ 0 < cmpK (out.getD (q - 1) PZ).1 x.1)) : dn out x q = q := by
  cases q with
  | zero => rfl
  | succ q => rw [dn, if_neg]; exact fun hc => h ⟨by omega, hc⟩
theorem prs_key {t : V} {d : Int} (h : rightB t d = true) (h8 : t.k = 8) (hz : t.sz ≤ 1048576) : ∀ p ∈ prs (srtVs t.kids), p.1.kids = [] ∧ p.1.e = 0 ∧ p.1.sz ≤ 1048576 := by
  intro p hp
  obtain ⟨i, hi, rfl⟩ := List.getElem_of_mem hp
  have hl := prs_len (srtVs t.kids) (by rw [srtVs_len]; exact (right_map h h8).1)
  rw [srtVs_len] at hl
  have h1 : 2 * i + 1 < (srtVs t.kids).length := by rw [srtVs_len]; omega
  rw [prs_get _ i h1 hi]
  obtain ⟨k1, k2, k3⟩ := srt_key h h8 (2 * i) (by omega) (by omega)
  have e : (srtVs t.kids)[2 * i] = t.kids[2 * i] := by rw [srtVs_get _ _ (by omega)]; exact k1
  show (srtVs t.kids)[2 * i].kids = [] ∧ (srtVs t.kids)[2 * i].e = 0 ∧ (srtVs t.kids)[2 * i].sz ≤ _
  rw [e]
  refine ⟨k2, k3, ?_⟩
  have h5 : 2 * i < t.kids.length := by omega
  have := szs_mem (List.getElem_mem h5)
  have := V.sz_eq t
  omega
theorem cmp_key {a b : V} (ha : a.kids = [] ∧ a.e = 0 ∧ a.sz ≤ 1048576) (hb : b.kids = [] ∧ b.e = 0 ∧ b.sz ≤ 1048576) : cmpV a b = cmpK a b := by
  rw [cmpV_key ha.1 hb.1, full_key (by rw [ha.2.1, hb.2.1])]

set_option maxHeartbeats 16000000 in
theorem sortS_all : ∀ (N : Nat) (t : V) (d : Int), t.nodes ≤ N → N ≤ 300 → rightB t d = true → t.wf → t.sz ≤ 1048576 → ∀ (F : Nat → Prop) (sl : Value) (w : World), RepF w F sl t.kids → Calls Tryd.prog 71 #[t.agg sl] w (SrdRet w (srtV t)) := by
  intro N
  induction N with
  | zero => intro t d h; rw [V.nodes_eq] at h; omega
  | succ N ih =>
  intro t d hN hN3 hr hwf htz F sl w h0
  have hB := h0.bound
  obtain ⟨a, b, off, cap, rfl, ha, hc, hm, sls, hel⟩ := hB.opened
  have hlen : t.kids.length ≤ 300 := by have := nodess_length t.kids; rw [V.nodes_eq] at hN; omega
  have HA := Lib.hid ha; have HE := Lib.hid hel
  have IH := Lib.hid (fun (j : Nat) (hj : j < t.kids.length) (s1 : Value) (W : World) (F1 : Nat → Prop) (hR : RepF W F1 s1 t.kids[j].kids) => ih t.kids[j] (d - 1) (by have h3 := nodes_mem (List.getElem_mem hj); rw [V.nodes_eq] at hN; omega) (by omega) (rightsB_at (right_kids hr) j hj) (hel j hj).2.1 (by have := szs_mem (List.getElem_mem hj); have := V.sz_eq t; omega) F1 s1 W hR)
  have BX := Lib.hid (((Box.new w t.k t.n t.e t.s (.slice a t.kids.length cap) 29).alloc (.cells #[.int .i64 0, .int .i64 0, .int .i64 0, .string ⟨#[]⟩, .slice none 0 0] 29)).alloc (.cells #[] 29))
  have BZ := Lib.hid ((Box.new (w.alloc (.cells #[.int .i64 t.k, .int .i64 t.n, .int .i64 t.e, .string t.s, .slice a t.kids.length cap] 29)) 0 0 0 ⟨#[]⟩ (.slice none 0 0) 29).alloc (.cells #[] 29))
  have hzb : ((w.alloc (.cells #[.int .i64 t.k, .int .i64 t.n, .int .i64 t.e, .string t.s, .slice a t.kids.length cap] 29)).alloc (.cells #[.int .i64 0, .int .i64 0, .int .i64 0, .string ⟨#[]⟩, .slice none 0 0] 29)).heap.size = w.heap.size + 2 := by simp
  have R0 := Lib.hid (show SOut (w.heap.size + 2) (((w.alloc (.cells #[.int .i64 t.k, .int .i64 t.n, .int .i64 t.e, .string t.s, .slice a t.kids.length cap] 29)).alloc (.cells #[.int .i64 0, .int .i64 0, .int .i64 0, .string ⟨#[]⟩, .slice none 0 0] 29)).alloc (.cells #[] 29)) (.slice (some ⟨w.heap.size + 2, 0, none⟩) 0 0) (srtVs (t.kids.take 0)) from by
    have h := PRow.made0 (w := ((w.alloc (.cells #[.int .i64 t.k, .int .i64 t.n, .int .i64 t.e, .string t.s, .slice a t.kids.length cap] 29)).alloc (.cells #[.int .i64 0, .int .i64 0, .int .i64 0, .string ⟨#[]⟩, .slice none 0 0] 29))) (base := w.heap.size + 2) (by omega)
    rw [hzb] at h
    rw [List.take_zero, srtVs]
    exact ⟨_, h, fun x h => h.elim⟩)
  obtain ⟨W0, hW0⟩ : ∃ W0, W0 = (((w.alloc (.cells #[.int .i64 t.k, .int .i64 t.n, .int .i64 t.e, .string t.s, .slice a t.kids.length cap] 29)).alloc (.cells #[.int .i64 0, .int .i64 0, .int .i64 0, .string ⟨#[]⟩, .slice none 0 0] 29)).alloc (.cells #[] 29)) := ⟨_, rfl⟩
  have hz0 : W0.heap.size = w.heap.size + 3 := by rw [hW0]; simp
  have HB0 := Lib.hid (show Below w.heap.size w W0 from by rw [hW0]; exact (by (with_reducible (repeat' (first | exact Below.refl _ _ | refine below_alloc ?_ _ ?_ | refine Below.setCell ?_ ?_ _ | refine Below.drew ?_ | refine below_drewN ?_ _ | refine below_step ?_ (by assumption) ?_ | refine below_mark ?_ (by assumption) ?_))); all_goals (first | omega | (simp; done) | (simp; omega))))
  rw [← hW0] at BX BZ R0
  rw [show (w.alloc (.cells #[.int .i64 t.k, .int .i64 t.n, .int .i64 t.e, .string t.s, .slice a t.kids.length cap] 29)).heap.size = w.heap.size + 1 by simp] at BZ
  have HR := Lib.hid hr; have HWF := Lib.hid (srtV_wf hwf)
  have HS1 := Lib.hid (fun (j : Nat) (hj : j < t.kids.length) => srtVs_take t.kids j hj)
  have HTZ := Lib.hid htz
  clear ha hel hB h0 ih hr hwf hN hc hm htz hzb
  obtain ⟨R, hRR⟩ : ∃ R, R = srtV t := ⟨_, rfl⟩
  have HRR := Lib.hid hRR
  rw [← hRR] at HWF ⊢
  unfold V.agg
  clear hRR
  go_enter Tryd.func71, Tryd.ntmps71
  go_wp2_with fail
  rw [← hW0]
  clear hW0
  go_loopw [3, 4] (fun o ii wr => ∃ (j : Nat) (oa : Option Addr) (on oc : Nat), o = .slice oa on oc ∧ ii = .int .i64 j ∧ j ≤ t.kids.length ∧ Hid (SOut (w.heap.size + 2) wr (.slice oa on oc) (srtVs (t.kids.take j))) ∧ Hid (Below (w.heap.size + 2) W0 wr)) (fun _ ii _ => t.kids.length + 1 - (intOf ii).toNat)
  case atStart => exact ⟨0, _, _, _, rfl, rfl, by omega, R0, Lib.hid (Below.refl _ _)⟩
  case round =>
    clear R0
    obtain ⟨j, oa, on, oc, rfl, rfl, hj, HO, HBL⟩ := hrel
    have hzr := HBL.out.size
    have HB := Lib.hid (HB0.out.trans (HBL.out.mono (by omega)))
    have HX := Lib.hid (show Box wr w.heap.size t.k t.n t.e t.s (.slice a t.kids.length cap) 29 from (HBL.out.block w.heap.size (by omega)).trans BX.out)
    obtain ⟨x0, x1, x2, x3, x4⟩ := HX.out.cells
    by_cases hlt : j < t.kids.length
    · have hne : t.kids ≠ [] := by intro e; rw [e] at hlt; simp at hlt
      obtain ⟨rfl, hbw, -, -⟩ := HA.out hne
      obtain ⟨c0, c1, c2, c3, c4⟩ := (HE.out j hlt).1.keep (HB.out.block b hbw)
      have HT := Lib.hid (HS1.out j hlt)
      have HK := Lib.hid ((HE.out j hlt).2.2.stay HB.out)
      obtain ⟨a3, cap3, hs3⟩ := (HE.out j hlt).2.2.slice
      rw [hs3] at c4 HK
      clear hs3
      have CL := Lib.hid (IH.out j hlt (.slice a3 t.kids[j].kids.length cap3) wr _ HK.out)
      have HLEN := Lib.hid (show (srtVs (t.kids.take j)).length ≤ 300 by rw [srtVs_len, List.length_take]; omega)
      clear IH HE HA HS1
      generalize srtV t.kids[j] = u at *
      generalize srtVs (t.kids.take j) = us at *
      unfold V.agg at CL
      generalize t.kids[j] = x at *
      go_wp2_with fail
      refine CL.out.mono ?_
      rintro e5 w5 ⟨s5, rfl, uwf, urep, hb5⟩
      obtain ⟨ua, un, uc, rfl⟩ : ∃ sa sn sc, s5 = .slice sa sn sc := (by obtain ⟨p, q, e⟩ := urep.slice; exact ⟨p, _, q, e⟩)
      unfold V.agg
      obtain ⟨G, hp, hG⟩ := HO.out.ex
      have HP5 := Lib.hid (hp.stay hb5)
      have HL5 := Lib.hid (show ∀ x, (Value.slice oa on oc).ownBlock = some x → w.heap.size + 2 ≤ x ∧ x < wr.heap.size from hp.lt)
      have HGG := Lib.hid hG
      have HUW := Lib.hid uwf
      have HU := Lib.hid (urep.mono (G' := fun z => wr.heap.size ≤ z ∧ z < w5.heap.size) (fun z hz hzs => ⟨hz, hzs⟩))
      have HB5 := Lib.hid hb5
      have hz5 := hb5.size
      clear uwf urep hb5 hp hG CL
      have B1 := Lib.hid (show Below w5.heap.size w5 (w5.alloc (.cells #[.int .i64 u.k, .int .i64 u.n, .int .i64 u.e, .string u.s, .slice ua un uc] 29)) from (by (with_reducible (repeat' (first | exact Below.refl _ _ | refine below_alloc ?_ _ ?_ | refine Below.setCell ?_ ?_ _ | refine Below.drew ?_ | refine below_drewN ?_ _ | refine below_step ?_ (by assumption) ?_ | refine below_mark ?_ (by assumption) ?_))); all_goals (first | omega | (simp; done) | (simp; omega))))
      have HP6 := Lib.hid (HP5.out.stay B1.out)
      have HS := Lib.hid (vsrc_lt (w := w5) (T := 29) [u] [.slice ua un uc] rfl (fun j hj => by obtain rfl : j = 0 := (by simpa using hj); exact HUW.out) (fun j hj => by obtain rfl : j = 0 := (by simpa using hj); exact HU.out) _ rfl 1 1 rfl)
      have HFz := Lib.hid (show ∀ z, (wr.heap.size ≤ z ∧ z < w5.heap.size) → z < (w5.alloc (.cells #[.int .i64 u.k, .int .i64 u.n, .int .i64 u.e, .string u.s, .slice ua un uc] 29)).heap.size ∧ (Value.slice oa on oc).ownBlock ≠ some z from fun z hz => ⟨by simp; have := hz.2; omega, fun e => by have := (HL5.out z e).2; have := hz.1; omega⟩)
      go_wp2_with (at_builtin; refine app_vals rfl _ _ rfl (w.heap.size + 2) G (fun z => wr.heap.size ≤ z ∧ z < w5.heap.size) _ us [u] _ rfl HP6.out _ rfl HS.out HFz.out (by have := HLEN.out; simp; omega) (by simp; omega) ?_; intro v2 w2 hrow2 hg2 hfr2; obtain ⟨va2, vn2, vc2, rfl⟩ := hrow2.slice3; have HG2 := Lib.hid hg2; have HR2 := Lib.hid hrow2; clear hrow2 hg2 hfr2)
      go_roundw
      case rel => exact ⟨j + 1, va2, vn2, vc2, rfl, by go_num, by omega, Lib.hid (by rw [HT.out]; exact ⟨_, HR2.out, fun z hz => by
            rcases hz with h | h
            · exact HGG.out z h
            · have := h.1; omega⟩), Lib.hid ((HBL.out.trans ((HB5.out.trans (B1.out.mono hz5)).mono (by omega))).grown HG2.out (by have := (B1.out).size; omega) (fun x hx => by have := (HL5.out x hx).1; omega))⟩
      case measure => simp [intOf]; omega
    · have hje : j = t.kids.length := by omega
      subst hje
      rw [List.take_length] at HO
      have HZ := Lib.hid (show Box wr (w.heap.size + 1) 0 0 0 ⟨#[]⟩ (.slice none 0 0) 29 from (HBL.out.block (w.heap.size + 1) (by omega)).trans BZ.out)
      clear IH HE HA HS1 BX BZ
      by_cases h8 : t.k = 8

      · have HM := Lib.hid (show R = .mk t.k t.n t.e t.s (upr (srtP (prs (srtVs t.kids)))) from by rw [HRR.out, srtV_eq, if_pos h8])
        have KEY := Lib.hid (prs_key HR.out h8 HTZ.out)
        have hul : (srtVs t.kids).length ≤ 300 := by rw [srtVs_len]; exact hlen
        have hu2 : (srtVs t.kids).length % 2 = 0 := by rw [srtVs_len]; exact (right_map HR.out h8).1
        have hpl := prs_len (srtVs t.kids) hu2
        have PG := Lib.hid (fun j h h2 => prs_get (srtVs t.kids) j h h2)
        have t8 : (t.k == 8) = true := by simpa using h8
        generalize srtVs t.kids = us at *
        generalize prs us = ps at *
        clear h8
        have xf4 := HX.out.free (i := 4)
        obtain ⟨wa, rfl⟩ : ∃ wa : World, wa = wr := ⟨_, rfl⟩
        obtain ⟨W1, hW1⟩ : ∃ W1, W1 = wa.alloc (.cells #[] 29) := ⟨_, rfl⟩
        have hz1 : W1.heap.size = wa.heap.size + 1 := by rw [hW1]; simp
        have HB1 := Lib.hid (show Below wa.heap.size wa W1 from by rw [hW1]; exact (by (with_reducible (repeat' (first | exact Below.refl _ _ | refine below_alloc ?_ _ ?_ | refine Below.setCell ?_ ?_ _ | refine Below.drew ?_ | refine below_drewN ?_ _ | refine below_step ?_ (by assumption) ?_ | refine below_mark ?_ (by assumption) ?_))); all_goals (first | omega | (simp; done) | (simp; omega))))
        have RO := Lib.hid (show SOut (w.heap.size + 2) W1 (.slice (some ⟨wa.heap.size, 0, none⟩) 0 0) (upr ((ps.take 0).foldl insP [])) from by rw [hW1]; exact ⟨_, PRow.made0 (by omega), fun x h => h.elim⟩)
        go_wp2_with fail
        rw [← hW1]
        clear hW1
        go_loopw [5, 6] (fun o ii wr => ∃ (j m : Nat) (oa2 : Option Addr) (on2 oc2 : Nat), o = .slice oa2 on2 oc2 ∧ ii = .int .i64 m ∧ Hid (m = 2 * j) ∧ m ≤ us.length ∧ Hid (SOut (w.heap.size + 2) wr (.slice oa2 on2 oc2) (upr ((ps.take j).foldl insP []))) ∧ Hid (Below wa.heap.size wa wr)) (fun _ ii _ => us.length + 2 - (intOf ii).toNat)
        case atStart => exact ⟨0, 0, _, _, _, rfl, rfl, Lib.hid (by omega), by omega, RO, HB1⟩
        case round =>
          clear RO HB1
          obtain ⟨j, m, oa2, on2, oc2, rfl, rfl, HMJ, hml, HO2, HB2⟩ := hrel
          have hmj := HMJ.out
          obtain ⟨wb, rfl⟩ : ∃ wb : World, wb = wr := ⟨_, rfl⟩
          have hzb := HB2.out.size
          by_cases hlt : m < us.length
          · have hjp : j < ps.length := by omega
            have hm1 : m + 1 < us.length := by omega
            have hft := fold_take ps j hjp
            have hpk := KEY.out ps[j] (List.getElem_mem hjp)
            have HOM := Lib.hid (show ∀ p ∈ (ps.take j).foldl insP [], p.1.kids = [] ∧ p.1.e = 0 ∧ p.1.sz ≤ 1048576 from fun p hp => KEY.out p (by
              rcases fold_mem _ _ _ hp with h | h
              · simp at h
              · exact List.mem_of_mem_take h))
            have hol : ((ps.take j).foldl insP []).length = j := by rw [foldP_len, List.length_take]; simp; omega
            generalize (ps.take j).foldl insP [] = O at *
            have hex : ps[j] = (us[m], us[m + 1]) := by
              have h := PG.out j (by omega) hjp
              subst hmj
              exact h
            rw [hex] at hft hpk
            have HT := Lib.hid hft; have HPK := Lib.hid hpk
            have HKR := Lib.hid (HO.out.stay (HB2.out.mono (by omega)))
            obtain ⟨g, cg, hs1, hcg, hgl⟩ := HKR.out.some1 (by intro e; rw [e] at hlt; simp at hlt)
            injection hs1 with e1 e2 e3
            subst e1 e2 e3
            obtain ⟨ka, kc, k5, kwf, krep⟩ := HKR.out.elem m hlt
            obtain ⟨va, vc, v5, vwf, vrep⟩ := HKR.out.elem (m + 1) hm1
            have HK5 := Lib.hid k5; have HV5 := Lib.hid v5; have HKW := Lib.hid kwf; have HVW := Lib.hid vwf; have HKP := Lib.hid krep; have HVP := Lib.hid vrep
            clear hft hpk hex k5 v5 kwf vwf krep vrep
            generalize us[m] = x at *
            generalize us[m + 1] = y at *
            have hon : m = on2 := by
              obtain ⟨a', c', e⟩ := HO2.out.repF.slice
              injection e with e1 e2 e3
              rw [upr_len] at e2
              omega
            subst hon
            clear hmj
            have CL := Lib.hid (fun (p : Nat) (hp : p < O.length) (sl : Value) (hr : RepF wb (fun z => w.heap.size + 2 ≤ z) sl O[p].1.kids) (hwf : O[p].1.wf) (W : World) (hW : Below wb.heap.size wb W) => show Calls Tryd.prog 69 #[O[p].1.agg sl, x.agg (.slice ka x.kids.length kc)] W (CmpRet W (cmpK O[p].1 x)) from by
              have h1 := HOM.out O[p] (List.getElem_mem hp)
              have h2 := HPK.out
              have := Compare_any wb _ O[p].1 x _ _ (Nat.lt_succ_self _) ⟨_, rfl, hwf, hr.rep⟩ ⟨_, rfl, HKW.out, HKP.out.rep⟩ h1.2.2 h2.2.2 W hW
              rw [cmp_key h1 h2] at this
              exact this)
            go_wp2_with fail
            go_loopw [7] (fun a wr => ∃ (q n : Nat), a = .int .i64 n ∧ Hid (n = 2 * q) ∧ q ≤ j ∧ Hid (dn O (x, y) O.length = dn O (x, y) q) ∧ Hid (Below wb.heap.size wb wr)) (fun a _ => (intOf a).toNat)
            case atStart => exact ⟨j, m, rfl, HMJ, Nat.le_refl _, Lib.hid (by rw [hol]), Lib.hid (Below.refl _ _)⟩
            case round =>
              obtain ⟨q, n, rfl, HNQ, hqj, HD, HBi⟩ := hrel
              obtain ⟨wd, rfl⟩ : ∃ W : World, W = wr := ⟨_, rfl⟩
              have hzd := HBi.out.size
              go_upto_region 12 with fail
              go_cut [51] from 37 to 53 (fun c wx => c = .bool (decide (0 < q ∧ 0 < cmpK (O.getD (q - 1) PZ).1 x)) ∧ Below wd.heap.size wd wx)
              case first =>
                have hnq := HNQ.out
                rcases q with _ | p
                · obtain rfl : n = 0 := by omega
                  clear hnq
                  refine wp_region_held_drew (S := fun _ => True) (by kernel_rfl) trivial (fun hHeld => ?_)
      
                  refine wpAnyH_take (i := 0) (v := ?_) rfl (by kernel_rfl) (by kernel_rfl) (by kernel_rfl) (fun _ _ _ h => h) (Or.inl ⟨by rfl, ?_⟩) hHeld ?_
                  rotate_left
                  · (intro w hSw; (try dsimp only at hSw); (try simp only [List.getElem_toArray, List.getElem_cons_succ, List.getElem_cons_zero]); go_simp <;> with_reducible rfl)
                  try simp only [List.getElem_toArray, List.getElem_cons_succ, List.getElem_cons_zero, Act.put, List.setIfInBounds_toArray, List.set_cons_zero, List.set_cons_succ]
                  refine wpAnyH_take (i := 1) (v := ?_) rfl (by kernel_rfl) (by kernel_rfl) (by kernel_rfl) (fun _ _ _ h => h) (Or.inl ⟨by rfl, ?_⟩) hHeld ?_
                  rotate_left
                  · (intro w hSw; (try dsimp only at hSw); (try simp only [List.getElem_toArray, List.getElem_cons_succ, List.getElem_cons_zero]); go_simp <;> with_reducible rfl)
                  try simp only [List.getElem_toArray, List.getElem_cons_succ, List.getElem_cons_zero, Act.put, List.setIfInBounds_toArray, List.set_cons_zero, List.set_cons_succ]
                  refine wpAnyH_take (i := 2) (v := ?_) rfl (by kernel_rfl) (by kernel_rfl) (by kernel_rfl) (fun _ _ _ h => h) (Or.inl ⟨by rfl, ?_⟩) hHeld ?_
                  rotate_left
                  · (intro w hSw; (try dsimp only at hSw); (try simp only [List.getElem_toArray, List.getElem_cons_succ, List.getElem_cons_zero]); go_simp <;> with_reducible rfl)
                  try simp only [List.getElem_toArray, List.getElem_cons_succ, List.getElem_cons_zero, Act.put, List.setIfInBounds_toArray, List.set_cons_zero, List.set_cons_succ]
                  refine wpAnyH_take (i := 3) (v := undef) rfl (by kernel_rfl) (by kernel_rfl) (by kernel_rfl) (fun _ _ _ h => h) (Or.inr ⟨by rfl, rfl⟩) hHeld ?_
                  try simp only [List.getElem_toArray, List.getElem_cons_succ, List.getElem_cons_zero, Act.put, List.setIfInBounds_toArray, List.set_cons_zero, List.set_cons_succ]
                  refine wpAnyH_take (i := 4) (v := undef) rfl (by kernel_rfl) (by kernel_rfl) (by kernel_rfl) (fun _ _ _ h => h) (Or.inr ⟨by rfl, rfl⟩) hHeld ?_
                  try simp only [List.getElem_toArray, List.getElem_cons_succ, List.getElem_cons_zero, Act.put, List.setIfInBounds_toArray, List.set_cons_zero, List.set_cons_succ]
                  refine wpAnyH_take (i := 5) (v := undef) rfl (by kernel_rfl) (by kernel_rfl) (by kernel_rfl) (fun _ _ _ h => h) (Or.inr ⟨by rfl, rfl⟩) hHeld ?_
                  try simp only [List.getElem_toArray, List.getElem_cons_succ, List.getElem_cons_zero, Act.put, List.setIfInBounds_toArray, List.set_cons_zero, List.set_cons_succ]
                  refine wpAnyH_take (i := 6) (v := undef) rfl (by kernel_rfl) (by kernel_rfl) (by kernel_rfl) (fun _ _ _ h => h) (Or.inr ⟨by rfl, rfl⟩) hHeld ?_
                  try simp only [List.getElem_toArray, List.getElem_cons_succ, List.getElem_cons_zero, Act.put, List.setIfInBounds_toArray, List.set_cons_zero, List.set_cons_succ]
                  refine wpAnyH_take (i := 7) (v := undef) rfl (by kernel_rfl) (by kernel_rfl) (by kernel_rfl) (fun _ _ _ h => h) (Or.inr ⟨by rfl, rfl⟩) hHeld ?_
                  try simp only [List.getElem_toArray, List.getElem_cons_succ, List.getElem_cons_zero, Act.put, List.setIfInBounds_toArray, List.set_cons_zero, List.set_cons_succ]
                  refine wpAnyH_take (i := 8) (v := undef) rfl (by kernel_rfl) (by kernel_rfl) (by kernel_rfl) (fun _ _ _ h => h) (Or.inr ⟨by rfl, rfl⟩) hHeld ?_
                  try simp only [List.getElem_toArray, List.getElem_cons_succ, List.getElem_cons_zero, Act.put, List.setIfInBounds_toArray, List.set_cons_zero, List.set_cons_succ]
                  refine wpAnyH_take (i := 9) (v := undef) rfl (by kernel_rfl) (by kernel_rfl) (by kernel_rfl) (fun _ _ _ h => h) (Or.inr ⟨by rfl, rfl⟩) hHeld ?_
                  try simp only [List.getElem_toArray, List.getElem_cons_succ, List.getElem_cons_zero, Act.put, List.setIfInBounds_toArray, List.set_cons_zero, List.set_cons_succ]
                  refine wpAnyH_take (i := 10) (v := undef) rfl (by kernel_rfl) (by kernel_rfl) (by kernel_rfl) (fun _ _ _ h => h) (Or.inr ⟨by rfl, rfl⟩) hHeld ?_
                  try simp only [List.getElem_toArray, List.getElem_cons_succ, List.getElem_cons_zero, Act.put, List.setIfInBounds_toArray, List.set_cons_zero, List.set_cons_succ]
                  refine wpAnyH_take (i := 11) (v := undef) rfl (by kernel_rfl) (by kernel_rfl) (by kernel_rfl) (fun _ _ _ h => h) (Or.inr ⟨by rfl, rfl⟩) hHeld ?_
                  try simp only [List.getElem_toArray, List.getElem_cons_succ, List.getElem_cons_zero, Act.put, List.setIfInBounds_toArray, List.set_cons_zero, List.set_cons_succ]
                  refine wpAnyH_take (i := 12) (v := undef) rfl (by kernel_rfl) (by kernel_rfl) (by kernel_rfl) (fun _ _ _ h => h) (Or.inr ⟨by rfl, rfl⟩) hHeld ?_
                  try simp only [List.getElem_toArray, List.getElem_cons_succ, List.getElem_cons_zero, Act.put, List.setIfInBounds_toArray, List.set_cons_zero, List.set_cons_succ]
                  refine wpAnyH_take (i := 13) (v := undef) rfl (by kernel_rfl) (by kernel_rfl) (by kernel_rfl) (fun _ _ _ h => h) (Or.inr ⟨by rfl, rfl⟩) hHeld ?_
                  try simp only [List.getElem_toArray, List.getElem_cons_succ, List.getElem_cons_zero, Act.put, List.setIfInBounds_toArray, List.set_cons_zero, List.set_cons_succ]
                  refine wpAnyH_take (i := 14) (v := ?_) rfl (by kernel_rfl) (by kernel_rfl) (by kernel_rfl) (fun _ _ _ h => h) (Or.inl ⟨by rfl, ?_⟩) hHeld ?_
                  rotate_left
                  · (intro w hSw; (try dsimp only at hSw); (try simp only [List.getElem_toArray, List.getElem_cons_succ, List.getElem_cons_zero]); go_simp <;> with_reducible rfl)
                  try simp only [List.getElem_toArray, List.getElem_cons_succ, List.getElem_cons_zero, Act.put, List.setIfInBounds_toArray, List.set_cons_zero, List.set_cons_succ]
                  refine wpAnyH_done (by kernel_rfl) ?_ _
                  go_wp2_with fail
                  go_meet
                  exact ⟨congrArg Value.bool (decide_eq_false (by omega)).symm, (by (with_reducible (repeat' (first | exact Below.refl _ _ | refine below_alloc ?_ _ ?_ | refine Below.setCell ?_ ?_ _ | refine Below.drew ?_ | refine below_drewN ?_ _ | refine below_step ?_ (by assumption) ?_ | refine below_mark ?_ (by assumption) ?_))); all_goals (first | omega | (simp; done) | (simp; omega)))⟩
                · obtain ⟨gb, c2, e0, hc2, hgo⟩ := HO2.out.some1 (by intro e; have := upr_len O; rw [e] at this; simp at this; omega)
                  injection e0 with e1 e2 e3
                  subst e1 e3
                  clear e2
                  have hp : p < O.length := by omega
                  obtain ⟨pa, pc, p5, pwf, prep⟩ := HO2.out.key p hp
                  have CLP := Lib.hid (CL.out p hp _ prep pwf)
                  have P5 := Lib.hid (p5.keep (HBi.out.block gb hgo))
                  have K5 := Lib.hid (HK5.out.keep (HBi.out.block g hgl))
                  have hgd : (O.getD (p + 1 - 1) PZ).1 = O[p].1 := by rw [List.getD_eq_getElem?_getD, Nat.add_sub_cancel, List.getElem?_eq_getElem hp]; rfl
                  have HE := Lib.hid (show decide (0 < p + 1 ∧ 0 < cmpK (O.getD (p + 1 - 1) PZ).1 x) = decide (0 < cmpK O[p].1 x) from by rw [hgd]; simp)
                  clear hgd p5 pwf prep
                  generalize O[p].1 = z at *
                  generalize hcc : cmpK z x = cc at *
                  clear hcc
                  obtain ⟨p2, rfl⟩ : ∃ p2, n = p2 + 2 := ⟨n - 2, by omega⟩
                  have hpp : 2 * p = p2 := by omega
                  rw [hpp] at P5
                  have hp2 : p2 + 2 ≤ m := by have := HMJ.out; omega
                  clear hnq hpp HNQ
                  unfold V.agg at CLP
                  have HWP := Lib.hid (show IntKind.i64.wrap (p2 : Int) = p2 from by simp [IntKind.wrap, IntKind.signed, IntKind.bits]; omega)
                  have TC := Lib.hid (show ∀ W' : World, Below wd.heap.size wd W' → W'.cell? ⟨gb, p2 * 5, none⟩ = some (.int .i64 z.k) ∧ W'.cell? ⟨gb, p2 * 5 + 1, none⟩ = some (.int .i64 z.n) ∧ W'.cell? ⟨gb, p2 * 5 + 2, none⟩ = some (.int .i64 z.e) ∧ W'.cell? ⟨gb, p2 * 5 + 3, none⟩ = some (.string z.s) ∧ W'.cell? ⟨gb, p2 * 5 + 4, none⟩ = some (.slice pa z.kids.length pc) ∧ W'.cell? ⟨g, m * 5, none⟩ = some (.int .i64 x.k) ∧ W'.cell? ⟨g, m * 5 + 1, none⟩ = some (.int .i64 x.n) ∧ W'.cell? ⟨g, m * 5 + 2, none⟩ = some (.int .i64 x.e) ∧ W'.cell? ⟨g, m * 5 + 3, none⟩ = some (.string x.s) ∧ W'.cell? ⟨g, m * 5 + 4, none⟩ = some (.slice ka x.kids.length kc) from fun W' h => by
                    obtain ⟨d0, d1, d2, d3, d4⟩ := P5.out.keep (h.block gb (by omega))
                    obtain ⟨f0, f1, f2, f3, f4⟩ := K5.out.keep (h.block g (by omega))
                    exact ⟨d0, d1, d2, d3, d4, f0, f1, f2, f3, f4⟩)
                  refine wp_region_held_drew (S := fun W' => W'.cell? ⟨gb, p2 * 5, none⟩ = some (.int .i64 z.k) ∧ W'.cell? ⟨gb, p2 * 5 + 1, none⟩ = some (.int .i64 z.n) ∧ W'.cell? ⟨gb, p2 * 5 + 2, none⟩ = some (.int .i64 z.e) ∧ W'.cell? ⟨gb, p2 * 5 + 3, none⟩ = some (.string z.s) ∧ W'.cell? ⟨gb, p2 * 5 + 4, none⟩ = some (.slice pa z.kids.length pc) ∧ W'.cell? ⟨g, m * 5, none⟩ = some (.int .i64 x.k) ∧ W'.cell? ⟨g, m * 5 + 1, none⟩ = some (.int .i64 x.n) ∧ W'.cell? ⟨g, m * 5 + 2, none⟩ = some (.int .i64 x.e) ∧ W'.cell? ⟨g, m * 5 + 3, none⟩ = some (.string x.s) ∧ W'.cell? ⟨g, m * 5 + 4, none⟩ = some (.slice ka x.kids.length kc)) (by kernel_rfl) (TC.out _ ((by (with_reducible (repeat' (first | exact Below.refl _ _ | refine below_alloc ?_ _ ?_ | refine Below.setCell ?_ ?_ _ | refine Below.drew ?_ | refine below_drewN ?_ _ | refine below_step ?_ (by assumption) ?_ | refine below_mark ?_ (by assumption) ?_))); all_goals (first | omega | (simp; done) | (simp; omega))))) (fun hHeld => ?_)
      
                  refine wpAnyH_take (i := 0) (v := ?_) rfl (by kernel_rfl) (by kernel_rfl) (by kernel_rfl) (fun _ _ _ h => h) (Or.inl ⟨by rfl, ?_⟩) hHeld ?_
                  rotate_left
                  · (intro w hSw; (try dsimp only at hSw); (try simp only [List.getElem_toArray, List.getElem_cons_succ, List.getElem_cons_zero]); go_simp <;> with_reducible rfl)
                  try simp only [List.getElem_toArray, List.getElem_cons_succ, List.getElem_cons_zero, Act.put, List.setIfInBounds_toArray, List.set_cons_zero, List.set_cons_succ]
                  refine wpAnyH_take (i := 1) (v := .bool true) rfl (by kernel_rfl) (by kernel_rfl) (by kernel_rfl) (fun _ _ _ h => h) (Or.inl ⟨by rfl, ?_⟩) hHeld ?_
                  · (intro w hSw; clear hSw; (try simp only [List.getElem_toArray, List.getElem_cons_succ, List.getElem_cons_zero]); first | (go_simp; done) | (go_simp; omega))
                  try simp only [List.getElem_toArray, List.getElem_cons_succ, List.getElem_cons_zero, Act.put, List.setIfInBounds_toArray, List.set_cons_zero, List.set_cons_succ]
                  refine wpAnyH_take (i := 2) (v := ?_) rfl (by kernel_rfl) (by kernel_rfl) (by kernel_rfl) (fun _ _ _ h => h) (Or.inl ⟨by rfl, ?_⟩) hHeld ?_
                  rotate_left
                  · (intro w hSw; (try dsimp only at hSw); (try simp only [List.getElem_toArray, List.getElem_cons_succ, List.getElem_cons_zero]); go_simp <;> with_reducible rfl)
                  try simp only [List.getElem_toArray, List.getElem_cons_succ, List.getElem_cons_zero, Act.put, List.setIfInBounds_toArray, List.set_cons_zero, List.set_cons_succ]
                  refine wpAnyH_take (i := 3) (v := ?_) rfl (by kernel_rfl) (by kernel_rfl) (by kernel_rfl) (fun _ _ _ h => h) (Or.inl ⟨by rfl, ?_⟩) hHeld ?_
                  rotate_left
                  · (intro w hSw; (try dsimp only at hSw); (try simp only [List.getElem_toArray, List.getElem_cons_succ, List.getElem_cons_zero]); go_simp <;> with_reducible rfl)
                  try simp only [List.getElem_toArray, List.getElem_cons_succ, List.getElem_cons_zero, Act.put, List.setIfInBounds_toArray, List.set_cons_zero, List.set_cons_succ]
                  refine wpAnyH_take (i := 4) (v := ?_) rfl (by kernel_rfl) (by kernel_rfl) (by kernel_rfl) (fun _ _ _ h => h) (Or.inl ⟨by rfl, ?_⟩) hHeld ?_
                  rotate_left
                  · (intro w hSw; (try dsimp only at hSw); (try simp only [List.getElem_toArray, List.getElem_cons_succ, List.getElem_cons_zero]); go_simp <;> with_reducible rfl)
                  try simp only [List.getElem_toArray, List.getElem_cons_succ, List.getElem_cons_zero, Act.put, List.setIfInBounds_toArray, List.set_cons_zero, List.set_cons_succ]
                  refine wpAnyH_take (i := 5) (v := .int .i64 p2) rfl (by kernel_rfl) (by kernel_rfl) (by kernel_rfl) (fun _ _ _ h => h) (Or.inl ⟨by rfl, ?_⟩) hHeld ?_
                  · (intro w hSw; (try dsimp only at hSw); (try simp only [List.getElem_toArray, List.getElem_cons_succ, List.getElem_cons_zero]); go_simp; rw [HWP.out])
                  try simp only [List.getElem_toArray, List.getElem_cons_succ, List.getElem_cons_zero, Act.put, List.setIfInBounds_toArray, List.set_cons_zero, List.set_cons_succ]
                  refine wpAnyH_take (i := 6) (v := .pointer (some ⟨gb, p2 * 5, none⟩)) rfl (by kernel_rfl) (by kernel_rfl) (by kernel_rfl) (fun _ _ _ h => h) (Or.inl ⟨by rfl, ?_⟩) hHeld ?_
                  · (intro w hSw; (try dsimp only at hSw); (try simp only [List.getElem_toArray, List.getElem_cons_succ, List.getElem_cons_zero]); go_simp; intro hc; exfalso; omega)
                  try simp only [List.getElem_toArray, List.getElem_cons_succ, List.getElem_cons_zero, Act.put, List.setIfInBounds_toArray, List.set_cons_zero, List.set_cons_succ]
                  refine wpAnyH_take (i := 7) (v := ?_) rfl (by kernel_rfl) (by kernel_rfl) (by kernel_rfl) (fun _ _ _ h => h) (Or.inl ⟨by rfl, ?_⟩) hHeld ?_
                  rotate_left
                  · (intro w hSw; (try dsimp only at hSw); (try simp only [List.getElem_toArray, List.getElem_cons_succ, List.getElem_cons_zero]); go_simp <;> with_reducible rfl)
                  try simp only [List.getElem_toArray, List.getElem_cons_succ, List.getElem_cons_zero, Act.put, List.setIfInBounds_toArray, List.set_cons_zero, List.set_cons_succ]
                  refine wpAnyH_take (i := 8) (v := ?_) rfl (by kernel_rfl) (by kernel_rfl) (by kernel_rfl) (fun _ _ _ h => h) (Or.inl ⟨by rfl, ?_⟩) hHeld ?_
                  rotate_left
                  · (intro w hSw; (try dsimp only at hSw); (try simp only [List.getElem_toArray, List.getElem_cons_succ, List.getElem_cons_zero]); go_simp <;> with_reducible rfl)
                  try simp only [List.getElem_toArray, List.getElem_cons_succ, List.getElem_cons_zero, Act.put, List.setIfInBounds_toArray, List.set_cons_zero, List.set_cons_succ]
                  refine wpAnyH_take (i := 9) (v := ?_) rfl (by kernel_rfl) (by kernel_rfl) (by kernel_rfl) (fun _ _ _ h => h) (Or.inl ⟨by rfl, ?_⟩) hHeld ?_
                  rotate_left
                  · (intro w hSw; (try dsimp only at hSw); (try simp only [List.getElem_toArray, List.getElem_cons_succ, List.getElem_cons_zero]); go_simp <;> with_reducible rfl)
                  try simp only [List.getElem_toArray, List.getElem_cons_succ, List.getElem_cons_zero, Act.put, List.setIfInBounds_toArray, List.set_cons_zero, List.set_cons_succ]
                  refine wpAnyH_take (i := 10) (v := ?_) rfl (by kernel_rfl) (by kernel_rfl) (by kernel_rfl) (fun _ _ _ h => h) (Or.inl ⟨by rfl, ?_⟩) hHeld ?_
                  rotate_left
                  · (intro w hSw; (try dsimp only at hSw); (try simp only [List.getElem_toArray, List.getElem_cons_succ, List.getElem_cons_zero]); go_simp <;> with_reducible rfl)
                  try simp only [List.getElem_toArray, List.getElem_cons_succ, List.getElem_cons_zero, Act.put, List.setIfInBounds_toArray, List.set_cons_zero, List.set_cons_succ]
                  refine wpAnyH_take (i := 11) (v := ?_) rfl (by kernel_rfl) (by kernel_rfl) (by kernel_rfl) (fun _ _ _ h => h) (Or.inl ⟨by rfl, ?_⟩) hHeld ?_
                  rotate_left
                  · (intro w hSw; (try dsimp only at hSw); (try simp only [List.getElem_toArray, List.getElem_cons_succ, List.getElem_cons_zero]); go_simp <;> with_reducible rfl)
                  try simp only [List.getElem_toArray, List.getElem_cons_succ, List.getElem_cons_zero, Act.put, List.setIfInBounds_toArray, List.set_cons_zero, List.set_cons_succ]
                  refine wpAnyH_ready (rs := [12]) (by kernel_rfl) (by simp) ?_
                  refine AllReadyH.cons rfl (fun K hK => ?_) AllReadyH.nil
                  go_simp
                  refine (CLP.out _ (HBi.out.trans ((Below.refl _ _).drew.mono hzd))).mono ?_
                  rintro e8 wS ⟨rfl, hbS⟩
                  have HBS := Lib.hid (show Below wd.heap.size wd wS from (Below.refl _ _).drew.trans hbS)
                  refine hK.out _ _ ?_ (fun hHeld => ?_)
                  · exact TC.out _ HBS.out
                  clear hK K hbS
      
                  try simp only [List.getElem_toArray, List.getElem_cons_succ, List.getElem_cons_zero, Act.put, List.setIfInBounds_toArray, List.set_cons_zero, List.set_cons_succ]
                  refine wpAnyH_take (i := 13) (v := ?_) rfl (by kernel_rfl) (by kernel_rfl) (by kernel_rfl) (fun _ _ _ h => h) (Or.inl ⟨by rfl, ?_⟩) hHeld ?_
                  rotate_left
                  · (intro w hSw; (try dsimp only at hSw); (try simp only [List.getElem_toArray, List.getElem_cons_succ, List.getElem_cons_zero]); go_simp <;> with_reducible rfl)
                  try simp only [List.getElem_toArray, List.getElem_cons_succ, List.getElem_cons_zero, Act.put, List.setIfInBounds_toArray, List.set_cons_zero, List.set_cons_succ]
                  refine wpAnyH_take (i := 14) (v := ?_) rfl (by kernel_rfl) (by kernel_rfl) (by kernel_rfl) (fun _ _ _ h => h) (Or.inl ⟨by rfl, ?_⟩) hHeld ?_
                  rotate_left
                  · (intro w hSw; (try dsimp only at hSw); (try simp only [List.getElem_toArray, List.getElem_cons_succ, List.getElem_cons_zero]); go_simp <;> with_reducible rfl)
                  try simp only [List.getElem_toArray, List.getElem_cons_succ, List.getElem_cons_zero, Act.put, List.setIfInBounds_toArray, List.set_cons_zero, List.set_cons_succ]
                  refine wpAnyH_done (by kernel_rfl) ?_ _
                  go_wp2_with fail
                  go_meet
                  exact ⟨congrArg Value.bool HE.out.symm, HBS.out⟩
              case rest =>
                obtain ⟨rfl, hbx⟩ := hcut
                obtain ⟨we, rfl⟩ : ∃ W : World, W = wc := ⟨_, rfl⟩
                have HBE := Lib.hid (HBi.out.trans (hbx.mono hzd))
                have hze := HBE.out.size
                clear hbx HBi
                generalize hbk : decide (0 < q ∧ 0 < cmpK (O.getD (q - 1) PZ).1 x) = bk at *
                cases bk
                case true =>
                  obtain ⟨hq0, hcq⟩ := of_decide_eq_true hbk
                  have HC := Lib.hid hcq
                  clear hbk hcq
                  obtain ⟨p, rfl⟩ : ∃ p, q = p + 1 := ⟨q - 1, by omega⟩
                  obtain ⟨p2, rfl⟩ : ∃ p2, n = p2 + 2 := ⟨n - 2, by have := HNQ.out; omega⟩
                  have hp2 : p2 + 2 ≤ m := by have := HMJ.out; have := HNQ.out; omega
                  go_wp2_with fail
                  go_roundw
                  case rel =>
                    exact ⟨p, p2, rfl, Lib.hid (by have := HNQ.out; omega), by omega, Lib.hid (HD.out.trans (dn_down HC.out)), HBE⟩
                  case measure => simp [intOf]; omega
                case false =>
                  have HN := Lib.hid (dn_stop (x := (x, y)) (of_decide_eq_false hbk))
                  have hnm : n ≤ m := by have := HMJ.out; have := HNQ.out; omega
                  have hmc : m ≤ oc2 := by
                    obtain ⟨a', b', off', cap', e, _, hc', _⟩ := HO2.out.repF.opened
                    injection e with e1 e2 e3
                    omega
                  clear hbk
                  go_upto_region 14 with fail
                  have TC := Lib.hid (show ∀ W' : World, W'.heap[g]? = wb.heap[g]? → W'.cell? ⟨g, m * 5, none⟩ = some (.int .i64 x.k) ∧ W'.cell? ⟨g, m * 5 + 1, none⟩ = some (.int .i64 x.n) ∧ W'.cell? ⟨g, m * 5 + 2, none⟩ = some (.int .i64 x.e) ∧ W'.cell? ⟨g, m * 5 + 3, none⟩ = some (.string x.s) ∧ W'.cell? ⟨g, m * 5 + 4, none⟩ = some (.slice ka x.kids.length kc) ∧ W'.cell? ⟨g, (m + 1) * 5, none⟩ = some (.int .i64 y.k) ∧ W'.cell? ⟨g, (m + 1) * 5 + 1, none⟩ = some (.int .i64 y.n) ∧ W'.cell? ⟨g, (m + 1) * 5 + 2, none⟩ = some (.int .i64 y.e) ∧ W'.cell? ⟨g, (m + 1) * 5 + 3, none⟩ = some (.string y.s) ∧ W'.cell? ⟨g, (m + 1) * 5 + 4, none⟩ = some (.slice va y.kids.length vc) from fun W' h => by
                    obtain ⟨d0, d1, d2, d3, d4⟩ := HK5.out.keep h
                    obtain ⟨f0, f1, f2, f3, f4⟩ := HV5.out.keep h
                    exact ⟨d0, d1, d2, d3, d4, f0, f1, f2, f3, f4⟩)
                  obtain ⟨F1, hF1⟩ : ∃ F1 : Nat → Prop, F1 = fun z => w.heap.size + 2 ≤ z ∧ z < we.heap.size := ⟨_, rfl⟩
                  have HOe := Lib.hid ((HO2.out.stay HBE.out).repF.bound)
                  have RA := Lib.hid (show RepF we F1 (.slice oa2 n oc2) ((upr O).take n) from by rw [hF1]; exact HOe.out.takeS (by rw [upr_len]; have := HMJ.out; omega))
                  have RB := Lib.hid (show RepF we F1 (.slice (if oc2 = n then oa2 else Option.map (fun x => x.add (n * 5)) oa2) (m - n) (oc2 - n)) ((upr O).drop n) from by rw [hF1]; exact HOe.out.dropG (by rw [upr_len]; have := HMJ.out; omega))
                  have KP1 := Lib.hid (show RepF we F1 (.slice ka x.kids.length kc) x.kids from by rw [hF1]; exact ((HKP.out.stay HBE.out).bound))
                  have VP1 := Lib.hid (show RepF we F1 (.slice va y.kids.length vc) y.kids from by rw [hF1]; exact ((HVP.out.stay HBE.out).bound))
                  have hfu : ∀ z, F1 z → w.heap.size + 2 ≤ z ∧ z < we.heap.size := by intro z hz; rw [hF1] at hz; exact hz
                  have HFU := Lib.hid hfu
                  have hlo := upr_len O
                  have HU := Lib.hid (upr_ins O (x, y) n (by rw [HD.out, HN.out]; exact HNQ.out))
                  clear hF1 hfu
                  have HB9 := Lib.hid (show Below we.heap.size we we.drew from (Below.refl _ _).drew)
                  have TCB := Lib.hid (fun (W' : World) (h : Below we.heap.size we W') => TC.out W' ((h.block g (by omega)).trans (HBE.out.block g hgl)))
                  have FR := Lib.hid (show ∀ (W : World) (a1 : Option Addr) (n1 c1 : Nat), PRow W we.heap.size (fun z => ((False ∨ F1 z) ∨ F1 z) ∨ F1 z) (.slice a1 n1 c1) ((([] ++ (upr O).take n) ++ [x, y]) ++ (upr O).drop n) → Below we.heap.size we W → ∃ (j m' : Nat) (oa2 : Option Addr) (on2 oc2 : Nat), Value.slice a1 n1 c1 = .slice oa2 on2 oc2 ∧ Value.int .i64 ((m : Int) + 2) = .int .i64 m' ∧ Hid (m' = 2 * j) ∧ m' ≤ us.length ∧ Hid (SOut (w.heap.size + 2) W (.slice oa2 on2 oc2) (upr ((ps.take j).foldl insP []))) ∧ Hid (Below wa.heap.size wa W) from fun W a1 n1 c1 hp hb =>
                    ⟨j + 1, m + 2, a1, n1, c1, rfl, by go_num, Lib.hid (by have := HMJ.out; omega), by omega, Lib.hid (by
                      rw [HT.out, ← HU.out]
                      rw [List.nil_append] at hp
                      exact ⟨_, hp.lower (by omega), fun z hz => by
                        rcases hz with ((h | h) | h) | h
                        · exact h.elim
                        · exact (HFU.out z h).1
                        · exact (HFU.out z h).1
                        · exact (HFU.out z h).1⟩), Lib.hid ((HB2.out.trans (HBE.out.mono hzb)).trans (hb.mono (by omega)))⟩)
                  refine wp_region_held_drew (S := fun W' => W'.cell? ⟨g, m * 5, none⟩ = some (.int .i64 x.k) ∧ W'.cell? ⟨g, m * 5 + 1, none⟩ = some (.int .i64 x.n) ∧ W'.cell? ⟨g, m * 5 + 2, none⟩ = some (.int .i64 x.e) ∧ W'.cell? ⟨g, m * 5 + 3, none⟩ = some (.string x.s) ∧ W'.cell? ⟨g, m * 5 + 4, none⟩ = some (.slice ka x.kids.length kc) ∧ W'.cell? ⟨g, (m + 1) * 5, none⟩ = some (.int .i64 y.k) ∧ W'.cell? ⟨g, (m + 1) * 5 + 1, none⟩ = some (.int .i64 y.n) ∧ W'.cell? ⟨g, (m + 1) * 5 + 2, none⟩ = some (.int .i64 y.e) ∧ W'.cell? ⟨g, (m + 1) * 5 + 3, none⟩ = some (.string y.s) ∧ W'.cell? ⟨g, (m + 1) * 5 + 4, none⟩ = some (.slice va y.kids.length vc)) (by kernel_rfl) (TCB.out _ HB9.out) (fun hHeld => ?_)
      
                  have HWM := Lib.hid (show IntKind.i64.wrap ((m : Int) + 1) = m + 1 from by simp [IntKind.wrap, IntKind.signed, IntKind.bits]; omega)
                  refine wpAnyH_take (i := 1) (v := ?_) rfl (by kernel_rfl) (by kernel_rfl) (by kernel_rfl) (fun _ _ _ h => h) (Or.inl ⟨by rfl, ?_⟩) hHeld ?_
                  rotate_left
                  · (intro w hSw; (try dsimp only at hSw); (try simp only [List.getElem_toArray, List.getElem_cons_succ, List.getElem_cons_zero]); go_simp <;> with_reducible rfl)
                  try simp only [List.getElem_toArray, List.getElem_cons_succ, List.getElem_cons_zero, Act.put, List.setIfInBounds_toArray, List.set_cons_zero, List.set_cons_succ]
                  refine wpAnyH_take (i := 2) (v := ?_) rfl (by kernel_rfl) (by kernel_rfl) (by kernel_rfl) (fun _ _ _ h => h) (Or.inl ⟨by rfl, ?_⟩) hHeld ?_
                  rotate_left
                  · (intro w hSw; (try dsimp only at hSw); (try simp only [List.getElem_toArray, List.getElem_cons_succ, List.getElem_cons_zero]); go_simp <;> with_reducible rfl)
                  try simp only [List.getElem_toArray, List.getElem_cons_succ, List.getElem_cons_zero, Act.put, List.setIfInBounds_toArray, List.set_cons_zero, List.set_cons_succ]
                  refine wpAnyH_take (i := 3) (v := .slice oa2 n oc2) rfl (by kernel_rfl) (by kernel_rfl) (by kernel_rfl) (fun _ _ _ h => h) (Or.inl ⟨by rfl, ?_⟩) hHeld ?_
                  · (intro w hSw; (try dsimp only at hSw); (try simp only [List.getElem_toArray, List.getElem_cons_succ, List.getElem_cons_zero]); go_simp; intro hc; exfalso; omega)
                  try simp only [List.getElem_toArray, List.getElem_cons_succ, List.getElem_cons_zero, Act.put, List.setIfInBounds_toArray, List.set_cons_zero, List.set_cons_succ]
                  refine wpAnyH_take (i := 5) (v := ?_) rfl (by kernel_rfl) (by kernel_rfl) (by kernel_rfl) (fun _ _ _ h => h) (Or.inl ⟨by rfl, ?_⟩) hHeld ?_
                  rotate_left
                  · (intro w hSw; (try dsimp only at hSw); (try simp only [List.getElem_toArray, List.getElem_cons_succ, List.getElem_cons_zero]); go_simp <;> with_reducible rfl)
                  try simp only [List.getElem_toArray, List.getElem_cons_succ, List.getElem_cons_zero, Act.put, List.setIfInBounds_toArray, List.set_cons_zero, List.set_cons_succ]
                  refine wpAnyH_take (i := 6) (v := ?_) rfl (by kernel_rfl) (by kernel_rfl) (by kernel_rfl) (fun _ _ _ h => h) (Or.inl ⟨by rfl, ?_⟩) hHeld ?_
                  rotate_left
                  · (intro w hSw; (try dsimp only at hSw); (try simp only [List.getElem_toArray, List.getElem_cons_succ, List.getElem_cons_zero]); go_simp <;> with_reducible rfl)
                  try simp only [List.getElem_toArray, List.getElem_cons_succ, List.getElem_cons_zero, Act.put, List.setIfInBounds_toArray, List.set_cons_zero, List.set_cons_succ]
                  refine wpAnyH_take (i := 7) (v := ?_) rfl (by kernel_rfl) (by kernel_rfl) (by kernel_rfl) (fun _ _ _ h => h) (Or.inl ⟨by rfl, ?_⟩) hHeld ?_
                  rotate_left
                  · (intro w hSw; (try dsimp only at hSw); (try simp only [List.getElem_toArray, List.getElem_cons_succ, List.getElem_cons_zero]); go_simp <;> with_reducible rfl)
                  try simp only [List.getElem_toArray, List.getElem_cons_succ, List.getElem_cons_zero, Act.put, List.setIfInBounds_toArray, List.set_cons_zero, List.set_cons_succ]
                  refine wpAnyH_take (i := 8) (v := ?_) rfl (by kernel_rfl) (by kernel_rfl) (by kernel_rfl) (fun _ _ _ h => h) (Or.inl ⟨by rfl, ?_⟩) hHeld ?_
                  rotate_left
                  · (intro w hSw; (try dsimp only at hSw); (try simp only [List.getElem_toArray, List.getElem_cons_succ, List.getElem_cons_zero]); go_simp <;> with_reducible rfl)
                  try simp only [List.getElem_toArray, List.getElem_cons_succ, List.getElem_cons_zero, Act.put, List.setIfInBounds_toArray, List.set_cons_zero, List.set_cons_succ]
                  refine wpAnyH_take (i := 9) (v := ?_) rfl (by kernel_rfl) (by kernel_rfl) (by kernel_rfl) (fun _ _ _ h => h) (Or.inl ⟨by rfl, ?_⟩) hHeld ?_
                  rotate_left
                  · (intro w hSw; (try dsimp only at hSw); (try simp only [List.getElem_toArray, List.getElem_cons_succ, List.getElem_cons_zero]); go_simp <;> with_reducible rfl)
                  try simp only [List.getElem_toArray, List.getElem_cons_succ, List.getElem_cons_zero, Act.put, List.setIfInBounds_toArray, List.set_cons_zero, List.set_cons_succ]
                  refine wpAnyH_take (i := 10) (v := ?_) rfl (by kernel_rfl) (by kernel_rfl) (by kernel_rfl) (fun _ _ _ h => h) (Or.inl ⟨by rfl, ?_⟩) hHeld ?_
                  rotate_left
                  · (intro w hSw; (try dsimp only at hSw); (try simp only [List.getElem_toArray, List.getElem_cons_succ, List.getElem_cons_zero]); go_simp <;> with_reducible rfl)
                  try simp only [List.getElem_toArray, List.getElem_cons_succ, List.getElem_cons_zero, Act.put, List.setIfInBounds_toArray, List.set_cons_zero, List.set_cons_succ]
                  refine wpAnyH_take (i := 11) (v := .int .i64 ((m : Int) + 1)) rfl (by kernel_rfl) (by kernel_rfl) (by kernel_rfl) (fun _ _ _ h => h) (Or.inl ⟨by rfl, ?_⟩) hHeld ?_
                  · (intro w hSw; (try dsimp only at hSw); (try simp only [List.getElem_toArray, List.getElem_cons_succ, List.getElem_cons_zero]); go_simp; rw [HWM.out])
                  try simp only [List.getElem_toArray, List.getElem_cons_succ, List.getElem_cons_zero, Act.put, List.setIfInBounds_toArray, List.set_cons_zero, List.set_cons_succ]
                  refine wpAnyH_take (i := 12) (v := .pointer (some ⟨g, (m + 1) * 5, none⟩)) rfl (by kernel_rfl) (by kernel_rfl) (by kernel_rfl) (fun _ _ _ h => h) (Or.inl ⟨by rfl, ?_⟩) hHeld ?_
                  · (intro w hSw; (try dsimp only at hSw); (try simp only [List.getElem_toArray, List.getElem_cons_succ, List.getElem_cons_zero]); go_simp; intro hc; exfalso; omega)
                  try simp only [List.getElem_toArray, List.getElem_cons_succ, List.getElem_cons_zero, Act.put, List.setIfInBounds_toArray, List.set_cons_zero, List.set_cons_succ]
                  refine wpAnyH_take (i := 13) (v := ?_) rfl (by kernel_rfl) (by kernel_rfl) (by kernel_rfl) (fun _ _ _ h => h) (Or.inl ⟨by rfl, ?_⟩) hHeld ?_
                  rotate_left
                  · (intro w hSw; (try dsimp only at hSw); (try simp only [List.getElem_toArray, List.getElem_cons_succ, List.getElem_cons_zero]); go_simp <;> with_reducible rfl)
                  try simp only [List.getElem_toArray, List.getElem_cons_succ, List.getElem_cons_zero, Act.put, List.setIfInBounds_toArray, List.set_cons_zero, List.set_cons_succ]
                  refine wpAnyH_take (i := 16) (v := ?_) rfl (by kernel_rfl) (by kernel_rfl) (by kernel_rfl) (fun _ _ _ h => h) (Or.inl ⟨by rfl, ?_⟩) hHeld ?_
                  rotate_left
                  · (intro w hSw; (try dsimp only at hSw); (try simp only [List.getElem_toArray, List.getElem_cons_succ, List.getElem_cons_zero]); go_simp <;> with_reducible rfl)
                  try simp only [List.getElem_toArray, List.getElem_cons_succ, List.getElem_cons_zero, Act.put, List.setIfInBounds_toArray, List.set_cons_zero, List.set_cons_succ]
                  refine wpAnyH_take (i := 17) (v := ?_) rfl (by kernel_rfl) (by kernel_rfl) (by kernel_rfl) (fun _ _ _ h => h) (Or.inl ⟨by rfl, ?_⟩) hHeld ?_
                  rotate_left
                  · (intro w hSw; (try dsimp only at hSw); (try simp only [List.getElem_toArray, List.getElem_cons_succ, List.getElem_cons_zero]); go_simp <;> with_reducible rfl)
                  try simp only [List.getElem_toArray, List.getElem_cons_succ, List.getElem_cons_zero, Act.put, List.setIfInBounds_toArray, List.set_cons_zero, List.set_cons_succ]
                  refine wpAnyH_take (i := 18) (v := .slice (if oc2 = n then oa2 else Option.map (fun x => x.add (n * 5)) oa2) (m - n) (oc2 - n)) rfl (by kernel_rfl) (by kernel_rfl) (by kernel_rfl) (fun _ _ _ h => h) (Or.inl ⟨by rfl, ?_⟩) hHeld ?_
                  · (intro w hSw; (try dsimp only at hSw); (try simp only [List.getElem_toArray, List.getElem_cons_succ, List.getElem_cons_zero]); go_simp)
                  try simp only [List.getElem_toArray, List.getElem_cons_succ, List.getElem_cons_zero, Act.put, List.setIfInBounds_toArray, List.set_cons_zero, List.set_cons_succ]
                  refine wpAnyH_ready (rs := [0, 14]) (by kernel_rfl) (by simp) ?_
                  refine AllReadyH.cons rfl (fun K hK => ?_) ?_
                  · have HB1 := Lib.hid (show Below we.heap.size we (we.drew.alloc (.cells #[] 29)) from HB9.out.alloc HB9.out.size _)
                    have HP1 := Lib.hid (show PRow (we.drew.alloc (.cells #[] 29)) we.heap.size (fun _ => False) (.slice (some ⟨we.heap.size, 0, none⟩) 0 0) [] from by have h := PRow.made0 (w := we.drew) (base := we.heap.size) HB9.out.size; simpa using h)
                    go_simp
                    refine hK.out _ _ ?_ (fun hHeld => ?_)
                    · exact TCB.out _ HB1.out
                    clear hK K
                    try simp only [List.getElem_toArray, List.getElem_cons_succ, List.getElem_cons_zero, Act.put, List.setIfInBounds_toArray, List.set_cons_zero, List.set_cons_succ]
                    refine wpAnyH_ready (rs := [4, 14]) (by kernel_rfl) (by simp) ?_
                    refine AllReadyH.cons rfl (fun K hK => ?_) ?_
                    · obtain ⟨sm2, hs2⟩ := vsrc_of (RA.out.stay HB1.out)
                      have HS2 := Lib.hid hs2
                      clear hs2
                      have hzc := HB1.out.size
                      refine step_vals rfl _ _ rfl we.heap.size (fun _ => False) F1 _ [] ((upr O).take n) sm2 rfl HP1.out _ rfl HS2.out (fun z hz => ⟨Nat.lt_of_lt_of_le (HFU.out z hz).2 hzc, fun e => by have := (HP1.out.lt z e).1; have := (HFU.out z hz).2; omega⟩) (by simp [upr_len]; omega) hzc ?_
                      intro v2 w2 hrow hg hfr
                      obtain ⟨va2, vn2, vc2, rfl⟩ := hrow.slice3
                      have HP2 := Lib.hid hrow
                      have HB2 := Lib.hid (HB1.out.grown hg hzc (fun x hx => (HP1.out.lt x hx).1))
                      clear hrow hg hfr hzc
                      refine hK.out _ _ ?_ (fun hHeld => ?_)
                      · exact TCB.out _ HB2.out
                      clear hK K
                      try simp only [List.getElem_toArray, List.getElem_cons_succ, List.getElem_cons_zero, Act.put, List.setIfInBounds_toArray, List.set_cons_zero, List.set_cons_succ]
                      refine wpAnyH_ready (rs := [14]) (by kernel_rfl) (by simp) ?_
                      refine AllReadyH.cons rfl (fun K hK => ?_) ?_
                      · have HB3 := Lib.hid (show Below we.heap.size we (w2.alloc (.cells #[.int .i64 x.k, .int .i64 x.n, .int .i64 x.e, .string x.s, .slice ka x.kids.length kc, .int .i64 y.k, .int .i64 y.n, .int .i64 y.e, .string y.s, .slice va y.kids.length vc] 29)) from HB2.out.alloc HB2.out.size _)
                        have HP3 := Lib.hid (HP2.out.stay (show Below w2.heap.size w2 (w2.alloc (.cells #[.int .i64 x.k, .int .i64 x.n, .int .i64 x.e, .string x.s, .slice ka x.kids.length kc, .int .i64 y.k, .int .i64 y.n, .int .i64 y.e, .string y.s, .slice va y.kids.length vc] 29)) from (Below.refl _ _).alloc (Nat.le_refl _) _))
                        have HH3 := Lib.hid (show (w2.alloc (.cells #[.int .i64 x.k, .int .i64 x.n, .int .i64 x.e, .string x.s, .slice ka x.kids.length kc, .int .i64 y.k, .int .i64 y.n, .int .i64 y.e, .string y.s, .slice va y.kids.length vc] 29)).heap[w2.heap.size]? = some (.cells #[.int .i64 x.k, .int .i64 x.n, .int .i64 x.e, .string x.s, .slice ka x.kids.length kc, .int .i64 y.k, .int .i64 y.n, .int .i64 y.e, .string y.s, .slice va y.kids.length vc] 29 (0, 0)) from by have h := heap_alloc_new w2 (.cells #[.int .i64 x.k, .int .i64 x.n, .int .i64 x.e, .string x.s, .slice ka x.kids.length kc, .int .i64 y.k, .int .i64 y.n, .int .i64 y.e, .string y.s, .slice va y.kids.length vc] 29); simpa using h)
                        go_simp
                        refine hK.out _ _ ?_ (fun hHeld => ?_)
                        · exact TCB.out _ HB3.out
                        clear hK K
                        try simp only [List.getElem_toArray, List.getElem_cons_succ, List.getElem_cons_zero, Act.put, List.setIfInBounds_toArray, List.set_cons_zero, List.set_cons_succ]
                        refine wpAnyH_ready (rs := [15]) (by kernel_rfl) (by simp) ?_
                        refine AllReadyH.cons rfl (fun K hK => ?_) ?_
                        · have hs4 := vsrc_blk (w := (w2.alloc (.cells #[.int .i64 x.k, .int .i64 x.n, .int .i64 x.e, .string x.s, .slice ka x.kids.length kc, .int .i64 y.k, .int .i64 y.n, .int .i64 y.e, .string y.s, .slice va y.kids.length vc] 29))) (F := F1) [x, y] [.slice ka x.kids.length kc, .slice va y.kids.length vc] rfl (fun j hj => by rcases (show j = 0 ∨ j = 1 by simp at hj; omega) with rfl | rfl; exact HKW.out; exact HVW.out) (fun j hj => by rcases (show j = 0 ∨ j = 1 by simp at hj; omega) with rfl | rfl; exact KP1.out.stay HB3.out; exact VP1.out.stay HB3.out) _ rfl HH3.out 2 2 rfl
                          have HS4 := Lib.hid hs4
                          clear hs4
                          have hzc := HB3.out.size
                          refine step_vals rfl _ _ rfl we.heap.size (fun z => False ∨ F1 z) F1 _ ([] ++ ((upr O).take n)) [x, y] [.slice ka x.kids.length kc, .slice va y.kids.length vc] rfl HP3.out _ rfl HS4.out (fun z hz => ⟨Nat.lt_of_lt_of_le (HFU.out z hz).2 hzc, fun e => by have := (HP3.out.lt z e).1; have := (HFU.out z hz).2; omega⟩) (by simp [upr_len]; omega) hzc ?_
                          intro v4 w4 hrow hg hfr
                          obtain ⟨va4, vn4, vc4, rfl⟩ := hrow.slice3
                          have HP4 := Lib.hid hrow
                          have HB4 := Lib.hid (HB3.out.grown hg hzc (fun x hx => (HP3.out.lt x hx).1))
                          clear hrow hg hfr hzc
                          refine hK.out _ _ ?_ (fun hHeld => ?_)
                          · exact TCB.out _ HB4.out
                          clear hK K
                          try simp only [List.getElem_toArray, List.getElem_cons_succ, List.getElem_cons_zero, Act.put, List.setIfInBounds_toArray, List.set_cons_zero, List.set_cons_succ]
                          refine wpAnyH_ready (rs := [19]) (by kernel_rfl) (by simp) ?_
                          refine AllReadyH.cons rfl (fun K hK => ?_) ?_
                          · obtain ⟨sm5, hs5⟩ := vsrc_of (RB.out.stay HB4.out)
                            have HS5 := Lib.hid hs5
                            clear hs5
                            have hzc := HB4.out.size
                            refine step_vals rfl _ _ rfl we.heap.size (fun z => (False ∨ F1 z) ∨ F1 z) F1 _ (([] ++ ((upr O).take n)) ++ [x, y]) ((upr O).drop n) sm5 rfl HP4.out _ rfl HS5.out (fun z hz => ⟨Nat.lt_of_lt_of_le (HFU.out z hz).2 hzc, fun e => by have := (HP4.out.lt z e).1; have := (HFU.out z hz).2; omega⟩) (by simp [upr_len]; omega) hzc ?_
                            intro v5 w5 hrow hg hfr
                            obtain ⟨va5, vn5, vc5, rfl⟩ := hrow.slice3
                            have HP5 := Lib.hid hrow
                            have HB5 := Lib.hid (HB4.out.grown hg hzc (fun x hx => (HP4.out.lt x hx).1))
                            clear hrow hg hfr hzc
                            refine hK.out _ _ ?_ (fun hHeld => ?_)
                            · exact TCB.out _ HB5.out
                            clear hK K
                            try simp only [List.getElem_toArray, List.getElem_cons_succ, List.getElem_cons_zero, Act.put, List.setIfInBounds_toArray, List.set_cons_zero, List.set_cons_succ]
                            refine wpAnyH_take (i := 20) (v := ?_) rfl (by kernel_rfl) (by kernel_rfl) (by kernel_rfl) (fun _ _ _ h => h) (Or.inl ⟨by rfl, ?_⟩) hHeld ?_
                            rotate_left
                            · (intro w hSw; (try dsimp only at hSw); (try simp only [List.getElem_toArray, List.getElem_cons_succ, List.getElem_cons_zero]); go_simp <;> with_reducible rfl)
                            try simp only [List.getElem_toArray, List.getElem_cons_succ, List.getElem_cons_zero, Act.put, List.setIfInBounds_toArray, List.set_cons_zero, List.set_cons_succ]
                            refine wpAnyH_done (by kernel_rfl) ?_ _
                            have FIN := Lib.hid (FR.out _ _ _ _ HP5.out HB5.out)
                            go_wp2_with fail
                            go_roundw
                            case rel => exact FIN.out
                            case measure => simp [intOf]; omega
                          exact AllReadyH.nil
                        exact AllReadyH.nil
                      exact AllReadyH.nil
                    refine AllReadyH.cons rfl (fun K hK => ?_) ?_
                    · have HB6 := Lib.hid (show Below we.heap.size we ((we.drew.alloc (.cells #[] 29)).alloc (.cells #[.int .i64 x.k, .int .i64 x.n, .int .i64 x.e, .string x.s, .slice ka x.kids.length kc, .int .i64 y.k, .int .i64 y.n, .int .i64 y.e, .string y.s, .slice va y.kids.length vc] 29)) from HB1.out.alloc HB1.out.size _)
                      have HP6 := Lib.hid (HP1.out.stay (show Below (we.drew.alloc (.cells #[] 29)).heap.size (we.drew.alloc (.cells #[] 29)) ((we.drew.alloc (.cells #[] 29)).alloc (.cells #[.int .i64 x.k, .int .i64 x.n, .int .i64 x.e, .string x.s, .slice ka x.kids.length kc, .int .i64 y.k, .int .i64 y.n, .int .i64 y.e, .string y.s, .slice va y.kids.length vc] 29)) from (Below.refl _ _).alloc (Nat.le_refl _) _))
                      have HH6 := Lib.hid (show ((we.drew.alloc (.cells #[] 29)).alloc (.cells #[.int .i64 x.k, .int .i64 x.n, .int .i64 x.e, .string x.s, .slice ka x.kids.length kc, .int .i64 y.k, .int .i64 y.n, .int .i64 y.e, .string y.s, .slice va y.kids.length vc] 29)).heap[we.heap.size + 1]? = some (.cells #[.int .i64 x.k, .int .i64 x.n, .int .i64 x.e, .string x.s, .slice ka x.kids.length kc, .int .i64 y.k, .int .i64 y.n, .int .i64 y.e, .string y.s, .slice va y.kids.length vc] 29 (0, 0)) from by have h := heap_alloc_new (we.drew.alloc (.cells #[] 29)) (.cells #[.int .i64 x.k, .int .i64 x.n, .int .i64 x.e, .string x.s, .slice ka x.kids.length kc, .int .i64 y.k, .int .i64 y.n, .int .i64 y.e, .string y.s, .slice va y.kids.length vc] 29); simpa using h)
                      go_simp
                      refine hK.out _ _ ?_ (fun hHeld => ?_)
                      · exact TCB.out _ HB6.out
                      clear hK K
                      try simp only [List.getElem_toArray, List.getElem_cons_succ, List.getElem_cons_zero, Act.put, List.setIfInBounds_toArray, List.set_cons_zero, List.set_cons_succ]
                      refine wpAnyH_ready (rs := [4]) (by kernel_rfl) (by simp) ?_
                      refine AllReadyH.cons rfl (fun K hK => ?_) ?_
                      · obtain ⟨sm7, hs7⟩ := vsrc_of (RA.out.stay HB6.out)
                        have HS7 := Lib.hid hs7
                        clear hs7
                        have hzc := HB6.out.size
                        refine step_vals rfl _ _ rfl we.heap.size (fun _ => False) F1 _ [] ((upr O).take n) sm7 rfl HP6.out _ rfl HS7.out (fun z hz => ⟨Nat.lt_of_lt_of_le (HFU.out z hz).2 hzc, fun e => by have := (HP6.out.lt z e).1; have := (HFU.out z hz).2; omega⟩) (by simp [upr_len]; omega) hzc ?_
                        intro v7 w7 hrow hg hfr
                        obtain ⟨va7, vn7, vc7, rfl⟩ := hrow.slice3
                        have HP7 := Lib.hid hrow
                        have HB7 := Lib.hid (HB6.out.grown hg hzc (fun x hx => (HP6.out.lt x hx).1))
                        have HH7 := Lib.hid ((hg.block (we.heap.size + 1) (lt_of_heap HH6.out) (fun e => by have e2 := Option.some.inj (show some (we.heap.size + 1) = some (we.heap.size) from e); omega)).trans HH6.out)
                        clear hrow hg hfr hzc
                        refine hK.out _ _ ?_ (fun hHeld => ?_)
                        · exact TCB.out _ HB7.out
                        clear hK K
                        try simp only [List.getElem_toArray, List.getElem_cons_succ, List.getElem_cons_zero, Act.put, List.setIfInBounds_toArray, List.set_cons_zero, List.set_cons_succ]
                        refine wpAnyH_ready (rs := [15]) (by kernel_rfl) (by simp) ?_
                        refine AllReadyH.cons rfl (fun K hK => ?_) ?_
                        · have hs8 := vsrc_blk (w := w7) (F := F1) [x, y] [.slice ka x.kids.length kc, .slice va y.kids.length vc] rfl (fun j hj => by rcases (show j = 0 ∨ j = 1 by simp at hj; omega) with rfl | rfl; exact HKW.out; exact HVW.out) (fun j hj => by rcases (show j = 0 ∨ j = 1 by simp at hj; omega) with rfl | rfl; exact KP1.out.stay HB7.out; exact VP1.out.stay HB7.out) _ rfl HH7.out 2 2 rfl
                          have HS8 := Lib.hid hs8
                          clear hs8
                          have hzc := HB7.out.size
                          refine step_vals rfl _ _ rfl we.heap.size (fun z => False ∨ F1 z) F1 _ ([] ++ ((upr O).take n)) [x, y] [.slice ka x.kids.length kc, .slice va y.kids.length vc] rfl HP7.out _ rfl HS8.out (fun z hz => ⟨Nat.lt_of_lt_of_le (HFU.out z hz).2 hzc, fun e => by have := (HP7.out.lt z e).1; have := (HFU.out z hz).2; omega⟩) (by simp [upr_len]; omega) hzc ?_
                          intro v8 w8 hrow hg hfr
                          obtain ⟨va8, vn8, vc8, rfl⟩ := hrow.slice3
                          have HP8 := Lib.hid hrow
                          have HB8 := Lib.hid (HB7.out.grown hg hzc (fun x hx => (HP7.out.lt x hx).1))
                          clear hrow hg hfr hzc
                          refine hK.out _ _ ?_ (fun hHeld => ?_)
                          · exact TCB.out _ HB8.out
                          clear hK K
                          try simp only [List.getElem_toArray, List.getElem_cons_succ, List.getElem_cons_zero, Act.put, List.setIfInBounds_toArray, List.set_cons_zero, List.set_cons_succ]
                          refine wpAnyH_ready (rs := [19]) (by kernel_rfl) (by simp) ?_
                          refine AllReadyH.cons rfl (fun K hK => ?_) ?_
                          · obtain ⟨sm9, hs9⟩ := vsrc_of (RB.out.stay HB8.out)
                            have HS9 := Lib.hid hs9
                            clear hs9
                            have hzc := HB8.out.size
                            refine step_vals rfl _ _ rfl we.heap.size (fun z => (False ∨ F1 z) ∨ F1 z) F1 _ (([] ++ ((upr O).take n)) ++ [x, y]) ((upr O).drop n) sm9 rfl HP8.out _ rfl HS9.out (fun z hz => ⟨Nat.lt_of_lt_of_le (HFU.out z hz).2 hzc, fun e => by have := (HP8.out.lt z e).1; have := (HFU.out z hz).2; omega⟩) (by simp [upr_len]; omega) hzc ?_
                            intro v9 w9 hrow hg hfr
                            obtain ⟨va9, vn9, vc9, rfl⟩ := hrow.slice3
                            have HP9 := Lib.hid hrow
                            have HB9 := Lib.hid (HB8.out.grown hg hzc (fun x hx => (HP8.out.lt x hx).1))
                            clear hrow hg hfr hzc
                            refine hK.out _ _ ?_ (fun hHeld => ?_)
                            · exact TCB.out _ HB9.out
                            clear hK K
                            try simp only [List.getElem_toArray, List.getElem_cons_succ, List.getElem_cons_zero, Act.put, List.setIfInBounds_toArray, List.set_cons_zero, List.set_cons_succ]
                            refine wpAnyH_take (i := 20) (v := ?_) rfl (by kernel_rfl) (by kernel_rfl) (by kernel_rfl) (fun _ _ _ h => h) (Or.inl ⟨by rfl, ?_⟩) hHeld ?_
                            rotate_left
                            · (intro w hSw; (try dsimp only at hSw); (try simp only [List.getElem_toArray, List.getElem_cons_succ, List.getElem_cons_zero]); go_simp <;> with_reducible rfl)
                            try simp only [List.getElem_toArray, List.getElem_cons_succ, List.getElem_cons_zero, Act.put, List.setIfInBounds_toArray, List.set_cons_zero, List.set_cons_succ]
                            refine wpAnyH_done (by kernel_rfl) ?_ _
                            have FIN := Lib.hid (FR.out _ _ _ _ HP9.out HB9.out)
                            go_wp2_with fail
                            go_roundw
                            case rel => exact FIN.out
                            case measure => simp [intOf]; omega
                          exact AllReadyH.nil
                        exact AllReadyH.nil
                      exact AllReadyH.nil
                    exact AllReadyH.nil
                  refine AllReadyH.cons rfl (fun K hK => ?_) ?_
                  · have HB10 := Lib.hid (show Below we.heap.size we (we.drew.alloc (.cells #[.int .i64 x.k, .int .i64 x.n, .int .i64 x.e, .string x.s, .slice ka x.kids.length kc, .int .i64 y.k, .int .i64 y.n, .int .i64 y.e, .string y.s, .slice va y.kids.length vc] 29)) from HB9.out.alloc HB9.out.size _)
                    have HH10 := Lib.hid (show (we.drew.alloc (.cells #[.int .i64 x.k, .int .i64 x.n, .int .i64 x.e, .string x.s, .slice ka x.kids.length kc, .int .i64 y.k, .int .i64 y.n, .int .i64 y.e, .string y.s, .slice va y.kids.length vc] 29)).heap[we.heap.size]? = some (.cells #[.int .i64 x.k, .int .i64 x.n, .int .i64 x.e, .string x.s, .slice ka x.kids.length kc, .int .i64 y.k, .int .i64 y.n, .int .i64 y.e, .string y.s, .slice va y.kids.length vc] 29 (0, 0)) from by have h := heap_alloc_new we.drew (.cells #[.int .i64 x.k, .int .i64 x.n, .int .i64 x.e, .string x.s, .slice ka x.kids.length kc, .int .i64 y.k, .int .i64 y.n, .int .i64 y.e, .string y.s, .slice va y.kids.length vc] 29); simpa using h)
                    go_simp
                    refine hK.out _ _ ?_ (fun hHeld => ?_)
                    · exact TCB.out _ HB10.out
                    clear hK K
                    try simp only [List.getElem_toArray, List.getElem_cons_succ, List.getElem_cons_zero, Act.put, List.setIfInBounds_toArray, List.set_cons_zero, List.set_cons_succ]
                    refine wpAnyH_ready (rs := [0]) (by kernel_rfl) (by simp) ?_
                    refine AllReadyH.cons rfl (fun K hK => ?_) ?_
                    · have HB11 := Lib.hid (show Below we.heap.size we ((we.drew.alloc (.cells #[.int .i64 x.k, .int .i64 x.n, .int .i64 x.e, .string x.s, .slice ka x.kids.length kc, .int .i64 y.k, .int .i64 y.n, .int .i64 y.e, .string y.s, .slice va y.kids.length vc] 29)).alloc (.cells #[] 29)) from HB10.out.alloc HB10.out.size _)
                      have HP11 := Lib.hid (show PRow ((we.drew.alloc (.cells #[.int .i64 x.k, .int .i64 x.n, .int .i64 x.e, .string x.s, .slice ka x.kids.length kc, .int .i64 y.k, .int .i64 y.n, .int .i64 y.e, .string y.s, .slice va y.kids.length vc] 29)).alloc (.cells #[] 29)) we.heap.size (fun _ => False) (.slice (some ⟨we.heap.size + 1, 0, none⟩) 0 0) [] from by have h := PRow.made0 (w := (we.drew.alloc (.cells #[.int .i64 x.k, .int .i64 x.n, .int .i64 x.e, .string x.s, .slice ka x.kids.length kc, .int .i64 y.k, .int .i64 y.n, .int .i64 y.e, .string y.s, .slice va y.kids.length vc] 29))) (base := we.heap.size) HB10.out.size; simpa using h)
                      have HH11 := Lib.hid ((Below.heap_alloc (we.drew.alloc (.cells #[.int .i64 x.k, .int .i64 x.n, .int .i64 x.e, .string x.s, .slice ka x.kids.length kc, .int .i64 y.k, .int .i64 y.n, .int .i64 y.e, .string y.s, .slice va y.kids.length vc] 29)) (.cells #[] 29) (we.heap.size) (lt_of_heap HH10.out)).trans HH10.out)
                      go_simp
                      refine hK.out _ _ ?_ (fun hHeld => ?_)
                      · exact TCB.out _ HB11.out
                      clear hK K
                      try simp only [List.getElem_toArray, List.getElem_cons_succ, List.getElem_cons_zero, Act.put, List.setIfInBounds_toArray, List.set_cons_zero, List.set_cons_succ]
                      refine wpAnyH_ready (rs := [4]) (by kernel_rfl) (by simp) ?_
                      refine AllReadyH.cons rfl (fun K hK => ?_) ?_
                      · obtain ⟨sm12, hs12⟩ := vsrc_of (RA.out.stay HB11.out)
                        have HS12 := Lib.hid hs12
                        clear hs12
                        have hzc := HB11.out.size
                        refine step_vals rfl _ _ rfl we.heap.size (fun _ => False) F1 _ [] ((upr O).take n) sm12 rfl HP11.out _ rfl HS12.out (fun z hz => ⟨Nat.lt_of_lt_of_le (HFU.out z hz).2 hzc, fun e => by have := (HP11.out.lt z e).1; have := (HFU.out z hz).2; omega⟩) (by simp [upr_len]; omega) hzc ?_
                        intro v12 w12 hrow hg hfr
                        obtain ⟨va12, vn12, vc12, rfl⟩ := hrow.slice3
                        have HP12 := Lib.hid hrow
                        have HB12 := Lib.hid (HB11.out.grown hg hzc (fun x hx => (HP11.out.lt x hx).1))
                        have HH12 := Lib.hid ((hg.block (we.heap.size) (lt_of_heap HH11.out) (fun e => by have e2 := Option.some.inj (show some (we.heap.size) = some (we.heap.size + 1) from e); omega)).trans HH11.out)
                        clear hrow hg hfr hzc
                        refine hK.out _ _ ?_ (fun hHeld => ?_)
                        · exact TCB.out _ HB12.out
                        clear hK K
                        try simp only [List.getElem_toArray, List.getElem_cons_succ, List.getElem_cons_zero, Act.put, List.setIfInBounds_toArray, List.set_cons_zero, List.set_cons_succ]
                        refine wpAnyH_ready (rs := [15]) (by kernel_rfl) (by simp) ?_
                        refine AllReadyH.cons rfl (fun K hK => ?_) ?_
                        · have hs13 := vsrc_blk (w := w12) (F := F1) [x, y] [.slice ka x.kids.length kc, .slice va y.kids.length vc] rfl (fun j hj => by rcases (show j = 0 ∨ j = 1 by simp at hj; omega) with rfl | rfl; exact HKW.out; exact HVW.out) (fun j hj => by rcases (show j = 0 ∨ j = 1 by simp at hj; omega) with rfl | rfl; exact KP1.out.stay HB12.out; exact VP1.out.stay HB12.out) _ rfl HH12.out 2 2 rfl
                          have HS13 := Lib.hid hs13
                          clear hs13
                          have hzc := HB12.out.size
                          refine step_vals rfl _ _ rfl we.heap.size (fun z => False ∨ F1 z) F1 _ ([] ++ ((upr O).take n)) [x, y] [.slice ka x.kids.length kc, .slice va y.kids.length vc] rfl HP12.out _ rfl HS13.out (fun z hz => ⟨Nat.lt_of_lt_of_le (HFU.out z hz).2 hzc, fun e => by have := (HP12.out.lt z e).1; have := (HFU.out z hz).2; omega⟩) (by simp [upr_len]; omega) hzc ?_
                          intro v13 w13 hrow hg hfr
                          obtain ⟨va13, vn13, vc13, rfl⟩ := hrow.slice3
                          have HP13 := Lib.hid hrow
                          have HB13 := Lib.hid (HB12.out.grown hg hzc (fun x hx => (HP12.out.lt x hx).1))
                          clear hrow hg hfr hzc
                          refine hK.out _ _ ?_ (fun hHeld => ?_)
                          · exact TCB.out _ HB13.out
                          clear hK K
                          try simp only [List.getElem_toArray, List.getElem_cons_succ, List.getElem_cons_zero, Act.put, List.setIfInBounds_toArray, List.set_cons_zero, List.set_cons_succ]
                          refine wpAnyH_ready (rs := [19]) (by kernel_rfl) (by simp) ?_
                          refine AllReadyH.cons rfl (fun K hK => ?_) ?_
                          · obtain ⟨sm14, hs14⟩ := vsrc_of (RB.out.stay HB13.out)
                            have HS14 := Lib.hid hs14
                            clear hs14
                            have hzc := HB13.out.size
                            refine step_vals rfl _ _ rfl we.heap.size (fun z => (False ∨ F1 z) ∨ F1 z) F1 _ (([] ++ ((upr O).take n)) ++ [x, y]) ((upr O).drop n) sm14 rfl HP13.out _ rfl HS14.out (fun z hz => ⟨Nat.lt_of_lt_of_le (HFU.out z hz).2 hzc, fun e => by have := (HP13.out.lt z e).1; have := (HFU.out z hz).2; omega⟩) (by simp [upr_len]; omega) hzc ?_
                            intro v14 w14 hrow hg hfr
                            obtain ⟨va14, vn14, vc14, rfl⟩ := hrow.slice3
                            have HP14 := Lib.hid hrow
                            have HB14 := Lib.hid (HB13.out.grown hg hzc (fun x hx => (HP13.out.lt x hx).1))
                            clear hrow hg hfr hzc
                            refine hK.out _ _ ?_ (fun hHeld => ?_)
                            · exact TCB.out _ HB14.out
                            clear hK K
                            try simp only [List.getElem_toArray, List.getElem_cons_succ, List.getElem_cons_zero, Act.put, List.setIfInBounds_toArray, List.set_cons_zero, List.set_cons_succ]
                            refine wpAnyH_take (i := 20) (v := ?_) rfl (by kernel_rfl) (by kernel_rfl) (by kernel_rfl) (fun _ _ _ h => h) (Or.inl ⟨by rfl, ?_⟩) hHeld ?_
                            rotate_left
                            · (intro w hSw; (try dsimp only at hSw); (try simp only [List.getElem_toArray, List.getElem_cons_succ, List.getElem_cons_zero]); go_simp <;> with_reducible rfl)
                            try simp only [List.getElem_toArray, List.getElem_cons_succ, List.getElem_cons_zero, Act.put, List.setIfInBounds_toArray, List.set_cons_zero, List.set_cons_succ]
                            refine wpAnyH_done (by kernel_rfl) ?_ _
                            have FIN := Lib.hid (FR.out _ _ _ _ HP14.out HB14.out)
                            go_wp2_with fail
                            go_roundw
                            case rel => exact FIN.out
                            case measure => simp [intOf]; omega
                          exact AllReadyH.nil
                        exact AllReadyH.nil
                      exact AllReadyH.nil
                    exact AllReadyH.nil
                  exact AllReadyH.nil
          · have hon : us.length = on := by
              obtain ⟨a', c', e⟩ := HO.out.repF.slice
              injection e with e1 e2 e3
              exact e2.symm
            subst hon
            have hje2 : ps.take j = ps := List.take_of_length_le (by have := HMJ.out; omega)
            rw [hje2] at HO2
            have HO3 := Lib.hid (show SOut (w.heap.size + 2) wb (.slice oa2 on2 oc2) (upr (srtP ps)) from HO2.out)
            have HB3 := Lib.hid (HB.out.trans (HB2.out.mono HB.out.size))
            have hb3 := HB.out.size
            have HX3 := Lib.hid (show Box wb w.heap.size t.k t.n t.e t.s (.slice a t.kids.length cap) 29 from (HB2.out.block w.heap.size (by omega)).trans HX.out)
            have HZ3 := Lib.hid (show Box wb (w.heap.size + 1) 0 0 0 ⟨#[]⟩ (.slice none 0 0) 29 from (HB2.out.block (w.heap.size + 1) (by omega)).trans HZ.out)
            clear x0 x1 x2 x3 x4 xf4
            obtain ⟨x0, x1, x2, x3, x4⟩ := HX3.out.cells
            obtain ⟨z0, z1, z2, z3, z4⟩ := HZ3.out.cells
            have zf0 := HZ3.out.free (i := 0); have zf1 := HZ3.out.free (i := 1); have zf2 := HZ3.out.free (i := 2); have zf3 := HZ3.out.free (i := 3); have zf4 := HZ3.out.free (i := 4)
            have xf4 := HX3.out.free (i := 4)
            clear hje2 HO2 HO HMJ
            have HF := Lib.hid (show SrdRet w R (.returned (.agg #[.int .i64 t.k, .int .i64 t.n, .int .i64 t.e, .string t.s, .slice oa2 on2 oc2])) (set5 (wb.setCell ⟨w.heap.size, 4, none⟩ (.slice oa2 on2 oc2)) (w.heap.size + 1) (.int .i64 t.k) (.int .i64 t.n) (.int .i64 t.e) (.string t.s) (.slice oa2 on2 oc2)) from by
              have hm := HM.out
              rw [hm] at HWF ⊢
              refine ⟨_, rfl, HWF.out, ?_, (Below.setCell HB3.out (Nat.le_refl _) _).trans ((below_set5 _ (w.heap.size + 1) _ _ _ _ _).mono (by omega))⟩
              exact (((HO3.out).repF.keep (by simp) (fun x hx _ => heap_setCell_other _ _ _ _ (show ¬ x = w.heap.size from by have : w.heap.size + 2 ≤ x := hx; omega))).set5 (w.heap.size + 1) (by omega) _ _ _ _ _).mono (fun x hx _ => by have : w.heap.size + 2 ≤ x := hx; omega))
            go_wp2_with fail
            exact bodyPost_ret (v := .agg #[.int .i64 t.k, .int .i64 t.n, .int .i64 t.e, .string t.s, .slice oa2 on2 oc2]) (by simp [results, Tryd.results71, go_sem, z0, z1, z2, z3, z4]) rfl HF.out
      · have t8 : (t.k == 8) = false := by simpa using h8
        have HM : Hid (R = .mk t.k t.n t.e t.s (srtVs t.kids)) := by show _ = _; rw [HRR.out]; exact srt_else h8
        clear h8
        obtain ⟨z0, z1, z2, z3, z4⟩ := HZ.out.cells
        have zf0 := HZ.out.free (i := 0); have zf1 := HZ.out.free (i := 1); have zf2 := HZ.out.free (i := 2); have zf3 := HZ.out.free (i := 3); have zf4 := HZ.out.free (i := 4)
        have xf4 := HX.out.free (i := 4)

        have HF := Lib.hid (show SrdRet w R (.returned (.agg #[.int .i64 t.k, .int .i64 t.n, .int .i64 t.e, .string t.s, .slice oa on oc])) (set5 (wr.setCell ⟨w.heap.size, 4, none⟩ (.slice oa on oc)) (w.heap.size + 1) (.int .i64 t.k) (.int .i64 t.n) (.int .i64 t.e) (.string t.s) (.slice oa on oc)) from by
          have hm := HM.out
          rw [hm] at HWF ⊢
          refine ⟨_, rfl, HWF.out, ?_, (Below.setCell HB.out (Nat.le_refl _) _).trans ((below_set5 _ (w.heap.size + 1) _ _ _ _ _).mono (by omega))⟩
          exact (((HO.out).repF.keep (by simp) (fun x hx _ => heap_setCell_other _ _ _ _ (show ¬ x = w.heap.size from by have : w.heap.size + 2 ≤ x := hx; omega))).set5 (w.heap.size + 1) (by omega) _ _ _ _ _).mono (fun x hx _ => by have : w.heap.size + 2 ≤ x := hx; omega))
        go_wp2_with fail
        exact bodyPost_ret (v := .agg #[.int .i64 t.k, .int .i64 t.n, .int .i64 t.e, .string t.s, .slice oa on oc]) (by simp [results, Tryd.results71, go_sem, z0, z1, z2, z3, z4]) rfl HF.out
end Go.Proofs.YtfjehhdahpbbgaaDoor
namespace Go.Proofs.YtfjehhdahpbbgaaDoor
set_option linter.unusedSimpArgs false
set_option linter.unusedVariables false
set_option maxRecDepth 100000
open Go.RowKit
theorem OwnS.low {w : World} {B B' : Nat} {v : Value} {ts : List V} (h : OwnS w (fun x => B' ≤ x) v ts) (hB : B ≤ B') : OwnS w (fun x => B ≤ x) v ts := h.mono (fun x hx => Nat.le_trans hB hx)
set_option maxHeartbeats 400000 in
theorem copy_value (t : V) (sl : Value) (w : World) (hwf : t.wf) (hsl : ∃ a n c, sl = .slice a n c)
    (hall : ∀ W : World, Below w.heap.size w W → Calls Tryd.prog 101 #[sl] W (ListRet W t.kids)) :
    Calls Tryd.prog 70 #[t.agg sl] w (ValRet w t) := by
  obtain ⟨a0, n0, c0, rfl⟩ := hsl
  have IH := Lib.hid hall; clear hall
  have HP := Lib.hid (show ∀ e w', (∃ sl, e = .returned (t.agg sl) ∧ OwnS w' (fun x => w.heap.size ≤ x) sl t.kids ∧ Below w.heap.size w w') → ValRet w t e w' from fun e w' ⟨sl, h1, h2, h3⟩ => ⟨sl, h1, hwf, h2, h3⟩)
  clear hwf
  unfold V.agg at HP ⊢
  generalize t.k = k at *
  generalize t.n = n at *
  generalize t.e = e at *
  generalize t.s = s at *
  go_enter Tryd.func70, Tryd.ntmps70
  go_wp2_with fail
  refine (IH.out _ (by (repeat' (first | with_reducible exact Below.refl _ _ | with_reducible refine below_alloc ?_ _ ?_ | with_reducible refine Below.setCell ?_ ?_ _ | with_reducible refine Below.drew ?_ | with_reducible refine below_drewN ?_ _ | with_reducible refine below_step ?_ (by assumption) ?_ | with_reducible refine below_mark ?_ (by assumption) ?_)); all_goals (first | omega | (simp; done) | (simp; omega)))).mono ?_
  rintro e1 w1 ⟨v, rfl, ho, hb⟩
  obtain ⟨a, cap, rfl⟩ := ho.slice
  have hz := hb.size
  simp at hz
  obtain ⟨hc, hf⟩ := bcell hb
  have HO := Lib.hid ho; clear ho
  go_wp2_with fail
  refine bodyPost_ret (v := .agg #[.int .i64 k, .int .i64 n, .int .i64 e, .string s, .slice a t.kids.length cap]) (by simp [results, Tryd.results70, go_sem, hc]) rfl (HP.out _ _ ⟨_, rfl, ?_, (by (repeat' (first | with_reducible exact Below.refl _ _ | with_reducible refine below_alloc ?_ _ ?_ | with_reducible refine Below.setCell ?_ ?_ _ | with_reducible refine Below.drew ?_ | with_reducible refine below_drewN ?_ _ | with_reducible refine below_step ?_ (by assumption) ?_ | with_reducible refine below_mark ?_ (by assumption) ?_)); all_goals (first | omega | (simp; done) | (simp; omega)))⟩)
  refine OwnS.mono (F := fun x => w.heap.size + 1 + 1 + 1 ≤ x) ?_ (fun x hx => by omega)
  repeat refine OwnS.set ?_ _ _ (by first | omega | (simp; done) | (simp; omega))
  simpa using HO.out
set_option maxHeartbeats 1000000 in
theorem copy_all (w0 : World) : ∀ (N : Nat) (v : Value) (ts : List V), szs ts ≤ N → RepS w0 v ts → szs ts ≤ 1048576 → ∀ (w : World), Below w0.heap.size w0 w →
    Calls Tryd.prog 101 #[v] w (ListRet w ts) := by
  intro N
  induction N using Nat.strongRecOn with
  | ind N ih =>
  intro v ts hN h hsz w hw
  obtain ⟨a, b, off, cap, rfl, ha, hc, hm, sls, hel⟩ := h.opened
  have hlen := szs_length ts
  have HA := Lib.hid ha; have HE := Lib.hid hel; have HW := Lib.hid hw
  have V1 := Lib.hid (fun (j : Nat) (hj : j < ts.length) (W : World) (hW : Below w0.heap.size w0 W) => copy_value ts[j] (sls j) W (HE.out j hj).2.1 (by obtain ⟨a, c, e⟩ := (HE.out j hj).2.2.slice; exact ⟨a, _, c, e⟩)
    (fun W' hW' => ih (szs ts[j].kids) (by have h1 := szs_mem (List.getElem_mem hj); have h2 := V.sz_eq ts[j]; omega) (sls j) ts[j].kids (Nat.le_refl _) (HE.out j hj).2.2 (by have h1 := szs_mem (List.getElem_mem hj); have h2 := V.sz_eq ts[j]; omega) W' (below_step hW hW' (Nat.le_refl _))))
  clear ih h hel ha hc hm hN
  have R0 := Lib.hid (VRows.made0 (w := w.alloc (.cells #[] 29)) (base := w.heap.size) (Nat.le_refl _) (heap_alloc_new w (.cells #[] 29)))
  go_enter Tryd.func101, Tryd.ntmps101
  go_wp2_with fail
  go_loopw [3, 4] (fun o i wr => ∃ (k : Nat) (G : Nat → Prop), k ≤ ts.length ∧ i = .int .i64 k ∧ VRows wr w.heap.size 29 G o (ts.take k) ∧ Below w.heap.size w wr) (fun _ i _ => ts.length + 1 - (intOf i).toNat)
  case atStart => exact ⟨0, _, by omega, rfl, R0.out, (by (repeat' (first | with_reducible exact Below.refl _ _ | with_reducible refine below_alloc ?_ _ ?_ | with_reducible refine Below.setCell ?_ ?_ _ | with_reducible refine Below.drew ?_ | with_reducible refine below_drewN ?_ _ | with_reducible refine below_step ?_ (by assumption) ?_ | with_reducible refine below_mark ?_ (by assumption) ?_)); all_goals (first | omega | (simp; done) | (simp; omega)))⟩
  case round =>
    obtain ⟨k, G, hk, rfl, hrow, hbl⟩ := hrel
    have HROW := Lib.hid hrow; clear hrow
    by_cases hlt : k < ts.length
    · have hne : ts ≠ [] := by intro e; rw [e] at hlt; simp at hlt
      obtain ⟨rfl, hbw⟩ := HA.out hne
      have HWR := Lib.hid (HW.out.trans (hbl.mono HW.out.size))
      obtain ⟨c0, c1, c2, c3, c4⟩ := (HE.out k hlt).1.keep (HWR.out.block b hbw)
      have VJ := Lib.hid (fun (W : World) (hW : Below wr.heap.size wr W) => V1.out k hlt W (below_step HWR.out hW (by have := HWR.out.size; omega)))
      have HT := Lib.hid (show ts.take (k + 1) = ts.take k ++ [ts[k]] from List.take_succ_eq_append_getElem hlt)
      have HLEN := Lib.hid (show (ts.take k).length ≤ 1048576 by rw [List.length_take]; omega)
      obtain ⟨a3, cap3, hs3⟩ := (HE.out k hlt).2.2.slice
      rw [hs3] at c4 VJ
      clear hs3
      have HG := Lib.hid hbl.size
      have hz9 := hbl.size
      unfold V.agg at VJ
      generalize hgn : ts[k] = tk at *
      generalize ts.take k = L at *
      go_wp2_with fail
      refine (VJ.out _ (Below.refl _ _)).mono ?_
      rintro x w1 ⟨s2, rfl, twf, ho, hb1⟩
      obtain ⟨sa, sn, sc, rfl⟩ : ∃ sa sn sc, s2 = .slice sa sn sc := by obtain ⟨p, q, e⟩ := ho.slice; exact ⟨p, _, q, e⟩
      unfold V.agg
      have hz1 := hb1.size
      have HO := Lib.hid ho.bound; clear ho
      have HWF := Lib.hid twf; clear twf
      have B1 := Lib.hid (heap_alloc_new w1 (.cells #[.int .i64 tk.k, .int .i64 tk.n, .int .i64 tk.e, .string tk.s, .slice sa sn sc] 29))
      have R1 := Lib.hid ((HROW.out.keep hb1).keep ((Below.refl _ _).alloc (Nat.le_refl w1.heap.size) (.cells #[.int .i64 tk.k, .int .i64 tk.n, .int .i64 tk.e, .string tk.s, .slice sa sn sc] 29)))
      have O1 := Lib.hid (HO.out.alloc (.cells #[.int .i64 tk.k, .int .i64 tk.n, .int .i64 tk.e, .string tk.s, .slice sa sn sc] 29))
      have HF1 := Lib.hid (show ∀ x, (wr.heap.size ≤ x ∧ x < w1.heap.size) → w.heap.size ≤ x ∧ x < (w1.alloc (.cells #[.int .i64 tk.k, .int .i64 tk.n, .int .i64 tk.e, .string tk.s, .slice sa sn sc] 29)).heap.size ∧ ¬ G x ∧ u3.ownBlock ≠ some x from
        fun x ⟨h1, h2⟩ => ⟨by omega, by simp; omega, fun hG => by have := (HROW.out.inG x hG).2; omega, fun e => by have := (HROW.out.lt x e).2; omega⟩)
      go_wp2_with (at_builtin; refine app_own rfl _ _ rfl w.heap.size G (fun x => wr.heap.size ≤ x ∧ x < w1.heap.size) _ L rfl R1.out tk (.slice sa sn sc) w1.heap.size rfl B1.out HWF.out O1.out HF1.out (by have := HLEN.out; omega) (by simp; omega) ?_; intro v2 w2 hrow2 hg2 hfr2; have HR2 := Lib.hid hrow2; have HG2 := Lib.hid hg2; clear hrow2 hg2 hfr2)
      go_roundw
      case rel => exact ⟨k + 1, _, by omega, by go_num, by rw [HT.out]; exact HR2.out, Below.grown ((by (repeat' (first | with_reducible exact Below.refl _ _ | with_reducible refine below_alloc ?_ _ ?_ | with_reducible refine Below.setCell ?_ ?_ _ | with_reducible refine Below.drew ?_ | with_reducible refine below_drewN ?_ _ | with_reducible refine below_step ?_ (by assumption) ?_ | with_reducible refine below_mark ?_ (by assumption) ?_)); all_goals (first | omega | (simp; done) | (simp; omega)))) HG2.out (by simp; omega) (fun x hx => (HROW.out.lt x hx).1)⟩
      case measure => simp [intOf]; omega
    · have H := Lib.hid (show ts.take k = ts from List.take_of_length_le (by omega))
      go_wp2_with fail
      go_ret
      exact ⟨_, rfl, by have := HROW.out.own; rwa [H.out] at this, hbl⟩
theorem copy_any (w0 : World) (v : Value) (t : V) (h : Rep w0 v t) (hsz : t.sz ≤ 1048576) (w : World) (hw : Below w0.heap.size w0 w) : Calls Tryd.prog 70 #[v] w (ValRet w t) := by
  obtain ⟨sl, rfl, hwf, hr⟩ := h
  exact copy_value t sl w hwf (by obtain ⟨a, c, e⟩ := hr.slice; exact ⟨a, _, c, e⟩) (fun W hW => copy_all w0 _ sl t.kids (Nat.le_refl _) hr (by have := V.sz_eq t; omega) W (hw.trans (hW.mono hw.size)))
theorem VRows.made0c {w : World} {base b cap : Nat} {E : TypeId} {cur : Array Value} (hb : base ≤ b) (h : w.heap[b]? = some (.cells cur E (0, 0))) (hc : cur.size = cap * 5) (hm : cap ≤ maxLen) : VRows w base E (fun _ => False) (.slice (some ⟨b, 0, none⟩) 0 cap) [] := by
  refine ⟨[], fun _ _ => False, ⟨?_, rfl, by simp, by simp, by simp, by simp, by simp, by simp⟩⟩
  exact ⟨rfl, .inr ⟨b, cap, cur, rfl, hb, h, Nat.zero_le _, hm, hc, by simp [flat]⟩⟩
set_option maxHeartbeats 1000000 in
theorem own_all (w0 : World) : ∀ (N : Nat) (v : Value) (t : V), t.sz < N → Rep w0 v t → t.sz ≤ 1048576 → ∀ (w : World), Below w0.heap.size w0 w →
    Calls Tryd.prog 65 #[v] w (ValRet w t) := by
  intro N
  induction N with
  | zero => intro v t h; omega
  | succ N ih =>
  intro v t hN h hsz w hw
  obtain ⟨sl, rfl, hwf, hr⟩ := h
  have hts := V.sz_eq t
  have HP := Lib.hid (show ∀ e w', (∃ sl, e = .returned (t.agg sl) ∧ OwnS w' (fun x => w.heap.size ≤ x) sl t.kids ∧ Below w.heap.size w w') → ValRet w t e w' from fun e w' ⟨sl, h1, h2, h3⟩ => ⟨sl, h1, hwf, h2, h3⟩)
  obtain ⟨a, b, off, cap, rfl, ha, hc, hm, sls, hel⟩ := hr.opened
  have hlen := szs_length t.kids
  have HA := Lib.hid ha; have HE := Lib.hid hel; have HW := Lib.hid hw
  have V1 := Lib.hid (fun (j : Nat) (hj : j < t.kids.length) (W : World) (hW : Below w0.heap.size w0 W) => ih (t.kids[j].agg (sls j)) t.kids[j] (by have h1 := szs_mem (List.getElem_mem hj); omega) ⟨sls j, rfl, (HE.out j hj).2.1, (HE.out j hj).2.2⟩ (by have h1 := szs_mem (List.getElem_mem hj); omega) W hW)
  have hl : t.kids.length ≤ 1048576 := by omega
  clear ih hel ha hc hm hN hr hwf hlen hts hsz
  unfold V.agg at HP ⊢
  generalize t.k = k at *
  generalize t.n = n at *
  generalize t.e = e at *
  generalize t.s = s at *
  generalize t.kids = ts at *
  obtain ⟨i0, hi, hz0, hz1, hz2⟩ := info_parts info_impl
  have hmk := Lib.hid (fun (W : World) => run_make (P := Tryd.prog) W 27 29 i0 _ Tryd.underlying27 hi hz0 .i64 .i64 0 ts.length (by omega) (by omega) (by rw [hz2]; omega) (by omega))
  rw [hz1] at hmk
  clear hi hz0 hz1 hz2
  by_cases hk0 : ts.length = 0
  · obtain rfl := List.eq_nil_of_length_eq_zero hk0
    clear hmk V1 HE HA
    go_enter Tryd.func65, Tryd.ntmps65
    go_wp2_with fail
    refine bodyPost_ret (v := .agg #[.int .i64 k, .int .i64 n, .int .i64 e, .string s, .slice none 0 0]) (by simp [results, Tryd.results65, go_sem]) rfl (HP.out _ _ ⟨_, rfl, OwnS.nil _ _, (by (repeat' (first | with_reducible exact Below.refl _ _ | with_reducible refine below_alloc ?_ _ ?_ | with_reducible refine Below.setCell ?_ ?_ _ | with_reducible refine Below.drew ?_ | with_reducible refine below_drewN ?_ _ | with_reducible refine below_step ?_ (by assumption) ?_ | with_reducible refine below_mark ?_ (by assumption) ?_)); all_goals (first | omega | (simp; done) | (simp; omega)))⟩)
  · have t1 : ((ts.length : Int) == 0) = false := by simp; exact fun e => hk0 (by simp [e])
    have R0 := Lib.hid (VRows.made0c (w := ((w.alloc (.cells #[.int .i64 k, .int .i64 n, .int .i64 e, .string s, .slice a ts.length cap] 29)).alloc (.cells #[.int .i64 0, .int .i64 0, .int .i64 0, .string ⟨#[]⟩, .slice none 0 0] 29)).alloc (.cells (madeCells (Value.agg #[.int .i64 0, .int .i64 0, .int .i64 0, .string ⟨#[]⟩, .slice none 0 0]).cells ((ts.length : Int).toNat * 5)) 29))
      (base := w.heap.size + 1 + 1) (b := w.heap.size + 1 + 1) (cap := ts.length) (Nat.le_refl _) (by
        have := heap_alloc_new ((w.alloc (.cells #[.int .i64 k, .int .i64 n, .int .i64 e, .string s, .slice a ts.length cap] 29)).alloc (.cells #[.int .i64 0, .int .i64 0, .int .i64 0, .string ⟨#[]⟩, .slice none 0 0] 29)) (.cells (madeCells (Value.agg #[.int .i64 0, .int .i64 0, .int .i64 0, .string ⟨#[]⟩, .slice none 0 0]).cells ((ts.length : Int).toNat * 5)) 29)
        rw [show ((w.alloc (.cells #[.int .i64 k, .int .i64 n, .int .i64 e, .string s, .slice a ts.length cap] 29)).alloc (.cells #[.int .i64 0, .int .i64 0, .int .i64 0, .string ⟨#[]⟩, .slice none 0 0] 29)).heap.size = w.heap.size + 1 + 1 by simp] at this
        exact this) (by rw [size_madeCells]; simp) (by simp [maxLen]; omega))
    clear hk0
    go_enter Tryd.func65, Tryd.ntmps65
    have hmk2 := hmk.out
    go_wp2_with fail
    clear hmk2 hmk
    have HBW := Lib.hid (show Below w.heap.size w (((w.alloc (.cells #[.int .i64 k, .int .i64 n, .int .i64 e, .string s, .slice a ts.length cap] 29)).alloc (.cells #[.int .i64 0, .int .i64 0, .int .i64 0, .string ⟨#[]⟩, .slice none 0 0] 29)).alloc (.cells (madeCells (Value.agg #[.int .i64 0, .int .i64 0, .int .i64 0, .string ⟨#[]⟩, .slice none 0 0]).cells ((ts.length : Int).toNat * 5)) 29)) from (by (repeat' (first | with_reducible exact Below.refl _ _ | with_reducible refine below_alloc ?_ _ ?_ | with_reducible refine Below.setCell ?_ ?_ _ | with_reducible refine Below.drew ?_ | with_reducible refine below_drewN ?_ _ | with_reducible refine below_step ?_ (by assumption) ?_ | with_reducible refine below_mark ?_ (by assumption) ?_)); all_goals (first | omega | (simp; done) | (simp; omega))))
    have HZW := Lib.hid (show (((w.alloc (.cells #[.int .i64 k, .int .i64 n, .int .i64 e, .string s, .slice a ts.length cap] 29)).alloc (.cells #[.int .i64 0, .int .i64 0, .int .i64 0, .string ⟨#[]⟩, .slice none 0 0] 29)).alloc (.cells (madeCells (Value.agg #[.int .i64 0, .int .i64 0, .int .i64 0, .string ⟨#[]⟩, .slice none 0 0]).cells ((ts.length : Int).toNat * 5)) 29)).heap.size = w.heap.size + 1 + 1 + 1 by simp)
    have BXW := Lib.hid (((Box.new w k n e s (.slice a ts.length cap) 29).alloc (.cells #[.int .i64 0, .int .i64 0, .int .i64 0, .string ⟨#[]⟩, .slice none 0 0] 29)).alloc (.cells (madeCells (Value.agg #[.int .i64 0, .int .i64 0, .int .i64 0, .string ⟨#[]⟩, .slice none 0 0]).cells ((ts.length : Int).toNat * 5)) 29))
    have BZ0 := (Box.new (w.alloc (.cells #[.int .i64 k, .int .i64 n, .int .i64 e, .string s, .slice a ts.length cap] 29)) 0 0 0 ⟨#[]⟩ (.slice none 0 0) 29).alloc (.cells (madeCells (Value.agg #[.int .i64 0, .int .i64 0, .int .i64 0, .string ⟨#[]⟩, .slice none 0 0]).cells ((ts.length : Int).toNat * 5)) 29)
    rw [show (w.alloc (.cells #[.int .i64 k, .int .i64 n, .int .i64 e, .string s, .slice a ts.length cap] 29)).heap.size = w.heap.size + 1 by simp] at BZ0
    have BZW := Lib.hid BZ0; clear BZ0
    go_loopw [3, 19, 5] (fun o i _ wr => ∃ (j : Nat) (G : Nat → Prop), j ≤ ts.length ∧ i = .int .i64 j ∧ VRows wr (w.heap.size + 1 + 1) 29 G o (ts.take j) ∧ Below (w.heap.size + 1 + 1) (((w.alloc (.cells #[.int .i64 k, .int .i64 n, .int .i64 e, .string s, .slice a ts.length cap] 29)).alloc (.cells #[.int .i64 0, .int .i64 0, .int .i64 0, .string ⟨#[]⟩, .slice none 0 0] 29)).alloc (.cells (madeCells (Value.agg #[.int .i64 0, .int .i64 0, .int .i64 0, .string ⟨#[]⟩, .slice none 0 0]).cells ((ts.length : Int).toNat * 5)) 29)) wr) (fun _ i _ _ => ts.length - (intOf i).toNat)
    case atStart => exact ⟨0, _, by omega, rfl, R0.out, Below.refl _ _⟩
    case round =>
      obtain ⟨j, G, hj, rfl, hrow, hbl⟩ := hrel
      have HROW := Lib.hid hrow; clear hrow
      have HBL := Lib.hid (HBW.out.trans (hbl.mono (by omega)))
      have hz9 := hbl.size
      rw [HZW.out] at hz9
      by_cases hlt : j < ts.length
      · have hne : ts ≠ [] := by intro e; rw [e] at hlt; simp at hlt
        obtain ⟨rfl, hbw⟩ := HA.out hne
        have HWR := Lib.hid (HW.out.trans (HBL.out.mono HW.out.size))
        obtain ⟨c0, c1, c2, c3, c4⟩ := (HE.out j hlt).1.keep (HWR.out.block b hbw)
        have VJ := Lib.hid (fun (W : World) (hW : Below wr.heap.size wr W) => V1.out j hlt W (below_step HWR.out hW (by have := HWR.out.size; omega)))
        have HT := Lib.hid (show ts.take (j + 1) = ts.take j ++ [ts[j]] from List.take_succ_eq_append_getElem hlt)
        have HLEN := Lib.hid (show (ts.take j).length ≤ 1048576 by rw [List.length_take]; omega)
        obtain ⟨a3, cap3, hs3⟩ := (HE.out j hlt).2.2.slice
        rw [hs3] at c4 VJ
        clear hs3 V1
        unfold V.agg at VJ
        generalize ts[j] = tk at *
        generalize ts.take j = L at *
        go_wp2_with fail
        refine (VJ.out _ ((by (repeat' (first | with_reducible exact Below.refl _ _ | with_reducible refine below_alloc ?_ _ ?_ | with_reducible refine Below.setCell ?_ ?_ _ | with_reducible refine Below.drew ?_ | with_reducible refine below_drewN ?_ _ | with_reducible refine below_step ?_ (by assumption) ?_ | with_reducible refine below_mark ?_ (by assumption) ?_)); all_goals (first | omega | (simp; done) | (simp; omega))))).mono ?_
        rintro x w1 ⟨s2, rfl, twf, ho, hb1⟩
        obtain ⟨sa, sn, sc, rfl⟩ : ∃ sa sn sc, s2 = .slice sa sn sc := by obtain ⟨p, q, e⟩ := ho.slice; exact ⟨p, _, q, e⟩
        unfold V.agg
        have hz1 := hb1.size
        simp at hz1
        have HO := Lib.hid ho.bound; clear ho
        have HWF := Lib.hid twf; clear twf
        have B1 := Lib.hid (heap_alloc_new w1 (.cells #[.int .i64 tk.k, .int .i64 tk.n, .int .i64 tk.e, .string tk.s, .slice sa sn sc] 29))
        have R1 := Lib.hid ((HROW.out.keep (show Below wr.heap.size wr w1 from (by (repeat' (first | with_reducible exact Below.refl _ _ | with_reducible refine below_alloc ?_ _ ?_ | with_reducible refine Below.setCell ?_ ?_ _ | with_reducible refine Below.drew ?_ | with_reducible refine below_drewN ?_ _ | with_reducible refine below_step ?_ (by assumption) ?_ | with_reducible refine below_mark ?_ (by assumption) ?_)); all_goals (first | omega | (simp; done) | (simp; omega))))).keep ((Below.refl _ _).alloc (Nat.le_refl w1.heap.size) (.cells #[.int .i64 tk.k, .int .i64 tk.n, .int .i64 tk.e, .string tk.s, .slice sa sn sc] 29)))
        have O1 := Lib.hid ((HO.out.mono (F' := fun x => wr.heap.size ≤ x ∧ x < w1.heap.size) (fun x hx => ⟨by have := hx.1; simp at this; omega, hx.2⟩)).alloc (.cells #[.int .i64 tk.k, .int .i64 tk.n, .int .i64 tk.e, .string tk.s, .slice sa sn sc] 29))
        have HF1 := Lib.hid (show ∀ x, (wr.heap.size ≤ x ∧ x < w1.heap.size) → w.heap.size + 1 + 1 ≤ x ∧ x < (w1.alloc (.cells #[.int .i64 tk.k, .int .i64 tk.n, .int .i64 tk.e, .string tk.s, .slice sa sn sc] 29)).heap.size ∧ ¬ G x ∧ u3.ownBlock ≠ some x from
          fun x ⟨h1, h2⟩ => ⟨by omega, by simp; omega, fun hG => by have := (HROW.out.inG x hG).2; omega, fun e => by have := (HROW.out.lt x e).2; omega⟩)
        go_wp2_with (at_builtin; refine app_own rfl _ _ rfl (w.heap.size + 1 + 1) G (fun x => wr.heap.size ≤ x ∧ x < w1.heap.size) _ L rfl R1.out tk (.slice sa sn sc) w1.heap.size rfl B1.out HWF.out O1.out HF1.out (by have := HLEN.out; omega) (by simp; omega) ?_; intro v2 w2 hrow2 hg2 hfr2; have HR2 := Lib.hid hrow2; have HG2 := Lib.hid hg2; clear hrow2 hg2 hfr2)
        go_roundw
        case rel => exact ⟨j + 1, _, by omega, by go_num, by rw [HT.out]; exact HR2.out, hbl.trans (Below.grown ((by (repeat' (first | with_reducible exact Below.refl _ _ | with_reducible refine below_alloc ?_ _ ?_ | with_reducible refine Below.setCell ?_ ?_ _ | with_reducible refine Below.drew ?_ | with_reducible refine below_drewN ?_ _ | with_reducible refine below_step ?_ (by assumption) ?_ | with_reducible refine below_mark ?_ (by assumption) ?_)); all_goals (first | omega | (simp; done) | (simp; omega)))) HG2.out (by simp; omega) (fun x hx => (HROW.out.lt x hx).1))⟩
        case measure => simp [intOf]; omega
      · have H := Lib.hid (show ts.take j = ts from List.take_of_length_le (by omega))
        obtain ⟨oa, on, oc, rfl⟩ := HROW.out.slice3
        obtain ⟨hc, hf⟩ := bcell hbl
        have HO := Lib.hid (show OwnS wr (fun x => w.heap.size + 1 + 1 ≤ x) (.slice oa on oc) ts by have := HROW.out.own; rwa [H.out] at this)
        obtain ⟨d0, d1, d2, d3, d4⟩ := (show Box wr w.heap.size k n e s (.slice a ts.length cap) 29 from (hbl.block w.heap.size (by omega)).trans (BXW.out)).cells
        obtain ⟨z0, z1, z2, z3, z4⟩ := (show Box wr (w.heap.size + 1) 0 0 0 ⟨#[]⟩ (.slice none 0 0) 29 from (hbl.block (w.heap.size + 1) (by omega)).trans (BZW.out)).cells
        clear H HROW HE HA V1
        go_wp2_with fail
        refine bodyPost_ret (v := .agg #[.int .i64 k, .int .i64 n, .int .i64 e, .string s, .slice oa on oc]) (by simp [results, Tryd.results65, go_sem, z0, z1, z2, z3, z4]) rfl (HP.out _ _ ⟨_, rfl, ?_, ?_⟩)
        · refine OwnS.mono (F := fun x => w.heap.size + 1 + 1 ≤ x) ?_ (fun x hx => by omega)
          repeat refine OwnS.set ?_ _ _ (by first | omega | (simp; done) | (simp; omega))
          exact HO.out
        · repeat' (refine Below.setCell ?_ ?_ _)
          all_goals (first | exact HBL.out | (simp; done) | (simp; omega))
theorem own_any (w0 : World) (v : Value) (t : V) (h : Rep w0 v t) (hsz : t.sz ≤ 1048576) (w : World) (hw : Below w0.heap.size w0 w) : Calls Tryd.prog 65 #[v] w (ValRet w t) :=
  own_all w0 _ v t (Nat.lt_succ_self _) h hsz w hw
end Go.Proofs.YtfjehhdahpbbgaaDoor
namespace Go.Proofs.YtfjehhdahpbbgaaDoor
set_option linter.unusedSimpArgs false
set_option linter.unusedVariables false
set_option maxRecDepth 100000
open Go.RowKit Go.Shelf
abbrev Bld (B b : Nat) (bs : List Value) (w : World) : Prop := Lib.IsBuilderF 85 5 B b bs w
theorem extraB : Builder.Extra Tryd.prog Tryd.laysString_ren where
  sizeBuilder := by kernel_rfl
  liesBuilder := by kernel_rfl
  t5 := Tryd.underlying5
  a5 := Tryd.isAgg5
  z5 := Tryd.sizeOf5
  v5 := Tryd.zeroValue5
  infoByte := by kernel_rfl
  cellsByte := by kernel_rfl
  sizeByte := by kernel_rfl
  neB5 := by decide
def BRet (B b : Nat) (bs : List Value) (w w' : World) : Prop := Bld B b bs w' ∧ Below B w w' ∧ Lib.OthersKept 5 (some b) w w'
theorem String_any (B b : Nat) (l : List UInt8) (w : World) (h : Bld B b (Lib.byteCells l) w) (hBw : B ≤ w.heap.size) :
    Calls Tryd.prog 78 #[.pointer (some ⟨b, 0, none⟩)] w fun e w' => e = .returned (bstr l) ∧ BRet B b (Lib.byteCells l) w w' :=
  Any.Builder_String_any_k Tryd.laysString extraB B b l w h hBw
set_option maxHeartbeats 1000000 in
theorem copyCheck_used (b : Nat) (w : World) (h0 : w.cell? ⟨b, 0, none⟩ = some (.pointer (some ⟨b, 0, none⟩))) :
    Calls Tryd.prog 134 #[.pointer (some ⟨b, 0, none⟩)] w fun e w' => e = .returned (.tuple #[]) ∧ w' = w := by
  obtain ⟨j, hj, _⟩ := Option.map_eq_some_iff.1 extraB.sizeBuilder
  go_enter Tryd.func134, Tryd.ntmps134
  go_wp2_with fail
  rw [Lib.run_neq_ptr_same w _ Tryd.underlying82 hj]
  go_wp2_with fail
  go_end0
  exact ⟨rfl, rfl⟩
set_option maxHeartbeats 1000000 in
theorem copyCheck_fresh (b : Nat) (w : World) (h0 : w.cell? ⟨b, 0, none⟩ = some (.pointer none)) (hsh : w.shape? b = some (85, 2)) (hfz : w.frozen? ⟨b, 0, none⟩ = false) :
    Calls Tryd.prog 134 #[.pointer (some ⟨b, 0, none⟩)] w fun e w' => e = .returned (.tuple #[]) ∧ w' = w.setCell ⟨b, 0, none⟩ (.pointer (some ⟨b, 0, none⟩)) := by
  obtain ⟨j, hj, hjs⟩ := Option.map_eq_some_iff.1 extraB.sizeBuilder
  go_enter Tryd.func134, Tryd.ntmps134
  go_wp2_with fail
  rw [Lib.run_to_unsafe w ⟨b, 0, none⟩ Tryd.underlying82 Tryd.underlying140 hj (by rw [hjs]; decide) hsh (Nat.zero_lt_succ 1)]
  simp only [Result.andThen]
  rw [Oper.upon_value]
  go_wp2_with fail
  rw [run_callFunc_extern Tryd.func147 (by kernel_rfl) (by kernel_rfl) (by kernel_rfl) (e := Extern.AbiNoEscape.same) (by kernel_rfl)]
  rw [Lib.run_noEscape]
  simp only [Result.andThen]
  rw [Oper.upon_value]
  go_wp2_with fail
  rw [Lib.run_from_unsafe w ⟨b, 0, none⟩ Tryd.underlying140 Tryd.underlying82 hj hsh extraB.liesBuilder]
  simp only [Result.andThen]
  rw [Oper.upon_value]
  go_wp2_with fail
  go_end0
  exact ⟨rfl, rfl⟩
theorem copyCheck_any (B b : Nat) (bs : List Value) (w : World) (h : Bld B b bs w) :
    Calls Tryd.prog 134 #[.pointer (some ⟨b, 0, none⟩)] w fun e w' => e = .returned (.tuple #[]) ∧ Lib.BuilderAtF 85 5 B b (.pointer (some ⟨b, 0, none⟩)) bs w' ∧ Below B w w' ∧ Lib.OthersKept 5 (some b) w w' := by
  rcases h with h | h
  · refine (copyCheck_fresh b w h.cell0 h.shape h.frozen0).mono ?_
    rintro e w' ⟨rfl, rfl⟩
    exact ⟨rfl, h.used _, (Below.refl B w).setCell (p := ⟨b, 0, none⟩) h.1 _, (Lib.OthersKept.refl _ _ w).setCell ⟨b, 0, none⟩ rfl _⟩
  · refine (copyCheck_used b w h.cell0).mono ?_
    rintro e w' ⟨rfl, rfl⟩
    exact ⟨rfl, h, Below.refl B _, Lib.OthersKept.refl _ _ _⟩
set_option maxHeartbeats 2000000 in
theorem WriteString_any (B b : Nat) (bs : List Value) (s : ByteArray) (w : World) (h : Bld B b bs w) (hlen : bs.length + s.size ≤ 140737488355328) (hBw : B ≤ w.heap.size) :
    Calls Tryd.prog 111 #[.pointer (some ⟨b, 0, none⟩), .string s] w fun e w' => e = .returned (.tuple #[.int .i64 s.size, .nilIface]) ∧ BRet B b (bs ++ Lib.strCells s) w w' := by
  obtain ⟨i0, hi, hz0, hz1, hz2⟩ := info_parts extraB.infoByte
  have CC := Lib.hid (copyCheck_any B b bs w h)
  go_enter Tryd.func111, Tryd.ntmps111
  go_wp2_with (go_at_call 134; refine CC.out.mono ?_)
  rintro e w1 ⟨rfl, h1, hb1, hk1⟩
  obtain ⟨hB, v, hbk, hown, hne⟩ := h1
  have c0 : w1.cell? ⟨b, 0, none⟩ = some (.pointer (some ⟨b, 0, none⟩)) := by rw [Lib.cell_of_heap hbk]; rfl
  have c1 : w1.cell? ⟨b, 1, none⟩ = some v := by rw [Lib.cell_of_heap hbk]; rfl
  go_wp2_with (at_builtin; refine Lib.wpList_append_own_stringF _ rfl _ _ 83 9 rfl B 5 i0 Tryd.underlying83 Tryd.underlying9 hi hz0 hz1 hz2 _ _ _ rfl hown s rfl ?c3 ?c4 ?c5 ?_)
  case c3 => unfold maxLen; omega
  case c4 => omega
  case c5 => have := hb1.size; omega
  intro v' w2 hown' hgrow _
  have hlt : b < w1.heap.size := by
    rcases Nat.lt_or_ge b w1.heap.size with h' | h'
    · exact h'
    · simp [Array.getElem?_eq_none h'] at hbk
  have hb2 : w2.heap[b]? = some (.cells #[.pointer (some ⟨b, 0, none⟩), v] 85 (0, 0)) := by
    rw [hgrow.block b hlt (fun e => hne e.symm)]
    exact hbk
  have d0 : w2.cell? ⟨b, 0, none⟩ = some (.pointer (some ⟨b, 0, none⟩)) := by rw [Lib.cell_of_heap hb2]; rfl
  have d1 : w2.cell? ⟨b, 1, none⟩ = some v := by rw [Lib.cell_of_heap hb2]; rfl
  have f1 : w2.frozen? ⟨b, 1, none⟩ = false := Lib.frozen_of_heap hb2 1
  obtain ⟨ao, n', cap, rfl⟩ : ∃ ao n' cap, v' = .slice ao n' cap := by
    rcases hown'.2 with ⟨hv, _⟩ | ⟨g, cap, cur, fz, hv, _⟩
    · exact ⟨_, _, _, hv⟩
    · exact ⟨_, _, _, hv⟩
  go_wp2_with fail
  go_ret2
  refine ⟨rfl, .inr ?_, ?_, (hk1.grown hgrow (Lib.ownsRowF_kind hown)).setCell ⟨b, 1, none⟩ rfl _⟩
  · exact Lib.BuilderAtF.put (T := 85) (e := 5) hB hb2 (bs' := bs ++ Lib.strCells s) (by simpa [Lib.strCells_length] using hown') extraB.neB5
  · exact (hb1.grown hgrow (by have := hb1.size; omega) (fun k hk => (hown.lt k hk).1)).setCell (p := ⟨b, 1, none⟩) hB _
end Go.Proofs.YtfjehhdahpbbgaaDoor
namespace Go.Proofs.YtfjehhdahpbbgaaDoor
set_option linter.unusedSimpArgs false
set_option linter.unusedVariables false
set_option maxRecDepth 100000
open Go.RowKit
theorem Bld.lt {B b : Nat} {bs : List Value} {w : World} (h : Bld B b bs w) : b < w.heap.size := h.elim (fun x => x.lt) (fun x => x.lt)
theorem bldAt_stay {B b : Nat} {p : Value} {bs : List Value} {w w' : World} (h : Lib.BuilderAtF 85 5 B b p bs w) (hb : Below w.heap.size w w') : Lib.BuilderAtF 85 5 B b p bs w' := by
  have hlt := h.lt
  obtain ⟨hB, v, hk, hown, hne⟩ := h
  exact ⟨hB, v, (hb.block b hlt).trans hk, hown.kept (row := none) ⟨hb.os, hb.tape, hb.output, hb.size, fun k hk _ => hb.block k hk⟩ (by cases hv : v.ownBlock <;> simp), hne⟩
theorem Bld.stay {B b : Nat} {bs : List Value} {w w' : World} (h : Bld B b bs w) (hb : Below w.heap.size w w') : Bld B b bs w' :=
  h.elim (fun x => .inl (bldAt_stay x hb)) (fun x => .inr (bldAt_stay x hb))
structure Good (B b : Nat) (bs : List Value) (w W : World) : Prop where
  bld : Bld B b bs W
  below : Below B w W
  kept : Lib.OthersKept 5 (some b) w W
theorem Good.stay {B b : Nat} {bs : List Value} {w W w2 : World} (hBw : B ≤ w.heap.size) (hb : Below W.heap.size W w2) (h : Good B b bs w W) : Good B b bs w w2 :=
  ⟨h.bld.stay hb, h.below.trans (hb.mono (Nat.le_trans hBw h.below.size)), fun k o hk h1 h2 => (hb.block k (lt_of_heap (h.kept k o hk h1 h2))).trans (h.kept k o hk h1 h2)⟩
theorem Good.ret {B b : Nat} {bs bs' : List Value} {w W w2 : World} (h : Good B b bs w W) (hr : BRet B b bs' W w2) : Good B b bs' w w2 :=
  ⟨hr.1, h.below.trans hr.2.1, h.kept.trans hr.2.2⟩
theorem str_cells (l : List UInt8) : Lib.strCells ⟨l.toArray⟩ = Lib.byteCells l := rfl
theorem byte_app (l m : List UInt8) : Lib.byteCells (l ++ m) = Lib.byteCells l ++ Lib.byteCells m := by simp [Lib.byteCells]
set_option maxHeartbeats 400000 in
theorem write_good (B b : Nat) (bs : List Value) (w0 : World) (hB0 : B ≤ w0.heap.size) (s : ByteArray) (hlen : bs.length + s.size ≤ 140737488355328) (w : World) (h : Good B b bs w0 w) :
    Calls Tryd.prog 111 #[.pointer (some ⟨b, 0, none⟩), .string s] w fun e w' => e = .returned (.tuple #[.int .i64 s.size, .nilIface]) ∧ Good B b (bs ++ Lib.strCells s) w0 w' :=
  (WriteString_any B b bs s w h.bld hlen (Nat.le_trans hB0 h.below.size)).mono fun e w' ⟨h1, h2⟩ => ⟨h1, h.ret h2⟩
theorem good_box {B b : Nat} {bs : List Value} {w W : World} {k n e : Int} {s : ByteArray} {sl : Value} (hbw : b < w.heap.size) (h : Good B b bs (w.alloc (.cells #[.int .i64 k, .int .i64 n, .int .i64 e, .string s, sl] 29)) W) :
    W.cell? ⟨w.heap.size, 0, none⟩ = some (.int .i64 k) ∧ W.cell? ⟨w.heap.size, 1, none⟩ = some (.int .i64 n) ∧ W.cell? ⟨w.heap.size, 2, none⟩ = some (.int .i64 e) ∧
    W.cell? ⟨w.heap.size, 3, none⟩ = some (.string s) ∧ W.cell? ⟨w.heap.size, 4, none⟩ = some sl :=
  box_cells w k n e s sl 29 (h.kept _ _ (Box.new w k n e s sl 29) (fun e => by injection e with e; omega) (fun c fz e => by injection e with _ e _; exact absurd e (by decide)))
end Go.Proofs.YtfjehhdahpbbgaaDoor
namespace Go.Proofs.YtfjehhdahpbbgaaDoor
set_option linter.unusedSimpArgs false
set_option linter.unusedVariables false
set_option maxRecDepth 100000
open Go.RowKit
end Go.Proofs.YtfjehhdahpbbgaaDoor
namespace Go.Proofs.YtfjehhdahpbbgaaDoor
set_option linter.unusedSimpArgs false
set_option linter.unusedVariables false
set_option maxRecDepth 100000
open Go.RowKit
end Go.Proofs.YtfjehhdahpbbgaaDoor
