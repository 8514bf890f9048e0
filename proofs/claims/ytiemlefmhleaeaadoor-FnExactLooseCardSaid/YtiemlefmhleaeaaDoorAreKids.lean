/- Whether a value's kids are as many as they may be, and keys right: impl.areKids. -/
import Derived.Test.YtiemlefmhleaeaaDoorSame
import Derived.Test.YtiemlefmhleaeaaDoorDec
import Derived.Deep.RegionWith
namespace Go.Proofs.YtiemlefmhleaeaaDoor
set_option linter.unusedVariables false
set_option maxRecDepth 100000
open Go.RowKit
theorem evV_take : ∀ (ts : List V) (i : Nat), i % 2 = 0 → (h : i < ts.length) → evV (ts.take (i + 2)) = evV (ts.take i) ++ [ts[i]]
  | [], i, _, h => by simp at h
  | [t], i, _, h => by
    have : i = 0 := by simp at h; omega
    subst this; simp [evV]
  | t :: u :: ts, 0, _, _ => by simp [evV]
  | t :: u :: ts, 1, h, _ => by omega
  | t :: u :: ts, i + 2, h, hl => by
    have := evV_take ts i (by omega) (by simpa using hl)
    simp only [List.take_succ_cons, evV, this, List.cons_append, List.getElem_cons_succ]
theorem evV_split : ∀ (ts : List V) (i : Nat), i % 2 = 0 → evV ts = evV (ts.take i) ++ evV (ts.drop i)
  | [], i, _ => by simp [evV]
  | [t], 0, _ => by simp [evV]
  | [t], 1, h => by omega
  | [t], i + 2, _ => by simp [evV]
  | t :: u :: ts, 0, _ => by simp [evV]
  | t :: u :: ts, 1, h => by omega
  | t :: u :: ts, i + 2, h => by
    have := evV_split ts i (by omega)
    simp only [List.take_succ_cons, List.drop_succ_cons, evV, this, List.cons_append]
theorem mem_evV_take : ∀ (ts : List V) (i : Nat), i % 2 = 0 → ∀ x, x ∈ evV (ts.take i) ↔ ∃ q, ∃ h : q < ts.length, q < i ∧ q % 2 = 0 ∧ ts[q] = x := by
  intro ts i hi x
  constructor
  · intro h
    induction i using Nat.strongRecOn with
    | ind i ih =>
      by_cases h0 : i = 0
      · subst h0; simp [evV] at h
      · obtain ⟨j, rfl⟩ : ∃ j, i = j + 2 := ⟨i - 2, by omega⟩
        by_cases hl : j < ts.length
        · rw [evV_take ts j (by omega) hl, List.mem_append] at h
          rcases h with h | h
          · obtain ⟨q, hq, h1, h2⟩ := ih j (by omega) (by omega) h
            exact ⟨q, hq, by omega, h2⟩
          · exact ⟨j, hl, by omega, by omega, (List.mem_singleton.1 h).symm⟩
        · have e : ts.take (j + 2) = ts.take j := by rw [List.take_of_length_le (by omega), List.take_of_length_le (by omega)]
          rw [e] at h
          obtain ⟨q, hq, h1, h2⟩ := ih j (by omega) (by omega) h
          exact ⟨q, hq, by omega, h2⟩
  · rintro ⟨q, hq, h1, h2, rfl⟩
    have hq2 : ts[q] ∈ evV (ts.take (q + 2)) := by rw [evV_take ts q h2 hq]; simp
    have := evV_split (ts.take i) (q + 2) (by omega)
    rw [List.take_take, show min (q + 2) i = q + 2 by omega] at this
    rw [this]
    exact List.mem_append_left _ hq2
theorem keysB_append (eq : V → V → Bool) (L M : List V) (h : keysB eq (L ++ M) = true) : keysB eq L = true := by
  unfold keysB at *
  simp only [Bool.and_eq_true, decide_eq_true_eq, List.all_append, List.pairwise_append] at h ⊢
  exact ⟨h.1.1, h.2.1⟩
theorem keysB_snoc (eq : V → V → Bool) (L : List V) (x : V) : keysB eq (L ++ [x]) = (keysB eq L && isKeyB x && L.all fun y => !(eq y x)) := by
  unfold keysB
  rw [Bool.eq_iff_iff]
  simp only [Bool.and_eq_true, decide_eq_true_eq, List.all_append, List.pairwise_append, List.all_cons, List.all_nil, List.mem_singleton, forall_eq, List.pairwise_singleton, List.all_eq_true, Bool.not_eq_true', true_and, and_true]
  constructor
  · rintro ⟨⟨a, b⟩, c, d⟩; exact ⟨⟨⟨a, c⟩, b⟩, d⟩
  · rintro ⟨⟨⟨a, c⟩, b⟩, d⟩; exact ⟨⟨a, b⟩, c, d⟩
/-- a failure stays -/
theorem keysB_stuck (eq : V → V → Bool) (ts : List V) (i : Nat) (hi : i % 2 = 0) (hl : i < ts.length) (h : isKeyB ts[i] = false ∨ ∃ q, ∃ hq : q < ts.length, q < i ∧ q % 2 = 0 ∧ eq ts[q] ts[i] = true) : keysB eq (evV ts) = false := by
  cases hk : keysB eq (evV ts)
  · rfl
  · exfalso
    have h1 := evV_split ts (i + 2) (by omega)
    rw [h1] at hk
    have h2 := keysB_append eq _ _ hk
    rw [evV_take ts i hi hl, keysB_snoc] at h2
    simp only [Bool.and_eq_true, List.all_eq_true, Bool.not_eq_true'] at h2
    rcases h with h | ⟨q, hq, hqi, hq2, he⟩
    · rw [h] at h2; simp at h2
    · have := h2.2 ts[q] ((mem_evV_take ts i hi _).2 ⟨q, hq, hqi, hq2, rfl⟩)
      rw [this] at he; cases he
def eqB (a b : V) : Bool := decide (a = b)
set_option maxHeartbeats 1000000 in
theorem areKids_plain (k n e : Int) (s : ByteArray) (a : Option Addr) (len cap : Nat) (w : World) (hlen : len ≤ 9223372036854775807) (h8 : k ≠ 8) :
    Calls Tryd.prog 191 #[.agg #[.int .i64 k, .int .i64 n, .int .i64 e, .string s, .slice a len cap]] w (BoolRet (if k = 7 then true else if k = 9 then decide (len = 1) else decide (len = 0)) w) := by
  obtain ⟨b, hb⟩ : ∃ b : Bool, b = (if k = 7 then true else if k = 9 then decide (len = 1) else decide (len = 0)) := ⟨_, rfl⟩
  rw [← hb]
  have HB := Lib.hid hb; clear hb
  have t8 : (k == 8) = false := by simpa using h8
  by_cases h7 : k = 7
  · have H := Lib.hid (show b = true by rw [HB.out, if_pos h7])
    have t7 : (k == 7) = true := by simpa using h7
    clear h8 h7 HB
    go_enter Tryd.func191, Tryd.ntmps191
    go_wp2_with fail
    go_ret
    exact ⟨by rw [H.out]; rfl, (by (repeat' (first | with_reducible exact Below.refl _ _ | with_reducible refine below_alloc ?_ _ ?_ | with_reducible refine Below.setCell ?_ ?_ _ | with_reducible refine Below.drew ?_ | with_reducible refine below_drewN ?_ _ | with_reducible refine below_step ?_ (by assumption) ?_ | with_reducible refine below_mark ?_ (by assumption) ?_)); all_goals (first | omega | (simp; done) | (simp; omega)))⟩
  have t7 : (k == 7) = false := by simpa using h7
  by_cases h9 : k = 9
  · have H := Lib.hid (show b = ((len : Int) == 1) by rw [HB.out, if_neg h7, if_pos h9, Bool.eq_iff_iff]; simp; omega)
    have t9 : (k == 9) = true := by simpa using h9
    clear h8 h7 h9 HB
    go_enter Tryd.func191, Tryd.ntmps191
    go_wp2_with fail
    go_ret
    exact ⟨by rw [H.out]; first | rfl | (simp; done), (by (repeat' (first | with_reducible exact Below.refl _ _ | with_reducible refine below_alloc ?_ _ ?_ | with_reducible refine Below.setCell ?_ ?_ _ | with_reducible refine Below.drew ?_ | with_reducible refine below_drewN ?_ _ | with_reducible refine below_step ?_ (by assumption) ?_ | with_reducible refine below_mark ?_ (by assumption) ?_)); all_goals (first | omega | (simp; done) | (simp; omega)))⟩
  have t9 : (k == 9) = false := by simpa using h9
  have H := Lib.hid (show b = ((len : Int) == 0) by rw [HB.out, if_neg h7, if_neg h9, Bool.eq_iff_iff]; simp)
  clear h8 h7 h9 HB
  go_enter Tryd.func191, Tryd.ntmps191
  go_wp2_with fail
  go_ret
  exact ⟨by rw [H.out]; first | rfl | (simp; done), (by (repeat' (first | with_reducible exact Below.refl _ _ | with_reducible refine below_alloc ?_ _ ?_ | with_reducible refine Below.setCell ?_ ?_ _ | with_reducible refine Below.drew ?_ | with_reducible refine below_drewN ?_ _ | with_reducible refine below_step ?_ (by assumption) ?_ | with_reducible refine below_mark ?_ (by assumption) ?_)); all_goals (first | omega | (simp; done) | (simp; omega)))⟩
set_option maxHeartbeats 6000000 in
theorem areKids_map (w0 : World) (n e : Int) (s : ByteArray) (sl : Value) (ts : List V) (hr : RepS w0 sl ts) (w : World) (hw : Below w0.heap.size w0 w) (hlen : ts.length ≤ 1048576) :
    Calls Tryd.prog 191 #[.agg #[.int .i64 8, .int .i64 n, .int .i64 e, .string s, sl]] w (BoolRet (pairsI ts) w) := by
  obtain ⟨b, hb⟩ : ∃ b : Bool, b = pairsI ts := ⟨_, rfl⟩
  rw [← hb]
  have HB := Lib.hid (show b = (keysB eqB (evV ts) && decide (ts.length % 2 = 0)) from hb)
  clear hb
  obtain ⟨a, bb, off, cap, rfl, ha, hc, hm, sls, hel⟩ := hr.opened
  have HA := Lib.hid ha; have HE := Lib.hid hel; have HR := Lib.hid hr
  clear ha hel hr hc hm
  have HW := Lib.hid hw
  have B0 := Lib.hid (Box.new w 8 n e s (.slice a ts.length cap) 28)
  go_enter Tryd.func191, Tryd.ntmps191
  go_wp2_with fail
  generalize hW1 : w.alloc (.cells #[.int .i64 8, .int .i64 n, .int .i64 e, .string s, .slice a ts.length cap] 28) = W1 at *
  have HB1 := Lib.hid (show Below w.heap.size w W1 by rw [← hW1]; exact (Below.refl _ _).alloc (Nat.le_refl _) _)
  have hz1 : w.heap.size + 1 = W1.heap.size := by rw [← hW1]; simp
  have HZ1 := Lib.hid hz1
  clear hW1 hz1
  go_loopw [3, 4] (fun i q wr => ∃ j : Nat, j % 2 = 0 ∧ j ≤ ts.length + 1 ∧ i = .int .i64 j ∧ Hid (keysB eqB (evV (ts.take j)) = true) ∧ Below W1.heap.size W1 wr) (fun i _ _ => ts.length + 2 - (intOf i).toNat)
  case atStart => exact ⟨0, rfl, by omega, rfl, Lib.hid rfl, Below.refl _ _⟩
  case round =>
    obtain ⟨j, hj2, hj, rfl, HN, hbl⟩ := hrel
    obtain ⟨p0, p1, p2, p3, p4⟩ := (B0.out.stay hbl).cells
    by_cases hlt : j < ts.length
    · have hne : ts ≠ [] := by intro e; rw [e] at hlt; simp at hlt
      obtain ⟨rfl, hbw⟩ := HA.out hne
      have HWR := Lib.hid (show Below w0.heap.size w0 wr from HW.out.trans ((HB1.out.mono HW.out.size).trans (hbl.mono (by have := HW.out.size; have := HZ1.out; omega))))
      obtain ⟨c0, c1, c2, c3, c4⟩ := (HE.out j hlt).1.keep (HWR.out.block bb hbw)
      obtain ⟨ak, kcap, hks⟩ := (HE.out j hlt).2.2.slice
      rw [hks] at c4
      have HKJ := Lib.hid (isKey_any ts[j].k ts[j].n ts[j].e ts[j].s (.slice ak ts[j].kids.length kcap) wr)
      have HS := Lib.hid (show keysB eqB (evV (ts.take (j + 2))) = (keysB eqB (evV (ts.take j)) && isKeyB ts[j] && (evV (ts.take j)).all fun y => !(eqB y ts[j])) by rw [evV_take ts j hj2 hlt, keysB_snoc])
      have HST := Lib.hid (keysB_stuck eqB ts j hj2 hlt)
      have HSL := Lib.hid hks
      have hbr : bb < wr.heap.size := Nat.lt_of_lt_of_le hbw HWR.out.size
      clear hks
      cases hkey : isKeyB ts[j]
      · have HX := Lib.hid (show b = false by rw [HB.out, HST.out (.inl hkey)]; rfl)
        have hk' : decide (ts[j].k = 5 ∨ ts[j].k = 3) = false := hkey
        rw [hk'] at HKJ
        clear hkey hk' HS HST HN
        generalize ts[j].k = xk at *
        generalize ts[j].n = xn at *
        generalize ts[j].e = xe at *
        generalize ts[j].s = xs at *
        go_wp2_with fail
        refine HKJ.out.mono ?_
        rintro e1 w1 ⟨rfl, hb1⟩
        go_wp2_with fail
        go_ret
        exact ⟨by rw [HX.out]; rfl, HB1.out.trans ((hbl.trans (hb1.mono hbl.size)).mono (by have := HZ1.out; omega))⟩
      · have hk' : decide (ts[j].k = 5 ∨ ts[j].k = 3) = true := hkey
        rw [hk'] at HKJ
        rw [hkey] at HS
        clear hkey hk'
        have HRJ := Lib.hid (show ∀ W : World, Below wr.heap.size wr W → Rep W (ts[j].agg (.slice ak ts[j].kids.length kcap)) ts[j] from fun W hW => ⟨_, rfl, (HE.out j hlt).2.1, by rw [← HSL.out]; exact ((HE.out j hlt).2.2.keep (HWR.out.trans (hW.mono HWR.out.size)))⟩)
        generalize htj : ts[j] = tj at *
        have HTJ := Lib.hid htj; clear htj
        unfold V.agg at HRJ
        go_wp2_with fail
        refine HKJ.out.mono ?_
        rintro e1 w1 ⟨rfl, hb1⟩
        go_wp2_with fail
        have HW1B := Lib.hid (show Below W1.heap.size W1 w1 from hbl.trans (hb1.mono hbl.size))
        have HW10 := Lib.hid (show Below w0.heap.size w0 w1 from HWR.out.trans (hb1.mono HWR.out.size))
        have HRJ1 := Lib.hid (HRJ.out w1 hb1)
        have BX1 := Lib.hid ((B0.out.stay hbl).stay hb1)
        have HNJ := Lib.hid (show b = (keysB eqB (evV ts) && decide (ts.length % 2 = 0)) from HB.out)
        clear c0 c1 c2 c3 c4 p0 p1 p2 p3 p4 hb1 hbl HKJ HRJ HWR hbr
        go_loopw [4] (fun i w2 => ∃ q : Nat, q % 2 = 0 ∧ q ≤ j + 1 ∧ i = .int .i64 q ∧ Hid (∀ x, (hx : x < q) → (hl : x < ts.length) → x % 2 = 0 → ts[x] ≠ tj) ∧ Below w1.heap.size w1 w2) (fun i _ => j + 2 - (intOf i).toNat)
        case atStart => exact ⟨0, rfl, by omega, rfl, Lib.hid (by omega), Below.refl _ _⟩
        case round =>
          obtain ⟨q, hq2, hqj, rfl, HNE, hbl2⟩ := hrel
          obtain ⟨p0, p1, p2, p3, p4⟩ := (BX1.out.stay hbl2).cells
          by_cases hqlt : q < j
          · have hqts : q < ts.length := by omega
            have HWR2 := Lib.hid (show Below w0.heap.size w0 wr from HW10.out.trans (hbl2.mono HW10.out.size))
            obtain ⟨c0, c1, c2, c3, c4⟩ := (HE.out q hqts).1.keep (HWR2.out.block bb hbw)
            obtain ⟨d0, d1, d2, d3, d4⟩ := (HE.out j hlt).1.keep (HWR2.out.block bb hbw)
            obtain ⟨aq, qcap, hqs⟩ := (HE.out q hqts).2.2.slice
            rw [hqs] at c4
            rw [HSL.out] at d4
            have hRQ : Rep w1 (ts[q].agg (.slice aq ts[q].kids.length qcap)) ts[q] := ⟨_, rfl, (HE.out q hqts).2.1, by rw [← hqs]; exact (HE.out q hqts).2.2.keep HW10.out⟩
            have SM := Lib.hid (fun (W : World) (hW : Below wr.heap.size wr W) => same_any w1 _ _ tj ts[q] HRJ1.out hRQ W (hbl2.trans (hW.mono hbl2.size)))
            have HTQ := Lib.hid (show eqB ts[q] tj = decide (tj = ts[q]) by unfold eqB; rw [decide_eq_decide]; exact eq_comm)
            rw [HTJ.out] at d0 d1 d2 d3
            try simp only [HTJ.out] at d4
            unfold V.agg at SM
            clear hqs hRQ
            have hbr2 : bb < wr.heap.size := Nat.lt_of_lt_of_le hbw HWR2.out.size
            by_cases heq : tj = ts[q]
            · rw [decide_eq_true heq] at SM HTQ
              have HX := Lib.hid (show b = false by rw [HNJ.out, HST.out (.inr ⟨q, hqts, hqlt, hq2, HTQ.out⟩)]; rfl)
              clear heq HST HS HNE HTQ
              go_wp2_with fail
              go_region_with (go_at_call 198; refine (SM.out _ (by (repeat' (first | with_reducible exact Below.refl _ _ | with_reducible refine below_alloc ?_ _ ?_ | with_reducible refine Below.setCell ?_ ?_ _ | with_reducible refine Below.drew ?_ | with_reducible refine below_drewN ?_ _ | with_reducible refine below_step ?_ (by assumption) ?_ | with_reducible refine below_mark ?_ (by assumption) ?_)); all_goals (first | omega | (simp; done) | (simp; omega)))).mono ?_; rintro e3 w3 ⟨rfl, hb3⟩)
              all_goals go_wp2_with fail
              all_goals go_ret
              all_goals exact ⟨by rw [HX.out]; rfl, HB1.out.trans ((HW1B.out.trans (Below.mono (show Below w1.heap.size w1 w3 by exact (by (repeat' (first | with_reducible exact Below.refl _ _ | with_reducible refine below_alloc ?_ _ ?_ | with_reducible refine Below.setCell ?_ ?_ _ | with_reducible refine Below.drew ?_ | with_reducible refine below_drewN ?_ _ | with_reducible refine below_step ?_ (by assumption) ?_ | with_reducible refine below_mark ?_ (by assumption) ?_)); all_goals (first | omega | (simp; done) | (simp; omega)))) HW1B.out.size)).mono (by have := HZ1.out; omega))⟩
            · rw [decide_eq_false heq] at SM
              have HX := Lib.hid (show ∀ x, (hx : x < q + 2) → (hl : x < ts.length) → x % 2 = 0 → ts[x] ≠ tj from fun x hx hl hx2 => by
                by_cases hxq : x < q
                · exact HNE.out x hxq hl hx2
                · have : x = q := by omega
                  subst this; exact fun e => heq e.symm)
              clear heq HNE HTQ
              go_wp2_with fail
              go_region_with (go_at_call 198; refine (SM.out _ (by (repeat' (first | with_reducible exact Below.refl _ _ | with_reducible refine below_alloc ?_ _ ?_ | with_reducible refine Below.setCell ?_ ?_ _ | with_reducible refine Below.drew ?_ | with_reducible refine below_drewN ?_ _ | with_reducible refine below_step ?_ (by assumption) ?_ | with_reducible refine below_mark ?_ (by assumption) ?_)); all_goals (first | omega | (simp; done) | (simp; omega)))).mono ?_; rintro e3 w3 ⟨rfl, hb3⟩)
              all_goals go_wp2_with fail
              all_goals go_roundw
              all_goals first
                | (simp [intOf]; omega)
                | exact ⟨q + 2, by omega, by omega, by go_num, HX, (by (repeat' (first | with_reducible exact Below.refl _ _ | with_reducible refine below_alloc ?_ _ ?_ | with_reducible refine Below.setCell ?_ ?_ _ | with_reducible refine Below.drew ?_ | with_reducible refine below_drewN ?_ _ | with_reducible refine below_step ?_ (by assumption) ?_ | with_reducible refine below_mark ?_ (by assumption) ?_)); all_goals (first | omega | (simp; done) | (simp; omega)))⟩
          · have HX := Lib.hid (show keysB eqB (evV (ts.take (j + 2))) = true by
              rw [HS.out, HN.out, Bool.true_and, Bool.true_and, List.all_eq_true]
              intro y hy
              obtain ⟨x, hx, hxj, hx2, rfl⟩ := (mem_evV_take ts j hj2 y).1 hy
              have := HNE.out x (by omega) hx hx2
              simp only [eqB, Bool.not_eq_true', decide_eq_false_iff_not]
              exact this)
            clear HST HS HNE
            go_wp2_with fail
            go_roundw
            case rel => exact ⟨j + 2, by omega, by omega, by go_num, HX, HW1B.out.trans (hbl2.mono HW1B.out.size)⟩
            case measure => simp [intOf]; omega
    · have HX := Lib.hid (show b = decide (ts.length % 2 = 0) by
        rw [HB.out]
        have h1 := HN.out
        rw [List.take_of_length_le (by omega)] at h1
        rw [h1]; rfl)
      go_wp2_with fail
      go_ret
      exact ⟨by rw [HX.out]; simp; rw [Bool.eq_iff_iff]; simp; omega, HB1.out.trans (hbl.mono (by have := HZ1.out; omega))⟩
theorem areKids_any (w0 : World) (t : V) (sl : Value) (hr : RepS w0 sl t.kids) (hw0 : t.wf) (w : World) (hw : Below w0.heap.size w0 w) (hlen : t.kids.length ≤ 1048576) : Calls Tryd.prog 191 #[t.agg sl] w (BoolRet (areB t) w) := by
  unfold areB V.agg
  by_cases h8 : t.k = 8
  · rw [if_neg (by omega), if_neg (by omega), if_pos h8, h8]
    exact areKids_map w0 t.n t.e t.s sl t.kids hr w hw hlen
  · obtain ⟨a, cap, rfl⟩ := hr.slice
    have := areKids_plain t.k t.n t.e t.s a t.kids.length cap w (by omega) h8
    simp only [if_neg h8]
    exact this
end Go.Proofs.YtiemlefmhleaeaaDoor
