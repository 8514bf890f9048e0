/- Lemmas for the statement of the last text of this claim: texts joined. -/
import Derived.Test.YtgbgeocmjdgmoaaDoorFnMsgK01
import Derived.Test.YtgbgeocmjdgmoaaDoorFnMsgK02
import Derived.Test.YtgbgeocmjdgmoaaDoorFnMsgK03
import Derived.WalkSpells
import Derived.Lib.Hide
import Derived.Deep.RegionWith
import Derived.Deep.DeepCutAuto
import Derived.BigGuard
import Derived.Deep.RegionHeld3
import Derived.Deep.QuietTactic
import Derived.BigQuiet
namespace Go.Proofs.YtgbgeocmjdgmoaaDoor
set_option linter.unusedSimpArgs false
set_option linter.unusedVariables false
set_option maxRecDepth 100000
open Go.RowKit
def PredRet (I J : World → Prop) (e : Ending) (w' : World) : Prop := (e = .returned (.bool false) ∧ I w') ∨ (e = .returned (.bool true) ∧ J w')
def IdxRet (I J : Nat → World → Prop) (n : Nat) (e : Ending) (w' : World) : Prop := (e = .returned (.int .i64 (-1)) ∧ I n w') ∨ ∃ i, i < n ∧ e = .returned (.int .i64 (i : Nat)) ∧ J i w'
def HasRet (I J : Nat → World → Prop) (n : Nat) (e : Ending) (w' : World) : Prop := (e = .returned (.bool false) ∧ I n w') ∨ ∃ i, i < n ∧ e = .returned (.bool true) ∧ J i w'
set_option maxHeartbeats 1000000 in
theorem index2_any (w0 : World) (F : FuncId) (c1 c2 : Value) (hF : ∀ (args : Array Value) (w : World), (callFunc F args).run Tryd.prog w = .ok (.enter F args) w) (v : Value) (ts : List V) (h : RepS w0 v ts) (I J : Nat → World → Prop)
    (hI0 : ∀ i w, I i w → Below w0.heap.size w0 w)
    (hY : ∀ i (hi : i < ts.length) (sl : Value) (w : World), RepS w0 sl ts[i].kids → ts[i].wf → I i w → Calls Tryd.prog F #[ts[i].agg sl, c1, c2] w (PredRet (I (i + 1)) (J i))) (w : World) (hw : I 0 w) :
    Calls Tryd.prog 164 #[v, .func (.func F) #[] #[c1, c2]] w (IdxRet I J ts.length) := by
  obtain ⟨a, b, off, cap, rfl, ha, hc, hm, sls, hel⟩ := h.opened
  have HA := Lib.hid ha; have HE := Lib.hid hel; have HY := Lib.hid hY; have HI := Lib.hid hI0; have HW := Lib.hid hw
  have hl63 : ts.length ≤ 9223372036854775807 := by omega
  have HP1 := Lib.hid (show ∀ w', I ts.length w' → IdxRet I J ts.length (.returned (.int .i64 (-1))) w' from fun w' h => .inl ⟨rfl, h⟩)
  have HP2 := Lib.hid (show ∀ i w', i < ts.length → J i w' → IdxRet I J ts.length (.returned (.int .i64 (i : Nat))) w' from fun i w' h1 h2 => .inr ⟨i, h1, rfl, h2⟩)
  clear ha hel hY hI0 hw hc hm h
  go_enter Tryd.func164, Tryd.ntmps164
  go_wp2_with fail
  go_loopw [8] (fun i wr => ∃ k : Nat, k ≤ ts.length ∧ i = .int .i64 k ∧ Hid (I k wr)) (fun i _ => ts.length - (intOf i).toNat)
  case atStart => exact ⟨0, by omega, rfl, HW⟩
  case round =>
    obtain ⟨k, hk, rfl, HK⟩ := hrel
    by_cases hlt : k < ts.length
    · have hne : ts ≠ [] := by intro e; rw [e] at hlt; simp at hlt
      obtain ⟨rfl, hbw⟩ := HA.out hne
      have HWR := Lib.hid (HI.out k wr HK.out)
      obtain ⟨c0, c1', c2', c3, c4⟩ := (HE.out k hlt).1.keep (HWR.out.block b hbw)
      have Y1 := Lib.hid (HY.out k hlt (sls k) wr (HE.out k hlt).2.2 (HE.out k hlt).2.1 HK.out)
      obtain ⟨a3, cap3, hs3⟩ := (HE.out k hlt).2.2.slice
      rw [hs3] at c4 Y1
      unfold V.agg at Y1
      clear hs3
      generalize ts[k].k = xk at *
      generalize ts[k].n = xn at *
      generalize ts[k].e = xe at *
      generalize ts[k].s = xs at *
      go_wp2_with fail
      refine Y1.out.mono ?_
      rintro e1 w1 hpost
      rcases hpost with ⟨rfl, hi1⟩ | ⟨rfl, hj1⟩
      · have HI1 := Lib.hid hi1; clear hi1
        go_wp2_with fail
        go_roundw
        case rel => exact ⟨k + 1, by omega, by go_num, HI1⟩
        case measure => simp [intOf]; omega
      · have HP := Lib.hid (HP2.out k w1 hlt hj1); clear hj1
        go_wp2_with fail
        go_ret
        exact HP.out
    · have hkl : k = ts.length := by omega
      subst hkl
      have HP := Lib.hid (HP1.out wr HK.out)
      go_wp2_with fail
      go_ret
      exact HP.out
set_option maxHeartbeats 400000 in
theorem has2_any (w0 : World) (F : FuncId) (c1 c2 : Value) (hF : ∀ (args : Array Value) (w : World), (callFunc F args).run Tryd.prog w = .ok (.enter F args) w) (v : Value) (ts : List V) (h : RepS w0 v ts) (I J : Nat → World → Prop)
    (hI0 : ∀ i w, I i w → Below w0.heap.size w0 w)
    (hY : ∀ i (hi : i < ts.length) (sl : Value) (w : World), RepS w0 sl ts[i].kids → ts[i].wf → I i w → Calls Tryd.prog F #[ts[i].agg sl, c1, c2] w (PredRet (I (i + 1)) (J i))) (w : World) (hw : I 0 w) :
    Calls Tryd.prog 106 #[v, .func (.func F) #[] #[c1, c2]] w (HasRet I J ts.length) := by
  have IX := Lib.hid (index2_any w0 F c1 c2 hF v ts h I J hI0 hY w hw)
  obtain ⟨a, b, off, cap, rfl, _⟩ := h.opened
  have HP1 := Lib.hid (show ∀ w', I ts.length w' → HasRet I J ts.length (.returned (.bool false)) w' from fun w' h => .inl ⟨rfl, h⟩)
  have HP2 := Lib.hid (show ∀ i w', i < ts.length → J i w' → HasRet I J ts.length (.returned (.bool true)) w' from fun i w' h1 h2 => .inr ⟨i, h1, rfl, h2⟩)
  clear hI0 hY hw h
  go_enter Tryd.func106, Tryd.ntmps106
  go_wp2_with fail
  refine IX.out.mono ?_
  rintro e1 w1 hpost
  rcases hpost with ⟨rfl, hi1⟩ | ⟨i, hi, rfl, hj1⟩
  · have HP := Lib.hid (HP1.out w1 hi1); clear hi1
    go_wp2_with fail
    go_ret
    exact HP.out
  · have HP := Lib.hid (HP2.out i w1 hi hj1); clear hj1
    have h0 : (0 : Int) ≤ (i : Int) := by omega
    go_wp2_with fail
    go_ret
    exact HP.out
end Go.Proofs.YtgbgeocmjdgmoaaDoor
namespace Go.Proofs.YtgbgeocmjdgmoaaDoor
set_option linter.unusedSimpArgs false
set_option linter.unusedVariables false
set_option maxRecDepth 100000
open Go.RowKit
theorem Box.overB {w w' : World} {B b : Nat} {k n e : Int} {s : ByteArray} {sl : Value} {T : TypeId} (h : Box w b k n e s sl T) (hb : Below B w w') (hB : b < B) : Box w' b k n e s sl T := (hb.block b hB).trans h
def Cell1 (w : World) (c : Nat) (v : Value) (T : TypeId) : Prop := w.heap[c]? = some (.cells #[v] T (0, 0))
theorem Cell1.over {w w' : World} {c : Nat} {v : Value} {T : TypeId} (h : Cell1 w c v T) (hb : w'.heap[c]? = w.heap[c]?) : Cell1 w' c v T := hb.trans h
def oneC (c : Nat) : Nat → Prop := fun x => x = c
def LeftIs (c : Nat) (w w' : World) (L : Int) : Prop := Cell1 w' c (.int .i64 L) 3 ∧ -1 ≤ L ∧ L ≤ 300 ∧ Touch (oneC c) (oneC c) w w'
def IVRet (o : Option Int) (c : Nat) (w : World) (e : Ending) (w' : World) : Prop := e = .returned (.bool o.isSome) ∧ ∃ L', LeftIs c w w' L' ∧ ∀ r, o = some r → L' = r
def IV1Ret (o : Option Int) (c : Nat) (w : World) (e : Ending) (w' : World) : Prop := e = .returned (.bool (!o.isSome)) ∧ ∃ L', LeftIs c w w' L' ∧ ∀ r, o = some r → L' = r
set_option maxHeartbeats 400000 in
theorem isValue1_any (k n e : Int) (s : ByteArray) (sl : Value) (p1 p2 c : Nat) (d : Int) (o : Option Int) (hd0 : 0 ≤ d) (hd1 : d ≤ 20) (w : World) (h1 : Cell1 w p1 (.int .i64 d) 3) (h2 : Cell1 w p2 (.pointer (some ⟨c, 0, none⟩)) 91)
    (hc : c < w.heap.size) (IVH : ∀ W, Below w.heap.size w W → Calls Tryd.prog 96 #[.agg #[.int .i64 k, .int .i64 n, .int .i64 e, .string s, sl], .int .i64 (d + 1), .pointer (some ⟨c, 0, none⟩)] W (IVRet o c W)) :
    Calls Tryd.prog 156 #[.agg #[.int .i64 k, .int .i64 n, .int .i64 e, .string s, sl], .pointer (some ⟨p1, 0, none⟩), .pointer (some ⟨p2, 0, none⟩)] w (IV1Ret o c w) := by
  have d1 := cell_of_one h1
  have d2 := cell_of_one h2
  have l1 := lt_of_heap h1
  have l2 := lt_of_heap h2
  have IV := Lib.hid IVH
  clear h1 h2 IVH
  go_enter Tryd.func156, Tryd.ntmps156
  go_wp2_with fail
  refine (IV.out _ (by (repeat' (first | with_reducible exact Below.refl _ _ | with_reducible refine below_alloc ?_ _ ?_ | with_reducible refine Below.setCell ?_ ?_ _ | with_reducible refine Below.drew ?_ | with_reducible refine below_drewN ?_ _ | with_reducible refine below_step ?_ (by assumption) ?_ | with_reducible refine below_mark ?_ (by assumption) ?_)); all_goals (first | omega | (simp; done) | (simp; omega)))).mono ?_
  rintro x w1 ⟨rfl, L', ⟨hL1, hL2, hL3, hL4⟩, hL5⟩
  have HL := Lib.hid (show ∃ L', LeftIs c w w1 L' ∧ ∀ r, o = some r → L' = r from ⟨L', ⟨hL1, hL2, hL3, Touch.trans (Touch.of_below (A := oneC c) ((by (repeat' (first | with_reducible exact Below.refl _ _ | with_reducible refine below_alloc ?_ _ ?_ | with_reducible refine Below.setCell ?_ ?_ _ | with_reducible refine Below.drew ?_ | with_reducible refine below_drewN ?_ _ | with_reducible refine below_step ?_ (by assumption) ?_ | with_reducible refine below_mark ?_ (by assumption) ?_)); all_goals (first | omega | (simp; done) | (simp; omega))))) hL4⟩, hL5⟩)
  clear hL1 hL2 hL3 hL4 hL5
  go_wp2_with fail
  go_ret
  exact ⟨by cases o <;> rfl, HL.out⟩
theorem enters_isValue1 : ∀ (args : Array Value) (w : World), (callFunc 156 args).run Tryd.prog w = .ok (.enter 156 args) w := by
  intro args w
  have h1 : (Tryd.f156.name == "runtime.NumGoroutine") = false := by kernel_rfl
  have h2 : Tryd.f156.body.isNone = false := by kernel_rfl
  have h1' : ¬ Tryd.f156.name = "runtime.NumGoroutine" := by simpa using h1
  have h2' : ¬ Tryd.f156.body = none := by intro e; rw [e] at h2; cases h2
  simp [callFunc, Tryd.func156, go_sem, h1', h2']
theorem imps_take (ts : List V) (d L : Int) (i : Nat) (h : i < ts.length) : imps (ts.take (i + 1)) d L = (imps (ts.take i) d L).bind fun x => imp ts[i] d x := by
  have app : ∀ (a b : List V) (L : Int), imps (a ++ b) d L = (imps a d L).bind fun x => imps b d x := by
    intro a
    induction a with
    | nil => intro b L; simp [imps]
    | cons t a ih => intro b L; simp only [List.cons_append, imps]; cases imp t d L <;> simp [ih]
  rw [List.take_succ_eq_append_getElem h, app]
  congr 1
  funext x
  simp only [imps]
  cases imp ts[i] d x <;> rfl
theorem imps_none (ts : List V) (d L : Int) (i : Nat) (h : imps (ts.take i) d L = none) : imps ts d L = none := by
  have app : ∀ (a b : List V) (L : Int), imps (a ++ b) d L = (imps a d L).bind fun x => imps b d x := by
    intro a
    induction a with
    | nil => intro b L; simp [imps]
    | cons t a ih => intro b L; simp only [List.cons_append, imps]; cases imp t d L <;> simp [ih]
  have := app (ts.take i) (ts.drop i) L
  rw [List.take_append_drop, h] at this
  exact this
theorem imp_bounds (t : V) (d L r : Int) (hd : 0 ≤ d) (h0 : 0 ≤ L) (h1 : L ≤ 300) (h : imp t d L = some r) : 0 ≤ r ∧ r ≤ 300 := by
  rw [imp_is t d L hd h0 h1] at h
  split at h
  · injection h with h; omega
  · cases h
set_option maxHeartbeats 4000000 in
theorem isValue_all (w0 : World) (hE : Env w0) : ∀ (N : Nat) (v : Value) (ts : List V), szs ts ≤ N → RepS w0 v ts → szs ts ≤ 1048576 → ∀ (u : V), u.kids = ts → u.wf → ∀ (d L : Int) (c : Nat) (w : World), 0 ≤ d → d ≤ 13 → 0 ≤ L → L ≤ 300 → w0.heap.size ≤ c →
    Cell1 w c (.int .i64 L) 3 → Below w0.heap.size w0 w → Calls Tryd.prog 96 #[u.agg v, .int .i64 d, .pointer (some ⟨c, 0, none⟩)] w (IVRet (imp u d L) c w) := by
  intro N
  induction N using Nat.strongRecOn with
  | ind N ih =>
  intro v ts hN hrep hsz u huk uwf d L c w hd0 hd1 hL0 hL1 hc0 hcell hw
  obtain ⟨a, cap, rfl⟩ := hrep.slice
  have hcw := lt_of_heap hcell
  have hlen : ts.length ≤ 1048576 := Nat.le_trans (szs_length ts) hsz
  have HO := Lib.hid (show imp u d L = if impStep u d L then imps ts (d + 1) (L - 1) else none by rw [imp_eq, huk])
  have HS := Lib.hid (show impStep u d L = (decide (0 ≤ L - 1 ∧ d ≤ 12 ∧ (ts.length : Int) ≤ L - 1) && nodeB u && areB u) by unfold impStep; rw [huk])
  have ND := Lib.hid (fun (W : World) (hW : Below w0.heap.size w0 W) => isNode_any u (.slice a ts.length cap) W uwf (hE.keep hW))
  have AK := Lib.hid (fun (W : World) (hW : Below w0.heap.size w0 W) => areKids_any w0 u (.slice a ts.length cap) (by rw [huk]; exact hrep) uwf W hW (by rw [huk]; exact hlen))
  have IH := Lib.hid (show ∀ i (hi : i < ts.length) (sl : Value), RepS w0 sl ts[i].kids → ∀ (d L : Int) (c : Nat) (w : World), 0 ≤ d → d ≤ 13 → 0 ≤ L → L ≤ 300 → w0.heap.size ≤ c → Cell1 w c (.int .i64 L) 3 → Below w0.heap.size w0 w → ts[i].wf → Calls Tryd.prog 96 #[ts[i].agg sl, .int .i64 d, .pointer (some ⟨c, 0, none⟩)] w (IVRet (imp ts[i] d L) c w) from
    fun i hi sl hrs d L c w h1 h2 h3 h4 h5 h6 h7 h8 => by
      have q1 := szs_mem (List.getElem_mem hi); have q2 := V.sz_eq ts[i]
      exact ih (szs ts[i].kids) (by omega) sl ts[i].kids (Nat.le_refl _) hrs (by omega) ts[i] rfl h8 d L c w h1 h2 h3 h4 h5 h6 h7)
  have HREP := Lib.hid hrep; have HSZ := Lib.hid hsz
  clear ih hsz hrep hE
  have HW := Lib.hid hw
  have hws := hw.size
  obtain ⟨o, ho⟩ : ∃ o, o = imp u d L := ⟨_, rfl⟩
  rw [← ho] at HO ⊢
  have HCELL := Lib.hid hcell
  clear ho hw hcell
  unfold V.agg at ND AK ⊢
  generalize nodeB u = nb at *
  generalize areB u = ab at *
  generalize u.k = vk at *
  generalize u.n = vn at *
  generalize u.e = ve at *
  generalize u.s = vs at *
  generalize hW3 : ((w.alloc (.cells #[.int .i64 vk, .int .i64 vn, .int .i64 ve, .string vs, .slice a ts.length cap] 26)).alloc (.cells #[.int .i64 d] 3)).alloc (.cells #[.pointer (some ⟨c, 0, none⟩)] 91) = W3
  have HB3 := Lib.hid (show Below w.heap.size w W3 by rw [← hW3]; exact (by (repeat' (first | with_reducible exact Below.refl _ _ | with_reducible refine below_alloc ?_ _ ?_ | with_reducible refine Below.setCell ?_ ?_ _ | with_reducible refine Below.drew ?_ | with_reducible refine below_drewN ?_ _ | with_reducible refine below_step ?_ (by assumption) ?_ | with_reducible refine below_mark ?_ (by assumption) ?_)); all_goals (first | omega | (simp; done) | (simp; omega))))
  have HX3 := Lib.hid (show Box W3 w.heap.size vk vn ve vs (.slice a ts.length cap) 26 ∧ Cell1 W3 (w.heap.size + 1) (.int .i64 d) 3 ∧ Cell1 W3 (w.heap.size + 1 + 1) (.pointer (some ⟨c, 0, none⟩)) 91 by
    have z1 : (w.alloc (.cells #[.int .i64 vk, .int .i64 vn, .int .i64 ve, .string vs, .slice a ts.length cap] 26)).heap.size = w.heap.size + 1 := by simp
    have z2 : ((w.alloc (.cells #[.int .i64 vk, .int .i64 vn, .int .i64 ve, .string vs, .slice a ts.length cap] 26)).alloc (.cells #[.int .i64 d] 3)).heap.size = w.heap.size + 1 + 1 := by simp
    rw [← hW3]
    refine ⟨((Box.new w vk vn ve vs _ _).alloc _).alloc _, ?_, ?_⟩
    · refine Cell1.over ?_ (heap_alloc_old _ _ (by rw [z2]; omega))
      have := heap_alloc_new (w.alloc (.cells #[.int .i64 vk, .int .i64 vn, .int .i64 ve, .string vs, .slice a ts.length cap] 26)) (.cells #[.int .i64 d] 3)
      rw [z1] at this; exact this
    · have := heap_alloc_new ((w.alloc (.cells #[.int .i64 vk, .int .i64 vn, .int .i64 ve, .string vs, .slice a ts.length cap] 26)).alloc (.cells #[.int .i64 d] 3)) (.cells #[.pointer (some ⟨c, 0, none⟩)] 91)
      rw [z2] at this; exact this)
  have hz3 : W3.heap.size = w.heap.size + 1 + 1 + 1 := by rw [← hW3]; simp
  have HZ3 := Lib.hid hz3
  have dc : (((w.alloc (.cells #[.int .i64 vk, .int .i64 vn, .int .i64 ve, .string vs, .slice a ts.length cap] 26)).alloc (.cells #[.int .i64 d] 3)).alloc (.cells #[.pointer (some ⟨c, 0, none⟩)] 91)).cell? ⟨c, 0, none⟩ = some (.int .i64 L) := by rw [hW3]; exact cell_of_one ((HB3.out.block c hcw).trans HCELL.out)
  have fc : (((w.alloc (.cells #[.int .i64 vk, .int .i64 vn, .int .i64 ve, .string vs, .slice a ts.length cap] 26)).alloc (.cells #[.int .i64 d] 3)).alloc (.cells #[.pointer (some ⟨c, 0, none⟩)] 91)).frozen? ⟨c, 0, none⟩ = false := by rw [hW3]; exact free_of_one ((HB3.out.block c hcw).trans HCELL.out)
  have HW3 := Lib.hid hW3
  clear hW3 hz3
  go_enter Tryd.func96, Tryd.ntmps96
  go_wp2_with fail
  rw [HW3.out]
  clear dc fc
  generalize hW4 : W3.setCell ⟨c, 0, none⟩ (.int .i64 (L - 1)) = W4
  have HC4 := Lib.hid (show Cell1 W4 c (.int .i64 (L - 1)) 3 by
    rw [← hW4]; have := heap_setCell_same W3 c 0 #[.int .i64 L] _ (.int .i64 (L - 1)) ((HB3.out.block c hcw).trans HCELL.out); exact this)
  have ho4 : ∀ x, x ≠ c → W4.heap[x]? = W3.heap[x]? := fun x hx => by rw [← hW4]; exact heap_setCell_other _ _ _ _ hx
  have HX4 := Lib.hid (show Box W4 w.heap.size vk vn ve vs (.slice a ts.length cap) 26 ∧ Cell1 W4 (w.heap.size + 1) (.int .i64 d) 3 ∧ Cell1 W4 (w.heap.size + 1 + 1) (.pointer (some ⟨c, 0, none⟩)) 91 from
    ⟨(ho4 _ (by omega)).trans HX3.out.1, HX3.out.2.1.over (ho4 _ (by omega)), HX3.out.2.2.over (ho4 _ (by omega))⟩)
  have HT4 := Lib.hid (show Touch (oneC c) (oneC c) w W4 from (Touch.of_below HB3.out).trans (by rw [← hW4]; exact touch_cell W3 c 0 _ rfl))
  have HB4 := Lib.hid (show Below w0.heap.size w0 W4 from HW.out.trans ((HT4.out.below (fun x hx => by have h1 : x = c := hx; omega) hws)))
  have hz4 : W4.heap.size = w.heap.size + 1 + 1 + 1 := by rw [← hW4]; simpa using HZ3.out
  clear hW4 ho4 HX3 HB3 HZ3 HW3 HCELL
  -- what is handed back
  have HNO := Lib.hid (show ∀ (W : World), Below W4.heap.size W4 W → o = none → IVRet o c w (.returned (.bool false)) W from fun W hW h => by
    subst h
    exact ⟨rfl, L - 1, ⟨HC4.out.over (hW.block c (by omega)), by omega, by omega, HT4.out.trans (Touch.of_below hW)⟩, fun r h => by cases h⟩)
  obtain ⟨b0, b1, b2, b3, b4⟩ := HX4.out.1.cells
  have e1 := cell_of_one HX4.out.2.1
  have e2 := cell_of_one HX4.out.2.2
  have e3 := cell_of_one HC4.out
  by_cases c1 : L - 1 < 0
  · have H := Lib.hid (HNO.out · · (show o = none by rw [HO.out, HS.out, decide_eq_false (by omega)]; rfl))
    clear HO HS ND AK IH
    go_quiet (fail)
    all_goals go_wp2_with fail
    all_goals go_ret
    all_goals exact H.out _ (by (repeat' (first | with_reducible exact Below.refl _ _ | with_reducible refine below_alloc ?_ _ ?_ | with_reducible refine Below.setCell ?_ ?_ _ | with_reducible refine Below.drew ?_ | with_reducible refine below_drewN ?_ _ | with_reducible refine below_step ?_ (by assumption) ?_ | with_reducible refine below_mark ?_ (by assumption) ?_)); all_goals (first | omega | (simp; done) | (simp; omega)))
  by_cases c2 : 12 < d
  · have H := Lib.hid (HNO.out · · (show o = none by rw [HO.out, HS.out, decide_eq_false (by omega)]; rfl))
    clear HO HS ND AK IH
    go_quiet (fail)
    all_goals go_wp2_with fail
    all_goals go_ret
    all_goals exact H.out _ (by (repeat' (first | with_reducible exact Below.refl _ _ | with_reducible refine below_alloc ?_ _ ?_ | with_reducible refine Below.setCell ?_ ?_ _ | with_reducible refine Below.drew ?_ | with_reducible refine below_drewN ?_ _ | with_reducible refine below_step ?_ (by assumption) ?_ | with_reducible refine below_mark ?_ (by assumption) ?_)); all_goals (first | omega | (simp; done) | (simp; omega)))
  by_cases c3 : L - 1 < ts.length
  · have H := Lib.hid (HNO.out · · (show o = none by rw [HO.out, HS.out, decide_eq_false (by omega)]; rfl))
    clear HO HS ND AK IH
    go_quiet (fail)
    all_goals go_wp2_with fail
    all_goals go_ret
    all_goals exact H.out _ (by (repeat' (first | with_reducible exact Below.refl _ _ | with_reducible refine below_alloc ?_ _ ?_ | with_reducible refine Below.setCell ?_ ?_ _ | with_reducible refine Below.drew ?_ | with_reducible refine below_drewN ?_ _ | with_reducible refine below_step ?_ (by assumption) ?_ | with_reducible refine below_mark ?_ (by assumption) ?_)); all_goals (first | omega | (simp; done) | (simp; omega)))
  cases nb
  case false =>
    have H := Lib.hid (HNO.out · · (show o = none by rw [HO.out, HS.out]; simp))
    clear HO HS AK IH
    go_region_with (go_at_call 154; refine (ND.out _ (below_mark HB4.out (show Below W4.heap.size W4 _ by exact (by (repeat' (first | with_reducible exact Below.refl _ _ | with_reducible refine below_alloc ?_ _ ?_ | with_reducible refine Below.setCell ?_ ?_ _ | with_reducible refine Below.drew ?_ | with_reducible refine below_drewN ?_ _ | with_reducible refine below_step ?_ (by assumption) ?_ | with_reducible refine below_mark ?_ (by assumption) ?_)); all_goals (first | omega | (simp; done) | (simp; omega)))) (by have := HB4.out.size; omega))).mono ?_; rintro x5 w5 ⟨rfl, hb5⟩)
    all_goals go_wp2_with fail
    all_goals go_ret
    all_goals exact H.out _ (by (repeat' (first | with_reducible exact Below.refl _ _ | with_reducible refine below_alloc ?_ _ ?_ | with_reducible refine Below.setCell ?_ ?_ _ | with_reducible refine Below.drew ?_ | with_reducible refine below_drewN ?_ _ | with_reducible refine below_step ?_ (by assumption) ?_ | with_reducible refine below_mark ?_ (by assumption) ?_)); all_goals (first | omega | (simp; done) | (simp; omega)))
  case true =>
    go_cut [38] (fun s wx => s = .bool (!ab) ∧ Below W4.heap.size W4 wx)
    case first =>
      go_region_with (first | (go_at_call 154; refine (ND.out _ (below_mark HB4.out (show Below W4.heap.size W4 _ by exact (by (repeat' (first | with_reducible exact Below.refl _ _ | with_reducible refine below_alloc ?_ _ ?_ | with_reducible refine Below.setCell ?_ ?_ _ | with_reducible refine Below.drew ?_ | with_reducible refine below_drewN ?_ _ | with_reducible refine below_step ?_ (by assumption) ?_ | with_reducible refine below_mark ?_ (by assumption) ?_)); all_goals (first | omega | (simp; done) | (simp; omega)))) (by have := HB4.out.size; omega))).mono ?_; rintro x5 w5 ⟨rfl, hb5⟩; obtain ⟨y0, y1, y2, y3, y4⟩ := (HX4.out.1.overB (show Below W4.heap.size W4 w5 by exact (by (repeat' (first | with_reducible exact Below.refl _ _ | with_reducible refine below_alloc ?_ _ ?_ | with_reducible refine Below.setCell ?_ ?_ _ | with_reducible refine Below.drew ?_ | with_reducible refine below_drewN ?_ _ | with_reducible refine below_step ?_ (by assumption) ?_ | with_reducible refine below_mark ?_ (by assumption) ?_)); all_goals (first | omega | (simp; done) | (simp; omega)))) (by omega)).cells) | (go_at_call 155; refine (AK.out _ (below_mark HB4.out (show Below W4.heap.size W4 _ by exact (by (repeat' (first | with_reducible exact Below.refl _ _ | with_reducible refine below_alloc ?_ _ ?_ | with_reducible refine Below.setCell ?_ ?_ _ | with_reducible refine Below.drew ?_ | with_reducible refine below_drewN ?_ _ | with_reducible refine below_step ?_ (by assumption) ?_ | with_reducible refine below_mark ?_ (by assumption) ?_)); all_goals (first | omega | (simp; done) | (simp; omega)))) (by have := HB4.out.size; omega))).mono ?_; rintro x6 w6 ⟨rfl, hb6⟩))
      all_goals (go_wp2_with fail; go_meet; exact ⟨rfl, (by (repeat' (first | with_reducible exact Below.refl _ _ | with_reducible refine below_alloc ?_ _ ?_ | with_reducible refine Below.setCell ?_ ?_ _ | with_reducible refine Below.drew ?_ | with_reducible refine below_drewN ?_ _ | with_reducible refine below_step ?_ (by assumption) ?_ | with_reducible refine below_mark ?_ (by assumption) ?_)); all_goals (first | omega | (simp; done) | (simp; omega)))⟩)
    case rest =>
      obtain ⟨rfl, hbc⟩ := hcut
      cases ab
      case false =>
        have H := Lib.hid (HNO.out · · (show o = none by rw [HO.out, HS.out]; simp))
        clear HO HS IH
        go_wp2_with fail
        go_ret
        exact H.out _ hbc
      case true =>
        have HO2 := Lib.hid (show o = imps ts (d + 1) (L - 1) by rw [HO.out, HS.out, decide_eq_true (by omega)]; rfl)
        clear HO HS HNO b0 b1 b2 b3 b4 e1 e2 e3
        have BX := Lib.hid (HX4.out.1.overB hbc (by omega))
        obtain ⟨b0, b1, b2, b3, b4⟩ := BX.out.cells
        have HI := Lib.hid (has2_any w0 156 (.pointer (some ⟨w.heap.size + 1, 0, none⟩)) (.pointer (some ⟨w.heap.size + 1 + 1, 0, none⟩)) enters_isValue1 (.slice a ts.length cap) ts HREP.out
          (fun i W => ∃ Li, imps (ts.take i) (d + 1) (L - 1) = some Li ∧ Cell1 W c (.int .i64 Li) 3 ∧ Cell1 W (w.heap.size + 1) (.int .i64 d) 3 ∧ Cell1 W (w.heap.size + 1 + 1) (.pointer (some ⟨c, 0, none⟩)) 91 ∧ 0 ≤ Li ∧ Li ≤ 300 ∧ Touch (oneC c) (oneC c) w W)
          (fun i W => o = none ∧ ∃ L', LeftIs c w W L')
          (fun i W ⟨Li, _, _, _, _, _, _, ht⟩ => HW.out.trans (ht.below (fun x hx => by have h1 : x = c := hx; omega) hws))
          (fun i hi sl W hrs wfi ⟨Li, h1, h2, h3, h4, h5, h6, ht⟩ => by
            have hbW : Below w0.heap.size w0 W := HW.out.trans (ht.below (fun x hx => by have h1 : x = c := hx; omega) hws)
            refine (isValue1_any ts[i].k ts[i].n ts[i].e ts[i].s sl (w.heap.size + 1) (w.heap.size + 1 + 1) c d (imp ts[i] (d + 1) Li) hd0 (by omega) W h3 h4 (by have := ht.size; omega) (fun W' hW' => ?_)).mono ?_
            · exact IH.out i hi sl hrs (d + 1) Li c W' (by omega) (by omega) h5 h6 hc0 (h2.over (hW'.block c (by have := ht.size; omega))) (hbW.trans (hW'.mono hbW.size)) wfi
            · rintro e w' ⟨rfl, L', ⟨g1, g2, g3, g4⟩, g5⟩
              have ht' := ht.trans g4
              cases hq : imp ts[i] (d + 1) Li with
              | none =>
                right
                refine ⟨rfl, ?_, L', g1, g2, g3, ht'⟩
                rw [HO2.out]
                exact imps_none ts (d + 1) (L - 1) (i + 1) (by rw [imps_take ts (d + 1) (L - 1) i hi, h1]; exact hq)
              | some r =>
                left
                obtain rfl := g5 r hq
                have hbd := imp_bounds ts[i] (d + 1) Li L' (by omega) h5 h6 hq
                refine ⟨rfl, L', by rw [imps_take ts (d + 1) (L - 1) i hi, h1]; exact hq, g1, h3.over (g4.block _ (by have := lt_of_heap h3; omega) (fun hx => by have : w.heap.size + 1 = c := hx; omega)), h4.over (g4.block _ (by have := lt_of_heap h4; omega) (fun hx => by have : w.heap.size + 1 + 1 = c := hx; omega)), hbd.1, hbd.2, ht'⟩) wc
          ⟨L - 1, by simp [imps], HC4.out.over (hbc.block c (by omega)), HX4.out.2.1.over (hbc.block _ (by omega)), HX4.out.2.2.over (hbc.block _ (by omega)), by omega, by omega, HT4.out.trans (Touch.of_below hbc)⟩)
        clear IH
        go_wp2_with fail
        refine HI.out.mono ?_
        rintro x7 w7 hpost
        rcases hpost with ⟨rfl, hi⟩ | ⟨i, hi, rfl, ho, L', hL⟩
        · have HF := Lib.hid (show IVRet o c w (.returned (.bool true)) w7 by
            obtain ⟨Li, h1, h2, h3, h4, h5, h6, ht⟩ := hi
            rw [List.take_length] at h1
            have ho : o = some Li := by rw [HO2.out, h1]
            rw [ho]
            exact ⟨rfl, Li, ⟨h2, by omega, h6, ht⟩, fun r hr => by injection hr⟩)
          clear hi
          go_wp2_with fail
          go_ret
          exact HF.out
        · have HF := Lib.hid (show IVRet o c w (.returned (.bool false)) w7 by
            subst ho
            exact ⟨rfl, L', hL, fun r hr => by cases hr⟩)
          clear hL ho
          go_wp2_with fail
          go_ret
          exact HF.out
set_option maxHeartbeats 400000 in
theorem ValueOk_impl (w0 : World) (hE : Env w0) (v : Value) (t : V) (h : Rep w0 v t) (hsz : t.sz ≤ 1048576) (w : World) (hw : Below w0.heap.size w0 w) : Calls Tryd.prog 19 #[v] w fun e w' => e = .returned (.bool (okT t)) ∧ Below w.heap.size w w' := by
  obtain ⟨sl, rfl, hwf, hr⟩ := h
  have hws := hw.size
  have IV := Lib.hid (fun (c : Nat) (W : World) (hc : w.heap.size ≤ c) (h1 : Cell1 W c (.int .i64 300) 3) (hW : Below w.heap.size w W) => isValue_all w0 hE _ sl t.kids (Nat.le_refl _) hr (by have := V.sz_eq t; omega) t rfl hwf 0 300 c W (by omega) (by omega) (by omega) (by omega) (by omega) h1 (hw.trans (hW.mono hws)))
  obtain ⟨b, hb⟩ : ∃ b, b = okT t := ⟨_, rfl⟩
  rw [← hb]
  have HB := Lib.hid (show (imp t 0 300).isSome = b by rw [hb]; exact imp_ok t)
  clear hr hw hE hb
  unfold V.agg at IV ⊢
  generalize imp t 0 300 = o at *
  generalize t.k = vk at *
  generalize t.n = vn at *
  generalize t.e = ve at *
  generalize t.s = vs at *
  go_enter Tryd.func19, Tryd.ntmps19
  go_wp2_with fail
  have HC := Lib.hid (show Cell1 ((w.alloc (.cells #[.int .i64 vk, .int .i64 vn, .int .i64 ve, .string vs, sl] 26)).alloc (.cells #[.int .i64 300] 3)) (w.heap.size + 1) (.int .i64 300) 3 by
    have := heap_alloc_new (w.alloc (.cells #[.int .i64 vk, .int .i64 vn, .int .i64 ve, .string vs, sl] 26)) (.cells #[.int .i64 300] 3)
    rw [show (w.alloc (.cells #[.int .i64 vk, .int .i64 vn, .int .i64 ve, .string vs, sl] 26)).heap.size = w.heap.size + 1 by simp] at this; exact this)
  refine (IV.out _ _ (by omega) HC.out (by (repeat' (first | with_reducible exact Below.refl _ _ | with_reducible refine below_alloc ?_ _ ?_ | with_reducible refine Below.setCell ?_ ?_ _ | with_reducible refine Below.drew ?_ | with_reducible refine below_drewN ?_ _ | with_reducible refine below_step ?_ (by assumption) ?_ | with_reducible refine below_mark ?_ (by assumption) ?_)); all_goals (first | omega | (simp; done) | (simp; omega)))).mono ?_
  rintro x w1 ⟨rfl, L', ⟨_, _, _, ht⟩, _⟩
  have HT := Lib.hid (ht.below (B := w.heap.size) (fun x hx => by have : x = w.heap.size + 1 := hx; omega) (by simp; omega))
  clear ht
  go_wp2_with fail
  go_ret
  exact ⟨by rw [← HB.out]; rfl, Below.trans ((by (repeat' (first | with_reducible exact Below.refl _ _ | with_reducible refine below_alloc ?_ _ ?_ | with_reducible refine Below.setCell ?_ ?_ _ | with_reducible refine Below.drew ?_ | with_reducible refine below_drewN ?_ _ | with_reducible refine below_step ?_ (by assumption) ?_ | with_reducible refine below_mark ?_ (by assumption) ?_)); all_goals (first | omega | (simp; done) | (simp; omega)))) HT.out⟩
end Go.Proofs.YtgbgeocmjdgmoaaDoor
namespace Go.Proofs.YtgbgeocmjdgmoaaDoor
set_option linter.unusedSimpArgs false
set_option linter.unusedVariables false
set_option maxRecDepth 100000
open Go.RowKit
structure TOf (B c1 c2 : Nat) (n : Int) (b : Bool) (w : World) : Prop where
  b1 : B ≤ c1
  n12 : c1 ≠ c2
  h1 : Cell1 w c1 (.bool b) 4
  h2 : Cell1 w c2 (.int .i64 n) 3
end Go.Proofs.YtgbgeocmjdgmoaaDoor
namespace Go.Proofs.YtgbgeocmjdgmoaaDoor
set_option linter.unusedSimpArgs false
set_option linter.unusedVariables false
set_option maxRecDepth 100000
open Go.RowKit
theorem rightsB_get : ∀ {ts : List V} {d : Int}, rightsB ts d = true → ∀ (j : Nat) (hj : j < ts.length), rightB ts[j] d = true
  | [], _, _, j, hj => by simp at hj
  | t :: ts, d, h, j, hj => by
    rw [rightsB, Bool.and_eq_true] at h
    cases j with
    | zero => exact h.1
    | succ j => exact rightsB_get h.2 j (by simpa using hj)
theorem nodess_mem : ∀ {ts : List V} {x : V}, x ∈ ts → x.nodes ≤ nodess ts
  | t :: ts, x, h => by
    rw [nodess]
    rcases List.mem_cons.1 h with rfl | h
    · omega
    · have := nodess_mem h; omega
theorem box_cells (w : World) (k n e : Int) (s : ByteArray) (sl : Value) (T : TypeId) {W : World} (h : Box W w.heap.size k n e s sl T) :
    W.cell? ⟨w.heap.size, 0, none⟩ = some (.int .i64 k) ∧ W.cell? ⟨w.heap.size, 1, none⟩ = some (.int .i64 n) ∧ W.cell? ⟨w.heap.size, 2, none⟩ = some (.int .i64 e) ∧
    W.cell? ⟨w.heap.size, 3, none⟩ = some (.string s) ∧ W.cell? ⟨w.heap.size, 4, none⟩ = some sl := h.cells
theorem cat2 (a : List UInt8) (s : ByteArray) : (⟨a.toArray⟩ : ByteArray) ++ s = ⟨(a ++ s.data.toList).toArray⟩ := by simp [ByteArray.ext_iff]
theorem keep1 {W w2 : World} {b i : Nat} {x : Value} (hb : Below W.heap.size W w2) (h : W.cell? ⟨b, i, none⟩ = some x) : w2.cell? ⟨b, i, none⟩ = some x :=
  (hb.cell (p := ⟨b, i, none⟩) (World.block_lt_of_cell? _ _ h)).trans h
theorem keep2b {w W w2 : World} {b i c j : Nat} {x y : Value} (hb : Below W.heap.size W w2) (h : W.cell? ⟨b, i, none⟩ = some x ∧ W.cell? ⟨c, j, none⟩ = some y ∧ Below w.heap.size w W) : w2.cell? ⟨b, i, none⟩ = some x ∧ w2.cell? ⟨c, j, none⟩ = some y ∧ Below w.heap.size w w2 :=
  ⟨keep1 hb h.1, keep1 hb h.2.1, h.2.2.trans (hb.mono h.2.2.size)⟩
theorem keep1b {w W w2 : World} {b i : Nat} {x : Value} (hb : Below W.heap.size W w2) (h : W.cell? ⟨b, i, none⟩ = some x ∧ Below w.heap.size w W) : w2.cell? ⟨b, i, none⟩ = some x ∧ Below w.heap.size w w2 :=
  ⟨keep1 hb h.1, h.2.trans (hb.mono h.2.size)⟩
end Go.Proofs.YtgbgeocmjdgmoaaDoor
namespace Go.Proofs.YtgbgeocmjdgmoaaDoor
set_option linter.unusedSimpArgs false
set_option linter.unusedVariables false
set_option maxRecDepth 100000
open Go.RowKit
theorem RepS.empty {w : World} {v : Value} (h : RepS w v []) (F : Nat → Prop) : OwnS w F v [] := by
  generalize hts : ([] : List V) = ts at h
  cases h with
  | mk a b off cap ts sls ha hc hm hbb cells wfs kids =>
    subst hts
    exact OwnS.mk F a b off cap [] sls (fun _ _ => False) (fun h => absurd rfl h) hc hm (fun h => absurd rfl h) (fun i hi => absurd hi (by simp)) (fun i j hij hj => absurd hj (by simp)) (fun i hi => absurd hi (by simp)) (fun i hi => absurd hi (by simp)) (fun i hi => absurd hi (by simp))
theorem VRow.snoc {w w' : World} {base : Nat} {E : TypeId} {G F : Nat → Prop} {v v' : Value} {ts : List V} {sls : List Value} {Fs : Nat → Nat → Prop} {t : V} {sl : Value} (h : VRow w base E G v ts sls Fs) (ht : t.wf) (ho : OwnS w F sl t.kids)
    (hF : ∀ x, F x → base ≤ x ∧ x < w.heap.size ∧ ¬ G x ∧ v.ownBlock ≠ some x)
    (hrow : w'.ownsRow base E 5 v' (ts.length + 1) (flat ts sls ++ flat [t] [sl])) (hg : w.grownBy w' v.ownBlock) (hfr : FreshOr w v v') :
    VRows w' base E (fun x => G x ∨ F x) v' (ts ++ [t]) := by
  have hk : ∀ x, (G x ∨ F x) → x < w.heap.size → w'.heap[x]? = w.heap[x]? := by
    intro x hx hs
    refine hg.block x hs (fun e => ?_)
    rcases hx with hx | hx
    · exact h.own x e.symm hx
    · exact (hF x hx).2.2.2 e.symm
  refine ⟨sls ++ [sl], fun i => if i < ts.length then Fs i else F, ?_, by simp [h.len], ?_, ?_, ?_, ?_, ?_, ?_⟩
  · rw [flat_append _ _ _ _ h.len, List.length_append]; exact hrow
  · intro i hi
    rw [List.length_append] at hi
    by_cases hlt : i < ts.length
    · rw [List.getElem_append_left hlt]; exact h.wfs i hlt
    · have : i = ts.length := by simp at hi; omega
      subst this; simpa using ht
  · intro i hi
    rw [List.length_append] at hi
    by_cases hlt : i < ts.length
    · have h1 := h.kids i hlt
      rw [if_pos hlt, List.getElem_append_left hlt]
      have : (sls ++ [sl]).getD i undef = sls.getD i undef := by
        rw [List.getD_eq_getElem?_getD, List.getD_eq_getElem?_getD, List.getElem?_append_left (by rw [h.len]; exact hlt)]
      rw [this]
      exact h1.keep (fun x hx hs => hk x (.inl (h.sub i hlt x hx)) hs)
    · have : i = ts.length := by simp at hi; omega
      subst this
      have e : (sls ++ [sl]).getD ts.length undef = sl := by rw [List.getD_eq_getElem?_getD, ← h.len]; simp
      rw [if_neg hlt, e]
      simpa using ho.keep (fun x hx hs => hk x (.inr hx) hs)
  · intro i hi x hx
    by_cases hlt : i < ts.length
    · simp only [if_pos hlt] at hx; exact .inl (h.sub i hlt x hx)
    · simp only [if_neg hlt] at hx; exact .inr hx
  · intro i j hij hj x hx hx'
    rw [List.length_append] at hj
    have hi : i < ts.length := by simp at hj; omega
    simp only [if_pos hi] at hx
    by_cases hlt : j < ts.length
    · simp only [if_pos hlt] at hx'; exact h.dis i j hij hlt x hx hx'
    · simp only [if_neg hlt] at hx'; exact (hF x hx').2.2.1 (h.sub i hi x hx)
  · intro g hg' hG
    rcases hfr with e | e
    · rw [e] at hg'
      rcases hG with hG | hG
      · exact h.own g hg' hG
      · exact (hF g hG).2.2.2 hg'
    · rw [e] at hg'
      simp only [Option.some.injEq] at hg'
      subst hg'
      rcases hG with hG | hG
      · have := (h.inG _ hG).2; omega
      · have := (hF _ hG).2.1; omega
  · intro x hx
    rcases hx with hx | hx
    · exact ⟨(h.inG x hx).1, Nat.lt_of_lt_of_le (h.inG x hx).2 hg.size⟩
    · exact ⟨(hF x hx).1, Nat.lt_of_lt_of_le (hF x hx).2.1 hg.size⟩
theorem VRows.slice3 {w : World} {base : Nat} {E : TypeId} {G : Nat → Prop} {v : Value} {ts : List V} (h : VRows w base E G v ts) : ∃ a n cap, v = .slice a n cap := by
  obtain ⟨a, cap, e⟩ := h.own.slice
  exact ⟨a, _, cap, e⟩
theorem VRows.made0 {w : World} {base b : Nat} {E : TypeId} (hb : base ≤ b) (h : w.heap[b]? = some (.cells #[] E (0, 0))) : VRows w base E (fun _ => False) (.slice (some ⟨b, 0, none⟩) 0 0) [] := by
  refine ⟨[], fun _ _ => False, ⟨?_, rfl, by simp, by simp, by simp, by simp, by simp, by simp⟩⟩
  exact ⟨rfl, .inr ⟨b, 0, #[], rfl, hb, h, Nat.le_refl 0, by simp [maxLen], by simp, by simp [flat]⟩⟩
theorem src_val {w : World} {b : Nat} {t : V} {sl : Value} (hb : w.heap[b]? = some (.cells #[.int .i64 t.k, .int .i64 t.n, .int .i64 t.e, .string t.s, sl] 26 (0, 0))) (h : RepS w sl t.kids) :
    Src Tryd.prog 5 24 (.slice (some ⟨b, 0, none⟩) 1 1) 1 (flat [t] [sl]) w := by
  refine Src.ofSlice _ Tryd.underlying24 _ _ _ _ (by simp [flat]) ?_ (flat_one [t] [sl] ?_)
  · intro j u hu
    rw [addr_add _ _ rfl, Nat.zero_add]
    rw [cell_of_row _ _ _ _ _ (0, 0) hb]
    simpa [flat] using hu
  · intro s hs
    obtain rfl := List.mem_singleton.1 hs
    obtain ⟨a, cap, e⟩ := h.slice
    exact ⟨a, _, cap, e⟩
section
variable {w : World} {ops : Array Oper} {rest : List Oper} {o : Oper} {a : Act} {Q : Exit → Act → World → Prop}
theorem app_own (hgd : o.guard = none) (s x : Operand)
    (ho : o.op = .call { callee := .builtin .append, args := #[s, x], argTypes := #[24, 24] })
    (base : Nat) (G F : Nat → Prop) (v : Value) (ts : List V) (hs : a.eval s = v) (hown : VRows w base 26 G v ts) (t : V) (sl : Value) (b : Nat) (hx : a.eval x = .slice (some ⟨b, 0, none⟩) 1 1)
    (hb : w.heap[b]? = some (.cells #[.int .i64 t.k, .int .i64 t.n, .int .i64 t.e, .string t.s, sl] 26 (0, 0))) (ht : t.wf) (hO : OwnS w F sl t.kids)
    (hF : ∀ x, F x → base ≤ x ∧ x < w.heap.size ∧ ¬ G x ∧ v.ownBlock ≠ some x)
    (h63 : ts.length ≤ 1099511627000) (hbase : base ≤ w.heap.size)
    (h : ∀ v' w', VRows w' base 26 (fun x => G x ∨ F x) v' (ts ++ [t]) → w.grownBy w' v.ownBlock → FreshOr w v v' → wpList Tryd.prog ops Q rest (a.put o.dst v') w') : wpList Tryd.prog ops Q (o :: rest) a w := by
  obtain ⟨i0, hi, hz0, hz1, hz2⟩ := info_parts info_impl
  obtain ⟨sls, Fs, hp⟩ := hown
  exact wpList_app hgd s x 24 24 ho base 26 i0 _ 5 64 Tryd.underlying24 hi hz0 hz1 hz2 rfl (by decide) v ts.length (flat ts sls) hs hp.row _ hx 1 (flat [t] [sl]) (src_val hb hO.rep) (by omega) hbase
    (fun v' w' h1 h2 h3 _ => h v' w' (hp.snoc ht hO hF h1 h2 h3) h2 h3)
end
end Go.Proofs.YtgbgeocmjdgmoaaDoor
namespace Go.Proofs.YtgbgeocmjdgmoaaDoor
set_option linter.unusedSimpArgs false
set_option linter.unusedVariables false
set_option maxRecDepth 100000
open Go.RowKit
theorem heap_alloc_here {w : World} {b : Nat} (o : Obj) (hb : b = w.heap.size) : (w.alloc o).heap[b]? = some o := by rw [hb]; exact heap_alloc_new w o
theorem Box.set4 {w : World} {b : Nat} {k n e : Int} {s : ByteArray} {sl v : Value} {T : TypeId} (h : Box w b k n e s sl T) : Box (w.setCell ⟨b, 4, none⟩ v) b k n e s v T := by
  unfold Box at *
  rw [heap_setCell_same w b 4 _ _ _ h]; rfl
theorem Box.free {w : World} {b i : Nat} {k n e : Int} {s : ByteArray} {sl : Value} {T : TypeId} (h : Box w b k n e s sl T) : w.frozen? ⟨b, i, none⟩ = false := frozen_of_row w b i _ _ h
theorem VRows.move {w w' : World} {base : Nat} {E : TypeId} {G : Nat → Prop} {v : Value} {ts : List V} (h : VRows w base E G v ts) (hz : w.heap.size ≤ w'.heap.size) (hk : ∀ x, (G x ∨ v.ownBlock = some x) → w'.heap[x]? = w.heap[x]?) : VRows w' base E G v ts := by
  obtain ⟨sls, Fs, h⟩ := h
  refine ⟨sls, Fs, ⟨⟨h.row.1, ?_⟩, h.len, h.wfs, fun i hi => (h.kids i hi).keep (fun x hx _ => hk x (.inl (h.sub i hi x hx))), h.sub, h.dis, h.own, fun x hx => ⟨(h.inG x hx).1, Nat.lt_of_lt_of_le (h.inG x hx).2 hz⟩⟩⟩
  rcases h.row.2 with h2 | ⟨g, cap, cur, rfl, hbg, hg, r⟩
  · exact .inl h2
  · exact .inr ⟨g, cap, cur, rfl, hbg, by rw [hk g (.inr rfl)]; exact hg, r⟩
theorem own_one {w : World} {F : Nat → Prop} {b : Nat} {t : V} {sl : Value} {E : TypeId} (hb : w.heap[b]? = some (.cells #[.int .i64 t.k, .int .i64 t.n, .int .i64 t.e, .string t.s, sl] E (0, 0))) (ht : t.wf) (h : OwnS w F sl t.kids) (hF : ¬ F b) :
    OwnS w (fun x => F x ∨ x = b) (.slice (some ⟨b, 0, none⟩) 1 1) [t] := by
  refine .mk _ (some ⟨b, 0, none⟩) b 0 1 [t] (fun _ => sl) (fun _ => F) (fun _ => rfl) (by simp) (by omega) (fun _ => ⟨.inr rfl, _, _, hb⟩) (fun i hi x hx => ⟨.inl hx, fun e => hF (e ▸ hx)⟩) (fun i j hij hj => by simp at hj; omega) (fun i hi => ?_) (fun i hi => ?_) (fun i hi => ?_)
  · obtain rfl : i = 0 := by simpa using hi
    have hc := fun j => cell_of_row w b j _ _ (0, 0) hb
    exact ⟨by rw [hc]; rfl, by rw [hc]; rfl, by rw [hc]; rfl, by rw [hc]; rfl, by rw [hc]; rfl⟩
  · obtain rfl : i = 0 := by simpa using hi
    exact ht
  · obtain rfl : i = 0 := by simpa using hi
    exact h
abbrev set5 (w : World) (c : Nat) (v0 v1 v2 v3 v4 : Value) : World := ((((w.setCell ⟨c, 0, none⟩ v0).setCell ⟨c, 1, none⟩ v1).setCell ⟨c, 2, none⟩ v2).setCell ⟨c, 3, none⟩ v3).setCell ⟨c, 4, none⟩ v4
theorem heap_set5 (w : World) (c x : Nat) (v0 v1 v2 v3 v4 : Value) (h : x ≠ c) : (set5 w c v0 v1 v2 v3 v4).heap[x]? = w.heap[x]? := by
  unfold set5
  rw [heap_setCell_other _ _ _ _ h, heap_setCell_other _ _ _ _ h, heap_setCell_other _ _ _ _ h, heap_setCell_other _ _ _ _ h, heap_setCell_other _ _ _ _ h]
theorem below_set5 (w : World) (c : Nat) (v0 v1 v2 v3 v4 : Value) : Below c w (set5 w c v0 v1 v2 v3 v4) := by
  unfold set5
  exact (((((Below.refl c w).setCell (Nat.le_refl c) v0).setCell (Nat.le_refl c) v1).setCell (Nat.le_refl c) v2).setCell (Nat.le_refl c) v3).setCell (Nat.le_refl c) v4
theorem size_set5 (w : World) (c : Nat) (v0 v1 v2 v3 v4 : Value) : (set5 w c v0 v1 v2 v3 v4).heap.size = w.heap.size := by simp [set5]
theorem OwnS.set5 {w : World} {F : Nat → Prop} {v : Value} {ts : List V} (h : OwnS w F v ts) (c : Nat) (hc : ¬ F c) (v0 v1 v2 v3 v4 : Value) : OwnS (Go.Proofs.YtgbgeocmjdgmoaaDoor.set5 w c v0 v1 v2 v3 v4) F v ts :=
  h.keep (fun x hx _ => heap_set5 _ _ _ _ _ _ _ _ (fun e => hc (e ▸ hx)))
theorem Touch.set5 {A A' : Nat → Prop} {w W : World} (h : Touch A A' w W) (c : Nat) (hc : w.heap.size ≤ c) (v0 v1 v2 v3 v4 : Value) : Touch A A' w (Go.Proofs.YtgbgeocmjdgmoaaDoor.set5 W c v0 v1 v2 v3 v4) :=
  ⟨(below_set5 W c v0 v1 v2 v3 v4).os.trans h.os, (below_set5 W c v0 v1 v2 v3 v4).tape.trans h.tape, (below_set5 W c v0 v1 v2 v3 v4).output.trans h.output, by rw [size_set5]; exact h.size, fun x hx hn => (heap_set5 _ _ _ _ _ _ _ _ (by omega)).trans (h.block x hx hn), h.new⟩
theorem l02Int_any (n : Int) (w : World) : Calls Tryd.prog 180 #[.int .i64 n] w fun e w' => e = .returned (.agg #[.int .i64 3, .int .i64 n, .int .i64 0, .string ⟨#[]⟩, .slice none 0 0]) ∧ Below w.heap.size w w' := by
  go_enter Tryd.func180, Tryd.ntmps180
  go_wp2_with fail
  exact bodyPost_ret (v := .agg #[.int .i64 3, .int .i64 n, .int .i64 0, .string ⟨#[]⟩, .slice none 0 0]) (by simp [results, Tryd.results180, go_sem]) rfl ⟨rfl, (by (repeat' (first | with_reducible exact Below.refl _ _ | with_reducible refine below_alloc ?_ _ ?_ | with_reducible refine Below.setCell ?_ ?_ _ | with_reducible refine Below.drew ?_ | with_reducible refine below_drewN ?_ _ | with_reducible refine below_step ?_ (by assumption) ?_ | with_reducible refine below_mark ?_ (by assumption) ?_)); all_goals (first | omega | (simp; done) | (simp; omega)))⟩
theorem l02Str_any (s : ByteArray) (w : World) : Calls Tryd.prog 152 #[.string s] w fun e w' => e = .returned (.agg #[.int .i64 5, .int .i64 0, .int .i64 0, .string s, .slice none 0 0]) ∧ Below w.heap.size w w' := by
  go_enter Tryd.func152, Tryd.ntmps152
  go_wp2_with fail
  exact bodyPost_ret (v := .agg #[.int .i64 5, .int .i64 0, .int .i64 0, .string s, .slice none 0 0]) (by simp [results, Tryd.results152, go_sem]) rfl ⟨rfl, (by (repeat' (first | with_reducible exact Below.refl _ _ | with_reducible refine below_alloc ?_ _ ?_ | with_reducible refine Below.setCell ?_ ?_ _ | with_reducible refine Below.drew ?_ | with_reducible refine below_drewN ?_ _ | with_reducible refine below_step ?_ (by assumption) ?_ | with_reducible refine below_mark ?_ (by assumption) ?_)); all_goals (first | omega | (simp; done) | (simp; omega)))⟩
end Go.Proofs.YtgbgeocmjdgmoaaDoor
namespace Go.Proofs.YtgbgeocmjdgmoaaDoor
set_option linter.unusedSimpArgs false
set_option linter.unusedVariables false
set_option maxRecDepth 100000
open Go.RowKit
theorem big_snoc (m n c : Nat) (h : c < 256) : big (m + 1) (256 * n + c) = big m n ++ [UInt8.ofNat c] := by
  induction m with
  | zero => simp [big]
  | succ m ih =>
    rw [big, ih, big]
    have : (256 * n + c) / 256 ^ (m + 1) = n / 256 ^ m := by
      rw [Nat.pow_succ, Nat.mul_comm (256 ^ m) 256, ← Nat.div_div_eq_div_mul]
      congr 1
      omega
    rw [this]
    rfl
theorem big_wval (l : List UInt8) : big l.length (wval l) = l := by
  have : ∀ (k : Nat) (l : List UInt8), l.length = k → big k (wval l) = l := by
    intro k
    induction k with
    | zero => intro l h; simp [List.eq_nil_of_length_eq_zero h, big]
    | succ k ih =>
      intro l h
      have hne : l ≠ [] := by intro e; subst e; simp at h
      rw [← List.dropLast_concat_getLast hne, wval_snoc, big_snoc _ _ _ (UInt8.toNat_lt _), ih _ (by simp [h])]
      simp
  exact this _ l rfl
structure Found (s : ByteArray) (i a n x : Int) : Prop where
  i0 : 0 ≤ i
  a0 : 0 ≤ a
  a7 : a ≤ 7
  n0 : 0 ≤ n
  n1 : n < 18446744073709551616
  x0 : i < x
  x1 : x ≤ s.size
  x9 : x ≤ i + 9
  same : (headL a.toNat n.toNat).length = (x - i).toNat → headL a.toNat n.toNat = sub s.data.toList i.toNat (x - i).toNat
theorem extract_sub (s : ByteArray) (i x : Int) (h0 : 0 ≤ i) (h1 : i ≤ x) : s.extract i.toNat x.toNat = ⟨(sub s.data.toList i.toNat (x - i).toNat).toArray⟩ := by
  apply ba_ext
  simp [sub, ByteArray.data_extract, List.extract_eq_take_drop]
  congr 1
  omega
end Go.Proofs.YtgbgeocmjdgmoaaDoor
namespace Go.Proofs.YtgbgeocmjdgmoaaDoor
set_option linter.unusedSimpArgs false
set_option linter.unusedVariables false
set_option maxRecDepth 100000
open Go.RowKit
abbrev MG := Option (V × Nat × Nat)
def mgStr (s : ByteArray) (k : Int) (i many l : Nat) : MG := if i + many ≤ s.size then some (.mk k 0 0 (s.extract i (i + many)) [], i + many, l) else none
def mgKids (g : Nat → Nat → MG) : Nat → Nat → Nat → Option (List V × Nat × Nat)
  | 0, i, l => some ([], i, l)
  | k + 1, i, l => (mgKids g k i l).bind fun p => (g p.2.1 p.2.2).map fun q => (p.1 ++ [q.1], q.2)
def mgNode (k n : Int) (o : Option (List V × Nat × Nat)) : MG := o.map fun p => (.mk k n 0 ⟨#[]⟩ p.1, p.2)
def mgLeaf (k n e : Int) (i l : Nat) : MG := some (.mk k n e ⟨#[]⟩ [], i, l)
def MGood (s : ByteArray) (i l : Nat) (o : MG) : Prop := ∀ v j m, o = some (v, j, m) → v.sz + 1 + i ≤ j ∧ j ≤ s.size ∧ m < l ∧ v.nodes + m = l ∧ v.wf
def KGood (s : ByteArray) (i l k : Nat) (o : Option (List V × Nat × Nat)) : Prop := ∀ vs j m, o = some (vs, j, m) → szs vs + i ≤ j ∧ j ≤ s.size ∧ nodess vs + m = l ∧ vs.length = k
theorem szs_append' : ∀ a b : List V, szs (a ++ b) = szs a + szs b
  | [], b => by simp [szs]
  | t :: a, b => by rw [List.cons_append, szs, szs, szs_append' a b]; omega
theorem mgKids_good {s : ByteArray} {g : Nat → Nat → MG} (hg : ∀ i l, MGood s i l (g i l)) : ∀ k i l, i ≤ s.size → KGood s i l k (mgKids g k i l)
  | 0, i, l, hi => by
    intro vs j m h
    simp only [mgKids, Option.some.injEq, Prod.mk.injEq] at h
    obtain ⟨rfl, rfl, rfl⟩ := h
    simp [szs, nodess, hi]
  | k + 1, i, l, hi => by
    intro vs j m h
    rw [mgKids] at h
    cases hp : mgKids g k i l with
    | none => rw [hp] at h; simp at h
    | some p =>
      obtain ⟨ps, pi, pl⟩ := p
      rw [hp] at h
      simp only [Option.bind_some, Option.map_eq_some_iff] at h
      obtain ⟨⟨v, j', m'⟩, h1, h2⟩ := h
      simp only [Prod.mk.injEq] at h2
      obtain ⟨rfl, rfl, rfl⟩ := h2
      have a := mgKids_good hg k i l hi ps pi pl hp
      have b := hg pi pl v j' m' h1
      refine ⟨?_, b.2.1, ?_, ?_⟩
      · rw [szs_append', szs, szs]; omega
      · rw [nodess_append, nodess, nodess]; omega
      · rw [List.length_append, a.2.2.2]; rfl
theorem mgLeaf_good {s : ByteArray} {k n e : Int} {i j l : Nat} (h : i + 1 ≤ j) (hj : j ≤ s.size) (hk : In64 k) (hn : In64 n) (he : In64 e) : MGood s i (l + 1) (mgLeaf k n e j l) := by
  intro v j' m h1
  simp only [mgLeaf, Option.some.injEq, Prod.mk.injEq] at h1
  obtain ⟨rfl, rfl, rfl⟩ := h1
  refine ⟨?_, hj, by omega, ?_, hk, hn, he, by show ByteArray.size ⟨#[]⟩ ≤ _; simp [ByteArray.size]⟩
  · rw [V.sz, szs]; show ByteArray.size ⟨#[]⟩ + 0 + 1 + i ≤ _; simp [ByteArray.size]; omega
  · rw [V.nodes_eq]; simp [V.kids, nodess]; omega
theorem mgStr_good {s : ByteArray} {k : Int} {i0 i many l : Nat} (hs : s.size ≤ 1048576) (h : i0 + 1 ≤ i) (hk : In64 k) : MGood s i0 (l + 1) (mgStr s k i many l) := by
  intro v j' m h1
  unfold mgStr at h1
  split at h1
  · rename_i h2
    simp only [Option.some.injEq, Prod.mk.injEq] at h1
    obtain ⟨rfl, rfl, rfl⟩ := h1
    have hz : (s.extract i (i + many)).size = many := by rw [ByteArray.size_extract]; omega
    refine ⟨?_, h2, by omega, ?_, hk, ⟨by show (-9223372036854775808 : Int) ≤ 0; omega, by show (0 : Int) ≤ _; omega⟩, ⟨by show (-9223372036854775808 : Int) ≤ 0; omega, by show (0 : Int) ≤ _; omega⟩, by show (s.extract i (i + many)).size ≤ _; omega⟩
    · rw [V.sz, szs, hz]; omega
    · rw [V.nodes_eq]; simp [V.kids, nodess]; omega
  · cases h1
theorem mgNode_good {s : ByteArray} {k n : Int} {i0 i c l : Nat} {o : Option (List V × Nat × Nat)} (h : i0 + 1 ≤ i) (hk : In64 k) (hn : In64 n) (ho : KGood s i l c o) : MGood s i0 (l + 1) (mgNode k n o) := by
  intro v j' m h1
  simp only [mgNode, Option.map_eq_some_iff] at h1
  obtain ⟨⟨vs, j, m'⟩, h2, h3⟩ := h1
  simp only [Prod.mk.injEq] at h3
  obtain ⟨rfl, rfl, rfl⟩ := h3
  have a := ho vs _ _ h2
  refine ⟨?_, a.2.1, by omega, ?_, hk, hn, ⟨by show (-9223372036854775808 : Int) ≤ 0; omega, by show (0 : Int) ≤ _; omega⟩, by show ByteArray.size ⟨#[]⟩ ≤ _; simp [ByteArray.size]⟩
  · rw [V.sz]; show ByteArray.size ⟨#[]⟩ + szs vs + 1 + i0 ≤ _; simp [ByteArray.size]; omega
  · rw [V.nodes_eq]; show 1 + nodess vs + m' = l + 1; omega
theorem mgood_none (s : ByteArray) (i l : Nat) : MGood s i l none := fun _ _ _ h => by cases h
theorem mg_ite {s : ByteArray} {i l : Nat} {c : Prop} [Decidable c] {a b : MG} (ha : c → MGood s i l a) (hb : ¬ c → MGood s i l b) : MGood s i l (if c then a else b) := by
  by_cases h : c
  · rw [if_pos h]; exact ha h
  · rw [if_neg h]; exact hb h
theorem mgKids_some {g : Nat → Nat → MG} {k i l : Nat} {p : List V × Nat × Nat} (h : mgKids g k i l = some p) {q : V × Nat × Nat} (hq : g p.2.1 p.2.2 = some q) : mgKids g (k + 1) i l = some (p.1 ++ [q.1], q.2) := by
  rw [mgKids, h, Option.bind_some, hq]; rfl
theorem mgKids_stop {g : Nat → Nat → MG} {k i l : Nat} {p : List V × Nat × Nat} (h : mgKids g k i l = some p) (hq : g p.2.1 p.2.2 = none) : mgKids g (k + 1) i l = none := by
  rw [mgKids, h, Option.bind_some, hq]; rfl
theorem mgKids_stuck {g : Nat → Nat → MG} {k i l : Nat} (h : mgKids g k i l = none) : ∀ d, mgKids g (k + d) i l = none
  | 0 => h
  | d + 1 => by rw [← Nat.add_assoc, mgKids, mgKids_stuck h d]; rfl
theorem mgKids_none {g : Nat → Nat → MG} {k n i l : Nat} (h : mgKids g k i l = none) (hk : k ≤ n) : mgKids g n i l = none := by
  have := mgKids_stuck h (n - k); rwa [show k + (n - k) = n by omega] at this
theorem nodess_ge : ∀ ts : List V, ts.length ≤ nodess ts
  | [] => by simp
  | t :: ts => by
    have := nodess_ge ts
    rw [nodess, V.nodes_eq, List.length_cons]; omega
theorem in0 : In64 0 := ⟨by show (-9223372036854775808 : Int) ≤ 0; omega, by show (0 : Int) ≤ _; omega⟩
theorem in3 : In64 3 := ⟨by show (-9223372036854775808 : Int) ≤ 3; omega, by show (3 : Int) ≤ _; omega⟩
theorem k64 (k : Int) (h1 : 0 ≤ k) (h2 : k ≤ 4294967296) : In64 k := by unfold In64; omega
structure RAcc (r : Nat) (w W : World) (b : Nat) (k n e : Int) (s : ByteArray) (us : List V) (o : Value) (G : Nat → Prop) : Prop where
  box : Box W b k n e s o 26
  rows : VRows W (b + 1) 26 G o us
  touch : Touch (fun x => x = r ∨ x = b) (fun x => x = r ∨ x = b) w W
  hwb : w.heap.size = b + 1
  hr : r < b
theorem RAcc.stay {r b : Nat} {w W W' : World} {k n e : Int} {s : ByteArray} {us : List V} {o : Value} {G : Nat → Prop} (h : RAcc r w W b k n e s us o G) (hb : Below W.heap.size W W') : RAcc r w W' b k n e s us o G :=
  ⟨h.box.stay hb, h.rows.keep hb, h.touch.trans (Touch.of_below hb), h.hwb, h.hr⟩
theorem RAcc.over {r b : Nat} {w W W' : World} {k n e : Int} {s : ByteArray} {us : List V} {o : Value} {G : Nat → Prop} (h : RAcc r w W b k n e s us o G) (ht : Touch (fun x => x = r) (fun x => x = r) W W') : RAcc r w W' b k n e s us o G := by
  have hr := h.hr
  refine ⟨(ht.block b h.box.lt (by omega)).trans h.box, h.rows.move ht.size (fun x hx => ht.block x ?_ ?_), h.touch.trans (ht.mono (fun x hx => .inl hx) (fun x hx => .inl (.inl hx))), h.hwb, h.hr⟩
  · rcases hx with hx | hx
    · exact (h.rows.inG x hx).2
    · exact (h.rows.lt x hx).2
  · rcases hx with hx | hx
    · have := (h.rows.inG x hx).1; omega
    · have := (h.rows.lt x hx).1; omega
theorem RAcc.same {r b : Nat} {w W W1 W2 : World} {k n e : Int} {s : ByteArray} {us : List V} {o : Value} {G : Nat → Prop} (h : RAcc r w W b k n e s us o G) (hW : Below W.heap.size W W1) (hg : W1.grownBy W2 o.ownBlock) (v2 : Value) :
    ∀ x, x < w.heap.size → x ≠ b → (W2.setCell ⟨b, 4, none⟩ v2).heap[x]? = W.heap[x]? := fun x hx hb => by
  have h1 := h.touch.size
  have h2 := h.hwb
  have h3 := hW.size
  rw [heap_setCell_other _ _ _ _ (show x ≠ b from hb), hg.block x (by omega) (fun e => by have := (h.rows.lt x e.symm).1; omega)]
  exact hW.block x (by omega)
theorem RAcc.put {r b : Nat} {w W W1 W2 : World} {k n e : Int} {s : ByteArray} {us us2 : List V} {o v2 : Value} {G G2 : Nat → Prop} (h : RAcc r w W b k n e s us o G) (hW : Below W.heap.size W W1) (hg : W1.grownBy W2 o.ownBlock) (hr2 : VRows W2 (b + 1) 26 G2 v2 us2) :
    RAcc r w (W2.setCell ⟨b, 4, none⟩ v2) b k n e s us2 v2 G2 := by
  have hl := h.box.lt
  have z1 := hW.size
  have z2 := hg.size
  have hz := h.touch.size
  have B2 : Box W2 b k n e s o 26 := by
    have hn : o.ownBlock ≠ some b := fun e => by have := (h.rows.lt b e).1; omega
    exact (hg.block b (by omega) (fun e => hn e.symm)).trans (h.box.stay hW)
  refine ⟨B2.set4, hr2.move (by simp) (fun x hx => heap_setCell_other _ _ _ _ (fun e => ?_)), ?_, h.hwb, h.hr⟩
  · have e' : x = b := e
    rcases hx with hx | hx
    · have := (hr2.inG x hx).1; omega
    · have := (hr2.lt x hx).1; omega
  · exact ⟨hg.os.trans (hW.os.trans h.touch.os), hg.tape.trans (hW.tape.trans h.touch.tape), hg.output.trans (hW.output.trans h.touch.output), by simp; omega, fun x hx hn => (h.same hW hg v2 x hx (fun e => hn (.inr e))).trans (h.touch.block x hx hn), h.touch.new⟩
theorem RAcc.nil {r b : Nat} {w : World} {k n e : Int} {s : ByteArray} (hB : Box w b k n e s (.slice none 0 0) 26) (hwb : w.heap.size = b + 1) (hr : r < b) : RAcc r w w b k n e s [] (.slice none 0 0) (fun _ => False) :=
  ⟨hB, VRows.nil _ _ _, Touch.refl _ _, hwb, hr⟩
theorem Touch.cellD {d i : Nat} {w W : World} (h : Touch (fun x => x = d) (fun x => x = d) w W) (v : Value) : Touch (fun x => x = d) (fun x => x = d) w (W.setCell ⟨d, i, none⟩ v) :=
  ⟨h.os, h.tape, h.output, by simpa using h.size, fun x hx hn => (heap_setCell_other _ _ _ _ hn).trans (h.block x hx hn), h.new⟩
theorem touch_drewN {d : Nat} {w W : World} (n : Nat) (h : Touch (fun x => x = d) (fun x => x = d) w W) : Touch (fun x => x = d) (fun x => x = d) w (W.drewN n) := h.trans (Touch.of_below (below_drewN (Below.refl _ _) n))
theorem touch_grown {d B : Nat} {w W w2 : World} {o : Value} (h : Touch (fun x => x = d) (fun x => x = d) w W) (hg : W.grownBy w2 o.ownBlock) (hB : w.heap.size ≤ B) (ho : ∀ k, o.ownBlock = some k → B ≤ k) : Touch (fun x => x = d) (fun x => x = d) w w2 :=
  ⟨hg.os.trans h.os, hg.tape.trans h.tape, hg.output.trans h.output, Nat.le_trans h.size hg.size,
    fun x hx hn => (hg.block x (Nat.lt_of_lt_of_le hx h.size) (fun e => by have := ho x e.symm; omega)).trans (h.block x hx hn), fun x hx => .inl hx⟩
theorem rows_over {d B : Nat} {w w' : World} {E : TypeId} {G : Nat → Prop} {v : Value} {us : List V} (h : VRows w B E G v us) (ht : Touch (fun x => x = d) (fun x => x = d) w w') (hd : d < B) : VRows w' B E G v us :=
  h.move ht.size (fun x hx => ht.block x (hx.elim (fun h1 => (h.inG x h1).2) (fun h1 => (h.lt x h1).2)) (fun e => by
    have h2 : B ≤ x := hx.elim (fun h1 => (h.inG x h1).1) (fun h1 => (h.lt x h1).1)
    omega))
end Go.Proofs.YtgbgeocmjdgmoaaDoor
namespace Go.Proofs.YtgbgeocmjdgmoaaDoor
set_option linter.unusedSimpArgs false
set_option linter.unusedVariables false
set_option maxRecDepth 100000
open Go.RowKit
def isOpen (lo : Bool) (b : Nat) : Prop := lo = true ∧ b % 32 = 31 ∧ 2 ≤ b / 32 ∧ b / 32 ≤ 5
instance (lo : Bool) (b : Nat) : Decidable (isOpen lo b) := by unfold isOpen; exact inferInstance
def VOk (t : V) : Prop := t.wf ∧ (t.k = 3 → t.kids = [])
def CGood (s : ByteArray) (i l : Nat) (o : MG) : Prop := ∀ v j m, o = some (v, j, m) → v.sz + 1 + i ≤ j ∧ j ≤ s.size ∧ m < l ∧ v.nodes + m ≤ l ∧ VOk v ∧ ∀ t ∈ v.kids, VOk t
theorem MGood.c {s : ByteArray} {i l : Nat} {o : MG} (h : MGood s i l o) (hk : ∀ v j m, o = some (v, j, m) → v.kids = []) : CGood s i l o := fun v j m e => by
  have := h v j m e
  exact ⟨this.1, this.2.1, this.2.2.1, by omega, ⟨this.2.2.2.2, fun _ => hk v j m e⟩, fun t ht => by rw [hk v j m e] at ht; cases ht⟩
end Go.Proofs.YtgbgeocmjdgmoaaDoor
namespace Go.Proofs.YtgbgeocmjdgmoaaDoor
set_option linter.unusedSimpArgs false
set_option linter.unusedVariables false
set_option maxRecDepth 100000
open Go.RowKit
def CuX (w0 : World) (c : Nat) (v : Value) (N : Nat) (w : World) : Prop := ∃ st, Cu w0 c v N st w
theorem CuX.lt {w0 w : World} {c N : Nat} {v : Value} (h : CuX w0 c v N w) : c < w.heap.size := by obtain ⟨st, h⟩ := h; exact lt_of_heap h.cb
theorem CuX.below {w0 w : World} {c N : Nat} {v : Value} (h : CuX w0 c v N w) : Below w0.heap.size w0 w := by obtain ⟨st, h⟩ := h; exact h.below
theorem CuX.hc {w0 w : World} {c N : Nat} {v : Value} (h : CuX w0 c v N w) : w0.heap.size ≤ c := by obtain ⟨st, h⟩ := h; exact h.hc
theorem CuX.stay {w0 w w' : World} {c N : Nat} {v : Value} (h : CuX w0 c v N w) (hb : Below w.heap.size w w') : CuX w0 c v N w' := by obtain ⟨st, h⟩ := h; exact ⟨st, h.stay hb⟩
theorem CuX.over {w0 w w' : World} {c N : Nat} {v : Value} (h : CuX w0 c v N w) (hb : w'.heap[c]? = w.heap[c]?) (hw : Below w0.heap.size w0 w') : CuX w0 c v N w' := by obtain ⟨st, h⟩ := h; exact ⟨st, h.over hb hw⟩
def DX (w0 : World) (c : Nat) (v : Value) (N : Nat) (w w' : World) : Prop := CuX w0 c v N w' ∧ Touch (fun x => x = c) (fun x => x = c) w w'
theorem DX.trans {w0 w w' w2 : World} {c N : Nat} {v : Value} (h : DX w0 c v N w w') (h2 : DX w0 c v N w' w2) : DX w0 c v N w w2 := ⟨h2.1, h.2.trans h2.2⟩
theorem DX.stay {w0 w w' w2 : World} {c N : Nat} {v : Value} (h : DX w0 c v N w w') (hb : Below w'.heap.size w' w2) : DX w0 c v N w w2 := ⟨h.1.stay hb, h.2.trans (Touch.of_below hb)⟩
theorem DX.refl {w0 w : World} {c N : Nat} {v : Value} (h : CuX w0 c v N w) : DX w0 c v N w w := ⟨h, Touch.refl _ _⟩
structure Drw (w0 : World) (v : Value) (N : Nat) : Prop where
  rd : ∃ L, BRead w0 v L ∧ N = L.length
  le : N ≤ 1048576
theorem Below1_any (w0 : World) (c : Nat) (v : Value) (N : Nat) (hD : Drw w0 v N) (n : Int) (hn64 : In64 n) (w : World) (h : CuX w0 c v N w) :
    Calls Tryd.prog 123 #[.pointer (some ⟨c, 0, none⟩), .int .i64 n] w fun e w' => ∃ (x : Int), e = .returned (.int .i64 x) ∧ 0 ≤ x ∧ (x < n ∨ x = 0) ∧ DX w0 c v N w w' := by
  obtain ⟨⟨L, hL, rfl⟩, hn⟩ := hD
  obtain ⟨st, h⟩ := h
  refine (l01Below_any w0 c v L hL hn n hn64 st w h).mono ?_
  rintro e w' ⟨x, m, rfl, h0, h1, -, -, -, hc, ht⟩
  exact ⟨x, rfl, h0, h1, ⟨_, hc⟩, ht⟩
theorem Once_any (w0 : World) (c : Nat) (v : Value) (N : Nat) (hD : Drw w0 v N) (n : Int) (hn64 : In64 n) (w : World) (h : CuX w0 c v N w) :
    Calls Tryd.prog 139 #[.pointer (some ⟨c, 0, none⟩), .int .i64 n] w fun e w' => ∃ (b : Bool), e = .returned (.bool b) ∧ DX w0 c v N w w' := by
  obtain ⟨⟨L, hL, rfl⟩, hn⟩ := hD
  obtain ⟨st, h⟩ := h
  refine (l01Once_any w0 c v L hL hn n hn64 st w h).mono ?_
  rintro e w' ⟨x, m, rfl, -, hc, ht⟩
  exact ⟨x, rfl, ⟨_, hc⟩, ht⟩
theorem lit_cells (W : World) (T : TypeId) (vs : Array Value) (j : Nat) (hj : j < vs.size) : (W.alloc (.cells vs T)).cell? ⟨W.heap.size, 0 + j, none⟩ = some vs[j] := by
  rw [Nat.zero_add, cell_of_row _ _ _ _ _ (0, 0) (heap_alloc_new W _)]
  simp [hj]
theorem PickI_any (w0 : World) (c : Nat) (v : Value) (N : Nat) (hD : Drw w0 v N) (zs : List Int) (T : TypeId) (hz : ∀ z ∈ zs, In64 z) (hk : 1 ≤ zs.length ∧ zs.length ≤ 1000) (k cap : Nat) (hkk : k = zs.length) (w : World) (h : CuX w0 c v N w) (vs : Array Value) (hvs : vs = (zs.map (Value.int .i64)).toArray) :
    Calls Tryd.prog 119 #[.pointer (some ⟨c, 0, none⟩), .slice (some ⟨w.heap.size, 0, none⟩) k cap] (w.alloc (.cells vs T)) fun e w' => ∃ (z : Int), e = .returned (.int .i64 z) ∧ In64 z ∧ DX w0 c v N w w' := by
  obtain ⟨⟨L, hL, rfl⟩, hn⟩ := hD
  have hcw := h.lt
  obtain ⟨st, h⟩ := h
  subst hvs hkk
  have hb : Below w.heap.size w (w.alloc (.cells (zs.map (Value.int .i64)).toArray T)) := (Below.refl _ _).alloc (Nat.le_refl _) _
  refine (l01PickInt_any w0 c v L hL hn w.heap.size 0 zs.length cap hk st _ (h.stay hb) (by simp) (by omega) ?_).mono ?_
  · intro j hj
    refine ⟨zs[j], ?_, hz _ (List.getElem_mem hj)⟩
    rw [lit_cells _ _ _ _ (by simpa using hj)]
    simp
  · rintro e w' ⟨z, m, rfl, hz, -, hc, ht⟩
    exact ⟨z, rfl, hz, ⟨_, hc⟩, (Touch.of_below hb).trans ht⟩
theorem PickS_any (w0 : World) (c : Nat) (v : Value) (N : Nat) (hD : Drw w0 v N) (B : Nat) (zs : List ByteArray) (T : TypeId) (hz : ∀ z ∈ zs, z.size ≤ B) (hk : 1 ≤ zs.length ∧ zs.length ≤ 1000) (k cap : Nat) (hkk : k = zs.length) (w : World) (h : CuX w0 c v N w) (vs : Array Value) (hvs : vs = (zs.map Value.string).toArray) :
    Calls Tryd.prog 175 #[.pointer (some ⟨c, 0, none⟩), .slice (some ⟨w.heap.size, 0, none⟩) k cap] (w.alloc (.cells vs T)) fun e w' => ∃ (z : ByteArray), e = .returned (.string z) ∧ z.size ≤ B ∧ DX w0 c v N w w' := by
  obtain ⟨⟨L, hL, rfl⟩, hn⟩ := hD
  have hcw := h.lt
  obtain ⟨st, h⟩ := h
  subst hvs hkk
  have hb : Below w.heap.size w (w.alloc (.cells (zs.map Value.string).toArray T)) := (Below.refl _ _).alloc (Nat.le_refl _) _
  refine (l01Pick_any w0 c v L hL hn w.heap.size 0 zs.length cap B hk st _ (h.stay hb) (by simp) (by omega) ?_).mono ?_
  · intro j hj
    refine ⟨zs[j], ?_, hz _ (List.getElem_mem hj)⟩
    rw [lit_cells _ _ _ _ (by simpa using hj)]
    simp
  · rintro e w' ⟨z, m, rfl, hz, -, hc, ht⟩
    exact ⟨z, rfl, hz, ⟨_, hc⟩, (Touch.of_below hb).trans ht⟩
theorem Text_any (w0 : World) (c : Nat) (v : Value) (N : Nat) (hD : Drw w0 v N) (n : Nat) (hn100 : n ≤ 100000) (w : World) (h : CuX w0 c v N w) :
    Calls Tryd.prog 261 #[.pointer (some ⟨c, 0, none⟩), .int .i64 n] w fun e w' => ∃ (t : ByteArray), e = .returned (.string t) ∧ t.size = n ∧ DX w0 c v N w w' := by
  obtain ⟨⟨L, hL, rfl⟩, hn⟩ := hD
  obtain ⟨st, h⟩ := h
  refine (l01Text_any w0 c v L hL hn n hn100 st w h).mono ?_
  rintro e w' ⟨t, m, rfl, h0, hc, ht⟩
  exact ⟨t, rfl, h0, ⟨_, hc⟩, ht⟩
set_option maxHeartbeats 4000000 in
theorem l01Some_any (w0 : World) (c : Nat) (v : Value) (N : Nat) (hD : Drw w0 v N) (w : World) (h : CuX w0 c v N w) :
    Calls Tryd.prog 262 #[.pointer (some ⟨c, 0, none⟩)] w fun e w' => ∃ (t : ByteArray), e = .returned (.string t) ∧ t.size ≤ 16 ∧ DX w0 c v N w w' := by
  have BL := Lib.hid (Below1_any w0 c v N hD 5 (by unfold In64; omega) w h)
  have PK := Lib.hid (fun (W : World) (h : CuX w0 c v N W) => PickS_any w0 c v N hD 4 [⟨#[97]⟩, ⟨#[98]⟩, ⟨#[110, 97, 109, 101]⟩, ⟨#[34]⟩, ⟨#[92]⟩, ⟨#[10]⟩, ⟨#[1]⟩, ⟨#[195, 169]⟩, ⟨#[226, 130, 172]⟩, ⟨#[240, 159, 152, 128]⟩, ⟨#[47]⟩, ⟨#[48]⟩, ⟨#[32]⟩] 9 (by decide) (by decide) 13 13 rfl W h _ rfl)
  clear h hD
  go_enter Tryd.func262, Tryd.ntmps262
  go_wp2_with fail
  refine BL.out.mono ?_
  rintro e1 w1 ⟨k, rfl, hk0, hk1, hd1⟩
  have HD1 := Lib.hid hd1
  clear hd1
  have hk5 : k < 5 := by omega
  clear hk1
  go_wp2_with fail
  go_loopw [3, 5] (fun tt ii wr => ∃ (i : Nat) (t : ByteArray), tt = .string t ∧ ii = .int .i64 i ∧ (i : Int) ≤ k ∧ t.size ≤ 4 * i ∧ DX w0 c v N w wr) (fun _ ii _ => (k - intOf ii).toNat)
  case atStart => exact ⟨0, _, rfl, rfl, by omega, by simp [ByteArray.size], HD1.out⟩
  case round =>
    obtain ⟨i, t, rfl, rfl, hik, ht, hd2⟩ := hrel
    have HD2 := Lib.hid hd2
    clear hd2
    by_cases hik2 : (i : Int) < k
    · go_wp2_with fail
      refine (PK.out wr HD2.out.1).mono ?_
      rintro e3 w3 ⟨z, rfl, hz, hd3⟩
      have HD3 := Lib.hid (HD2.out.trans hd3)
      clear hd3
      go_wp2_with fail
      go_roundw
      case rel => exact ⟨i + 1, _, rfl, by push_cast; rfl, by omega, by rw [ByteArray.size_append]; omega, HD3.out⟩
      case measure => simp only [intOf]; omega
    · go_wp2_with fail
      go_ret
      exact ⟨_, rfl, by omega, HD2.out⟩
def DVal (w0 : World) (c : Nat) (v : Value) (N B : Nat) (w : World) (e : Ending) (w' : World) : Prop :=
  ∃ (t : V) (sl : Value) (G : Nat → Prop), e = .returned (t.agg sl) ∧ t.wf ∧ t.sz ≤ B ∧ PRow w' w.heap.size G sl t.kids ∧ (∀ x, G x → w.heap.size ≤ x) ∧ DX w0 c v N w w'
theorem DVal.leaf {w0 w w' : World} {c N B : Nat} {v : Value} (k n e : Int) (s : ByteArray) (hk : In64 k) (hn : In64 n) (he : In64 e) (hs : s.size ≤ B) (hB : B ≤ 1000000) (h : DX w0 c v N w w') :
    DVal w0 c v N B w (.returned (.agg #[.int .i64 k, .int .i64 n, .int .i64 e, .string s, .slice none 0 0])) w' :=
  ⟨.mk k n e s [], .slice none 0 0, fun _ => False, rfl, ⟨hk, hn, he, by show s.size ≤ _; omega⟩, by rw [V.sz, szs]; omega, PRow.nil _ _, fun _ h => h.elim, h⟩
theorem PRow.low {w : World} {b b' : Nat} {G : Nat → Prop} {v : Value} {ts : List V} (h : PRow w b G v ts) (hb : b' ≤ b) : PRow w b' G v ts := by
  obtain ⟨sls, h⟩ := h
  refine ⟨sls, ⟨⟨h.row.1, ?_⟩, h.len, h.wfs, h.kids, h.own, h.inG⟩⟩
  rcases h.row.2 with h2 | ⟨g, cap, cur, hv, hbg, rest⟩
  · exact .inl h2
  · exact .inr ⟨g, cap, cur, hv, Nat.le_trans hb hbg, rest⟩
theorem PRow.set5 {w : World} {b z : Nat} {G : Nat → Prop} {v : Value} {ts : List V} (h : PRow w b G v ts) (hz : z < b) (hG : ∀ x, G x → z < x) (v0 v1 v2 v3 v4 : Value) : PRow (Go.Proofs.YtgbgeocmjdgmoaaDoor.set5 w z v0 v1 v2 v3 v4) b G v ts := by
  refine h.keep (by rw [size_set5]; exact Nat.le_refl _) (fun x hx _ => heap_set5 _ _ _ _ _ _ _ _ ?_)
  rcases hx with hx | hx
  · have := hG x hx; omega
  · have := (h.lt x hx).1; omega
theorem PRow.over {w w' : World} {b c : Nat} {G : Nat → Prop} {v : Value} {ts : List V} (h : PRow w b G v ts) (hG : ∀ x, G x → b ≤ x) (ht : Touch (fun x => x = c) (fun x => x = c) w w') (hc : c < b) : PRow w' b G v ts := by
  refine h.keep ht.size (fun x hx hxs => ht.block x hxs ?_)
  rcases hx with hx | hx
  · have := hG x hx; omega
  · have := (h.lt x hx).1; omega
theorem DX.cell {w0 w W : World} {c N b i : Nat} {v u : Value} (h : DX w0 c v N w W) (hb : w.heap.size ≤ b) (hc : c < w.heap.size) : DX w0 c v N w (W.setCell ⟨b, i, none⟩ u) := by
  have e : (W.setCell ⟨b, i, none⟩ u).heap[c]? = W.heap[c]? := heap_setCell_other _ _ _ _ (by show ¬ c = b; omega)
  refine ⟨h.1.over e ?_, ?_⟩
  · have hB := h.1.below
    have := h.1.hc
    exact ⟨hB.os, hB.tape, hB.output, by simpa using hB.size, fun k hk => (heap_setCell_other _ _ _ _ (by show ¬ k = b; omega)).trans (hB.block k hk)⟩
  · exact ⟨h.2.os, h.2.tape, h.2.output, by simpa using h.2.size, fun x hx hn => (heap_setCell_other _ _ _ _ (by show ¬ x = b; omega)).trans (h.2.block x hx hn), h.2.new⟩
theorem Box.overC {W W' : World} {b c : Nat} {k n e : Int} {s : ByteArray} {sl : Value} {T : TypeId} (h : Box W b k n e s sl T) (ht : Touch (fun x => x = c) (fun x => x = c) W W') (hbc : ¬ b = c) : Box W' b k n e s sl T := (ht.block b (lt_of_heap h) hbc).trans h
set_option maxHeartbeats 8000000 in
theorem l02Leaf_any (w0 : World) (c : Nat) (v : Value) (N : Nat) (hD : Drw w0 v N) (pl : Bool) (w : World) (h : CuX w0 c v N w) :
    Calls Tryd.prog 218 #[.pointer (some ⟨c, 0, none⟩), .bool pl] w (DVal w0 c v N 20 w) := by
  have BL := Lib.hid (fun (q : Int) (hq : In64 q) (W : World) (h : CuX w0 c v N W) => Below1_any w0 c v N hD q hq W h)
  have PK := Lib.hid (fun (W : World) (h : CuX w0 c v N W) => PickS_any w0 c v N hD 20 [⟨#[99, 111, 109, 109, 111, 110, 32, 118, 97, 108, 117, 101]⟩, ⟨#[99, 111, 109, 109, 111, 110, 32, 118, 97, 108]⟩, ⟨#[97, 110, 111, 116, 104, 101, 114, 32, 99, 111, 109, 109, 111, 110, 32, 118, 97, 108, 117, 101]⟩, ⟨#[120]⟩, ⟨#[]⟩] 9 (by decide) (by decide) 5 5 rfl W h _ rfl)
  have PA := Lib.hid (fun (W : World) (h : CuX w0 c v N W) => PickI_any w0 c v N hD [15, -3, 1, 9007199254740993, -999999999999999999] 3 (by unfold In64; decide) (by decide) 5 5 rfl W h _ rfl)
  have PE := Lib.hid (fun (W : World) (h : CuX w0 c v N W) => PickI_any w0 c v N hD [-1, -2, 19, 20, -20] 3 (by unfold In64; decide) (by decide) 5 5 rfl W h _ rfl)
  have PI := Lib.hid (fun (z : Int) (hz : 0 ≤ z ∧ z ≤ 1000) (W : World) (h : CuX w0 c v N W) => PickI_any w0 c v N hD [0, 1, 23, 24, 255, 256, 65535, 65536, 4294967295, 4294967296, -1, -24, -25, -256, -257, 9223372036854775807, -9223372036854775808, z] 3 (by unfold In64; intro y hy; simp at hy; omega) (by simp) 18 18 rfl W h _ rfl)
  have TX := Lib.hid (fun (n : Nat) (hn : n ≤ 100000) (W : World) (h : CuX w0 c v N W) => Text_any w0 c v N hD n hn W h)
  have SO := Lib.hid (fun (W : World) (h : CuX w0 c v N W) => l01Some_any w0 c v N hD W h)
  have BZ := Lib.hid (Box.new w 0 0 0 ⟨#[]⟩ (.slice none 0 0) 26)
  have hcw := h.lt
  have HD0 := Lib.hid (show DX w0 c v N w (w.alloc (.cells #[.int .i64 0, .int .i64 0, .int .i64 0, .string ⟨#[]⟩, .slice none 0 0] 26)) from (DX.refl h).stay ((Below.refl _ _).alloc (Nat.le_refl _) _))
  have hnc : ¬ w.heap.size = c := by omega
  clear h hD
  go_enter Tryd.func218, Tryd.ntmps218
  go_wp2_with fail
  generalize (w.alloc (.cells #[.int .i64 0, .int .i64 0, .int .i64 0, .string ⟨#[]⟩, .slice none 0 0] 26)) = W0 at *
  refine (BL.out 9 (by unfold In64; omega) W0 HD0.out.1).mono ?_
  rintro e1 w1 ⟨x, rfl, hx0, hx1, hd1⟩
  have HD1 := Lib.hid (HD0.out.trans hd1)
  have BZ1 := Lib.hid (BZ.out.overC hd1.2 hnc)
  clear hd1
  have hx9 : x = 0 ∨ x = 1 ∨ (x = 2 ∧ pl = true) ∨ (x = 2 ∧ pl = false) ∨ x = 3 ∨ x = 4 ∨ x = 5 ∨ (¬ x = 0 ∧ ¬ x = 1 ∧ ¬ x = 2 ∧ ¬ x = 3 ∧ ¬ x = 4 ∧ ¬ x = 5) := by cases pl <;> simp <;> omega
  clear hx0 hx1
  rcases hx9 with rfl | rfl | ⟨rfl, rfl⟩ | ⟨rfl, rfl⟩ | rfl | rfl | rfl | ⟨h0, h1, h2, h3, h4, h5⟩
  · go_wp2_with fail
    refine (BL.out 3 (by unfold In64; omega) w1 HD1.out.1).mono ?_
    rintro e2 w2 ⟨y, rfl, hy0, hy1, hd2⟩
    have HD2 := Lib.hid (HD1.out.trans hd2)
    have BZ2 := Lib.hid (BZ1.out.overC hd2.2 hnc)
    clear hd2
    have HY := Lib.hid (show In64 y by unfold In64; omega)
    clear hy0 hy1
    obtain ⟨z0, z1, z2, z3, z4⟩ := BZ2.out.cells
    have zf0 := BZ2.out.free (i := 0); have zf1 := BZ2.out.free (i := 1); have zf2 := BZ2.out.free (i := 2); have zf3 := BZ2.out.free (i := 3); have zf4 := BZ2.out.free (i := 4)
    go_wp2_with fail
    exact bodyPost_ret (v := .agg #[.int .i64 y, .int .i64 0, .int .i64 0, .string ⟨#[]⟩, .slice none 0 0]) (by simp [results, Tryd.results218, go_sem, z0, z1, z2, z3, z4]) rfl (DVal.leaf _ _ _ _ HY.out in0 in0 (by simp [ByteArray.size]) (by omega) (((((HD2.out.cell (Nat.le_refl _) hcw).cell (Nat.le_refl _) hcw).cell (Nat.le_refl _) hcw).cell (Nat.le_refl _) hcw).cell (Nat.le_refl _) hcw))
  · go_wp2_with fail
    refine (PA.out w1 HD1.out.1).mono ?_
    rintro e2 w2 ⟨y, rfl, hy, hd2⟩
    have HD2 := Lib.hid (HD1.out.trans hd2)
    have BZ2 := Lib.hid (BZ1.out.overC hd2.2 hnc)
    clear hd2
    have HY := Lib.hid hy
    clear hy
    go_wp2_with fail
    refine (PE.out w2 HD2.out.1).mono ?_
    rintro e3 w3 ⟨x, rfl, hx, hd3⟩
    have HD3 := Lib.hid (HD2.out.trans hd3)
    have BZ3 := Lib.hid (BZ2.out.overC hd3.2 hnc)
    clear hd3
    have HX := Lib.hid hx
    clear hx
    obtain ⟨z0, z1, z2, z3, z4⟩ := BZ3.out.cells
    have zf0 := BZ3.out.free (i := 0); have zf1 := BZ3.out.free (i := 1); have zf2 := BZ3.out.free (i := 2); have zf3 := BZ3.out.free (i := 3); have zf4 := BZ3.out.free (i := 4)
    go_wp2_with fail
    exact bodyPost_ret (v := .agg #[.int .i64 4, .int .i64 y, .int .i64 x, .string ⟨#[]⟩, .slice none 0 0]) (by simp [results, Tryd.results218, go_sem, z0, z1, z2, z3, z4]) rfl (DVal.leaf _ _ _ _ (by unfold In64; omega) HY.out HX.out (by simp [ByteArray.size]) (by omega) (((((HD3.out.cell (Nat.le_refl _) hcw).cell (Nat.le_refl _) hcw).cell (Nat.le_refl _) hcw).cell (Nat.le_refl _) hcw).cell (Nat.le_refl _) hcw))
  · go_wp2_with fail
    refine (BL.out 1000 (by unfold In64; omega) w1 HD1.out.1).mono ?_
    rintro e2 w2 ⟨y, rfl, hy0, hy1, hd2⟩
    have HD2 := Lib.hid (HD1.out.trans hd2)
    have BZ2 := Lib.hid (BZ1.out.overC hd2.2 hnc)
    clear hd2
    have hy : 0 ≤ y ∧ y ≤ 1000 := by omega
    clear hy0 hy1
    go_wp2_with fail
    refine (PI.out y hy w2 HD2.out.1).mono ?_
    rintro e3 w3 ⟨x, rfl, hx, hd3⟩
    have HD3 := Lib.hid (HD2.out.trans hd3)
    have BZ3 := Lib.hid (BZ2.out.overC hd3.2 hnc)
    clear hd3
    have HX := Lib.hid hx
    clear hx
    go_wp2_with fail
    refine (l02Int_any x w3).mono ?_
    rintro e4 w4 ⟨rfl, hd4⟩
    have HD4 := Lib.hid (HD3.out.stay hd4)
    have BZ4 := Lib.hid (BZ3.out.stay hd4)
    clear hd4
    obtain ⟨z0, z1, z2, z3, z4⟩ := BZ4.out.cells
    have zf0 := BZ4.out.free (i := 0); have zf1 := BZ4.out.free (i := 1); have zf2 := BZ4.out.free (i := 2); have zf3 := BZ4.out.free (i := 3); have zf4 := BZ4.out.free (i := 4)
    go_wp2_with fail
    exact bodyPost_ret (v := .agg #[.int .i64 3, .int .i64 x, .int .i64 0, .string ⟨#[]⟩, .slice none 0 0]) (by simp [results, Tryd.results218, go_sem, z0, z1, z2, z3, z4]) rfl (DVal.leaf _ _ _ _ in3 HX.out in0 (by simp [ByteArray.size]) (by omega) (((((HD4.out.cell (Nat.le_refl _) hcw).cell (Nat.le_refl _) hcw).cell (Nat.le_refl _) hcw).cell (Nat.le_refl _) hcw).cell (Nat.le_refl _) hcw))
  · go_wp2_with fail
    refine (BL.out 8 (by unfold In64; omega) w1 HD1.out.1).mono ?_
    rintro e2 w2 ⟨y, rfl, hy0, hy1, hd2⟩
    have HD2 := Lib.hid (HD1.out.trans hd2)
    have BZ2 := Lib.hid (BZ1.out.overC hd2.2 hnc)
    clear hd2
    obtain ⟨y, rfl⟩ : ∃ y2 : Nat, y = y2 := ⟨y.toNat, by omega⟩
    have hy : y ≤ 8 := by omega
    clear hy0 hy1
    go_wp2_with fail
    refine (TX.out y (by omega) w2 HD2.out.1).mono ?_
    rintro e3 w3 ⟨t, rfl, ht, hd3⟩
    have HD3 := Lib.hid (HD2.out.trans hd3)
    have BZ3 := Lib.hid (BZ2.out.overC hd3.2 hnc)
    clear hd3
    obtain ⟨z0, z1, z2, z3, z4⟩ := BZ3.out.cells
    have zf0 := BZ3.out.free (i := 0); have zf1 := BZ3.out.free (i := 1); have zf2 := BZ3.out.free (i := 2); have zf3 := BZ3.out.free (i := 3); have zf4 := BZ3.out.free (i := 4)
    go_wp2_with fail
    exact bodyPost_ret (v := .agg #[.int .i64 6, .int .i64 0, .int .i64 0, .string t, .slice none 0 0]) (by simp [results, Tryd.results218, go_sem, z0, z1, z2, z3, z4]) rfl (DVal.leaf _ _ _ _ (by unfold In64; omega) in0 in0 (by omega) (by omega) (((((HD3.out.cell (Nat.le_refl _) hcw).cell (Nat.le_refl _) hcw).cell (Nat.le_refl _) hcw).cell (Nat.le_refl _) hcw).cell (Nat.le_refl _) hcw))
  · go_wp2_with fail
    refine (PK.out w1 HD1.out.1).mono ?_
    rintro e2 w2 ⟨t, rfl, ht, hd2⟩
    have HD2 := Lib.hid (HD1.out.trans hd2)
    have BZ2 := Lib.hid (BZ1.out.overC hd2.2 hnc)
    clear hd2
    go_wp2_with fail
    refine (l02Str_any t w2).mono ?_
    rintro e3 w3 ⟨rfl, hd3⟩
    have HD3 := Lib.hid (HD2.out.stay hd3)
    have BZ3 := Lib.hid (BZ2.out.stay hd3)
    clear hd3
    obtain ⟨z0, z1, z2, z3, z4⟩ := BZ3.out.cells
    have zf0 := BZ3.out.free (i := 0); have zf1 := BZ3.out.free (i := 1); have zf2 := BZ3.out.free (i := 2); have zf3 := BZ3.out.free (i := 3); have zf4 := BZ3.out.free (i := 4)
    go_wp2_with fail
    exact bodyPost_ret (v := .agg #[.int .i64 5, .int .i64 0, .int .i64 0, .string t, .slice none 0 0]) (by simp [results, Tryd.results218, go_sem, z0, z1, z2, z3, z4]) rfl (DVal.leaf _ _ _ _ (by unfold In64; omega) in0 in0 ht (by omega) (((((HD3.out.cell (Nat.le_refl _) hcw).cell (Nat.le_refl _) hcw).cell (Nat.le_refl _) hcw).cell (Nat.le_refl _) hcw).cell (Nat.le_refl _) hcw))
  · go_wp2_with fail
    refine (PK.out w1 HD1.out.1).mono ?_
    rintro e2 w2 ⟨t, rfl, ht, hd2⟩
    have HD2 := Lib.hid (HD1.out.trans hd2)
    have BZ2 := Lib.hid (BZ1.out.overC hd2.2 hnc)
    clear hd2
    go_wp2_with fail
    refine (l02Str_any t w2).mono ?_
    rintro e3 w3 ⟨rfl, hd3⟩
    have HD3 := Lib.hid (HD2.out.stay hd3)
    have BZ3 := Lib.hid (BZ2.out.stay hd3)
    clear hd3
    obtain ⟨z0, z1, z2, z3, z4⟩ := BZ3.out.cells
    have zf0 := BZ3.out.free (i := 0); have zf1 := BZ3.out.free (i := 1); have zf2 := BZ3.out.free (i := 2); have zf3 := BZ3.out.free (i := 3); have zf4 := BZ3.out.free (i := 4)
    go_wp2_with fail
    exact bodyPost_ret (v := .agg #[.int .i64 5, .int .i64 0, .int .i64 0, .string t, .slice none 0 0]) (by simp [results, Tryd.results218, go_sem, z0, z1, z2, z3, z4]) rfl (DVal.leaf _ _ _ _ (by unfold In64; omega) in0 in0 ht (by omega) (((((HD3.out.cell (Nat.le_refl _) hcw).cell (Nat.le_refl _) hcw).cell (Nat.le_refl _) hcw).cell (Nat.le_refl _) hcw).cell (Nat.le_refl _) hcw))
  · go_wp2_with fail
    refine (SO.out w1 HD1.out.1).mono ?_
    rintro e2 w2 ⟨t, rfl, ht, hd2⟩
    have HD2 := Lib.hid (HD1.out.trans hd2)
    have BZ2 := Lib.hid (BZ1.out.overC hd2.2 hnc)
    clear hd2
    go_wp2_with fail
    refine (l02Str_any t w2).mono ?_
    rintro e3 w3 ⟨rfl, hd3⟩
    have HD3 := Lib.hid (HD2.out.stay hd3)
    have BZ3 := Lib.hid (BZ2.out.stay hd3)
    clear hd3
    obtain ⟨z0, z1, z2, z3, z4⟩ := BZ3.out.cells
    have zf0 := BZ3.out.free (i := 0); have zf1 := BZ3.out.free (i := 1); have zf2 := BZ3.out.free (i := 2); have zf3 := BZ3.out.free (i := 3); have zf4 := BZ3.out.free (i := 4)
    go_wp2_with fail
    exact bodyPost_ret (v := .agg #[.int .i64 5, .int .i64 0, .int .i64 0, .string t, .slice none 0 0]) (by simp [results, Tryd.results218, go_sem, z0, z1, z2, z3, z4]) rfl (DVal.leaf _ _ _ _ (by unfold In64; omega) in0 in0 (by omega) (by omega) (((((HD3.out.cell (Nat.le_refl _) hcw).cell (Nat.le_refl _) hcw).cell (Nat.le_refl _) hcw).cell (Nat.le_refl _) hcw).cell (Nat.le_refl _) hcw))
  · go_wp2_with fail
    refine (BL.out 1000 (by unfold In64; omega) w1 HD1.out.1).mono ?_
    rintro e2 w2 ⟨y, rfl, hy0, hy1, hd2⟩
    have HD2 := Lib.hid (HD1.out.trans hd2)
    have BZ2 := Lib.hid (BZ1.out.overC hd2.2 hnc)
    clear hd2
    have hy : 0 ≤ y ∧ y ≤ 1000 := by omega
    clear hy0 hy1
    go_wp2_with fail
    refine (PI.out y hy w2 HD2.out.1).mono ?_
    rintro e3 w3 ⟨x, rfl, hx, hd3⟩
    have HD3 := Lib.hid (HD2.out.trans hd3)
    have BZ3 := Lib.hid (BZ2.out.overC hd3.2 hnc)
    clear hd3
    have HX := Lib.hid hx
    clear hx
    go_wp2_with fail
    refine (l02Int_any x w3).mono ?_
    rintro e4 w4 ⟨rfl, hd4⟩
    have HD4 := Lib.hid (HD3.out.stay hd4)
    have BZ4 := Lib.hid (BZ3.out.stay hd4)
    clear hd4
    obtain ⟨z0, z1, z2, z3, z4⟩ := BZ4.out.cells
    have zf0 := BZ4.out.free (i := 0); have zf1 := BZ4.out.free (i := 1); have zf2 := BZ4.out.free (i := 2); have zf3 := BZ4.out.free (i := 3); have zf4 := BZ4.out.free (i := 4)
    go_wp2_with fail
    exact bodyPost_ret (v := .agg #[.int .i64 3, .int .i64 x, .int .i64 0, .string ⟨#[]⟩, .slice none 0 0]) (by simp [results, Tryd.results218, go_sem, z0, z1, z2, z3, z4]) rfl (DVal.leaf _ _ _ _ in3 HX.out in0 (by simp [ByteArray.size]) (by omega) (((((HD4.out.cell (Nat.le_refl _) hcw).cell (Nat.le_refl _) hcw).cell (Nat.le_refl _) hcw).cell (Nat.le_refl _) hcw).cell (Nat.le_refl _) hcw))
end Go.Proofs.YtgbgeocmjdgmoaaDoor
