/- The text keys of a value, node by node: impl.allKeys. -/
import Derived.Test.YtlholofiepjeaaaKeys
import Derived.Test.YtlholofiepjeaaaWalk
import Derived.WalkSpells
import Derived.Lib.Hide
import Derived.Deep.RegionLaw
import Derived.Deep.RegionWith
import Derived.BigGuard
namespace Go.Proofs.Ytlholofiepjeaaa
open Go.RowKit
def k5 (t : V) : List ByteArray := if t.k = 5 then [t.s] else []
/-- the texts that stand at the even places -/
def evs : List V → List ByteArray
  | [] => []
  | [t] => k5 t
  | t :: _ :: ts => k5 t ++ evs ts
theorem evs_take : ∀ (ts : List V) (i : Nat), i % 2 = 0 → (h : i < ts.length) → evs (ts.take (i + 2)) = evs (ts.take i) ++ k5 ts[i]
  | [], i, _, h => by simp at h
  | [t], i, _, h => by
    have : i = 0 := by simp at h; omega
    subst this; simp [evs]
  | t :: u :: ts, 0, _, _ => by simp [evs]
  | t :: u :: ts, 1, h, _ => by omega
  | t :: u :: ts, i + 2, h, hl => by
    have := evs_take ts i (by omega) (by simpa using hl)
    simp only [List.take_succ_cons, evs, this, List.append_assoc, List.getElem_cons_succ]
theorem evs_length : ∀ ts : List V, (evs ts).length ≤ ts.length
  | [] => by simp [evs]
  | [t] => by simp only [evs, k5]; split <;> simp
  | t :: u :: ts => by
    have := evs_length ts
    have h2 : (k5 t).length ≤ 1 := by unfold k5; split <;> simp
    simp only [evs, List.length_append, List.length_cons]; omega
def keys1 (u : V) : List ByteArray := if u.k = 8 then evs u.kids else []
theorem cap_round {c B : Nat} {o o' v2 : Value} {W1 wr W w2 : World} {T : TypeId} {l : List ByteArray} (ht : Touch (own2 c o) (own2 c o') W1 wr) (hW : Below wr.heap.size wr W) (hg : W.grownBy w2 o'.ownBlock) (hf : FreshOr W o' v2)
    (hr : SRow w2 B v2 l) (hc : w2.heap[c]? = some (.cells #[o'] T (0, 0))) (hno : o'.ownBlock ≠ some c) (hcw : c < wr.heap.size) :
    (w2.setCell ⟨c, 0, none⟩ v2).heap[c]? = some (.cells #[v2] T (0, 0)) ∧ SRow (w2.setCell ⟨c, 0, none⟩ v2) B v2 l ∧ v2.ownBlock ≠ some c ∧ Touch (own2 c o) (own2 c v2) W1 (w2.setCell ⟨c, 0, none⟩ v2) := by
  have hn2 : v2.ownBlock ≠ some c := by
    rcases hf with e | e
    · rw [e]; exact hno
    · rw [e]; intro h; simp only [Option.some.injEq] at h; have := hW.size; omega
  refine ⟨?_, hr.keep (fun x hx => heap_setCell_other _ _ _ _ (fun e => hn2 (by rw [hx]; exact congrArg some e))), hn2, ht.trans (touch_app hW hg hf v2)⟩
  rw [heap_setCell_same w2 c 0 #[o'] T v2 hc]; rfl
set_option maxHeartbeats 400000 in
theorem allKeys1_map (c B : Nat) (o : Value) (k n e : Int) (s : ByteArray) (a : Option Addr) (b off cap : Nat) (ts : List V) (sls : Nat → Value) (w : World) (hlen : ts.length ≤ 4194304) (hk : k = 8) (ha : ts ≠ [] → a = some ⟨b, off, none⟩) (hcb : ts ≠ [] → b < B) (hBc : B ≤ c) (hcw : c < w.heap.size) (hno : o.ownBlock ≠ some c)
    (cells : ∀ i (h : i < ts.length), Cells5 w b (off + i * 5) ts[i] (sls i)) (wfs : ∀ i (h : i < ts.length), ts[i].wf) (hc : w.heap[c]? = some (.cells #[o] 39 (0, 0))) (l : List ByteArray) (hl : l.length ≤ 4194304) (hrow : SRow w B o l) :
    Calls Try.prog 44 #[.agg #[.int .i64 k, .int .i64 n, .int .i64 e, .string s, .slice a ts.length cap], .pointer (some ⟨c, 0, none⟩)] w fun e w' => e = .returned (.tuple #[]) ∧
      ∃ o', w'.heap[c]? = some (.cells #[o'] 39 (0, 0)) ∧ SRow w' B o' (l ++ evs ts) ∧ o'.ownBlock ≠ some c ∧ Touch (own2 c o) (own2 c o') w w' := by
  have CC := Lib.hid cells; have HA := Lib.hid ha; have WF := Lib.hid wfs; have HCB := Lib.hid hcb; have HC := Lib.hid hc
  clear cells ha wfs hcb hc
  have HROW := Lib.hid hrow; have HN0 := Lib.hid hno; clear hrow hno
  have hk0 : (k == 8) = true := by simpa using hk
  clear hk
  go_enter Try.func44, Try.ntmps44
  go_wp2_with fail
  generalize hW1 : w.alloc (Obj.cells #[Value.int IntKind.i64 k, Value.int IntKind.i64 n, Value.int IntKind.i64 e, Value.string s, Value.slice a ts.length cap] 35) = W1 at *
  have hB : W1.heap.size = w.heap.size + 1 := by rw [← hW1]; simp
  have HB := Lib.hid hB; clear hB
  have HW0 := Lib.hid (show Below w.heap.size w W1 by rw [← hW1]; exact (Below.refl _ _).alloc (Nat.le_refl _) _)
  have HC0 := Lib.hid (show W1.cell? ⟨w.heap.size, 0, none⟩ = some (.int .i64 k) by rw [← hW1]; simp)
  have HC4 := Lib.hid (show W1.cell? ⟨w.heap.size, 4, none⟩ = some (.slice a ts.length cap) by rw [← hW1]; simp)
  clear hW1
  go_loopw [3] (fun i wr => ∃ j : Nat, j % 2 = 0 ∧ i = .int .i64 j ∧ j ≤ ts.length + 1 ∧ ∃ o', wr.heap[c]? = some (.cells #[o'] 39 (0, 0)) ∧ SRow wr B o' (l ++ evs (ts.take j)) ∧ o'.ownBlock ≠ some c ∧ Touch (own2 c o) (own2 c o') W1 wr) (fun i _ => ts.length + 2 - (intOf i).toNat)
  case atStart => exact ⟨0, rfl, rfl, by omega, o, by rw [HW0.out.block c hcw]; exact HC.out, by simpa [evs] using HROW.out.keep (fun x hx => HW0.out.block x (HROW.out.lt x hx).2), HN0.out, Touch.refl _ _⟩
  case round =>
    obtain ⟨j, hj, rfl, hj1, o', hco, hrow, hno', ht⟩ := hrel
    have hnb : ¬ own2 c o' w.heap.size := fun e => (ht.new _ e).elim (fun e => e.elim (fun e => by omega) (fun e => by have := (HROW.out.lt _ e).2; omega)) (fun e => by rw [HB.out] at e; omega)
    have hnb0 : ¬ own2 c o w.heap.size := fun e => e.elim (fun e => by omega) (fun e => by have := (HROW.out.lt _ e).2; omega)
    have hxb : wr.heap[w.heap.size]? = W1.heap[w.heap.size]? := ht.block _ (by rw [HB.out]; omega) hnb0
    have hc0 : wr.cell? ⟨w.heap.size, 0, none⟩ = some (.int .i64 k) := by rw [World.cell?_of_block (a := ⟨w.heap.size, 0, none⟩) hxb]; exact HC0.out
    have hc4 : wr.cell? ⟨w.heap.size, 4, none⟩ = some (.slice a ts.length cap) := by rw [World.cell?_of_block (a := ⟨w.heap.size, 4, none⟩) hxb]; exact HC4.out
    have hcc : wr.cell? ⟨c, 0, none⟩ = some o' := cell_of_one hco
    have HT := Lib.hid ht; have HR := Lib.hid hrow; have HCO := Lib.hid hco; have HNO := Lib.hid hno'
    clear ht hrow hco hno' hnb hnb0 hxb
    by_cases hlt : j < ts.length
    · have hne : ts ≠ [] := by intro e; rw [e] at hlt; simp at hlt
      obtain rfl := HA.out hne
      have hbc := HCB.out hne
      have hbx : wr.heap[b]? = w.heap[b]? := (HT.out.block b (by rw [HB.out]; omega) (fun e => e.elim (fun e => by omega) (fun e => by have := (HROW.out.lt _ e).1; omega))).trans (HW0.out.block b (by omega))
      obtain ⟨c0, c1, c2, c3, c4⟩ := (CC.out j hlt).keep hbx
      have HE := Lib.hid (evs_take ts j hj hlt)
      have hs3 : ts[j].s.size ≤ 9223372036854775807 := (WF.out j hlt).2.2.2
      clear hbx
      generalize hxk : ts[j].k = xk at *
      have HXK := Lib.hid hxk; clear hxk
      generalize hxs : ts[j].s = xs at *
      have HXS := Lib.hid hxs; clear hxs
      by_cases h5 : xk = 5
      · have HO := Lib.hid (show k5 ts[j] = [xs] by rw [k5, if_pos (by rw [HXK.out]; exact h5), HXS.out])
        have t3 : (xk == 5) = true := by simpa using h5
        clear h5
        go_wp2_with fail
        have S1 := Lib.hid (src_str1 wr.drew xs)
        have R1 := Lib.hid (show SRow (wr.drew.alloc (.cells #[.string xs] 9)) B o' (l ++ evs (ts.take j)) from HR.out.keep (fun x hx => Below.heap_alloc wr.drew _ _ (HR.out.lt x hx).2))
        have HL := Lib.hid (show (l ++ evs (ts.take j)).length ≤ 8388608 by rw [List.length_append]; have := evs_length (ts.take j); rw [List.length_take] at this; omega)
        have hcs : c < wr.heap.size := World.block_lt_of_cell? wr _ hcc
        go_region_law (refine step_strs rfl _ _ _ rfl B o' (l ++ evs (ts.take j)) rfl R1.out _ rfl [xs] S1.out (by intro q hq; simp at hq; rw [hq]; exact hs3) (by have := HL.out; simp only [List.length_cons, List.length_nil]; omega) (by simp; omega) ?_; intro v2 w2 hrow2 hg2 hfr2; obtain ⟨sa2, sn2, sc2, rfl⟩ := hrow2.slice3; have hcr2 : w2.heap[c]? = some (.cells #[o'] 39 (0, 0)) := (hg2.block c (by simp; omega) (fun e => HNO.out e.symm)).trans ((Below.heap_alloc wr.drew _ _ hcs).trans HCO.out); have hcc2 : w2.cell? ⟨c, 0, none⟩ = some o' := cell_of_one hcr2; have hcf2 : w2.frozen? ⟨c, 0, none⟩ = false := free_of_one hcr2; have HR2 := Lib.hid hrow2; have HG2 := Lib.hid hg2; have HF2 := Lib.hid hfr2; have HC2 := Lib.hid hcr2; clear hrow2 hg2 hfr2 hcr2)
        all_goals go_wp2_with fail
        all_goals have HQ := Lib.hid (cap_round HT.out (((Below.refl _ _).drew).alloc (Nat.le_refl _) _) HG2.out HF2.out HR2.out HC2.out HNO.out hcs)
        all_goals go_roundw
        all_goals first
          | (simp [intOf]; omega)
          | exact ⟨j + 2, by omega, by go_num, by omega, _, HQ.out.1, by rw [HE.out, HO.out, ← List.append_assoc]; exact HQ.out.2.1, HQ.out.2.2.1, HQ.out.2.2.2⟩
      · have HO := Lib.hid (show k5 ts[j] = [] by rw [k5, if_neg (by rw [HXK.out]; exact h5)])
        have t3 : (xk == 5) = false := by simpa using h5
        clear h5
        go_wp2_with fail
        go_roundw
        case rel => exact ⟨j + 2, by omega, by go_num, by omega, o', HCO.out, by rw [HE.out, HO.out, List.append_nil]; exact HR.out, HNO.out, HT.out⟩
        case measure => simp [intOf]; omega
    · have HE := Lib.hid (show ts.take j = ts from List.take_of_length_le (by omega))
      go_wp2_with fail
      go_end0
      refine ⟨rfl, o', HCO.out, by have := HR.out; rw [HE.out] at this; exact this, HNO.out, ?_⟩
      exact (Touch.of_below HW0.out).trans HT.out
theorem enters_allKeys1 : ∀ (args : Array Value) (w : World), (callFunc 44 args).run Try.prog w = .ok (.enter 44 args) w := by
  intro args w
  have h1 : (Try.f44.name == "runtime.NumGoroutine") = false := by kernel_rfl
  have h2 : Try.f44.body.isNone = false := by kernel_rfl
  have h1' : ¬ Try.f44.name = "runtime.NumGoroutine" := by simpa using h1
  have h2' : ¬ Try.f44.body = none := by intro e; rw [e] at h2; cases h2
  simp [callFunc, Try.func44, go_sem, h1', h2']
set_option maxHeartbeats 400000 in
theorem allKeys1_plain (c : Nat) (k n e : Int) (s : ByteArray) (sl : Value) (w : World) (hk : ¬ k = 8) :
    Calls Try.prog 44 #[.agg #[.int .i64 k, .int .i64 n, .int .i64 e, .string s, sl], .pointer (some ⟨c, 0, none⟩)] w fun e w' => e = .returned (.tuple #[]) ∧ Below w.heap.size w w' := by
  have hk0 : (k == 8) = false := by simpa using hk
  clear hk
  go_enter Try.func44, Try.ntmps44
  go_wp2_with fail
  go_loopw [3] (fun i wr => i = .int .i64 0 ∧ wr = w.alloc (Obj.cells #[Value.int IntKind.i64 k, Value.int IntKind.i64 n, Value.int IntKind.i64 e, Value.string s, sl] 35)) (fun i _ => 0)
  case atStart => exact ⟨rfl, rfl⟩
  case round =>
    obtain ⟨rfl, rfl⟩ := hrel
    go_wp2_with fail
    go_end0
    exact ⟨rfl, (by (repeat' (first | with_reducible exact Below.refl _ _ | with_reducible refine below_alloc ?_ _ ?_ | with_reducible refine Below.setCell ?_ ?_ _ | with_reducible refine Below.drew ?_ | with_reducible refine below_drewN ?_ _ | with_reducible refine below_step ?_ (by assumption) ?_)); all_goals (first | omega | (simp; done) | (simp; omega)))⟩
def KeysInv (w0 : World) (c : Nat) (L : List V) (A : Nat → Prop) (w : World) : Prop := w0.heap.size ≤ c ∧ ∃ o, w.heap[c]? = some (.cells #[o] 39 (0, 0)) ∧ SRow w w0.heap.size o (L.flatMap keys1) ∧ o.ownBlock ≠ some c ∧ A = own2 c o
theorem keys1_length (u : V) : (keys1 u).length ≤ u.kids.length := by unfold keys1; split; exact evs_length _; simp
theorem keys1s_length (L : List V) : (L.flatMap keys1).length ≤ wtL L := by
  induction L with
  | nil => simp [wtL]
  | cons u L ih => have := keys1_length u; simp only [List.flatMap_cons, List.length_append, wtL]; omega
theorem keysInv_step (w0 : World) (c : Nat) (u : V) (sl : Value) (L : List V) (A : Nat → Prop) (w : World) (hu : u.wf) (hs : RepS w0 sl u.kids) (hi : KeysInv w0 c L A w) (hw : Below w0.heap.size w0 w) (hf : Few (L ++ [u])) :
    Calls Try.prog 44 #[u.agg sl, .pointer (some ⟨c, 0, none⟩)] w (Yields (KeysInv w0 c) A w (L ++ [u])) := by
  obtain ⟨h0c, o, hc, hrow, hno, rfl⟩ := hi
  have hcw := lt_of_heap hc
  have hl := keys1s_length L
  unfold Few at hf
  rw [wtL_append] at hf
  have hkl : u.kids.length ≤ 4194304 := by simp only [wtL] at hf; omega
  by_cases hk : u.k = 8
  · cases h : hs with
    | mk a b off cap ts0 sls ha hcc hm hbb cells wfs kids =>
      refine (allKeys1_map c w0.heap.size o u.k u.n u.e u.s a b off cap u.kids sls w hkl hk ha hbb h0c hcw hno (fun i hi => (cells i hi).keep (hw.block b (hbb (by intro e; rw [e] at hi; simp at hi)))) wfs hc (L.flatMap keys1) (by omega) hrow).mono ?_
      rintro e w' ⟨rfl, o', h1, h2, h4, h3⟩
      exact ⟨rfl, _, ⟨h0c, o', h1, by rw [List.flatMap_append]; simpa [keys1, hk] using h2, h4, rfl⟩, h3⟩
  · refine (allKeys1_plain c u.k u.n u.e u.s sl w hk).mono ?_
    rintro e w' ⟨rfl, hb⟩
    refine ⟨rfl, own2 c o, ⟨h0c, o, by rw [hb.block c hcw]; exact hc, ?_, hno, rfl⟩, Touch.of_below hb⟩
    rw [List.flatMap_append]
    simpa [keys1, hk] using hrow.keep (fun x hx => hb.block x (hrow.lt x hx).2)
set_option maxHeartbeats 400000 in
theorem allKeys_any (w0 : World) (v : Value) (t : V) (h : Rep w0 v t) (hsz : t.sz ≤ 1048576) (w : World) (hw : Below w0.heap.size w0 w) :
    Calls Try.prog 38 #[v] w (StrsRet w (t.pre.flatMap keys1)) := by
  obtain ⟨sl, rfl, hwf, hr⟩ := h.keep hw
  clear hw h
  have hwk := fun (L : List V) (A : Nat → Prop) (W : World) (c : Nat) (hi : KeysInv w c L A W) (hW : Below w.heap.size w W) (hf : Few (L ++ t.pre)) =>
    walk_any w 44 (.pointer (some ⟨c, 0, none⟩)) (KeysInv w c) enters_allKeys1
      (fun L A _ _ ⟨h0, o, h1, h2, h4, h3⟩ hb => ⟨h0, o, by rw [hb.block c (lt_of_heap h1)]; exact h1, h2.keep (fun x hx => hb.block x (h2.lt x hx).2), h4, h3⟩)
      (fun L A _ ⟨h0, o, h1, h2, h4, h3⟩ x hx => by
        subst h3
        rcases hx with hx | hx
        · subst hx; exact ⟨h0, lt_of_heap h1⟩
        · exact h2.lt x hx)
      (fun u sl L A W hu hs hi hw hf => keysInv_step w c u sl L A W hu hs hi hw hf) sl t.kids hr t rfl hwf L A W hi hW hf
  have HW := Lib.hid hwk; clear hwk
  have HF := Lib.hid (few_pre hsz)
  unfold V.agg at HW ⊢
  generalize t.k = vk at *
  generalize t.n = vn at *
  generalize t.e = ve at *
  generalize t.s = vs at *
  go_enter Try.func38, Try.ntmps38
  go_wp2_with fail
  refine (HW.out [] _ _ (w.heap.size + 1 + 1) ⟨by omega, .slice (some ⟨w.heap.size + 1, 0, none⟩) 0 0, ?_, ?_, by simp [Value.ownBlock], rfl⟩ ?_ HF.out).mono ?_
  · have := heap_alloc_new ((w.alloc (Obj.cells #[Value.int IntKind.i64 vk, Value.int IntKind.i64 vn, Value.int IntKind.i64 ve, Value.string vs, sl] 35)).alloc (Obj.cells #[] 9)) (Obj.cells #[Value.slice (some { block := w.heap.size + 1, off := 0 }) 0 0] 39)
    simpa using this
  · have := SRow.made0 (w := w.alloc (Obj.cells #[Value.int IntKind.i64 vk, Value.int IntKind.i64 vn, Value.int IntKind.i64 ve, Value.string vs, sl] 35)) (base := w.heap.size) (by simp)
    rw [show (w.alloc (Obj.cells #[Value.int IntKind.i64 vk, Value.int IntKind.i64 vn, Value.int IntKind.i64 ve, Value.string vs, sl] 35)).heap.size = w.heap.size + 1 by simp] at this
    exact this.keep (fun x hx => Below.heap_alloc _ _ _ (by simp [Value.ownBlock] at hx; simp; omega))
  · exact (by (repeat' (first | with_reducible exact Below.refl _ _ | with_reducible refine below_alloc ?_ _ ?_ | with_reducible refine Below.setCell ?_ ?_ _ | with_reducible refine Below.drew ?_ | with_reducible refine below_drewN ?_ _ | with_reducible refine below_step ?_ (by assumption) ?_)); all_goals (first | omega | (simp; done) | (simp; omega)))
  · rintro e1 w1 ⟨rfl, A1, ⟨_, o, h1, h2, h3, h4⟩, ht⟩
    have hc1 := cell_of_one h1
    have HR := Lib.hid h2
    have HT := Lib.hid (ht.below (B := w.heap.size) (fun x hx => by rcases hx with hx | hx; (omega); (simp [Value.ownBlock] at hx; omega)) (by simp; omega))
    clear h1 h2 ht h4 h3
    go_wp2_with fail
    go_ret
    refine ⟨_, rfl, by simpa using HR.out, Below.trans ?_ HT.out⟩
    exact (by (repeat' (first | with_reducible exact Below.refl _ _ | with_reducible refine below_alloc ?_ _ ?_ | with_reducible refine Below.setCell ?_ ?_ _ | with_reducible refine Below.drew ?_ | with_reducible refine below_drewN ?_ _ | with_reducible refine below_step ?_ (by assumption) ?_)); all_goals (first | omega | (simp; done) | (simp; omega)))
end Go.Proofs.Ytlholofiepjeaaa
