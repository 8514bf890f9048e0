/- The text keys of a value, each once: spec.KeysOf and impl.KeysOf. -/
import Derived.Test.YtmjnghlmmaalhaaNames
import Derived.Test.YtmjnghlmmaalhaaSets
import Derived.Test.YtmjnghlmmaalhaaKio
import Derived.Deep.RegionLaw
import Derived.OwnWalk
namespace Go.Proofs.Ytmjnghlmmaalhaa
set_option linter.unusedVariables false
open Go.RowKit
theorem dd_take (L : List ByteArray) (k : Nat) (h : k < L.length) : dd (L.take (k + 1)) = ddStep (dd (L.take k)) L[k] := by
  rw [List.take_succ_eq_append_getElem h, dd_snoc]
set_option maxHeartbeats 400000 in
theorem KeysOf_spec (w0 : World) (v : Value) (t : V) (h : Rep w0 v t) (hsz : t.sz ≤ 1048576) (w : World) (hw : Below w0.heap.size w0 w) :
    Calls Try.prog 11 #[v] w (StrsRet w (dd t.keysR)) := by
  obtain ⟨sl, rfl, hwf, hr⟩ := h
  have K1 := Lib.hid (fun w'' (hh : Below w.heap.size w w'') => l11Keys_any w0 sl t.kids hr (by have := V.sz_eq t; omega) t rfl w'' (below_step hw hh (Nat.le_refl _)))
  have hkl : t.keysR.length ≤ 1048576 := Nat.le_trans (keysR_length t) hsz
  unfold V.agg at K1 ⊢
  generalize t.k = vk at *
  generalize t.n = vn at *
  generalize t.e = ve at *
  generalize t.s = vs at *
  generalize t.keysR = kl at *
  clear hr hwf hsz
  go_enter Try.func11, Try.ntmps11
  go_wp2_with fail
  refine (K1.out _ (by (repeat' (first | with_reducible exact Below.refl _ _ | with_reducible refine below_alloc ?_ _ ?_ | with_reducible refine Below.setCell ?_ ?_ _ | with_reducible refine Below.drew ?_ | with_reducible refine below_drewN ?_ _ | with_reducible refine below_step ?_ (by assumption) ?_)); all_goals (first | omega | (simp; done) | (simp; omega)))).mono ?_
  rintro e1 w1 ⟨kv, rfl, hk1, hb1⟩
  have hz1 := hb1.size
  simp at hz1
  have hks := hk1.2
  have HRK := Lib.hid hk1.rep
  obtain ⟨ka, kb, koff, kcap, rfl, hka, hkc, hkm, hkcell⟩ := hk1.rep
  have HKA := Lib.hid hka; have HKC := Lib.hid hkcell
  have HB1 := Lib.hid (show Below w.heap.size w w1 by exact (by (repeat' (first | with_reducible exact Below.refl _ _ | with_reducible refine below_alloc ?_ _ ?_ | with_reducible refine Below.setCell ?_ ?_ _ | with_reducible refine Below.drew ?_ | with_reducible refine below_drewN ?_ _ | with_reducible refine below_step ?_ (by assumption) ?_)); all_goals (first | omega | (simp; done) | (simp; omega))))
  have R0 := Lib.hid (show SRow w1 w.heap.size (.slice (some ⟨w.heap.size + 1, 0, none⟩) 0 0) [] by
    have := SRow.made0 (w := w.alloc (Obj.cells #[Value.int IntKind.i64 vk, Value.int IntKind.i64 vn, Value.int IntKind.i64 ve, Value.string vs, sl] 29)) (base := w.heap.size) (by simp)
    rw [show (w.alloc (Obj.cells #[Value.int IntKind.i64 vk, Value.int IntKind.i64 vn, Value.int IntKind.i64 ve, Value.string vs, sl] 29)).heap.size = w.heap.size + 1 by simp] at this
    exact this.keep (fun x hx => hb1.block x (by simp [Value.ownBlock] at hx; simp; omega)))
  have hkb0 : kl ≠ [] → kb ≠ w.heap.size + 1 := fun hne => by
    obtain ⟨g, cap', e, hg, _⟩ : ∃ g cap', Value.slice ka kl.length kcap = .slice (some ⟨g, 0, none⟩) kl.length cap' ∧ w.heap.size + 1 + 1 ≤ g ∧ True := by
      rcases hk1.1.2 with ⟨e, hn⟩ | ⟨g, cap', cur, e, hg, _⟩
      · exact absurd (List.eq_nil_of_length_eq_zero hn) hne
      · exact ⟨g, cap', e, by simpa using hg, trivial⟩
    have := (hka hne).1
    subst this
    simp at e
    omega
  have HKB := Lib.hid hkb0
  clear hka hkc hkm hkcell hk1 hks hkb0
  go_wp2_with fail
  go_loopw [3, 5] (fun o i wr => ∃ k : Nat, k ≤ kl.length ∧ i = .int .i64 k ∧ SRow wr w.heap.size o (dd (kl.take k)) ∧ Touch (ownR (.slice (some ⟨w.heap.size + 1, 0, none⟩) 0 0)) (ownR o) w1 wr) (fun _ i _ => kl.length - (intOf i).toNat)
  case atStart => exact ⟨0, by omega, rfl, by simpa [dd] using R0.out, Touch.refl _ _⟩
  case round =>
    obtain ⟨k, hk, rfl, hrow, hbl⟩ := hrel
    have HROW := Lib.hid hrow; clear hrow
    by_cases hlt : k < kl.length
    · have hne : kl ≠ [] := by intro e; rw [e] at hlt; simp at hlt
      obtain ⟨rfl, hbw⟩ := HKA.out hne
      have hcell : wr.cell? ⟨kb, koff + k, none⟩ = some (.string kl[k]) := by
        rw [World.cell?_of_block (a := ⟨kb, koff + k, none⟩) (hbl.block kb hbw (fun e => HKB.out hne (by simpa [ownR, Value.ownBlock] using e.symm)))]; exact (HKC.out k hlt).1
      have hs3 := (HKC.out k hlt).2
      have HT := Lib.hid (dd_take kl k hlt)
      have A1 := Lib.hid (fun s w'' (hh : Below wr.heap.size wr w'') => l11At_any wr u3 _ s HROW.out.rep w'' hh)
      have HLEN := Lib.hid (show (dd (kl.take k)).length ≤ 1048576 by have := dd_length (kl.take k); rw [List.length_take] at this; omega)
      generalize kl[k] = s at *
      generalize dd (kl.take k) = L at *
      go_wp2_with fail
      refine (A1.out s _ (by (repeat' (first | with_reducible exact Below.refl _ _ | with_reducible refine below_alloc ?_ _ ?_ | with_reducible refine Below.setCell ?_ ?_ _ | with_reducible refine Below.drew ?_ | with_reducible refine below_drewN ?_ _ | with_reducible refine below_step ?_ (by assumption) ?_)); all_goals (first | omega | (simp; done) | (simp; omega)))).mono ?_
      rintro e2 w2 ⟨rfl, hw2⟩
      subst w2
      by_cases hx : 0 ≤ atS L s
      · have HN := Lib.hid (show dd (kl.take (k + 1)) = L by rw [HT.out, ddStep, if_pos (atS_nonneg.1 hx)])
        generalize atS L s = x at *
        go_wp2_with fail
        go_roundw
        case rel => exact ⟨k + 1, by omega, by go_num, by rw [HN.out]; exact HROW.out, hbl⟩
        case measure => simp [intOf]; omega
      · have HN := Lib.hid (show dd (kl.take (k + 1)) = L ++ [s] by rw [HT.out, ddStep, if_neg (fun e => hx (atS_nonneg.2 e))])
        generalize atS L s = x at *
        have hzr := hbl.size
        have S1 := Lib.hid (src_str1 wr s)
        have R1 := Lib.hid (show SRow (wr.alloc (.cells #[.string s] 9)) w.heap.size u3 L from HROW.out.keep (fun x hx => Below.heap_alloc _ _ _ (HROW.out.lt x hx).2))
        go_wp2_with (at_builtin; refine app_strs rfl _ _ _ rfl w.heap.size _ _ rfl R1.out _ rfl _ S1.out (by intro q hq; simp at hq; rw [hq]; exact hs3) (by have := HLEN.out; first | omega | (simp; omega)) (by simp; omega) ?_; intro v2 w2 hrow2 hg2 hfr2)
        go_roundw
        case rel => exact ⟨k + 1, by omega, by go_num, by rw [HN.out]; exact hrow2, hbl.trans (touch_row ((Below.refl _ _).alloc (Nat.le_refl _) _) hg2 hfr2)⟩
        case measure => simp [intOf]; omega
    · have H := Lib.hid (show kl.take k = kl from List.take_of_length_le (by omega))
      go_wp2_with fail
      go_ret
      refine ⟨_, rfl, by have := HROW.out; rw [H.out] at this; exact this, HB1.out.trans (hbl.below (fun x hx => by simp [ownR, Value.ownBlock] at hx; omega) (by omega))⟩
/-- what the function value's two variables hold: the set, and the list -/
def ownK (c1 c2 m : Nat) (o : Value) : Nat → Prop := fun x => x = c1 ∨ x = c2 ∨ x = m ∨ o.ownBlock = some x
structure KOf (B c1 c2 m : Nat) (L : List ByteArray) (o : Value) (w : World) : Prop where
  b1 : B ≤ c1
  b2 : B ≤ c2
  bm : B ≤ m
  n12 : c1 ≠ c2
  n1m : c1 ≠ m
  n2m : c2 ≠ m
  h1 : w.heap[c1]? = some (.cells #[.map (some m)] 54 (0, 0))
  h2 : w.heap[c2]? = some (.cells #[o] 33 (0, 0))
  hm : BSet w m (dd L).length (dd L)
  hr : SRow w B o (dd L)
  o1 : o.ownBlock ≠ some c1
  o2 : o.ownBlock ≠ some c2
  om : o.ownBlock ≠ some m
def KInv (B c1 c2 m : Nat) (L : List ByteArray) (A : Nat → Prop) (w : World) : Prop := ∃ o, KOf B c1 c2 m L o w ∧ A = ownK c1 c2 m o
theorem KOf.keep {B c1 c2 m : Nat} {L : List ByteArray} {o : Value} {w w' : World} (h : KOf B c1 c2 m L o w) (hb : ∀ x, ownK c1 c2 m o x → w'.heap[x]? = w.heap[x]?) : KOf B c1 c2 m L o w' :=
  { h with
    h1 := by rw [hb c1 (.inl rfl)]; exact h.h1
    h2 := by rw [hb c2 (.inr (.inl rfl))]; exact h.h2
    hm := h.hm.keep (hb m (.inr (.inr (.inl rfl))))
    hr := h.hr.keep (fun x hx => hb x (.inr (.inr (.inr hx)))) }
theorem KOf.lt {B c1 c2 m : Nat} {L : List ByteArray} {o : Value} {w : World} (h : KOf B c1 c2 m L o w) : ∀ x, ownK c1 c2 m o x → B ≤ x ∧ x < w.heap.size := by
  rintro x (rfl | rfl | rfl | hx)
  · exact ⟨h.b1, lt_of_heap h.h1⟩
  · exact ⟨h.b2, lt_of_heap h.h2⟩
  · exact ⟨h.bm, h.hm.lt⟩
  · exact h.hr.lt x hx
theorem dd_same {L : List ByteArray} {s : ByteArray} (h : s ∈ dd L) : dd (L ++ [s]) = dd L := by rw [dd_snoc, ddStep, if_pos h]
theorem dd_new {L : List ByteArray} {s : ByteArray} (h : ¬ s ∈ dd L) : dd (L ++ [s]) = dd L ++ [s] := by rw [dd_snoc, ddStep, if_neg h]
theorem KOf.add {B c1 c2 m : Nat} {L : List ByteArray} {o v2 : Value} {w w1 w2 : World} {s : ByteArray} (h : KOf B c1 c2 m L o w) (hs : ¬ s ∈ dd L)
    (g1 : w.grownBy w1 (some m)) (hm : BSet w1 m ((dd L).length + 1) (dd L ++ [s])) (W : World) (hW : Below w1.heap.size w1 W) (g2 : W.grownBy w2 o.ownBlock) (hf : FreshOr W o v2) (hr : SRow w2 B v2 (dd L ++ [s])) :
    KOf B c1 c2 m (L ++ [s]) v2 (w2.setCell ⟨c2, 0, none⟩ v2) ∧ Touch (ownK c1 c2 m o) (ownK c1 c2 m v2) w (w2.setCell ⟨c2, 0, none⟩ v2) := by
  have l1 := lt_of_heap h.h1
  have l2 := lt_of_heap h.h2
  have lm := h.hm.lt
  have z1 := g1.size
  have zW := hW.size
  have z2 := g2.size
  have nv : ∀ c, c < w.heap.size → o.ownBlock ≠ some c → v2.ownBlock ≠ some c := by
    intro c hc ho e
    rcases hf with f | f
    · rw [f] at e; exact ho e
    · rw [f] at e; simp only [Option.some.injEq] at e; omega
  have blk : ∀ x, x < w.heap.size → x ≠ m → o.ownBlock ≠ some x → w2.heap[x]? = w.heap[x]? := fun x hx hxm hxo => by
    rw [g2.block x (by omega) (fun e => hxo e.symm), hW.block x (by omega), g1.block x hx (fun e => hxm (by simpa using e))]
  have bm2 : w2.heap[m]? = w1.heap[m]? := by
    rw [g2.block m (by omega) (fun e => h.om e.symm), hW.block m (by omega)]
  have e2 : w2.heap[c2]? = some (.cells #[o] 33 (0, 0)) := by rw [blk c2 l2 h.n2m h.o2]; exact h.h2
  have oth : ∀ x, x ≠ c2 → (w2.setCell ⟨c2, 0, none⟩ v2).heap[x]? = w2.heap[x]? := fun x hx => heap_setCell_other _ _ _ _ hx
  refine ⟨{ h with h1 := ?_, h2 := ?_, hm := ?_, hr := ?_, o1 := nv c1 l1 h.o1, o2 := nv c2 l2 h.o2, om := nv m lm h.om }, ?_⟩
  · rw [oth c1 h.n12, blk c1 l1 h.n1m h.o1]; exact h.h1
  · rw [heap_setCell_same w2 c2 0 #[o] _ v2 e2]; rfl
  · rw [dd_new hs, List.length_append]
    exact hm.keep (by rw [oth m (fun e => h.n2m e.symm)]; exact bm2)
  · rw [dd_new hs]
    exact hr.keep (fun x hx => oth x (fun e => nv c2 l2 h.o2 (by rw [hx, e])))
  · refine ⟨g2.os.trans (hW.os.trans g1.os), g2.tape.trans (hW.tape.trans g1.tape), g2.output.trans (hW.output.trans g1.output), by simp; omega, fun x hx hn => ?_, fun x hx => ?_⟩
    · rw [oth x (fun e => hn (.inr (.inl e)))]
      exact blk x hx (fun e => hn (.inr (.inr (.inl e)))) (fun e => hn (.inr (.inr (.inr e))))
    · rcases hx with hx | hx | hx | hx
      · exact .inl (.inl hx)
      · exact .inl (.inr (.inl hx))
      · exact .inl (.inr (.inr (.inl hx)))
      · rcases hf with f | f
        · rw [f] at hx; exact .inl (.inr (.inr (.inr hx)))
        · rw [f] at hx; simp only [Option.some.injEq] at hx; right; omega
theorem SRow.up {w w1 : World} {base : Nat} {v : Value} {l : List ByteArray} (h : SRow w base v l) (ob : Obj) (hk : ∀ x, v.ownBlock = some x → x < w1.heap.size ∧ w1.heap[x]? = w.heap[x]?) : SRow (w1.alloc ob) base v l :=
  h.keep (fun x hx => (Below.heap_alloc _ _ _ (hk x hx).1).trans (hk x hx).2)
set_option maxHeartbeats 400000 in
theorem KeysOf1_any (B c1 c2 m : Nat) (s : ByteArray) (L : List ByteArray) (A : Nat → Prop) (w : World) (hs : s.size ≤ 9223372036854775807) (hi : KInv B c1 c2 m L A w) (hBw : B ≤ w.heap.size) (hf : FewS (L ++ [s])) :
    Calls Try.prog 33 #[.string s, .pointer (some ⟨c1, 0, none⟩), .pointer (some ⟨c2, 0, none⟩)] w (YieldsS (KInv B c1 c2 m) A w (L ++ [s])) := by
  obtain ⟨o, hk, rfl⟩ := hi
  have hlen : (dd L).length ≤ 4194304 := by have := dd_length L; have h2 := hf.of_append; unfold FewS at h2; omega
  have d1 := cell_of_one hk.h1
  have d2 := cell_of_one hk.h2
  have l1 := lt_of_heap hk.h1
  have l2 := lt_of_heap hk.h2
  have hlook := hk.hm.look s hs
  have HK := Lib.hid hk
  by_cases hin : s ∈ dd L
  · have e1 : decide (s ∈ dd L) = true := decide_eq_true hin
    rw [e1] at hlook
    have HY := Lib.hid (show ∀ w', Below w.heap.size w w' → YieldsS (KInv B c1 c2 m) (ownK c1 c2 m o) w (L ++ [s]) (.returned (.tuple #[])) w' from fun w' hb => by
      refine ⟨rfl, ownK c1 c2 m o, ⟨o, ?_, rfl⟩, Touch.of_below hb⟩
      have hkk := HK.out.keep (w' := w') (fun x hx => hb.block x (HK.out.lt x hx).2)
      exact { hkk with hm := by rw [dd_same hin]; exact hkk.hm, hr := by rw [dd_same hin]; exact hkk.hr })
    clear hk e1 hin hf
    generalize hDL : dd L = DL at *
    go_enter Try.func33, Try.ntmps33
    go_wp2_with fail
    go_end0
    exact HY.out _ (Below.refl _ _)
  · have e1 : decide (s ∈ dd L) = false := decide_eq_false hin
    rw [e1] at hlook
    have HIN := Lib.hid hin
    have HN := Lib.hid (And.intro hk.n12 (And.intro hk.n1m (And.intro hk.n2m (And.intro hk.o1 (And.intro hk.o2 hk.om)))))
    have HM := Lib.hid hk.hm
    have HR := Lib.hid hk.hr
    have HH2 := Lib.hid hk.h2
    have hm0 := hk.hm.lt
    clear hk e1 hin hf
    go_enter Try.func33, Try.ntmps33
    obtain ⟨so, no, co, rfl⟩ := HR.out.slice3
    go_wp2_with (first | (at_mapUpdate; go_loud (refine wp_setAdd rfl _ _ _ rfl m _ (dd L) rfl HM.out (by omega) s hs rfl rfl ?_); intro w1 hm1 hg1; have hz1 := hg1.size; have hh2 : w1.heap[c2]? = _ := (hg1.block c2 l2 (fun e => HN.out.2.2.1 (by simpa using e))).trans HH2.out; have HH3 := Lib.hid hh2; have dd2 : w1.cell? ⟨c2, 0, none⟩ = some (.slice so no co) := cell_of_one hh2; have HM1 := Lib.hid hm1; have HG1 := Lib.hid hg1; have S1 := Lib.hid (src_str1 w1 s); have R1 := Lib.hid (HR.out.up (w1 := w1) (.cells #[.string s] 9) (fun x hx => ⟨by have := (HR.out.lt x hx).2; omega, HG1.out.block x (HR.out.lt x hx).2 (fun e => HN.out.2.2.2.2.2 (by rw [hx, e]))⟩)); clear hm1 hg1 hh2) | (at_builtin; go_loud (refine app_strs rfl _ _ _ rfl B _ _ rfl R1.out _ rfl [s] S1.out (by intro q hq; simp at hq; rw [hq]; exact hs) (by simp only [List.length_cons, List.length_nil]; omega) (by simp; omega) ?_); intro v2 w2 hrow2 hg2 hfr2; obtain ⟨sa2, sn2, sc2, rfl⟩ := hrow2.slice3; have hc2 : w2.heap[c2]? = some (.cells #[.slice so no co] 33 (0, 0)) := (hg2.block c2 (by simp; omega) (fun e => HN.out.2.2.2.2.1 e.symm)).trans ((Below.heap_alloc _ _ _ (by omega)).trans HH3.out); have hcc2 : w2.cell? ⟨c2, 0, none⟩ = some (.slice so no co) := cell_of_one hc2; have hcf2 : w2.frozen? ⟨c2, 0, none⟩ = false := free_of_one hc2; have HQ := Lib.hid (KOf.add HK.out HIN.out HG1.out HM1.out _ ((Below.refl _ _).alloc (Nat.le_refl _) _) hg2 hfr2 hrow2); clear hrow2 hg2 hfr2 hc2))
    go_end0
    exact ⟨rfl, _, ⟨_, HQ.out.1, rfl⟩, HQ.out.2⟩
theorem enters_KeysOf1 : ∀ (args : Array Value) (w : World), (callFunc 33 args).run Try.prog w = .ok (.enter 33 args) w := by
  intro args w
  have h1 : (Try.f33.name == "runtime.NumGoroutine") = false := by kernel_rfl
  have h2 : Try.f33.body.isNone = false := by kernel_rfl
  have h1' : ¬ Try.f33.name = "runtime.NumGoroutine" := by simpa using h1
  have h2' : ¬ Try.f33.body = none := by intro e; rw [e] at h2; cases h2
  simp [callFunc, Try.func33, go_sem, h1', h2']
/-- the five blocks of impl.KeysOf -/
theorem kof_start {w W : World} {g : Nat} (hg : W.heap.size = g) (hB : Below w.heap.size w W) (hwg : w.heap.size ≤ g) :
    KOf w.heap.size (g + 1) (g + 1 + 1 + 1) g [] (.slice (some ⟨g + 1 + 1, 0, none⟩) 0 0)
      ((((W.alloc (.map #[] 0)).alloc (.cells #[.map (some g)] 54)).alloc (.cells #[] 9)).alloc (.cells #[.slice (some ⟨g + 1 + 1, 0, none⟩) 0 0] 33)) := by
  have z1 : (W.alloc (.map #[] 0)).heap.size = g + 1 := by simp [hg]
  have z2 : ((W.alloc (.map #[] 0)).alloc (.cells #[.map (some g)] 54)).heap.size = g + 1 + 1 := by simp [hg]
  have z3 : (((W.alloc (.map #[] 0)).alloc (.cells #[.map (some g)] 54)).alloc (.cells #[] 9)).heap.size = g + 1 + 1 + 1 := by simp [hg]
  refine { b1 := by omega, b2 := by omega, bm := hwg, n12 := by omega, n1m := by omega, n2m := by omega, h1 := ?_, h2 := ?_, hm := ?_, hr := ?_, o1 := by simp [Value.ownBlock], o2 := by simp [Value.ownBlock], om := by simp [Value.ownBlock]; omega }
  · rw [heap_alloc_old _ _ (by rw [z3]; omega), heap_alloc_old _ _ (by rw [z2]; omega)]
    have := heap_alloc_new (W.alloc (.map #[] 0)) (.cells #[.map (some g)] 54)
    rw [z1] at this; exact this
  · have := heap_alloc_new (((W.alloc (.map #[] 0)).alloc (.cells #[.map (some g)] 54)).alloc (.cells #[] 9)) (.cells #[.slice (some ⟨g + 1 + 1, 0, none⟩) 0 0] 33)
    rw [z3] at this; exact this
  · have := BSet.made W
    rw [hg] at this
    refine this.keep ?_
    rw [heap_alloc_old _ _ (by rw [z3]; omega), heap_alloc_old _ _ (by rw [z2]; omega), heap_alloc_old _ _ (by rw [z1]; omega)]
  · have := SRow.made0 (w := (W.alloc (.map #[] 0)).alloc (.cells #[.map (some g)] 54)) (base := w.heap.size) (by rw [z2]; omega)
    rw [z2] at this
    exact this.keep (fun x hx => heap_alloc_old _ _ (by simp [Value.ownBlock] at hx; rw [z3]; omega))
set_option maxHeartbeats 400000 in
theorem KeysOf_impl (w0 : World) (v : Value) (t : V) (h : Rep w0 v t) (hsz : t.sz ≤ 1048576) (w : World) (hw : Below w0.heap.size w0 w) :
    Calls Try.prog 12 #[v] w (StrsRet w (dd t.keysR)) := by
  obtain ⟨sl, rfl, hwf, hr⟩ := h.keep hw
  clear hw h
  have hwk := fun (c1 c2 m : Nat) (L : List ByteArray) (A : Nat → Prop) (W : World) (hi : KInv w.heap.size c1 c2 m L A W) (hW : Below w.heap.size w W) (hf : FewS (L ++ t.keysR)) =>
    kio_any w 33 (.pointer (some ⟨c1, 0, none⟩)) (.pointer (some ⟨c2, 0, none⟩)) (KInv w.heap.size c1 c2 m) enters_KeysOf1
      (fun L A _ _ ⟨o, h1, h2⟩ hb => ⟨o, h1.keep (fun x hx => hb.block x (h1.lt x hx).2), h2⟩)
      (fun L A _ ⟨o, h1, h2⟩ x hx => by subst h2; exact h1.lt x hx)
      (fun s L A W hs hi hw hf => KeysOf1_any w.heap.size c1 c2 m s L A W hs hi hw.size hf) sl t.kids hr t rfl L A W hi hW hf
  have HW := Lib.hid hwk; clear hwk
  have HF := Lib.hid (show FewS ([] ++ t.keysR) by unfold FewS; rw [List.nil_append]; have := keysR_length t; omega)
  unfold V.agg at HW ⊢
  generalize t.k = vk at *
  generalize t.n = vn at *
  generalize t.e = ve at *
  generalize t.s = vs at *
  have hmm := @run_makeMap Try.prog
  go_enter Try.func12, Try.ntmps12
  go_wp2_with fail
  have HK := Lib.hid (kof_start (w := w) (W := w.alloc (.cells #[.int .i64 vk, .int .i64 vn, .int .i64 ve, .string vs, sl] 29)) (g := w.heap.size + 1) (by simp) ((Below.refl _ _).alloc (Nat.le_refl _) _) (by omega))
  refine (HW.out _ _ (w.heap.size + 1) [] _ _ ⟨_, HK.out, rfl⟩ (by (repeat' (first | with_reducible exact Below.refl _ _ | with_reducible refine below_alloc ?_ _ ?_ | with_reducible refine Below.setCell ?_ ?_ _ | with_reducible refine Below.drew ?_ | with_reducible refine below_drewN ?_ _ | with_reducible refine below_step ?_ (by assumption) ?_)); all_goals (first | omega | (simp; done) | (simp; omega))) HF.out).mono ?_
  rintro e1 w1 ⟨rfl, A1, ⟨o, hk1, rfl⟩, ht⟩
  have d2 := cell_of_one hk1.h2
  have HR := Lib.hid hk1.hr
  have HT := Lib.hid (ht.below (B := w.heap.size) (fun x hx => (HK.out.lt x hx).1) (by simp; omega))
  clear hk1 ht
  go_wp2_with fail
  go_ret
  refine ⟨_, rfl, by simpa using HR.out, Below.trans ?_ HT.out⟩
  exact (by (repeat' (first | with_reducible exact Below.refl _ _ | with_reducible refine below_alloc ?_ _ ?_ | with_reducible refine Below.setCell ?_ ?_ _ | with_reducible refine Below.drew ?_ | with_reducible refine below_drewN ?_ _ | with_reducible refine below_step ?_ (by assumption) ?_)); all_goals (first | omega | (simp; done) | (simp; omega)))
end Go.Proofs.Ytmjnghlmmaalhaa
