/- impl.keysInOrder: the text keys of a value, each handed to a function value that captures two variables: by an invariant of that function's own. -/
import Derived.Test.YtmjnghlmmaalhaaKeys
import Derived.Test.YtmjnghlmmaalhaaTouch
import Derived.WalkSpells
import Derived.Lib.Hide
namespace Go.Proofs.Ytmjnghlmmaalhaa
set_option linter.unusedVariables false
open Go.RowKit
def FewS (L : List ByteArray) : Prop := L.length ≤ 4194304
theorem FewS.of_append {L M : List ByteArray} (h : FewS (L ++ M)) : FewS L := by unfold FewS at *; rw [List.length_append] at h; omega
def YieldsS (I : List ByteArray → (Nat → Prop) → World → Prop) (A : Nat → Prop) (w : World) (L : List ByteArray) (e : Ending) (w' : World) : Prop := e = .returned (.tuple #[]) ∧ ∃ A', I L A' w' ∧ Touch A A' w w'
set_option maxHeartbeats 1000000 in
theorem kio_any (w0 : World) (F : FuncId) (c1 c2 : Value) (I : List ByteArray → (Nat → Prop) → World → Prop) (hF : ∀ (args : Array Value) (w : World), (callFunc F args).run Try.prog w = .ok (.enter F args) w)
    (hI : ∀ L A w w', I L A w → Below w.heap.size w w' → I L A w') (hA : ∀ L A w, I L A w → ∀ x, A x → w0.heap.size ≤ x ∧ x < w.heap.size)
    (hY : ∀ (s : ByteArray) (L : List ByteArray) (A : Nat → Prop) (w : World), s.size ≤ 9223372036854775807 → I L A w → Below w0.heap.size w0 w → FewS (L ++ [s]) → Calls Try.prog F #[.string s, c1, c2] w (YieldsS I A w (L ++ [s])))
    (v : Value) (ts : List V) (h : RepS w0 v ts) : ∀ (u : V), u.kids = ts → ∀ (L : List ByteArray) (A : Nat → Prop) (w : World), I L A w → Below w0.heap.size w0 w → FewS (L ++ u.keysR) →
      Calls Try.prog 32 #[u.agg v, .func (.func F) #[] #[c1, c2]] w (YieldsS I A w (L ++ u.keysR)) := by
  have HI := Lib.hid hI; have HY := Lib.hid hY; have HAA := Lib.hid hA
  clear hI hY hA
  induction h with
  | mk a b off cap0 ts sls ha hc hm hbb cells wfs kids ih =>
  intro u huk L A w hiw hw hfew
  have HP := Lib.hid (show u.keysR = keysRs u.k 0 ts by rw [V.keysR_eq, huk])
  have HFEW := Lib.hid hfew; clear hfew
  have IH := Lib.hid ih; have CC := Lib.hid cells; have WF := Lib.hid wfs; have HA := Lib.hid ha; have HIW := Lib.hid hiw; have KK := Lib.hid kids
  have hlen : ts.length ≤ 9223372036854775807 := by omega
  clear ih cells wfs kids ha hc hm hiw huk
  unfold V.agg
  rw [HP.out] at HFEW ⊢
  clear HP
  generalize u.k = vk at *
  generalize u.n = vn at *
  generalize u.e = ve at *
  generalize u.s = vs at *
  go_enter Try.func32, Try.ntmps32
  go_wp2_with fail
  generalize hW1 : w.alloc (Obj.cells #[Value.int IntKind.i64 vk, Value.int IntKind.i64 vn, Value.int IntKind.i64 ve, Value.string vs, Value.slice a ts.length cap0] 29) = W1 at *
  have hB : W1.heap.size = w.heap.size + 1 := by rw [← hW1]; simp
  have HB := Lib.hid hB
  have HW0 := Lib.hid (show Below w.heap.size w W1 by rw [← hW1]; exact (Below.refl _ _).alloc (Nat.le_refl _) _)
  have HC0 := Lib.hid (show W1.cell? ⟨w.heap.size, 0, none⟩ = some (.int .i64 vk) by rw [← hW1]; simp)
  clear hW1
  have hnA : ¬ A w.heap.size := fun e => by have := (HAA.out L A w HIW.out _ e).2; omega
  have HNA := Lib.hid hnA; clear hnA
  go_loopw [9] (fun i wr => ∃ k : Nat, ∃ A' : Nat → Prop, k ≤ ts.length ∧ i = .int .i64 k ∧ I (L ++ keysRs vk 0 (ts.take k)) A' wr ∧ Touch A A' W1 wr) (fun i _ => ts.length - (intOf i).toNat)
  case atStart => exact ⟨0, A, by omega, rfl, by simpa [keysRs] using HI.out _ _ _ _ HIW.out HW0.out, Touch.refl _ _⟩
  case round =>
    obtain ⟨k, A', hk, rfl, hik, htk⟩ := hrel
    have hbk : Below w0.heap.size w0 wr := hw.trans ((HW0.out.mono hw.size).trans (htk.below (fun x hx => (HAA.out L A w HIW.out x hx).1) (by have := hw.size; have := HB.out; omega)))
    have hblk := htk.block w.heap.size (by rw [HB.out]; omega) HNA.out
    have hc0 : wr.cell? ⟨w.heap.size, 0, none⟩ = some (.int .i64 vk) := by
      rw [World.cell?_of_block (a := ⟨w.heap.size, 0, none⟩) hblk]; exact HC0.out
    have hzr : w.heap.size + 1 ≤ wr.heap.size := by have := htk.size; rw [HB.out] at this; exact this
    clear hblk
    have hne0 : wr.heap.size ≠ w.heap.size := by omega
    have hlt0 : w.heap.size < wr.heap.size := hzr
    have HIK := Lib.hid hik; have HTK := Lib.hid htk; have HBK := Lib.hid hbk
    clear hik htk hbk
    by_cases hlt : k < ts.length
    · have hne : ts ≠ [] := by intro e; rw [e] at hlt; simp at hlt
      obtain rfl := HA.out hne
      have hbw := hbb hne
      obtain ⟨c0, c1', c2', c3, c4⟩ := (CC.out k hlt).keep (HBK.out.block b hbw)
      have HX := Lib.hid (keysRs_take vk ts k hlt)
      have hs3 : ts[k].s.size ≤ 9223372036854775807 := (WF.out k hlt).2.2.2
      obtain ⟨a3, cap3, hs3'⟩ := (KK.out k hlt).slice
      rw [hs3'] at c4
      have HFK := Lib.hid (show FewS (L ++ (keysRs vk 0 (ts.take k) ++ one1 vk k ts[k] ++ ts[k].keysR)) by
        have := HFEW.out; rw [← List.take_append_drop (k + 1) ts, keysRs_append, ← List.append_assoc, HX.out] at this; exact this.of_append)
      have V1 := Lib.hid (fun (L1 : List ByteArray) (A1 : Nat → Prop) (w1 w'' : World) (hi : I L1 A1 w1) (hh : Below w1.heap.size w1 w'') (hw1 : Below w0.heap.size w0 w1) (hf : FewS (L1 ++ ts[k].keysR)) => IH.out k hlt ts[k] rfl L1 A1 w'' (HI.out _ _ _ _ hi hh) (below_step hw1 hh (Nat.le_refl _)) hf)
      unfold V.agg at V1
      rw [hs3'] at V1
      have hnk : ¬ A' wr.heap.size := fun e => by have := (HAA.out _ A' wr HIK.out _ e).2; omega
      have HNK := Lib.hid hnk
      clear hs3' hnk
      generalize hxk : ts[k].k = xk at *
      have HXK := Lib.hid hxk; clear hxk
      generalize hxs : ts[k].s = xs at *
      have HXS := Lib.hid hxs; clear hxs
      generalize ts[k].n = xn at *
      generalize ts[k].e = xe at *
      by_cases hyes : vk = 8 ∧ k % 2 = 0 ∧ xk = 5
      · obtain ⟨h8, h2, h5⟩ := hyes
        have HO := Lib.hid (show one1 vk k ts[k] = [xs] by rw [one1, if_pos ⟨h8, h2, by rw [HXK.out]; exact h5⟩, HXS.out])
        have t1 : (vk == 8) = true := by simpa using h8
        have t2 : ((k : Int) % 2 == 0) = true := by simp; omega
        have t3 : (xk == 5) = true := by simpa using h5
        clear h8 h2 h5
        have Y1 := Lib.hid (fun w'' (hh : Below wr.heap.size wr w'') => HY.out xs (L ++ keysRs vk 0 (ts.take k)) A' w'' hs3 (HI.out _ _ _ _ HIK.out hh) (below_step HBK.out hh (Nat.le_refl _)) (by have := HFK.out; rw [HO.out, ← List.append_assoc, ← List.append_assoc] at this; exact this.of_append))
        go_wp2_with fail
        refine (Y1.out _ (by (repeat' (first | with_reducible exact Below.refl _ _ | with_reducible refine below_alloc ?_ _ ?_ | with_reducible refine Below.setCell ?_ ?_ _ | with_reducible refine Below.drew ?_ | with_reducible refine below_drewN ?_ _ | with_reducible refine below_step ?_ (by assumption) ?_)); all_goals (first | omega | (simp; done) | (simp; omega)))).mono ?_
        rintro e1 w1 ⟨rfl, A1, hi1, ht1⟩
        have hz0 := hw.size
        have hkb := ht1.block wr.heap.size (by simp) HNK.out
        have hw1 : Below w0.heap.size wr w1 := Below.trans (by (repeat' (first | with_reducible exact Below.refl _ _ | with_reducible refine below_alloc ?_ _ ?_ | with_reducible refine Below.setCell ?_ ?_ _ | with_reducible refine Below.drew ?_ | with_reducible refine below_drewN ?_ _ | with_reducible refine below_step ?_ (by assumption) ?_)); all_goals (first | omega | (simp; done) | (simp; omega))) (ht1.below (fun x hx => (HAA.out _ A' wr HIK.out x hx).1) (by have := hw.size; simp; omega))
        have d0 : w1.cell? ⟨wr.heap.size, 0, none⟩ = some (.int .i64 xk) := by rw [World.cell?_of_block (a := ⟨wr.heap.size, 0, none⟩) hkb]; simp
        have d1 : w1.cell? ⟨wr.heap.size, 1, none⟩ = some (.int .i64 xn) := by rw [World.cell?_of_block (a := ⟨wr.heap.size, 1, none⟩) hkb]; simp
        have d2 : w1.cell? ⟨wr.heap.size, 2, none⟩ = some (.int .i64 xe) := by rw [World.cell?_of_block (a := ⟨wr.heap.size, 2, none⟩) hkb]; simp
        have d3 : w1.cell? ⟨wr.heap.size, 3, none⟩ = some (.string xs) := by rw [World.cell?_of_block (a := ⟨wr.heap.size, 3, none⟩) hkb]; simp
        have d4 : w1.cell? ⟨wr.heap.size, 4, none⟩ = some (.slice a3 ts[k].kids.length cap3) := by rw [World.cell?_of_block (a := ⟨wr.heap.size, 4, none⟩) hkb]; simp
        have V2 := Lib.hid (fun w'' (hh : Below w1.heap.size w1 w'') => V1.out _ A1 w1 w'' hi1 hh (HBK.out.trans hw1) (by have := HFK.out; rw [HO.out, ← List.append_assoc, ← List.append_assoc] at this; exact this))
        have HT1 := Lib.hid (Touch.trans (Touch.of_below (A := A') (w := wr) (by (repeat' (first | with_reducible exact Below.refl _ _ | with_reducible refine below_alloc ?_ _ ?_ | with_reducible refine Below.setCell ?_ ?_ _ | with_reducible refine Below.drew ?_ | with_reducible refine below_drewN ?_ _ | with_reducible refine below_step ?_ (by assumption) ?_)); all_goals (first | omega | (simp; done) | (simp; omega)))) ht1)
        clear hkb hi1 ht1 hw1
        go_wp2_with fail
        refine (V2.out _ (by (repeat' (first | with_reducible exact Below.refl _ _ | with_reducible refine below_alloc ?_ _ ?_ | with_reducible refine Below.setCell ?_ ?_ _ | with_reducible refine Below.drew ?_ | with_reducible refine below_drewN ?_ _ | with_reducible refine below_step ?_ (by assumption) ?_)); all_goals (first | omega | (simp; done) | (simp; omega)))).mono ?_
        rintro e2 w2 ⟨rfl, A2, hi2, ht2⟩
        have HI2 := Lib.hid hi2; have HT2 := Lib.hid ht2; clear hi2 ht2
        go_wp2_with fail
        go_roundw
        case rel =>
          refine ⟨k + 1, A2, by omega, by go_num, by rw [HX.out, HO.out, ← List.append_assoc, ← List.append_assoc]; exact HI2.out, ?_⟩
          exact HTK.out.trans (HT1.out.trans HT2.out)
        case measure => simp [intOf]; omega
      · have HO := Lib.hid (show one1 vk k ts[k] = [] by rw [one1, if_neg (by rw [HXK.out]; exact hyes)])
        have V2 := Lib.hid (fun w'' (hh : Below wr.heap.size wr w'') => V1.out _ A' wr w'' HIK.out hh HBK.out (by have := HFK.out; rw [HO.out, List.append_nil, ← List.append_assoc] at this; exact this))
        have hcase : (vk == 8) = false ∨ ((vk == 8) = true ∧ ((k : Int) % 2 == 0) = false) ∨ ((vk == 8) = true ∧ ((k : Int) % 2 == 0) = true ∧ (xk == 5) = false) := by
          by_cases h8 : vk = 8
          · by_cases h2 : k % 2 = 0
            · exact .inr (.inr ⟨by simpa using h8, by simp; omega, by simpa using fun e => hyes ⟨h8, h2, e⟩⟩)
            · exact .inr (.inl ⟨by simpa using h8, by simp; omega⟩)
          · exact .inl (by simpa using h8)
        clear hyes
        rcases hcase with t1 | ⟨t1, t2⟩ | ⟨t1, t2, t3⟩
        all_goals go_wp2_with fail
        all_goals refine (V2.out _ (by (repeat' (first | with_reducible exact Below.refl _ _ | with_reducible refine below_alloc ?_ _ ?_ | with_reducible refine Below.setCell ?_ ?_ _ | with_reducible refine Below.drew ?_ | with_reducible refine below_drewN ?_ _ | with_reducible refine below_step ?_ (by assumption) ?_)); all_goals (first | omega | (simp; done) | (simp; omega)))).mono ?_
        all_goals rintro e2 w2 ⟨rfl, A2, hi2, ht2⟩
        all_goals have HI2 := Lib.hid hi2
        all_goals have HT2 := Lib.hid (Touch.trans (Touch.of_below (A := A') (w := wr) (by (repeat' (first | with_reducible exact Below.refl _ _ | with_reducible refine below_alloc ?_ _ ?_ | with_reducible refine Below.setCell ?_ ?_ _ | with_reducible refine Below.drew ?_ | with_reducible refine below_drewN ?_ _ | with_reducible refine below_step ?_ (by assumption) ?_)); all_goals (first | omega | (simp; done) | (simp; omega)))) ht2)
        all_goals clear hi2 ht2
        all_goals go_wp2_with fail
        all_goals go_roundw
        all_goals first
          | (simp [intOf]; omega)
          | exact ⟨k + 1, A2, by omega, by go_num, by rw [HX.out, HO.out, List.append_nil, ← List.append_assoc]; exact HI2.out, HTK.out.trans HT2.out⟩
    · have hkl : k = ts.length := by omega
      subst hkl
      go_wp2_with fail
      go_end0
      refine ⟨rfl, A', ?_, (Touch.of_below HW0.out).trans HTK.out⟩
      simpa using HIK.out
end Go.Proofs.Ytmjnghlmmaalhaa
