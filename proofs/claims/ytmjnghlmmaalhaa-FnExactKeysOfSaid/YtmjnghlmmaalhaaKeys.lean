/- The text keys of a value: spec.l11Keys. -/
import Derived.Test.YtmjnghlmmaalhaaStrs
import Derived.WalkSpells
import Derived.Lib.Hide
namespace Go.Proofs.Ytmjnghlmmaalhaa
set_option linter.unusedVariables false
open Go.RowKit
def one1 (m : Int) (i : Nat) (t : V) : List ByteArray := if m = 8 ∧ i % 2 = 0 ∧ t.k = 5 then [t.s] else []
mutual
def V.keysR : V → List ByteArray
  | .mk k _ _ _ ks => keysRs k 0 ks
def keysRs (m : Int) : Nat → List V → List ByteArray
  | _, [] => []
  | i, t :: ts => one1 m i t ++ (t.keysR ++ keysRs m (i + 1) ts)
 end
theorem V.keysR_eq (t : V) : t.keysR = keysRs t.k 0 t.kids := by cases t; rw [V.keysR]; rfl
theorem keysRs_append (m : Int) : ∀ (a b : List V) (i : Nat), keysRs m i (a ++ b) = keysRs m i a ++ keysRs m (i + a.length) b
  | [], b, i => by simp [keysRs]
  | t :: a, b, i => by
    simp only [List.cons_append, keysRs, keysRs_append m a b (i + 1), List.length_cons, List.append_assoc]
    rw [show i + 1 + a.length = i + (a.length + 1) by omega]
theorem keysRs_take (m : Int) (ts : List V) (k : Nat) (h : k < ts.length) : keysRs m 0 (ts.take (k + 1)) = keysRs m 0 (ts.take k) ++ one1 m k ts[k] ++ ts[k].keysR := by
  rw [List.take_succ_eq_append_getElem h, keysRs_append]
  have : (ts.take k).length = k := by rw [List.length_take]; omega
  simp [keysRs, this]
theorem one1_length (m : Int) (i : Nat) (t : V) : (one1 m i t).length ≤ 1 := by unfold one1; split <;> simp
mutual
theorem keysR_length : ∀ t : V, t.keysR.length ≤ t.sz
  | .mk k n e s ks => by have := keysRs_length k 0 ks; simp only [V.keysR, V.sz]; omega
theorem keysRs_length (m : Int) : ∀ (i : Nat) (ts : List V), (keysRs m i ts).length ≤ szs ts
  | _, [] => by simp [keysRs]
  | i, t :: ts => by
    have h1 := keysR_length t
    have h2 := keysRs_length m (i + 1) ts
    have h3 := one1_length m i t
    simp only [keysRs, List.length_append, szs]; omega
 end
set_option maxHeartbeats 1000000 in
theorem l11Keys_any (w0 : World) (v : Value) (ts : List V) (h : RepS w0 v ts) : szs ts ≤ 1048576 → ∀ (u : V), u.kids = ts → ∀ (w : World), Below w0.heap.size w0 w →
    Calls Try.prog 30 #[u.agg v] w (StrsRet w u.keysR) := by
  induction h with
  | mk a b off cap ts sls ha hc hm hbb cells wfs kids ih =>
  intro hsz u huk w hw
  have HP := Lib.hid (show u.keysR = keysRs u.k 0 ts by rw [V.keysR_eq, huk])
  have IH := Lib.hid ih; have CC := Lib.hid cells; have WF := Lib.hid wfs; have HA := Lib.hid ha; have KK := Lib.hid kids
  have hlen : ts.length ≤ 1048576 := Nat.le_trans (szs_length ts) hsz
  have HSZ := Lib.hid hsz
  clear ih cells wfs kids ha huk hc hm hsz
  unfold V.agg
  rw [HP.out]
  generalize u.k = vk at *
  generalize u.n = vn at *
  generalize u.e = ve at *
  generalize u.s = vs at *
  clear HP
  go_enter Try.func30, Try.ntmps30
  go_wp2_with fail
  generalize hW1 : w.alloc (Obj.cells #[Value.int IntKind.i64 vk, Value.int IntKind.i64 vn, Value.int IntKind.i64 ve, Value.string vs, Value.slice a ts.length cap] 29) = W1 at *
  have hB : W1.heap.size = w.heap.size + 1 := by rw [← hW1]; simp
  have HB := Lib.hid hB; clear hB
  have HW0 := Lib.hid (show Below w.heap.size w W1 by rw [← hW1]; exact (Below.refl _ _).alloc (Nat.le_refl _) _)
  have HC0 := Lib.hid (show W1.cell? ⟨w.heap.size, 0, none⟩ = some (.int .i64 vk) by rw [← hW1]; simp)
  have HC4 := Lib.hid (show W1.cell? ⟨w.heap.size, 4, none⟩ = some (.slice a ts.length cap) by rw [← hW1]; simp)
  clear hW1
  go_loopw [3, 4] (fun o i wr => ∃ k : Nat, k ≤ ts.length ∧ i = .int .i64 k ∧ SRow wr (w.heap.size + 1) o (keysRs vk 0 (ts.take k)) ∧ Below (w.heap.size + 1) W1 wr) (fun _ i _ => ts.length - (intOf i).toNat)
  case atStart =>
    refine ⟨0, by omega, rfl, ?_, ?_⟩
    · have := SRow.made0 (w := W1) (base := w.heap.size + 1) (by rw [HB.out]; omega)
      rw [HB.out] at this; simpa [keysRs] using this
    · exact (Below.refl _ _).alloc (by rw [HB.out]; omega) _
  case round =>
    obtain ⟨k, hk, rfl, hrow, hbl⟩ := hrel
    have hc0 : wr.cell? ⟨w.heap.size, 0, none⟩ = some (.int .i64 vk) := by rw [hbl.cell (p := ⟨w.heap.size, 0, none⟩) (by show w.heap.size < w.heap.size + 1; omega)]; exact HC0.out
    have hc4 : wr.cell? ⟨w.heap.size, 4, none⟩ = some (.slice a ts.length cap) := by rw [hbl.cell (p := ⟨w.heap.size, 4, none⟩) (by show w.heap.size < w.heap.size + 1; omega)]; exact HC4.out
    have hbs : w.heap.size + 1 ≤ wr.heap.size := by have := hbl.size; rw [HB.out] at this; exact this
    have HROW := Lib.hid hrow; clear hrow
    by_cases hlt : k < ts.length
    · have hne : ts ≠ [] := by intro e; rw [e] at hlt; simp at hlt
      obtain rfl := HA.out hne
      have hbw := hbb hne
      have hwr : Below w0.heap.size w0 wr := hw.trans ((HW0.out.mono hw.size).trans (hbl.mono (Nat.le_trans hw.size (Nat.le_succ _))))
      obtain ⟨c0, c1, c2, c3, c4⟩ := (CC.out k hlt).keep (hwr.block b hbw)
      have HWR := Lib.hid hwr; clear hwr
      have hzk : szs ts[k].kids ≤ 1048576 := by have h1 := szs_mem (List.getElem_mem hlt); have h2 := V.sz_eq ts[k]; have := HSZ.out; omega
      have V1 := Lib.hid (fun w'' (hh : Below wr.heap.size wr w'') => IH.out k hlt hzk ts[k] rfl w'' (below_step HWR.out hh (Nat.le_refl _)))
      have HT := Lib.hid (keysRs_take vk ts k hlt)
      have hs3 : ts[k].s.size ≤ 9223372036854775807 := (WF.out k hlt).2.2.2
      have HL1 := Lib.hid (show (keysRs vk 0 (ts.take k)).length ≤ 1048576 by
        have h1 := keysRs_length vk 0 (ts.take k); have h2 := szs_append (ts.take k) (ts.drop k); rw [List.take_append_drop] at h2; have := HSZ.out; omega)
      have HL2 := Lib.hid (show ts[k].keysR.length ≤ 1048576 by have h1 := keysR_length ts[k]; have h2 := szs_mem (List.getElem_mem hlt); have := HSZ.out; omega)
      have hzk0 := Lib.hid hzk
      clear hzk
      unfold V.agg at V1
      generalize hxk : ts[k].k = xk at *
      have HXK := Lib.hid hxk; clear hxk
      generalize hxs : ts[k].s = xs at *
      have HXS := Lib.hid hxs; clear hxs
      by_cases hyes : vk = 8 ∧ k % 2 = 0 ∧ xk = 5
      · obtain ⟨h8, h2, h5⟩ := hyes
        have HO := Lib.hid (show one1 vk k ts[k] = [xs] by rw [one1, if_pos ⟨h8, h2, by rw [HXK.out]; exact h5⟩, HXS.out])
        have t1 : (vk == 8) = true := by simpa using h8
        have t2 : ((k : Int) % 2 == 0) = true := by simp; omega
        have t3 : (xk == 5) = true := by simpa using h5
        clear h8 h2 h5
        have S1 := Lib.hid (src_str1 wr xs)
        have R1 := Lib.hid (show SRow (wr.alloc (.cells #[.string xs] 9)) (w.heap.size + 1) u3 (keysRs vk 0 (ts.take k)) from HROW.out.keep (fun x hx => Below.heap_alloc _ _ _ (HROW.out.lt x hx).2))
        have hbB : b < w.heap.size + 1 := Nat.lt_succ_of_lt (Nat.lt_of_lt_of_le hbw hw.size)
        have V0 := Lib.hid (fun w2 (hb2 : Below (w.heap.size + 1) wr w2) => (fun w'' (hh : Below w2.heap.size w2 w'') => IH.out k hlt hzk0.out ts[k] rfl w'' (below_step (HWR.out.trans (hb2.mono (by have := hw.size; omega))) hh (Nat.le_refl _)) : ∀ w'', Below w2.heap.size w2 w'' → _))
        unfold V.agg at V0
        rw [HXK.out, HXS.out] at V0
        go_wp2_with (at_builtin; refine app_strs rfl _ _ _ rfl (w.heap.size + 1) _ _ rfl R1.out _ rfl _ S1.out (by intro q hq; simp at hq; rw [hq]; exact hs3) (by have := HL1.out; have := HL2.out; first | omega | (simp; omega)) (by simp; omega) ?_; intro v2 w2 hrow2 hg2 _; have hb2 : Below (w.heap.size + 1) wr w2 := ((Below.refl _ _).alloc hbs _).grown hg2 (by simp; omega) (fun k' hk' => (SRow.lt R1.out k' hk').1); have R2 := Lib.hid hrow2; clear hrow2; obtain ⟨hx1, hx2⟩ := bcell hb2; have hbs2 := hb2.size)
        have V1 := Lib.hid (V0.out w2 hb2)
        refine (V1.out _ (by (repeat' (first | with_reducible exact Below.refl _ _ | with_reducible refine below_alloc ?_ _ ?_ | with_reducible refine Below.setCell ?_ ?_ _ | with_reducible refine Below.drew ?_ | with_reducible refine below_drewN ?_ _ | with_reducible refine below_step ?_ (by assumption) ?_)); all_goals (first | omega | (simp; done) | (simp; omega)))).mono ?_
        rintro e1 w3 ⟨vk3, rfl, hk3, hb3⟩
        have S2 := Lib.hid (src_strs hk3)
        have hbs3 := hb3.size
        have R3 := Lib.hid (show SRow w3 (w.heap.size + 1) v2 (keysRs vk 0 (ts.take k) ++ [xs]) from R2.out.keep (fun x hx => hb3.block x (R2.out.lt x hx).2))
        have HK3 := Lib.hid hk3.2
        clear hk3
        go_wp2_with (at_builtin; refine app_strs rfl _ _ _ rfl (w.heap.size + 1) _ _ rfl R3.out _ rfl _ S2.out HK3.out (by have := HL1.out; have := HL2.out; first | omega | (simp; omega)) (by omega) ?_; intro v4 w4 hrow4 hg4 _; have hb4 : Below (w.heap.size + 1) w3 w4 := (Below.refl _ _).grown hg4 (by omega) (fun k' hk' => (SRow.lt R3.out k' hk').1); have R4 := Lib.hid hrow4; clear hrow4)
        go_roundw
        case rel => exact ⟨k + 1, by omega, by go_num, by rw [HT.out, HO.out]; exact R4.out, hbl.trans (hb2.trans ((hb3.mono (by omega)).trans hb4))⟩
        case measure => simp [intOf]; omega
      · have HO := Lib.hid (show one1 vk k ts[k] = [] by rw [one1, if_neg (by rw [HXK.out]; exact hyes)])
        have R0 := HROW
        by_cases h8 : vk = 8
        · have t1 : (vk == 8) = true := by simpa using h8
          by_cases h2 : k % 2 = 0
          · have t2 : ((k : Int) % 2 == 0) = true := by simp; omega
            have t3 : (xk == 5) = false := by simpa using fun e => hyes ⟨h8, h2, e⟩
            clear h8 h2 hyes
            go_wp2_with fail
            refine (V1.out _ (by (repeat' (first | with_reducible exact Below.refl _ _ | with_reducible refine below_alloc ?_ _ ?_ | with_reducible refine Below.setCell ?_ ?_ _ | with_reducible refine Below.drew ?_ | with_reducible refine below_drewN ?_ _ | with_reducible refine below_step ?_ (by assumption) ?_)); all_goals (first | omega | (simp; done) | (simp; omega)))).mono ?_
            rintro e1 w3 ⟨vk3, rfl, hk3, hb3⟩
            have S2 := Lib.hid (src_strs hk3)
            have hbs3 := hb3.size
            have R3 := Lib.hid (show SRow w3 (w.heap.size + 1) u3 (keysRs vk 0 (ts.take k)) from R0.out.keep (fun x hx => hb3.block x (R0.out.lt x hx).2))
            have HK3 := Lib.hid hk3.2
            clear hk3
            go_wp2_with (at_builtin; refine app_strs rfl _ _ _ rfl (w.heap.size + 1) _ _ rfl R3.out _ rfl _ S2.out HK3.out (by have := HL1.out; have := HL2.out; first | omega | (simp; omega)) (by omega) ?_; intro v4 w4 hrow4 hg4 _; have hb4 : Below (w.heap.size + 1) w3 w4 := (Below.refl _ _).grown hg4 (by omega) (fun k' hk' => (SRow.lt R3.out k' hk').1); have R4 := Lib.hid hrow4; clear hrow4)
            go_roundw
            case rel => exact ⟨k + 1, by omega, by go_num, by rw [HT.out, HO.out]; rw [List.append_nil]; exact R4.out, hbl.trans ((hb3.mono (by omega)).trans hb4)⟩
            case measure => simp [intOf]; omega
          · have t2 : ((k : Int) % 2 == 0) = false := by simp; omega
            clear h8 h2 hyes
            go_wp2_with fail
            refine (V1.out _ (by (repeat' (first | with_reducible exact Below.refl _ _ | with_reducible refine below_alloc ?_ _ ?_ | with_reducible refine Below.setCell ?_ ?_ _ | with_reducible refine Below.drew ?_ | with_reducible refine below_drewN ?_ _ | with_reducible refine below_step ?_ (by assumption) ?_)); all_goals (first | omega | (simp; done) | (simp; omega)))).mono ?_
            rintro e1 w3 ⟨vk3, rfl, hk3, hb3⟩
            have S2 := Lib.hid (src_strs hk3)
            have hbs3 := hb3.size
            have R3 := Lib.hid (show SRow w3 (w.heap.size + 1) u3 (keysRs vk 0 (ts.take k)) from R0.out.keep (fun x hx => hb3.block x (R0.out.lt x hx).2))
            have HK3 := Lib.hid hk3.2
            clear hk3
            go_wp2_with (at_builtin; refine app_strs rfl _ _ _ rfl (w.heap.size + 1) _ _ rfl R3.out _ rfl _ S2.out HK3.out (by have := HL1.out; have := HL2.out; first | omega | (simp; omega)) (by omega) ?_; intro v4 w4 hrow4 hg4 _; have hb4 : Below (w.heap.size + 1) w3 w4 := (Below.refl _ _).grown hg4 (by omega) (fun k' hk' => (SRow.lt R3.out k' hk').1); have R4 := Lib.hid hrow4; clear hrow4)
            go_roundw
            case rel => exact ⟨k + 1, by omega, by go_num, by rw [HT.out, HO.out]; rw [List.append_nil]; exact R4.out, hbl.trans ((hb3.mono (by omega)).trans hb4)⟩
            case measure => simp [intOf]; omega
        · have t1 : (vk == 8) = false := by simpa using h8
          clear h8 hyes
          go_wp2_with fail
          refine (V1.out _ (by (repeat' (first | with_reducible exact Below.refl _ _ | with_reducible refine below_alloc ?_ _ ?_ | with_reducible refine Below.setCell ?_ ?_ _ | with_reducible refine Below.drew ?_ | with_reducible refine below_drewN ?_ _ | with_reducible refine below_step ?_ (by assumption) ?_)); all_goals (first | omega | (simp; done) | (simp; omega)))).mono ?_
          rintro e1 w3 ⟨vk3, rfl, hk3, hb3⟩
          have S2 := Lib.hid (src_strs hk3)
          have hbs3 := hb3.size
          have R3 := Lib.hid (show SRow w3 (w.heap.size + 1) u3 (keysRs vk 0 (ts.take k)) from R0.out.keep (fun x hx => hb3.block x (R0.out.lt x hx).2))
          have HK3 := Lib.hid hk3.2
          clear hk3
          go_wp2_with (at_builtin; refine app_strs rfl _ _ _ rfl (w.heap.size + 1) _ _ rfl R3.out _ rfl _ S2.out HK3.out (by have := HL1.out; have := HL2.out; first | omega | (simp; omega)) (by omega) ?_; intro v4 w4 hrow4 hg4 _; have hb4 : Below (w.heap.size + 1) w3 w4 := (Below.refl _ _).grown hg4 (by omega) (fun k' hk' => (SRow.lt R3.out k' hk').1); have R4 := Lib.hid hrow4; clear hrow4)
          go_roundw
          case rel => exact ⟨k + 1, by omega, by go_num, by rw [HT.out, HO.out]; rw [List.append_nil]; exact R4.out, hbl.trans ((hb3.mono (by omega)).trans hb4)⟩
          case measure => simp [intOf]; omega
    · have hkl : k = ts.length := by omega
      have HE := Lib.hid (show ts.take k = ts from List.take_of_length_le (by omega))
      clear hkl
      go_wp2_with fail
      go_ret
      refine ⟨_, rfl, ?_, HW0.out.trans (hbl.mono (by omega))⟩
      have := HROW.out
      rw [HE.out] at this
      exact this.lower (by omega)
end Go.Proofs.Ytmjnghlmmaalhaa
