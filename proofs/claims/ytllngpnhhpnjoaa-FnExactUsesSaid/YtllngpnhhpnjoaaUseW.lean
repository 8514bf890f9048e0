/- Slices of ints: eqIntS, markIntS, heldIntS; the reference's l12Add. -/
import Derived.Test.YtllngpnhhpnjoaaUseM
import Derived.Test.YtllngpnhhpnjoaaLawAid
import Derived.Test.YtllngpnhhpnjoaaMarkVP
import Derived.Deep.RegionHeld3
import Derived.Deep.RegionLaw
import Derived.Deep.QuietTactic
import Derived.BigRegion
import Derived.WalkSpells
import Derived.Lib.Hide
namespace Go.Proofs.Ytllngpnhhpnjoaa
set_option linter.unusedVariables false
set_option maxRecDepth 100000
open Go.RowKit
def IRep (w : World) (v : Value) (l : List Int) : Prop := ∃ a b off cap, v = .slice a l.length cap ∧ (l ≠ [] → a = some ⟨b, off, none⟩ ∧ b < w.heap.size) ∧ l.length ≤ cap ∧ cap ≤ 9223372036854775807 ∧ ∀ i (h : i < l.length), w.cell? ⟨b, off + i, none⟩ = some (.int .i64 l[i])
theorem IRep.keep {w w' : World} {v : Value} {l : List Int} (h : IRep w v l) (hb : Below w.heap.size w w') : IRep w' v l := by
  obtain ⟨a, b, off, cap, hv, ha, hc, hm, hcell⟩ := h
  refine ⟨a, b, off, cap, hv, fun hne => ⟨(ha hne).1, Nat.lt_of_lt_of_le (ha hne).2 hb.size⟩, hc, hm, fun i hi => ?_⟩
  have hne : l ≠ [] := by intro e; rw [e] at hi; simp at hi
  rw [hb.cell (p := ⟨b, off + i, none⟩) (ha hne).2]; exact hcell i hi
theorem IRow.rep {w : World} {base : Nat} {v : Value} {l : List Int} (h : IRow w base v l) : IRep w v l := by
  obtain ⟨a, cap, rfl, hc, hm, ha⟩ := h.form
  by_cases hne : l = []
  · exact ⟨a, 0, 0, cap, rfl, fun h => absurd hne h, hc, hm, fun i hi => by rw [hne] at hi; simp at hi⟩
  · obtain ⟨g, rfl, _⟩ := ha hne
    refine ⟨_, g, 0, cap, rfl, fun _ => ⟨rfl, (h.lt g rfl).2⟩, hc, hm, fun i hi => ?_⟩
    rw [Nat.zero_add]; exact (h.cells hi).1
theorem IRep.slice {w : World} {v : Value} {l : List Int} (h : IRep w v l) : ∃ a cap, v = .slice a l.length cap := by obtain ⟨a, _, _, cap, rfl, _⟩ := h; exact ⟨a, cap, rfl⟩
theorem IRow.slice {w : World} {base : Nat} {v : Value} {l : List Int} (h : IRow w base v l) : ∃ a cap, v = .slice a l.length cap := h.rep.slice
theorem IRow.slice3 {w : World} {base : Nat} {v : Value} {l : List Int} (h : IRow w base v l) : ∃ a n cap, v = .slice a n cap := by obtain ⟨a, cap, e⟩ := h.slice; exact ⟨a, _, cap, e⟩
theorem IRow.stay2 {w w' : World} {base : Nat} {v : Value} {l : List Int} (h : IRow w base v l) (hb : Below w.heap.size w w') : IRow w' base v l := h.keep (fun x hx => hb.block x (h.lt x hx).2)
theorem IRow.lower {w : World} {base base' : Nat} {v : Value} {l : List Int} (h : IRow w base v l) (hb : base' ≤ base) : IRow w base' v l := by
  obtain ⟨h1, h2⟩ := h
  refine ⟨h1, ?_⟩
  rcases h2 with h2 | ⟨g, cap, cur, hv, hbg, r⟩
  · exact .inl h2
  · exact .inr ⟨g, cap, cur, hv, Nat.le_trans hb hbg, r⟩
def IntsRet (w : World) (l : List Int) (e : Ending) (w' : World) : Prop := ∃ v, e = .returned v ∧ IRow w' w.heap.size v l ∧ Below w.heap.size w w'
def mkI (k : Int) (j : Nat) : List Int := (List.range j).map fun (i : Nat) => k + (i : Int)
theorem mkI_length (k : Int) (j : Nat) : (mkI k j).length = j := by simp [mkI]
theorem mkI_get (k : Int) (j i : Nat) (h : i < (mkI k j).length) : (mkI k j)[i] = k + i := by simp [mkI]
theorem mkI_set (k : Int) (l : List Int) (j : Nat) (h : j < l.length) : (mkI k j ++ l.drop j).set j (k + j) = mkI k (j + 1) ++ l.drop (j + 1) := by
  rw [List.set_append_right _ _ (by rw [mkI_length]; exact Nat.le_refl _), mkI_length, Nat.sub_self, List.drop_eq_getElem_cons h, List.set_cons_zero]
  simp [mkI, List.range_succ]
theorem IRow.set {w : World} {base g n cap i : Nat} {l : List Int} {x : Int} (h : IRow w base (.slice (some ⟨g, 0, none⟩) n cap) l) : IRow (w.setCell ⟨g, i, none⟩ (.int .i64 x)) base (.slice (some ⟨g, 0, none⟩) n cap) (l.set i x) := by
  have hn : n = l.length := by
    rcases h.2 with ⟨h', _⟩ | ⟨g', cap', cur, h', _⟩ <;> simp at h'; exact h'.2.1
  subst hn
  have := (World.ownsRow.stored h i (.int .i64 x)).1
  unfold IRow
  rw [List.length_set, List.map_set]
  exact this
set_option maxHeartbeats 400000 in
theorem markIntS_any (B : Nat) (v : Value) (l : List Int) (k : Int) (w : World) (hrow : IRow w B v l) (hl : l.length ≤ 1099511627776) (hk0 : 0 ≤ k) (hk : k ≤ 1152921504606846976) :
    Calls Try.prog 11 #[v, .int .i64 k] w fun e w' => e = .returned (.int .i64 (k + l.length)) ∧ IRow w' B v (mkI k l.length) ∧ w.grownBy w' v.ownBlock := by
  obtain ⟨a, cap, rfl, hlc, hcm, ha⟩ := hrow.form
  have HA := Lib.hid ha; have HROW := Lib.hid hrow
  clear ha hrow
  go_enter Try.func11, Try.ntmps11
  go_wp2_with fail
  go_loopw [1, 5] (fun x i wr => ∃ j : Nat, j ≤ l.length ∧ i = .int .i64 j ∧ x = .int .i64 (k + j) ∧ IRow wr B (.slice a l.length cap) (mkI k j ++ l.drop j) ∧ w.grownBy wr (Value.ownBlock (.slice a l.length cap))) (fun _ i _ => l.length - (intOf i).toNat)
  case atStart => exact ⟨0, by omega, rfl, by simp, by simpa [mkI] using HROW.out, grownBy_refl _ _⟩
  case round =>
    obtain ⟨j, hj, rfl, rfl, hrow, hg⟩ := hrel
    have HR := Lib.hid hrow; have HG := Lib.hid hg
    clear hrow hg
    by_cases hlt : j < l.length
    · have hne : l ≠ [] := by intro e; rw [e] at hlt; simp at hlt
      obtain ⟨g, rfl, hBg⟩ := HA.out hne
      have HS := Lib.hid (mkI_set k l j hlt)
      obtain ⟨c1, c2⟩ := HR.out.cells (i := j) (by rw [List.length_append, mkI_length, List.length_drop]; omega)
      have R2 := Lib.hid (IRow.set (i := j) (x := k + j) HR.out)
      go_wp2_with fail
      go_roundw
      case rel => exact ⟨j + 1, by omega, by go_num, by go_num, by rw [← HS.out]; exact R2.out, grownBy_trans HG.out (grownBy_cell _ _ _ _)⟩
      case measure => simp [intOf]; omega
    · have hj' : j = l.length := by omega
      subst hj'
      go_wp2_with fail
      go_ret
      exact ⟨rfl, by simpa using HR.out, HG.out⟩
set_option maxHeartbeats 400000 in
theorem heldIntS_any (w0 : World) (v : Value) (k : Int) (n : Nat) (h : IRep w0 v (mkI k n)) (w : World) (hw : Below w0.heap.size w0 w) (hn : n ≤ 1099511627776) (hk0 : 0 ≤ k) (hk : k ≤ 1152921504606846976) :
    Calls Try.prog 12 #[v, .int .i64 k] w fun e w' => e = .returned (.int .i64 (k + n)) ∧ Below w.heap.size w w' := by
  obtain ⟨a, b, off, cap, rfl, ha, hc, hm, hcell⟩ := h
  rw [mkI_length] at hc ⊢
  have HA := Lib.hid ha; have HC := Lib.hid hcell
  clear ha hcell
  go_enter Try.func12, Try.ntmps12
  go_wp2_with fail
  go_loopw [1, 5] (fun x i wr => ∃ j : Nat, j ≤ n ∧ i = .int .i64 j ∧ x = .int .i64 (k + j) ∧ Below w.heap.size w wr) (fun _ i _ => n - (intOf i).toNat)
  case atStart => exact ⟨0, by omega, rfl, by simp, Below.refl _ _⟩
  case round =>
    obtain ⟨j, hj, rfl, rfl, hbl⟩ := hrel
    by_cases hlt : j < n
    · have hjm : j < (mkI k n).length := by rw [mkI_length]; exact hlt
      have hne : mkI k n ≠ [] := by intro e; rw [e] at hjm; simp at hjm
      obtain ⟨rfl, hbw⟩ := HA.out hne
      have hcj := HC.out j hjm
      rw [mkI_get] at hcj
      have c1 : wr.cell? ⟨b, off + j, none⟩ = some (.int .i64 (k + j)) := by rw [(hw.trans (hbl.mono hw.size)).cell (p := ⟨b, off + j, none⟩) hbw]; exact hcj
      clear hcj
      go_wp2_with fail
      go_roundw
      case rel => exact ⟨j + 1, by omega, by go_num, by go_num, hbl⟩
      case measure => simp [intOf]; omega
    · have hj' : j = n := by omega
      subst hj'
      go_wp2_with fail
      go_ret
      exact ⟨rfl, hbl⟩
set_option maxHeartbeats 400000 in
theorem eqIntS_any (w0 : World) (v u : Value) (l : List Int) (h : IRep w0 v l) (h2 : IRep w0 u l) (w : World) (hw : Below w0.heap.size w0 w) :
    Calls Try.prog 8 #[v, u] w fun e w' => e = .returned (.bool true) ∧ Below w.heap.size w w' := by
  obtain ⟨a, b, off, cap, rfl, ha, hc, hm, hcell⟩ := h
  obtain ⟨a2, b2, off2, cap2, rfl, ha2, hc2, hm2, hcell2⟩ := h2
  have HA := Lib.hid ha; have HC := Lib.hid hcell; have HA2 := Lib.hid ha2; have HC2 := Lib.hid hcell2
  have hlen : l.length ≤ 9223372036854775807 := by omega
  clear ha hcell ha2 hcell2 hc hm hc2 hm2
  go_enter Try.func8, Try.ntmps8
  go_wp2_with fail
  go_loopw [5] (fun i wr => ∃ j : Nat, j ≤ l.length ∧ i = .int .i64 j ∧ Below w.heap.size w wr) (fun i _ => l.length - (intOf i).toNat)
  case atStart => exact ⟨0, by omega, rfl, Below.refl _ _⟩
  case round =>
    obtain ⟨j, hj, rfl, hbl⟩ := hrel
    by_cases hlt : j < l.length
    · have hne : l ≠ [] := by intro e; rw [e] at hlt; simp at hlt
      obtain ⟨rfl, hbw⟩ := HA.out hne
      obtain ⟨rfl, hbw2⟩ := HA2.out hne
      have c1 : wr.cell? ⟨b, off + j, none⟩ = some (.int .i64 l[j]) := by rw [(hw.trans (hbl.mono hw.size)).cell (p := ⟨b, off + j, none⟩) hbw]; exact HC.out j hlt
      have c2 : wr.cell? ⟨b2, off2 + j, none⟩ = some (.int .i64 l[j]) := by rw [(hw.trans (hbl.mono hw.size)).cell (p := ⟨b2, off2 + j, none⟩) hbw2]; exact HC2.out j hlt
      have t1 : (l[j] != l[j]) = false := by simp
      generalize l[j] = x at *
      go_wp2_with fail
      go_quiet (fail)
      go_wp2_with fail
      go_roundw
      case rel => exact ⟨j + 1, by omega, by go_num, (by (repeat' (first | with_reducible exact Below.refl _ _ | with_reducible refine below_alloc ?_ _ ?_ | with_reducible refine Below.setCell ?_ ?_ _ | with_reducible refine Below.drew ?_ | with_reducible refine below_drewN ?_ _ | with_reducible refine below_step ?_ (by assumption) ?_ | with_reducible refine below_mark ?_ (by assumption) ?_)); all_goals (first | omega | (simp; done) | (simp; omega)))⟩
      case measure => simp [intOf]; omega
    · go_wp2_with fail
      go_ret
      exact ⟨rfl, hbl⟩
end Go.Proofs.Ytllngpnhhpnjoaa
