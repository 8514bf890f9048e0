/- Whether a table of names is right: spec.NamesOk and impl.NamesOk. -/
import Derived.Test.YtllngpnhhpnjoaaDoorSign
import Derived.Test.YtllngpnhhpnjoaaDoorNames
import Derived.Test.YtllngpnhhpnjoaaDoorEnv
namespace Go.Proofs.YtllngpnhhpnjoaaDoor
set_option linter.unusedVariables false
set_option maxRecDepth 100000
open Go.RowKit
instance memBa2 (s : ByteArray) (l : List ByteArray) : Decidable (s ∈ l) := @List.instDecidableMemOfLawfulBEq _ instBEqOfDecidableEq inferInstance s l
def namesGo : List ByteArray → List ByteArray → Bool
  | _, [] => true
  | seen, s :: l => decide (s.size ≤ 100) && txt s && !(decide (s ∈ seen)) && namesGo (seen ++ [s]) l
def namesB (l : List ByteArray) : Bool := decide (l.length ≤ 100) && namesGo [] l
theorem namesGo_step (l : List ByteArray) (k : Nat) (h : k < l.length) : namesGo (l.take k) (l.drop k) = (decide (l[k].size ≤ 100) && txt l[k] && !(decide (l[k] ∈ l.take k)) && namesGo (l.take (k + 1)) (l.drop (k + 1))) := by
  rw [List.drop_eq_getElem_cons h, namesGo, List.take_succ_eq_append_getElem h]
theorem atS_first (l : List ByteArray) (k : Nat) (h : k < l.length) : (atS l l[k] = k) ↔ ¬ l[k] ∈ l.take k := by
  constructor
  · intro e hm
    obtain ⟨j, hj, ej⟩ := List.getElem_of_mem hm
    rw [List.length_take] at hj
    rw [List.getElem_take] at ej
    have hf : ∃ j, j < l.length ∧ l[j]? = some l[k] ∧ ∀ q, q < j → l[q]? ≠ some l[k] := by
      have : ∀ n, n < l.length → l[n]? = some l[k] → ∃ j, j ≤ n ∧ l[j]? = some l[k] ∧ ∀ q, q < j → l[q]? ≠ some l[k] := by
        intro n
        induction n using Nat.strongRecOn with
        | ind n ih =>
          intro hn he
          by_cases hx : ∃ q, q < n ∧ l[q]? = some l[k]
          · obtain ⟨q, hq, hqe⟩ := hx
            obtain ⟨j, hj1, hj2, hj3⟩ := ih q hq (by omega) hqe
            exact ⟨j, by omega, hj2, hj3⟩
          · exact ⟨n, Nat.le_refl _, he, fun q hq hqe => hx ⟨q, hq, hqe⟩⟩
      obtain ⟨j', h1, h2, h3⟩ := this j (by omega) (by rw [List.getElem?_eq_getElem (by omega), ej])
      exact ⟨j', by omega, h2, h3⟩
    obtain ⟨j', h1, h2, h3⟩ := hf
    have hle : j' ≤ j := by
      rcases Nat.lt_or_ge j j' with h | h
      · exact absurd (by rw [List.getElem?_eq_getElem (by omega), ej]) (h3 j h)
      · exact h
    have := atS_found (l := l) (s := l[k]) h1 (fun q hq hqe => h3 q hq (by rw [List.getElem?_eq_getElem (by omega), hqe])) (by rw [List.getElem?_eq_getElem h1] at h2; exact Option.some.inj h2)
    rw [this] at e
    omega
  · intro hm
    exact atS_found h (fun j hj e => hm (by rw [← e]; exact List.mem_take_iff_getElem.2 ⟨j, by omega, rfl⟩)) rfl
set_option maxHeartbeats 1000000 in
theorem NamesOk_spec (w0 : World) (v : Value) (l : List ByteArray) (h : RepSs w0 v l) (hz : szl l ≤ 1048576) (w : World) (hw : Below w0.heap.size w0 w) :
    Calls Tryd.prog 76 #[v] w fun e w' => e = .returned (.bool (namesB l)) ∧ Below w.heap.size w w' := by
  have HR := Lib.hid h
  obtain ⟨a, b, off, cap, rfl, ha, hc, hm, hcell⟩ := h
  have HA := Lib.hid ha; have HC := Lib.hid hcell
  have hlen : l.length ≤ 1048576 := Nat.le_trans (szl_length l) hz
  have HZ := Lib.hid hz
  clear ha hcell hc hm hz
  go_enter Tryd.func76, Tryd.ntmps76
  go_wp2_with fail
  go_loopw [3] (fun i wr => ∃ k : Nat, k ≤ l.length ∧ i = .int .i64 k ∧ Hid (namesGo [] l = namesGo (l.take k) (l.drop k)) ∧ Below w.heap.size w wr) (fun i _ => l.length - (intOf i).toNat)
  case atStart => exact ⟨0, by omega, rfl, Lib.hid rfl, Below.refl _ _⟩
  case round =>
    obtain ⟨k, hk, rfl, HN, hbl⟩ := hrel
    by_cases hlt : k < l.length
    · have hne : l ≠ [] := by intro e; rw [e] at hlt; simp at hlt
      obtain ⟨rfl, hbw⟩ := HA.out hne
      have hcell : wr.cell? ⟨b, off + k, none⟩ = some (.string l[k]) := by
        rw [World.cell?_of_block (a := ⟨b, off + k, none⟩) ((hbl.block b (Nat.lt_of_lt_of_le hbw hw.size)).trans (hw.block b hbw))]; exact (HC.out k hlt).1
      have HS := Lib.hid (namesGo_step l k hlt)
      have HF := Lib.hid (atS_first l k hlt)
      have hsz : l[k].size ≤ 1048576 := by
        have h1 := szl_take l k hlt; have h2 := szl_split l (k + 1); have := HZ.out; omega
      have T1 := Lib.hid (fun W => textOk_spec l[k] W (by omega))
      have L1 := Lib.hid (fun W (hW : Below wr.heap.size wr W) => l11At_any w0 _ l l[k] HR.out W (hw.trans ((hbl.mono hw.size).trans (hW.mono (Nat.le_trans hw.size hbl.size)))))
      have hbr : b < wr.heap.size := Nat.lt_of_lt_of_le hbw (Nat.le_trans hw.size hbl.size)
      by_cases ht : txt l[k] = true
      · rw [ht] at T1 HS
        by_cases h100 : l[k].size ≤ 100
        · rw [decide_eq_true h100] at HS
          have HA1 := Lib.hid (show ∀ W1 : World, Below wr.heap.size wr W1 → W1.cell? ⟨b, off + k, none⟩ = some (.string l[k]) from fun W1 h1 => (h1.cell (p := ⟨b, off + k, none⟩) hbr).trans hcell)
          by_cases hin : l[k] ∈ l.take k
          · have HX := Lib.hid (show namesB l = false by unfold namesB; rw [HN.out, HS.out, decide_eq_true hin]; simp)
            have hat : atS l l[k] ≠ k := fun e => (HF.out.1 e) hin
            have t1 : (atS l l[k] != (k : Int)) = true := by simpa using hat
            clear HN HS HF hin hat ht
            generalize atS l l[k] = at1 at *
            generalize l[k] = s at *
            go_wp2_with fail
            refine (T1.out _).mono ?_
            rintro e1 w1 ⟨rfl, hb1⟩
            have d1 := HA1.out w1 hb1
            go_wp2_with fail
            refine (L1.out _ (by (repeat' (first | with_reducible exact Below.refl _ _ | with_reducible refine below_alloc ?_ _ ?_ | with_reducible refine Below.setCell ?_ ?_ _ | with_reducible refine Below.drew ?_ | with_reducible refine below_drewN ?_ _ | with_reducible refine below_step ?_ (by assumption) ?_ | with_reducible refine below_mark ?_ (by assumption) ?_)); all_goals (first | omega | (simp; done) | (simp; omega)))).mono ?_
            rintro e2 w2 ⟨rfl, rfl⟩
            go_wp2_with fail
            go_ret
            exact ⟨by rw [HX.out]; rfl, (by (repeat' (first | with_reducible exact Below.refl _ _ | with_reducible refine below_alloc ?_ _ ?_ | with_reducible refine Below.setCell ?_ ?_ _ | with_reducible refine Below.drew ?_ | with_reducible refine below_drewN ?_ _ | with_reducible refine below_step ?_ (by assumption) ?_ | with_reducible refine below_mark ?_ (by assumption) ?_)); all_goals (first | omega | (simp; done) | (simp; omega)))⟩
          · have HX := Lib.hid (show namesGo [] l = namesGo (l.take (k + 1)) (l.drop (k + 1)) by rw [HN.out, HS.out, decide_eq_false hin]; simp)
            have hat : atS l l[k] = k := HF.out.2 hin
            rw [hat] at L1
            clear HN HS HF hin hat ht
            generalize l[k] = s at *
            go_wp2_with fail
            refine (T1.out _).mono ?_
            rintro e1 w1 ⟨rfl, hb1⟩
            have d1 := HA1.out w1 hb1
            go_wp2_with fail
            refine (L1.out _ (by (repeat' (first | with_reducible exact Below.refl _ _ | with_reducible refine below_alloc ?_ _ ?_ | with_reducible refine Below.setCell ?_ ?_ _ | with_reducible refine Below.drew ?_ | with_reducible refine below_drewN ?_ _ | with_reducible refine below_step ?_ (by assumption) ?_ | with_reducible refine below_mark ?_ (by assumption) ?_)); all_goals (first | omega | (simp; done) | (simp; omega)))).mono ?_
            rintro e2 w2 ⟨rfl, rfl⟩
            go_wp2_with fail
            go_roundw
            case rel => exact ⟨k + 1, by omega, by go_num, HX, (by (repeat' (first | with_reducible exact Below.refl _ _ | with_reducible refine below_alloc ?_ _ ?_ | with_reducible refine Below.setCell ?_ ?_ _ | with_reducible refine Below.drew ?_ | with_reducible refine below_drewN ?_ _ | with_reducible refine below_step ?_ (by assumption) ?_ | with_reducible refine below_mark ?_ (by assumption) ?_)); all_goals (first | omega | (simp; done) | (simp; omega)))⟩
            case measure => simp [intOf]; omega
        · have HX := Lib.hid (show namesB l = false by unfold namesB; rw [HN.out, HS.out, decide_eq_false h100]; simp)
          have HA1 := Lib.hid (show ∀ W1 : World, Below wr.heap.size wr W1 → W1.cell? ⟨b, off + k, none⟩ = some (.string l[k]) from fun W1 h1 => (h1.cell (p := ⟨b, off + k, none⟩) hbr).trans hcell)
          clear HN HS HF ht
          generalize l[k] = s at *
          have h101 : (100 : Int) < s.size := by omega
          go_wp2_with fail
          refine (T1.out _).mono ?_
          rintro e1 w1 ⟨rfl, hb1⟩
          have d1 := HA1.out w1 hb1
          go_wp2_with fail
          go_ret
          exact ⟨by rw [HX.out]; rfl, (by (repeat' (first | with_reducible exact Below.refl _ _ | with_reducible refine below_alloc ?_ _ ?_ | with_reducible refine Below.setCell ?_ ?_ _ | with_reducible refine Below.drew ?_ | with_reducible refine below_drewN ?_ _ | with_reducible refine below_step ?_ (by assumption) ?_ | with_reducible refine below_mark ?_ (by assumption) ?_)); all_goals (first | omega | (simp; done) | (simp; omega)))⟩
      · have ht' : txt l[k] = false := by simpa using ht
        rw [ht'] at T1 HS
        have HX := Lib.hid (show namesB l = false by unfold namesB; rw [HN.out, HS.out]; simp)
        clear HN HS HF ht ht'
        generalize l[k] = s at *
        go_wp2_with fail
        refine (T1.out _).mono ?_
        rintro e1 w1 ⟨rfl, hb1⟩
        go_wp2_with fail
        go_ret
        exact ⟨by rw [HX.out]; rfl, (by (repeat' (first | with_reducible exact Below.refl _ _ | with_reducible refine below_alloc ?_ _ ?_ | with_reducible refine Below.setCell ?_ ?_ _ | with_reducible refine Below.drew ?_ | with_reducible refine below_drewN ?_ _ | with_reducible refine below_step ?_ (by assumption) ?_ | with_reducible refine below_mark ?_ (by assumption) ?_)); all_goals (first | omega | (simp; done) | (simp; omega)))⟩
    · have HX := Lib.hid (show namesB l = decide (l.length ≤ 100) by unfold namesB; rw [HN.out, List.drop_of_length_le (by omega)]; simp [namesGo])
      clear HN
      go_wp2_with fail
      go_ret
      exact ⟨by rw [HX.out]; simp; omega, (by (repeat' (first | with_reducible exact Below.refl _ _ | with_reducible refine below_alloc ?_ _ ?_ | with_reducible refine Below.setCell ?_ ?_ _ | with_reducible refine Below.drew ?_ | with_reducible refine below_drewN ?_ _ | with_reducible refine below_step ?_ (by assumption) ?_ | with_reducible refine below_mark ?_ (by assumption) ?_)); all_goals (first | omega | (simp; done) | (simp; omega)))⟩
theorem RepSs.take {w : World} {a : Option Addr} {n cap : Nat} {l : List ByteArray} (h : RepSs w (.slice a n cap) l) (i : Nat) (hi : i ≤ l.length) : RepSs w (.slice a i cap) (l.take i) := by
  obtain ⟨a', b, off, cap', hv, ha, hc, hm, hcell⟩ := h
  simp only [Value.slice.injEq] at hv
  obtain ⟨rfl, rfl, rfl⟩ := hv
  have hl : (l.take i).length = i := by rw [List.length_take]; omega
  refine ⟨a, b, off, cap, by rw [hl], fun hne => ha (fun e => hne (by rw [e]; simp)), by rw [hl]; omega, hm, fun j hj => ?_⟩
  rw [hl] at hj
  rw [List.getElem_take]
  exact hcell j (by omega)
set_option maxHeartbeats 1000000 in
theorem NamesOk_impl (w0 : World) (v : Value) (l : List ByteArray) (h : RepSs w0 v l) (hz : szl l ≤ 1048576) (w : World) (hw : Below w0.heap.size w0 w) (hE : Env w0) :
    Calls Tryd.prog 117 #[v] w fun e w' => e = .returned (.bool (namesB l)) ∧ Below w.heap.size w w' := by
  have HR := Lib.hid h
  obtain ⟨a, b, off, cap, rfl, ha, hc, hm, hcell⟩ := h
  have HA := Lib.hid ha; have HC := Lib.hid hcell
  have hlen : l.length ≤ 1048576 := Nat.le_trans (szl_length l) hz
  have HZ := Lib.hid hz
  have HE := Lib.hid hE
  clear ha hcell hm hz hE
  go_enter Tryd.func117, Tryd.ntmps117
  go_wp2_with fail
  go_loopw [7] (fun i wr => ∃ k : Nat, k ≤ l.length ∧ i = .int .i64 k ∧ Hid (namesGo [] l = namesGo (l.take k) (l.drop k)) ∧ Below w.heap.size w wr ∧ (k ≤ 100 ∨ l.length ≤ 100)) (fun i _ => l.length - (intOf i).toNat)
  case atStart => exact ⟨0, by omega, rfl, Lib.hid rfl, Below.refl _ _, by omega⟩
  case round =>
    obtain ⟨k, hk, rfl, HN, hbl, h100k⟩ := hrel
    by_cases hlt : k < l.length
    · have hne : l ≠ [] := by intro e; rw [e] at hlt; simp at hlt
      obtain ⟨rfl, hbw⟩ := HA.out hne
      have hcell : wr.cell? ⟨b, off + k, none⟩ = some (.string l[k]) := by
        rw [World.cell?_of_block (a := ⟨b, off + k, none⟩) ((hbl.block b (Nat.lt_of_lt_of_le hbw hw.size)).trans (hw.block b hbw))]; exact (HC.out k hlt).1
      have HS := Lib.hid (namesGo_step l k hlt)
      have hsz : l[k].size ≤ 1048576 := by
        have h1 := szl_take l k hlt; have h2 := szl_split l (k + 1); have := HZ.out; omega
      have T1 := Lib.hid (fun W (hW : Below wr.heap.size wr W) => textOk_impl l[k] W (by omega) ((HE.out.keep hw).keep (hbl.trans (hW.mono hbl.size))))
      have C1 := Lib.hid (fun W (hW : Below wr.heap.size wr W) => ContainsN_any w0 _ (l.take k) l[k] (HR.out.take k hk) W (hw.trans ((hbl.mono hw.size).trans (hW.mono (Nat.le_trans hw.size hbl.size)))))
      have hkc : (k : Int) ≤ cap := by omega
      by_cases h100 : l[k].size ≤ 100
      · rw [decide_eq_true h100] at HS
        have h101 : ¬ (100 : Int) < l[k].size := by omega
        by_cases ht : txt l[k] = true
        · rw [ht] at T1 HS
          by_cases hk100 : k < 100
          · by_cases hin : l[k] ∈ l.take k
            · have HX := Lib.hid (show namesB l = false by unfold namesB; rw [HN.out, HS.out, decide_eq_true hin]; simp)
              rw [decide_eq_true (atS_nonneg.2 hin)] at C1
              clear HN HS hin ht h100
              generalize l[k] = s at *
              go_wp2_with fail
              refine (T1.out _ (by (repeat' (first | with_reducible exact Below.refl _ _ | with_reducible refine below_alloc ?_ _ ?_ | with_reducible refine Below.setCell ?_ ?_ _ | with_reducible refine Below.drew ?_ | with_reducible refine below_drewN ?_ _ | with_reducible refine below_step ?_ (by assumption) ?_ | with_reducible refine below_mark ?_ (by assumption) ?_)); all_goals (first | omega | (simp; done) | (simp; omega)))).mono ?_
              rintro e1 w1 ⟨rfl, hb1⟩
              go_wp2_with fail
              refine (C1.out _ (by (repeat' (first | with_reducible exact Below.refl _ _ | with_reducible refine below_alloc ?_ _ ?_ | with_reducible refine Below.setCell ?_ ?_ _ | with_reducible refine Below.drew ?_ | with_reducible refine below_drewN ?_ _ | with_reducible refine below_step ?_ (by assumption) ?_ | with_reducible refine below_mark ?_ (by assumption) ?_)); all_goals (first | omega | (simp; done) | (simp; omega)))).mono ?_
              rintro e2 w2 ⟨rfl, rfl⟩
              go_wp2_with fail
              go_ret
              exact ⟨by rw [HX.out]; rfl, (by (repeat' (first | with_reducible exact Below.refl _ _ | with_reducible refine below_alloc ?_ _ ?_ | with_reducible refine Below.setCell ?_ ?_ _ | with_reducible refine Below.drew ?_ | with_reducible refine below_drewN ?_ _ | with_reducible refine below_step ?_ (by assumption) ?_ | with_reducible refine below_mark ?_ (by assumption) ?_)); all_goals (first | omega | (simp; done) | (simp; omega)))⟩
            · have HX := Lib.hid (show namesGo [] l = namesGo (l.take (k + 1)) (l.drop (k + 1)) by rw [HN.out, HS.out, decide_eq_false hin]; simp)
              rw [decide_eq_false (fun e => hin (atS_nonneg.1 e))] at C1
              clear HN HS hin ht h100
              generalize l[k] = s at *
              go_wp2_with fail
              refine (T1.out _ (by (repeat' (first | with_reducible exact Below.refl _ _ | with_reducible refine below_alloc ?_ _ ?_ | with_reducible refine Below.setCell ?_ ?_ _ | with_reducible refine Below.drew ?_ | with_reducible refine below_drewN ?_ _ | with_reducible refine below_step ?_ (by assumption) ?_ | with_reducible refine below_mark ?_ (by assumption) ?_)); all_goals (first | omega | (simp; done) | (simp; omega)))).mono ?_
              rintro e1 w1 ⟨rfl, hb1⟩
              go_wp2_with fail
              refine (C1.out _ (by (repeat' (first | with_reducible exact Below.refl _ _ | with_reducible refine below_alloc ?_ _ ?_ | with_reducible refine Below.setCell ?_ ?_ _ | with_reducible refine Below.drew ?_ | with_reducible refine below_drewN ?_ _ | with_reducible refine below_step ?_ (by assumption) ?_ | with_reducible refine below_mark ?_ (by assumption) ?_)); all_goals (first | omega | (simp; done) | (simp; omega)))).mono ?_
              rintro e2 w2 ⟨rfl, rfl⟩
              go_wp2_with fail
              go_roundw
              case rel => exact ⟨k + 1, by omega, by go_num, HX, (by (repeat' (first | with_reducible exact Below.refl _ _ | with_reducible refine below_alloc ?_ _ ?_ | with_reducible refine Below.setCell ?_ ?_ _ | with_reducible refine Below.drew ?_ | with_reducible refine below_drewN ?_ _ | with_reducible refine below_step ?_ (by assumption) ?_ | with_reducible refine below_mark ?_ (by assumption) ?_)); all_goals (first | omega | (simp; done) | (simp; omega))), by omega⟩
              case measure => simp [intOf]; omega
          · have HX := Lib.hid (show namesB l = false by unfold namesB; rw [decide_eq_false (by omega)]; simp)
            have h102 : (100 : Int) ≤ k := by omega
            clear HN HS ht h100 C1
            generalize l[k] = s at *
            go_wp2_with fail
            refine (T1.out _ (by (repeat' (first | with_reducible exact Below.refl _ _ | with_reducible refine below_alloc ?_ _ ?_ | with_reducible refine Below.setCell ?_ ?_ _ | with_reducible refine Below.drew ?_ | with_reducible refine below_drewN ?_ _ | with_reducible refine below_step ?_ (by assumption) ?_ | with_reducible refine below_mark ?_ (by assumption) ?_)); all_goals (first | omega | (simp; done) | (simp; omega)))).mono ?_
            rintro e1 w1 ⟨rfl, hb1⟩
            go_wp2_with fail
            go_ret
            exact ⟨by rw [HX.out]; rfl, (by (repeat' (first | with_reducible exact Below.refl _ _ | with_reducible refine below_alloc ?_ _ ?_ | with_reducible refine Below.setCell ?_ ?_ _ | with_reducible refine Below.drew ?_ | with_reducible refine below_drewN ?_ _ | with_reducible refine below_step ?_ (by assumption) ?_ | with_reducible refine below_mark ?_ (by assumption) ?_)); all_goals (first | omega | (simp; done) | (simp; omega)))⟩
        · have ht' : txt l[k] = false := by simpa using ht
          rw [ht'] at T1 HS
          have HX := Lib.hid (show namesB l = false by unfold namesB; rw [HN.out, HS.out]; simp)
          clear HN HS ht ht' h100 C1
          generalize l[k] = s at *
          go_wp2_with fail
          refine (T1.out _ (by (repeat' (first | with_reducible exact Below.refl _ _ | with_reducible refine below_alloc ?_ _ ?_ | with_reducible refine Below.setCell ?_ ?_ _ | with_reducible refine Below.drew ?_ | with_reducible refine below_drewN ?_ _ | with_reducible refine below_step ?_ (by assumption) ?_ | with_reducible refine below_mark ?_ (by assumption) ?_)); all_goals (first | omega | (simp; done) | (simp; omega)))).mono ?_
          rintro e1 w1 ⟨rfl, hb1⟩
          go_wp2_with fail
          go_ret
          exact ⟨by rw [HX.out]; rfl, (by (repeat' (first | with_reducible exact Below.refl _ _ | with_reducible refine below_alloc ?_ _ ?_ | with_reducible refine Below.setCell ?_ ?_ _ | with_reducible refine Below.drew ?_ | with_reducible refine below_drewN ?_ _ | with_reducible refine below_step ?_ (by assumption) ?_ | with_reducible refine below_mark ?_ (by assumption) ?_)); all_goals (first | omega | (simp; done) | (simp; omega)))⟩
      · have HX := Lib.hid (show namesB l = false by unfold namesB; rw [HN.out, HS.out, decide_eq_false h100]; simp)
        have h101 : (100 : Int) < l[k].size := by omega
        clear HN HS C1 T1 h100
        generalize l[k] = s at *
        go_wp2_with fail
        go_ret
        exact ⟨by rw [HX.out]; rfl, (by (repeat' (first | with_reducible exact Below.refl _ _ | with_reducible refine below_alloc ?_ _ ?_ | with_reducible refine Below.setCell ?_ ?_ _ | with_reducible refine Below.drew ?_ | with_reducible refine below_drewN ?_ _ | with_reducible refine below_step ?_ (by assumption) ?_ | with_reducible refine below_mark ?_ (by assumption) ?_)); all_goals (first | omega | (simp; done) | (simp; omega)))⟩
    · have HX := Lib.hid (show namesB l = true by unfold namesB; rw [HN.out, List.drop_of_length_le (by omega), decide_eq_true (by omega)]; simp [namesGo])
      clear HN
      go_wp2_with fail
      go_ret
      exact ⟨by rw [HX.out]; rfl, (by (repeat' (first | with_reducible exact Below.refl _ _ | with_reducible refine below_alloc ?_ _ ?_ | with_reducible refine Below.setCell ?_ ?_ _ | with_reducible refine Below.drew ?_ | with_reducible refine below_drewN ?_ _ | with_reducible refine below_step ?_ (by assumption) ?_ | with_reducible refine below_mark ?_ (by assumption) ?_)); all_goals (first | omega | (simp; done) | (simp; omega)))⟩
end Go.Proofs.YtllngpnhhpnjoaaDoor
