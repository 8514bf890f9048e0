/- Lemmas for the statement of the last text of this claim: texts joined. -/
import Derived.Test.YtfjehhdahpbbgaaDoorPa01
import Derived.Test.YtfjehhdahpbbgaaDoorPa03
import Derived.Test.YtfjehhdahpbbgaaDoorPa04
import Derived.Deep.RegionLaw
import Derived.WalkSpells
import Derived.Lib.Hide
import Derived.Deep.RegionWith
namespace Go.Proofs.YtfjehhdahpbbgaaDoor
set_option linter.unusedSimpArgs false
set_option linter.unusedVariables false
set_option maxRecDepth 100000
open Go.RowKit Go.Shelf
theorem lit1 (w : World) (c : UInt8) : Src Tryd.prog 1 83 (.slice (some ⟨w.heap.size, 0, none⟩) 1 1) [c].length (bys [c]) (w.alloc (.cells #[.int .u8 c.toNat] 5)) := by
  have h := BRow.made (w := w) (base := w.heap.size) [c] (Nat.le_refl _) (by simp)
  have := src_row h
  simpa [bys] using this
theorem lit2 (w : World) (a c : UInt8) : Src Tryd.prog 1 83 (.slice (some ⟨w.heap.size, 0, none⟩) 2 2) [a, c].length (bys [a, c]) (w.alloc (.cells #[.int .u8 a.toNat, .int .u8 c.toNat] 5)) := by
  have h := BRow.made (w := w) (base := w.heap.size) [a, c] (Nat.le_refl _) (by simp)
  have := src_row h
  simpa [bys] using this
theorem BRow.slice3 {w : World} {base : Nat} {v : Value} {l : List UInt8} (h : BRow w base v l) : ∃ a n cap, v = .slice a n cap := by
  rcases h.2 with ⟨rfl, _⟩ | ⟨g, cap, cur, hv, _⟩
  · exact ⟨_, _, _, rfl⟩
  · exact ⟨_, _, _, hv⟩
theorem BRow.stay2 {w w' : World} {base : Nat} {v : Value} {l : List UInt8} (h : BRow w base v l) (hb : Below w.heap.size w w') : BRow w' base v l :=
  World.ownsRow.kept (row := none) h ⟨hb.os, hb.tape, hb.output, hb.size, fun k hk _ => hb.block k hk⟩ (by cases v.ownBlock <;> simp)
theorem step_cat (s : List UInt8) : (⟨#[47]⟩ : ByteArray) ++ ⟨(escB s).toArray⟩ = ⟨(47 :: escB s).toArray⟩ := by simp [ByteArray.ext_iff]
theorem esc_snoc (s : ByteArray) (j : Nat) (h : j < s.size) : escB (s.data.toList.take (j + 1)) = escB (s.data.toList.take j) ++ escC s[j] := by
  rw [List.take_succ_eq_append_getElem (by simpa using h), escB_snoc]; rfl
theorem path_take (l : List ByteArray) (k : Nat) (h : k < l.length) : pathL (l.take (k + 1)) = pathL (l.take k) ++ stepL l[k] := by
  rw [List.take_succ_eq_append_getElem h, pathL_snoc]
theorem u8_ne {c d : UInt8} (h : ¬ c = d) : ¬ (c.toNat : Int) = d.toNat := fun e => h (UInt8.toNat_inj.1 (by omega))
theorem putL_no {l : List ByteArray} (h : stepsOk l = false) : putL l = [] := by unfold putL; rw [h]; rfl
theorem putL_yes {l : List ByteArray} (h : stepsOk l = true) : putL l = pathL l := by unfold putL; rw [h]; rfl
set_option maxHeartbeats 2000000 in
theorem PutPath_impl (w0 : World) (hE : EnvP w0) (v : Value) (l : List ByteArray) (h : RepSs w0 v l) (w : World) (hw : Below w0.heap.size w0 w) :
    Calls Tryd.prog 88 #[v] w (TxtRet w (putL l)) := by
  have AS := Lib.hid (areSteps_any w0 hE v l h w hw)
  have HNO := Lib.hid (@putL_no l)
  have HYES := Lib.hid (@putL_yes l)
  have HOK := Lib.hid (@stepsOk_iff l)
  have R1 := Lib.hid (fun (s : ByteArray) (hs : s.size ≤ 2000) (W : World) (hW : Below w0.heap.size w0 W) => replace_any 126 [126, 48] (by simp) rfl s (by omega) W (hE.keep hW))
  have R2 := Lib.hid (fun (s : ByteArray) (hs : s.size ≤ 2000) (W : World) (hW : Below w0.heap.size w0 W) => show Calls Tryd.prog 121 #[.string ⟨(repB 126 [126, 48] s.data.toList).toArray⟩, .string ⟨#[47]⟩, .string ⟨#[126, 49]⟩] W (TxtRet W (escB s.data.toList)) from by
    have hl := repB_len 126 [126, 48] s.data.toList (by simp)
    have h2 : (⟨(repB 126 [126, 48] s.data.toList).toArray⟩ : ByteArray).size ≤ 4000000 := by
      show (repB 126 [126, 48] s.data.toList).toArray.size ≤ _
      rw [List.size_toArray]; rw [size_eq] at hs; omega
    have := replace_any 47 [126, 49] (by simp) rfl ⟨(repB 126 [126, 48] s.data.toList).toArray⟩ h2 W (hE.keep hW)
    rw [← esc_two]
    exact this)
  have PT := Lib.hid (fun k hk => path_take l k hk)
  obtain ⟨a, b, off, cap, rfl, ha, hc, hm, hcell⟩ := h
  have HA := Lib.hid ha; have HC := Lib.hid hcell
  clear hE ha hcell
  generalize putL l = P at *
  generalize stepsOk l = q at *
  cases q
  · clear R1 R2 PT HA HC HOK HYES
    go_enter Tryd.func88, Tryd.ntmps88
    go_wp2_with fail
    refine AS.out.mono ?_
    rintro e w1 ⟨rfl, hb1⟩
    go_wp2_with fail
    go_ret
    exact ⟨by rw [HNO.out trivial]; rfl, hb1⟩
  obtain ⟨h12, hst⟩ := HOK.out.1 rfl
  have hl4 : (pathL l).length ≤ 4001 * l.length := pathL_len (fun s hs => (hst s hs).1)
  have HST := Lib.hid hst
  have HP := Lib.hid (HYES.out rfl)
  clear HNO HYES HOK hst
  go_enter Tryd.func88, Tryd.ntmps88
  go_wp2_with fail
  refine AS.out.mono ?_
  rintro e w1 ⟨rfl, hb1⟩
  have HB1 := Lib.hid hb1
  clear hb1 AS
  obtain ⟨W0, hW0⟩ : ∃ W0, W0 = w1.alloc (.cells #[.pointer none, .slice none 0 0] 85) := ⟨_, rfl⟩
  have HBW := Lib.hid (show Below w1.heap.size w1 W0 from by rw [hW0]; exact (Below.refl _ _).alloc (Nat.le_refl _) _)
  have HFR := Lib.hid (show Bld w1.heap.size w1.heap.size (Lib.byteCells (pathL (l.take 0))) W0 from by rw [hW0]; exact Lib.IsBuilderF.of (Lib.fresh_isBuilder _ _ _))
  have hz0 := HB1.out.size
  have hzW : w1.heap.size < W0.heap.size := by rw [hW0]; simp
  go_wp2_with fail
  rw [← hW0]
  clear hW0
  go_loopw [11] (fun i wr => ∃ k : Nat, k ≤ l.length ∧ i = .int .i64 k ∧ Hid (Bld w1.heap.size w1.heap.size (Lib.byteCells (pathL (l.take k))) wr) ∧ Hid (Below w1.heap.size w1 wr)) (fun i _ => l.length - (intOf i).toNat)
  case atStart => exact ⟨0, by omega, rfl, HFR, HBW⟩
  case round =>
    obtain ⟨k, hk, rfl, HBD, HBR⟩ := hrel
    have HWR := Lib.hid (hw.trans ((HB1.out.trans (HBR.out.mono hz0)).mono hw.size))
    have hzr := HBR.out.size
    by_cases hlt : k < l.length
    · have hne : l ≠ [] := by intro e; rw [e] at hlt; simp at hlt
      obtain ⟨rfl, hbw⟩ := HA.out hne
      have d0 : wr.cell? ⟨b, off + k, none⟩ = some (.string l[k]) := by rw [HWR.out.cell (p := ⟨b, off + k, none⟩) hbw]; exact (HC.out k hlt).1
      have hs2 := (HST.out l[k] (List.getElem_mem hlt)).1
      have A1 := Lib.hid (R1.out l[k] hs2 wr HWR.out)
      have A2 := Lib.hid (fun W hW => R2.out l[k] hs2 W hW)
      have PT1 := Lib.hid (PT.out k hlt)
      have hpl : (pathL (l.take k)).length ≤ 48012 := by
        have h1 : (pathL (l.take (k + 1))).length ≤ (pathL l).length := by
          conv => rhs; rw [← List.take_append_drop (k + 1) l]
          unfold pathL
          rw [List.flatMap_append, List.length_append]; omega
        rw [PT1.out, List.length_append] at h1
        omega
      have hel := escB_len (l[k]).data.toList
      have hsz := size_eq l[k]
      have SC := Lib.hid (step_cat (l[k]).data.toList)
      unfold stepL at PT1
      generalize pathL (l.take k) = C at *
      generalize repB 126 [126, 48] (l[k]).data.toList = r at *
      generalize escB (l[k]).data.toList = es at *
      generalize l[k] = x at *
      clear R1 R2
      go_wp2_with fail
      refine A1.out.mono ?_
      rintro e2 w2 ⟨rfl, hb2⟩
      have HB2 := Lib.hid (HBR.out.trans (hb2.mono HBR.out.size))
      have HD2 := Lib.hid (HBD.out.stay hb2)
      have HW2 := Lib.hid (HWR.out.trans (hb2.mono HWR.out.size))
      clear hb2
      go_wp2_with fail
      refine (A2.out _ HW2.out).mono ?_
      rintro e3 w3 ⟨rfl, hb3⟩
      have HB3 := Lib.hid (HB2.out.trans (hb3.mono HB2.out.size))
      have HD3 := Lib.hid (HD2.out.stay hb3)
      clear hb3
      have hz3 := HB3.out.size
      have WS := Lib.hid (WriteString_any _ _ _ ⟨(47 :: es).toArray⟩ w3 HD3.out (by
        rw [show (Lib.byteCells C).length = C.length by simp [Lib.byteCells]]
        have : (⟨(47 :: es).toArray⟩ : ByteArray).size = es.length + 1 := by show (47 :: es).toArray.size = _; rw [List.size_toArray]; rfl
        omega) hz3)
      rw [← SC.out] at WS
      go_wp2_with fail
      refine WS.out.mono ?_
      rintro e4 w4 ⟨rfl, hd4, hb4, -⟩
      have HB4 := Lib.hid (HB3.out.trans hb4)
      have HD4 := Lib.hid hd4
      clear hb4 hd4
      go_wp2_with fail
      go_roundw
      case rel => exact ⟨k + 1, by omega, by go_num, Lib.hid (by rw [PT1.out, byte_app]; have := HD4.out; rw [SC.out] at this; exact this), HB4⟩
      case measure => simp [intOf]; omega
    · have hkl : k = l.length := by omega
      subst hkl
      rw [List.take_length] at HBD
      have ST := Lib.hid (String_any _ _ _ wr HBD.out hzr)
      have HBX := Lib.hid (HB1.out.trans (HBR.out.mono hz0))
      clear R1 R2 HBD
      generalize pathL l = C at *
      go_wp2_with fail
      refine ST.out.mono ?_
      rintro e5 w5 ⟨rfl, -, hb5, -⟩
      go_wp2_with fail
      go_ret
      exact ⟨by rw [HP.out]; rfl, HB1.out.trans ((HBR.out.trans hb5).mono hz0)⟩
theorem esc126 {c : UInt8} (h : c = 126) : escC c = [126, 48] := by subst h; rfl
theorem esc47 {c : UInt8} (h : c = 47) : escC c = [126, 49] := by subst h; rfl
theorem esc_else {c : UInt8} (h1 : ¬ c = 126) (h2 : ¬ c = 47) : escC c = [c] := by unfold escC; rw [if_neg h1, if_neg h2]
set_option maxHeartbeats 4000000 in
theorem PutPath_spec (w0 : World) (v : Value) (l : List ByteArray) (h : RepSs w0 v l) (hs : ∀ s ∈ l, s.size ≤ 1048576) (w : World) (hw : Below w0.heap.size w0 w) :
    Calls Tryd.prog 86 #[v] w (TxtRet w (putL l)) := by
  have HNO := Lib.hid (@putL_no l)
  have HYES := Lib.hid (@putL_yes l)
  have HOK := Lib.hid (@stepsOk_iff l)
  have PT := Lib.hid (fun k hk => path_take l k hk)
  obtain ⟨a, b, off, cap, rfl, ha, hc, hm, hcell⟩ := h
  have HA := Lib.hid ha; have HC := Lib.hid hcell; have HS := Lib.hid hs
  clear ha hcell hs
  generalize putL l = P at *
  go_enter Tryd.func86, Tryd.ntmps86
  go_wp2_with fail
  go_loopw [3, 4] (fun o i wr => ∃ (k : Nat) (oa : Option Addr) (on oc : Nat), o = .slice oa on oc ∧ i = .int .i64 k ∧ k ≤ l.length ∧ Hid (k > 0 → l.length ≤ 12) ∧ Hid (∀ j (hj : j < l.length), j < k → (l[j]).size ≤ 2000 ∧ txt l[j] = true) ∧ Hid (BRow wr w.heap.size (.slice oa on oc) (pathL (l.take k))) ∧ Hid (Below w.heap.size w wr)) (fun _ i _ => l.length - (intOf i).toNat)
  case atStart => exact ⟨0, _, _, _, rfl, rfl, by omega, Lib.hid (by omega), Lib.hid (fun j hj h => absurd h (by omega)), Lib.hid (BRow.made [] (Nat.le_refl _) (by simp)), Lib.hid ((Below.refl _ _).alloc (Nat.le_refl _) _)⟩
  case round =>
    obtain ⟨k, oa, on, oc, rfl, rfl, hk, HK12, HKO, HRW, HB⟩ := hrel
    by_cases hlt : k < l.length
    · by_cases h12 : l.length ≤ 12
      case neg =>
        have HF := Lib.hid (show stepsOk l = false from by rw [Bool.eq_false_iff]; intro e; exact h12 (HOK.out.1 e).1)
        clear HOK HYES HC HA HS PT HRW HKO HK12
        go_wp2_with fail
        go_ret
        exact ⟨by rw [HNO.out HF.out]; rfl, HB.out⟩
      have hne : l ≠ [] := by intro e; rw [e] at hlt; simp at hlt
      obtain ⟨rfl, hbw⟩ := HA.out hne
      have HWR := Lib.hid (hw.trans (HB.out.mono hw.size))
      have d0 : wr.cell? ⟨b, off + k, none⟩ = some (.string l[k]) := by rw [HWR.out.cell (p := ⟨b, off + k, none⟩) hbw]; exact (HC.out k hlt).1
      have HX0 := Lib.hid (HC.out k hlt).1
      have hsx := HS.out l[k] (List.getElem_mem hlt)
      have TX := Lib.hid (fun W => textOk_spec l[k] W (by omega))
      have HBAD := Lib.hid (show ¬ ((l[k]).size ≤ 2000 ∧ txt l[k] = true) → P = [] from fun hb => HNO.out (by rw [Bool.eq_false_iff]; intro e; exact hb ((HOK.out.1 e).2 _ (List.getElem_mem hlt))))
      have PT1 := Lib.hid (PT.out k hlt)
      have HK1 := Lib.hid (show (l[k]).size ≤ 2000 ∧ txt l[k] = true → ∀ j (hj : j < l.length), j < k + 1 → (l[j]).size ≤ 2000 ∧ txt l[j] = true from fun h j hj hjk => by
        by_cases e : j = k
        · subst e; exact h
        · exact HKO.out j hj (by omega))
      have hpl : (pathL (l.take k)).length ≤ 48012 := by
        have h1 := pathL_len (l := l.take k) (fun s hs => by
          obtain ⟨j, hj, rfl⟩ := List.getElem_of_mem hs
          rw [List.length_take] at hj
          rw [List.getElem_take]
          exact (HKO.out j (by omega) (by omega)).1)
        rw [List.length_take] at h1
        omega
      unfold stepL at PT1
      have HES := Lib.hid (fun (j : Nat) (hj : j < (l[k]).size) => esc_snoc l[k] j hj)
      have HEL := Lib.hid (show escB ((l[k]).data.toList.take (l[k]).size) = escB (l[k]).data.toList from by rw [size_eq, List.take_length])
      have HELN := Lib.hid (fun j => escB_len ((l[k]).data.toList.take j))
      generalize pathL (l.take k) = C at *
      generalize hx : l[k] = x at *
      clear hx HKO HK12 HOK HYES
      go_wp2_with fail
      refine (TX.out _).mono ?_
      rintro e1 w1 ⟨rfl, hb1⟩
      have HB1 := Lib.hid (HB.out.trans (hb1.mono HB.out.size))
      have HR1 := Lib.hid (HRW.out.stay2 hb1)
      have HW1 := Lib.hid (HWR.out.trans (hb1.mono HWR.out.size))
      have d1 : w1.cell? ⟨b, off + k, none⟩ = some (.string x) := by
        rw [hb1.cell (p := ⟨b, off + k, none⟩) (Nat.lt_of_lt_of_le hbw HWR.out.size)]; exact d0
      clear hb1 HRW TX d0
      cases htx : txt x
      case false =>
        have HF := Lib.hid (HBAD.out (by rw [htx]; simp))
        go_wp2_with fail
        go_ret
        exact ⟨by rw [HF.out]; rfl, HB1.out⟩
      case true =>
      by_cases h2000 : x.size ≤ 2000
      case neg =>
        have HF := Lib.hid (HBAD.out (fun h => h2000 h.1))
        go_wp2_with fail
        go_ret
        exact ⟨by rw [HF.out]; rfl, HB1.out⟩
      have HKN := Lib.hid (HK1.out ⟨h2000, htx⟩)
      clear htx HBAD HK1
      have S47 := Lib.hid (show Src Tryd.prog 1 83 (.slice (some ⟨w1.heap.size, 0, none⟩) 1 1) [(47 : UInt8)].length (bys [(47 : UInt8)]) (w1.alloc (.cells #[.int .u8 47] 5)) from lit1 w1 47)
      have R47 := Lib.hid (HR1.out.stay2 (show Below w1.heap.size w1 (w1.alloc (.cells #[.int .u8 47] 5)) from (Below.refl _ _).alloc (Nat.le_refl _) _))
      have HBA := Lib.hid (show Below w.heap.size w (w1.alloc (.cells #[.int .u8 47] 5)) from HB1.out.alloc HB1.out.size _)
      have HZA := Lib.hid HB1.out.size
      go_wp2_with (at_builtin; refine app_bytes rfl _ _ _ rfl w.heap.size _ C rfl R47.out _ rfl [(47 : UInt8)] S47.out (by simp; omega) (by have := HZA.out; simp; omega) ?_; intro v2 w2 hrow2 hg2 _; obtain ⟨oa2, on2, oc2, rfl⟩ := hrow2.slice3; have HR2 := Lib.hid hrow2; have HB2 := Lib.hid (HBA.out.grown hg2 HBA.out.size (fun k hk => (R47.out.lt k hk).1)); clear hrow2 hg2)
      go_loopw [3, 5] (fun o i wr => ∃ (j : Nat) (oa on' oc' : _), o = .slice oa on' oc' ∧ i = .int .i64 j ∧ j ≤ x.size ∧ Hid (BRow wr w.heap.size (.slice oa on' oc') (C ++ 47 :: escB (x.data.toList.take j))) ∧ Hid (Below w.heap.size w wr)) (fun _ i _ => x.size - (intOf i).toNat)
      case atStart => exact ⟨0, _, _, _, rfl, rfl, by omega, by simpa [escB] using HR2, HB2⟩
      case round =>
        clear HR2 HB2 S47 R47 HBA
        obtain ⟨j, oa, on', oc', rfl, rfl, hj, HR3, HB3⟩ := hrel
        have HW3 := Lib.hid (hw.trans (HB3.out.mono hw.size))
        have d3 : wr.cell? ⟨b, off + k, none⟩ = some (.string x) := by
          rw [(show Below w0.heap.size w0 wr from HW3.out).cell (p := ⟨b, off + k, none⟩) hbw]; exact HX0.out
        by_cases hjl : j < x.size
        · have HE1 := Lib.hid (HES.out j hjl)
          have hen := HELN.out j
          have htk : (x.data.toList.take j).length ≤ 2000 := by rw [List.length_take]; omega
          generalize escB (x.data.toList.take j) = ej at *
          by_cases h126 : x[j] = 126
          · have hc6 : ((x[j]).toNat : Int) = 126 := by rw [h126]; rfl
            have HEC := Lib.hid (esc126 h126)
            have S2 := Lib.hid (show Src Tryd.prog 1 83 (.slice (some ⟨wr.heap.size, 0, none⟩) 2 2) [(126 : UInt8), 48].length (bys [(126 : UInt8), 48]) (wr.alloc (.cells #[.int .u8 126, .int .u8 48] 5)) from lit2 wr 126 48)
            have R2 := Lib.hid (HR3.out.stay2 (show Below wr.heap.size wr (wr.alloc (.cells #[.int .u8 126, .int .u8 48] 5)) from (Below.refl _ _).alloc (Nat.le_refl _) _))
            have HBA := Lib.hid (show Below w.heap.size w (wr.alloc (.cells #[.int .u8 126, .int .u8 48] 5)) from HB3.out.alloc HB3.out.size _)
            have HZB := Lib.hid HB3.out.size
            go_wp2_with (at_builtin; refine app_bytes rfl _ _ _ rfl w.heap.size _ (C ++ 47 :: ej) rfl R2.out _ rfl [(126 : UInt8), (48 : UInt8)] S2.out (by simp; omega) (by have := HZB.out; simp; omega) ?_; intro v4 w4 hrow4 hg4 _; obtain ⟨oa4, on4, oc4, rfl⟩ := hrow4.slice3; have HR4 := Lib.hid hrow4; have HB4 := Lib.hid (HBA.out.grown hg4 HBA.out.size (fun k hk => (R2.out.lt k hk).1)); clear hrow4 hg4)
            go_roundw
            case rel => exact ⟨j + 1, _, _, _, rfl, by go_num, by omega, Lib.hid (by rw [HE1.out, HEC.out]; simpa using HR4.out), HB4⟩
            case measure => simp [intOf]; omega
          by_cases h47 : x[j] = 47
          · have hc6 : ((x[j]).toNat : Int) = 47 := by rw [h47]; rfl
            have HEC := Lib.hid (esc47 h47)
            have S2 := Lib.hid (show Src Tryd.prog 1 83 (.slice (some ⟨wr.heap.size, 0, none⟩) 2 2) [(126 : UInt8), 49].length (bys [(126 : UInt8), 49]) (wr.alloc (.cells #[.int .u8 126, .int .u8 49] 5)) from lit2 wr 126 49)
            have R2 := Lib.hid (HR3.out.stay2 (show Below wr.heap.size wr (wr.alloc (.cells #[.int .u8 126, .int .u8 49] 5)) from (Below.refl _ _).alloc (Nat.le_refl _) _))
            have HBA := Lib.hid (show Below w.heap.size w (wr.alloc (.cells #[.int .u8 126, .int .u8 49] 5)) from HB3.out.alloc HB3.out.size _)
            have HZB := Lib.hid HB3.out.size
            go_wp2_with (at_builtin; refine app_bytes rfl _ _ _ rfl w.heap.size _ (C ++ 47 :: ej) rfl R2.out _ rfl [(126 : UInt8), (49 : UInt8)] S2.out (by simp; omega) (by have := HZB.out; simp; omega) ?_; intro v4 w4 hrow4 hg4 _; obtain ⟨oa4, on4, oc4, rfl⟩ := hrow4.slice3; have HR4 := Lib.hid hrow4; have HB4 := Lib.hid (HBA.out.grown hg4 HBA.out.size (fun k hk => (R2.out.lt k hk).1)); clear hrow4 hg4)
            go_roundw
            case rel => exact ⟨j + 1, _, _, _, rfl, by go_num, by omega, Lib.hid (by rw [HE1.out, HEC.out]; simpa using HR4.out), HB4⟩
            case measure => simp [intOf]; omega
          · have hc6 : ¬ ((x[j]).toNat : Int) = 126 := u8_ne h126
            have hc7 : ¬ ((x[j]).toNat : Int) = 47 := u8_ne h47
            have HEC := Lib.hid (esc_else h126 h47)
            have S2 := Lib.hid (lit1 wr x[j])
            have R2 := Lib.hid (HR3.out.stay2 (show Below wr.heap.size wr (wr.alloc (.cells #[.int .u8 (x[j]).toNat] 5)) from (Below.refl _ _).alloc (Nat.le_refl _) _))
            have HBA := Lib.hid (show Below w.heap.size w (wr.alloc (.cells #[.int .u8 (x[j]).toNat] 5)) from HB3.out.alloc HB3.out.size _)
            have HZB := Lib.hid HB3.out.size
            go_wp2_with (at_builtin; refine app_bytes rfl _ _ _ rfl w.heap.size _ (C ++ 47 :: ej) rfl R2.out _ rfl [x[j]] S2.out (by simp; omega) (by have := HZB.out; simp; omega) ?_; intro v4 w4 hrow4 hg4 _; obtain ⟨oa4, on4, oc4, rfl⟩ := hrow4.slice3; have HR4 := Lib.hid hrow4; have HB4 := Lib.hid (HBA.out.grown hg4 HBA.out.size (fun k hk => (R2.out.lt k hk).1)); clear hrow4 hg4)
            go_roundw
            case rel => exact ⟨j + 1, _, _, _, rfl, by go_num, by omega, Lib.hid (by rw [HE1.out, HEC.out]; simpa using HR4.out), HB4⟩
            case measure => simp [intOf]; omega
        · have hje : j = x.size := by omega
          subst hje
          rw [HEL.out, ← PT1.out] at HR3
          clear d1
          go_wp2_with fail
          go_roundw
          case rel => exact ⟨k + 1, _, _, _, rfl, by go_num, by omega, Lib.hid (fun _ => h12), HKN, HR3, HB3⟩
          case measure => simp [intOf]; omega
    · have hkl : k = l.length := by omega
      subst hkl
      rw [List.take_length] at HRW
      have HF := Lib.hid (show stepsOk l = true from HOK.out.2 ⟨by
        rcases Nat.eq_zero_or_pos l.length with e | e
        · omega
        · exact HK12.out e, fun s hs => by
          obtain ⟨j, hj, rfl⟩ := List.getElem_of_mem hs
          exact HKO.out j hj hj⟩)
      have HP := Lib.hid (HYES.out HF.out)
      have r := run_str HRW.out
      clear HNO HYES HOK HK12 HKO HRW HC HA HS PT
      go_wp2_with fail
      go_ret
      exact ⟨by rw [HP.out]; rfl, HB.out⟩
end Go.Proofs.YtfjehhdahpbbgaaDoor
namespace Go.Proofs.YtfjehhdahpbbgaaDoor
set_option linter.unusedSimpArgs false
set_option linter.unusedVariables false
set_option maxRecDepth 100000
open Go.RowKit Go.Shelf
set_option maxHeartbeats 400000 in
theorem DecText_impl (n : Nat) (hn : n ≤ 1000000) (w : World) (hE : EnvP w) : Calls Tryd.prog 89 #[.int .i64 n] w fun e w' => e = .returned (.string (decB n)) ∧ Below w.heap.size w w' := by
  have IT := Lib.hid (itoa_any n hn w hE)
  clear hE
  generalize decB n = s at *
  go_enter Tryd.func89, Tryd.ntmps89
  go_wp2_with fail
  refine IT.out.mono ?_
  rintro e w1 ⟨rfl, hb1⟩
  go_wp2_with fail
  go_ret
  exact ⟨rfl, hb1⟩
theorem decB_zero : decB 0 = ⟨#[48]⟩ := by unfold decB; rw [Lib.decDigits_one (by omega)]; rfl
theorem decB_pos {n : Nat} (h : ¬ n = 0) : decB n = ⟨(mtL n).toArray⟩ := by unfold decB; rw [dec_mtL h]
theorem digit_cut : ∀ d : Fin 10, (⟨#[48, 49, 50, 51, 52, 53, 54, 55, 56, 57]⟩ : ByteArray).extract d.val (d.val + 1) = ⟨#[UInt8.ofNat (48 + d.val)]⟩ := by decide
set_option maxHeartbeats 1000000 in
theorem DecText_spec (n : Nat) (hn : n ≤ 1000000) (w : World) : Calls Tryd.prog 87 #[.int .i64 n] w fun e w' => e = .returned (.string (decB n)) ∧ w' = w := by
  by_cases h0 : n = 0
  · subst h0
    rw [decB_zero]
    go_enter Tryd.func87, Tryd.ntmps87
    go_wp2_with fail
    go_ret
    exact ⟨rfl, rfl⟩
  · have H := Lib.hid (decB_pos h0)
    go_enter Tryd.func87, Tryd.ntmps87
    go_wp2_with fail
    go_loopw [3, 4] (fun s x wr => ∃ (q : Nat) (L : List UInt8), q ≤ n ∧ x = .int .i64 q ∧ s = bstr L ∧ L.length + q ≤ n ∧ Hid (mtL n = mtL q ++ L) ∧ wr = w) (fun _ x _ => (intOf x).toNat)
    case atStart => exact ⟨n, [], by omega, rfl, rfl, by simp, Lib.hid (by simp), rfl⟩
    case round =>
      obtain ⟨q, L, hqn, rfl, rfl, hl, HM, rfl⟩ := hrel
      by_cases hlt : 0 < q
      · have HS := Lib.hid (mtL_pos (n := q) (by omega))
        have hm : (q : Int).tmod 10 = ((q % 10 : Nat) : Int) := by rw [Int.tmod_eq_emod_of_nonneg (by omega)]; omega
        have hd : (q : Int).tdiv 10 = ((q / 10 : Nat) : Int) := by rw [Int.tdiv_eq_ediv_of_nonneg (by omega)]; omega
        have hdc := digit_cut ⟨q % 10, by omega⟩
        have hr : q % 10 < 10 := by omega
        have hqd : q / 10 < q := by omega
        have HT1 := Lib.hid (show mtL n = mtL (q / 10) ++ (UInt8.ofNat (48 + q % 10) :: L) from by rw [HM.out, HS.out]; simp)
        dsimp only at hdc
        generalize q % 10 = r at *
        generalize q / 10 = p at *
        go_wp2_with fail
        go_roundw
        case rel => exact ⟨p, UInt8.ofNat (48 + r) :: L, by omega, rfl, by simp [ByteArray.ext_iff], by simp; omega, HT1, by first | rfl | trivial⟩
        case measure => simp [intOf]; omega
      · have hq0 : q = 0 := by omega
        subst hq0
        go_wp2_with fail
        go_ret
        refine ⟨?_, rfl⟩
        rw [H.out, HM.out, mtL_zero]; rfl
set_option maxHeartbeats 400000 in
theorem clone_any (w0 : World) (v : Value) (l : List ByteArray) (h : RepSs w0 v l) (hl : l.length ≤ 1048576) (w : World) (hw : Below w0.heap.size w0 w) : Calls Tryd.prog 90 #[v] w (StrsRet w l) := by
  have q22 : ∀ (w : World) (a : Option Addr) (n c n' c' : Nat), (binOp .eql 49 (.slice a n c) (.slice none n' c')).run Tryd.prog w = .ok (.bool a.isNone) w := fun w a n c n' c' => Lib.run_eql_slice_nil w _ _ a n c n' c' Tryd.underlying49
  obtain ⟨a, b, off, cap, rfl, ha, hc, hm, hcell⟩ := h
  cases a with
  | none =>
    have hl0 : l = [] := by
      cases l with
      | nil => rfl
      | cons x l => exact absurd (ha (by simp)).1 (by simp)
    subst hl0
    go_enter Tryd.func90, Tryd.ntmps90
    go_wp2_with fail
    go_ret
    exact ⟨_, rfl, SRow.nil _ _, Below.refl _ _⟩
  | some a =>
    have HR := Lib.hid (show SRow (w.alloc (.cells #[] 9)) w.heap.size (.slice (some ⟨w.heap.size, 0, none⟩) 0 0) [] from SRow.made0 (Nat.le_refl _))
    have HSZ := Lib.hid (show ∀ s ∈ l, s.size ≤ 9223372036854775807 from fun s hs => by
      obtain ⟨j, hj, rfl⟩ := List.getElem_of_mem hs
      exact (hcell j hj).2)
    have HS := Lib.hid (show Src Tryd.prog 1 49 (.slice (some a) l.length cap) l.length (l.map .string) (w.alloc (.cells #[] 9)) from by
      refine Src.ofSlice _ Tryd.underlying49 _ _ _ _ (by simp) ?_ (fun u hu => by obtain ⟨_, _, rfl⟩ := List.mem_map.1 hu; rfl)
      intro j u hu
      rw [List.getElem?_map, Option.map_eq_some_iff] at hu
      obtain ⟨s, hs, rfl⟩ := hu
      have hj : j < l.length := by
        rcases Nat.lt_or_ge j l.length with h | h
        · exact h
        · rw [List.getElem?_eq_none h] at hs; cases hs
      have hne : l ≠ [] := by intro e; rw [e] at hj; simp at hj
      obtain ⟨e, hb⟩ := ha hne
      injection e with e
      subst e
      rw [addr_add _ _ rfl]
      rw [List.getElem?_eq_getElem hj] at hs
      injection hs with hs
      subst hs
      have hB : Below w0.heap.size w0 (w.alloc (.cells #[] 9)) := hw.alloc hw.size _
      rw [hB.cell (p := ⟨b, off + j, none⟩) hb]
      exact (hcell j hj).1)
    clear ha hcell hw
    go_enter Tryd.func90, Tryd.ntmps90
    go_wp2_with (at_builtin; refine app_strs rfl _ _ _ rfl w.heap.size _ [] rfl HR.out _ rfl l HS.out HSZ.out (by simp; omega) (by simp) ?_; intro v2 w2 hrow2 hg2 _; obtain ⟨oa2, on2, oc2, rfl⟩ := hrow2.slice3; have HR2 := Lib.hid hrow2; have HG2 := Lib.hid hg2; clear hrow2 hg2)
    go_ret
    exact ⟨_, rfl, by simpa using HR2.out, ((Below.refl _ _).alloc (Nat.le_refl _) _).grown HG2.out (by simp) (fun k hk => (HR.out.lt k hk).1)⟩
end Go.Proofs.YtfjehhdahpbbgaaDoor
namespace Go.Proofs.YtfjehhdahpbbgaaDoor
set_option linter.unusedSimpArgs false
set_option linter.unusedVariables false
set_option maxRecDepth 100000
open Go.RowKit
theorem RepS.empty {w : World} {v : Value} (h : RepS w v []) (F : Nat → Prop) : OwnS w F v [] := by
  generalize hts : ([] : List V) = ts at h
  cases h with
  | mk a b off cap ts sls ha hc hm hbb cells wfs kids =>
    subst hts
    exact OwnS.mk F a b off cap [] sls (fun _ _ => False) (fun h => absurd rfl h) hc hm (fun h => absurd rfl h) (fun i hi => absurd hi (by simp)) (fun i j hij hj => absurd hj (by simp)) (fun i hi => absurd hi (by simp)) (fun i hi => absurd hi (by simp)) (fun i hi => absurd hi (by simp))
theorem VRows.slice3 {w : World} {base : Nat} {E : TypeId} {G : Nat → Prop} {v : Value} {ts : List V} (h : VRows w base E G v ts) : ∃ a n cap, v = .slice a n cap := by
  obtain ⟨a, cap, e⟩ := h.own.slice
  exact ⟨a, _, cap, e⟩
theorem VRows.made0 {w : World} {base b : Nat} {E : TypeId} (hb : base ≤ b) (h : w.heap[b]? = some (.cells #[] E (0, 0))) : VRows w base E (fun _ => False) (.slice (some ⟨b, 0, none⟩) 0 0) [] := by
  refine ⟨[], fun _ _ => False, ⟨?_, rfl, by simp, by simp, by simp, by simp, by simp, by simp⟩⟩
  exact ⟨rfl, .inr ⟨b, 0, #[], rfl, hb, h, Nat.le_refl 0, by simp [maxLen], by simp, by simp [flat]⟩⟩
section
variable {w : World} {ops : Array Oper} {rest : List Oper} {o : Oper} {a : Act} {Q : Exit → Act → World → Prop}
end
end Go.Proofs.YtfjehhdahpbbgaaDoor
namespace Go.Proofs.YtfjehhdahpbbgaaDoor
set_option linter.unusedSimpArgs false
set_option linter.unusedVariables false
set_option maxRecDepth 100000
open Go.RowKit
theorem owns_keep {w w' : World} {base k n : Nat} {E : TypeId} {v : Value} {xs : List Value} (h : w.ownsRow base E k v n xs) (hk : ∀ x, v.ownBlock = some x → x < w.heap.size → w'.heap[x]? = w.heap[x]?) : w'.ownsRow base E k v n xs := by
  refine ⟨h.1, ?_⟩
  rcases h.2 with h2 | ⟨g, cap, cur, rfl, hbg, hg, r⟩
  · exact .inl h2
  · exact .inr ⟨g, cap, cur, rfl, hbg, by rw [hk g rfl (lt_of_heap hg)]; exact hg, r⟩
structure PPair (w : World) (base : Nat) (G : Nat → Prop) (v : Value) (n : Nat) (ts : List V) (sls : List Value) : Prop where
  row : w.ownsRow base 92 10 v n (flat ts sls)
  len2 : ts.length = 2 * n
  len : sls.length = ts.length
  wfs : ∀ i (h : i < ts.length), ts[i].wf
  kids : ∀ i (h : i < ts.length), RepF w G (sls.getD i undef) ts[i].kids
  inG : ∀ x, G x → x < w.heap.size
theorem PPair.keep {w w' : World} {base n : Nat} {G : Nat → Prop} {v : Value} {ts : List V} {sls : List Value} (h : PPair w base G v n ts sls) (hz : w.heap.size ≤ w'.heap.size) (hk : ∀ x, (G x ∨ v.ownBlock = some x) → x < w.heap.size → w'.heap[x]? = w.heap[x]?) : PPair w' base G v n ts sls :=
  ⟨owns_keep h.row (fun x hx => hk x (.inr hx)), h.len2, h.len, h.wfs, fun i hi => (h.kids i hi).keep hz (fun x hx hs => hk x (.inl hx) hs), fun x hx => Nat.lt_of_lt_of_le (h.inG x hx) hz⟩
theorem RepF.opened {w : World} {G : Nat → Prop} {v : Value} {ts : List V} (h : RepF w G v ts) : ∃ a b off cap, v = .slice a ts.length cap ∧ (ts ≠ [] → a = some ⟨b, off, none⟩ ∧ b < w.heap.size ∧ G b) ∧ ts.length ≤ cap ∧ cap ≤ 9223372036854775807 ∧
    ∃ sls : Nat → Value, ∀ i (h : i < ts.length), Cells5 w b (off + i * 5) ts[i] (sls i) ∧ ts[i].wf ∧ RepF w G (sls i) ts[i].kids := by
  cases h with
  | mk a b off cap ts0 sls ha hc hm hb cells wfs kids => exact ⟨a, b, off, cap, rfl, fun hne => ⟨ha hne, hb hne⟩, hc, hm, sls, fun i hi => ⟨cells i hi, wfs i hi, kids i hi⟩⟩
end Go.Proofs.YtfjehhdahpbbgaaDoor
