/- Lemmas for the statement of the last text of this claim: texts joined. -/
import Derived.Test.YtfjehhdahpbbgaaDoorSo01
import Derived.Test.YtfjehhdahpbbgaaDoorSo03
import Derived.Test.YtfjehhdahpbbgaaDoorSo04
import Derived.Test.YtfjehhdahpbbgaaDoorSo05
import Derived.Sort.Grow
import Derived.Deep.RegionHeld3
import Derived.Deep.RegionWith
import Derived.Deep.DeepCutAuto
import Derived.Shelf.SlSorted.Search
import Derived.Deep.RegionLaw
import Derived.Shelf.SlSortCmp.InsertionK
import Derived.Shelf.SlSortCmp.KitK
import Derived.Sort.WalkB2
import Derived.Sort.WalkB12
import Derived.Deep.LoopGhost
namespace Go.Proofs.YtfjehhdahpbbgaaDoor
set_option linter.unusedSimpArgs false
set_option linter.unusedVariables false
set_option maxRecDepth 100000
open Go.RowKit
theorem isNaNI (x : Int) (w : World) : Calls Tryd.prog 138 #[.int .i64 x] w fun e w' => e = .returned (.bool false) ∧ w' = w := by
  go_enter Tryd.func138, Tryd.ntmps138
  go_wp2_with fail
  go_ret
  exact ⟨by first | rfl | simp, rfl⟩
theorem isNaNS (s : ByteArray) (w : World) : Calls Tryd.prog 139 #[.string s] w fun e w' => e = .returned (.bool false) ∧ w' = w := by
  have hs : (s.toList != s.toList) = false := by simp
  go_enter Tryd.func139, Tryd.ntmps139
  go_wp2_with fail
  go_ret
  exact ⟨by first | rfl | simp, rfl⟩
theorem cmpInt_any (x y : Int) (w : World) : Calls Tryd.prog 117 #[.int .i64 x, .int .i64 y] w fun e w' => e = .returned (.int .i64 (cmpI x y)) ∧ w' = w := by
  obtain ⟨r, hr⟩ : ∃ r, r = cmpI x y := ⟨_, rfl⟩
  rw [← hr]
  have HR := Lib.hid hr
  clear hr
  by_cases h1 : x < y
  · have HV := Lib.hid (show r = -1 by rw [HR.out]; unfold cmpI; rw [if_pos h1])
    go_enter Tryd.func117, Tryd.ntmps117
    go_wp2_with (first | (go_at_call 138; refine (isNaNI _ _).mono ?_; rintro e w' ⟨rfl, rfl⟩) | fail)
    go_ret
    exact ⟨by first | (rw [HV.out]; rfl) | rw [HV.out], rfl⟩
  · by_cases h2 : y < x
    · have HV := Lib.hid (show r = 1 by rw [HR.out]; unfold cmpI; rw [if_neg h1, if_pos h2])
      go_enter Tryd.func117, Tryd.ntmps117
      go_wp2_with (first | (go_at_call 138; refine (isNaNI _ _).mono ?_; rintro e w' ⟨rfl, rfl⟩) | fail)
      go_ret
      exact ⟨by first | (rw [HV.out]; rfl) | rw [HV.out], rfl⟩
    · have HV := Lib.hid (show r = 0 by rw [HR.out]; unfold cmpI; rw [if_neg h1, if_neg h2])
      go_enter Tryd.func117, Tryd.ntmps117
      go_wp2_with (first | (go_at_call 138; refine (isNaNI _ _).mono ?_; rintro e w' ⟨rfl, rfl⟩) | fail)
      go_ret
      exact ⟨by first | (rw [HV.out]; rfl) | rw [HV.out], rfl⟩
theorem cmpStr_any (x y : ByteArray) (w : World) : Calls Tryd.prog 118 #[.string x, .string y] w fun e w' => e = .returned (.int .i64 (cmpT x y)) ∧ w' = w := by
  obtain ⟨r, hr⟩ : ∃ r, r = cmpT x y := ⟨_, rfl⟩
  rw [← hr]
  have HR := Lib.hid hr
  clear hr
  cases h1 : Op.bytesLess x.toList y.toList with
  | true =>
    have HV := Lib.hid (show r = -1 by rw [HR.out]; unfold cmpT; rw [if_pos h1])
    go_enter Tryd.func118, Tryd.ntmps118
    go_wp2_with (first | (go_at_call 139; refine (isNaNS _ _).mono ?_; rintro e w' ⟨rfl, rfl⟩) | fail)
    go_ret
    exact ⟨by first | (rw [HV.out]; rfl) | rw [HV.out], rfl⟩
  | false =>
    cases h2 : Op.bytesLess y.toList x.toList with
    | true =>
      have h3 : (x.toList == y.toList) = false := by
        cases h : (x.toList == y.toList) with
        | false => rfl
        | true => rw [eq_of_beq h, bl_irr] at h2; cases h2
      have HV := Lib.hid (show r = 1 by rw [HR.out]; unfold cmpT; rw [if_neg (by rw [h1]; simp), if_pos h2])
      clear h2
      go_enter Tryd.func118, Tryd.ntmps118
      go_wp2_with (first | (go_at_call 139; refine (isNaNS _ _).mono ?_; rintro e w' ⟨rfl, rfl⟩) | fail)
      go_ret
      exact ⟨by first | (rw [HV.out]; rfl) | rw [HV.out], rfl⟩
    | false =>
      have h3 : (x.toList == y.toList) = true := by rw [bl_tri h1 h2]; simp
      have HV := Lib.hid (show r = 0 by rw [HR.out]; unfold cmpT; rw [if_neg (by rw [h1]; simp), if_neg (by rw [h2]; simp)])
      clear h2
      go_enter Tryd.func118, Tryd.ntmps118
      go_wp2_with (first | (go_at_call 139; refine (isNaNS _ _).mono ?_; rintro e w' ⟨rfl, rfl⟩) | fail)
      go_ret
      exact ⟨by first | (rw [HV.out]; rfl) | rw [HV.out], rfl⟩
def fnz : List Int → Int
  | [] => 0
  | x :: r => if x = 0 then fnz r else x
theorem or_any (l : List Int) (b : Nat) (w : World) (ty : TypeId) (h : w.heap[b]? = some (.cells (l.map (Value.int .i64)).toArray ty (0, 0))) (hl : l.length ≤ 1000) :
    Calls Tryd.prog 116 #[.slice (some ⟨b, 0, none⟩) l.length l.length] w fun e w' => e = .returned (.int .i64 (fnz l)) ∧ w' = w := by
  have HC := Lib.hid (show ∀ i (hi : i < l.length), w.cell? ⟨b, i, none⟩ = some (.int .i64 l[i]) from fun i hi => by rw [cell_of_row w b i _ _ (0, 0) h]; simp [hi])
  clear h
  go_enter Tryd.func116, Tryd.ntmps116
  go_wp2_with fail
  go_loop [8] (fun i => ∃ j : Nat, j ≤ l.length ∧ i = .int .i64 j ∧ Hid (fnz l = fnz (l.drop j))) (fun i => l.length + 1 - (intOf i).toNat)
  case atStart => exact ⟨0, by omega, rfl, Lib.hid (by rw [List.drop_zero])⟩
  case round =>
    obtain ⟨j, hj, rfl, HF⟩ := hrel
    by_cases hlt : j < l.length
    · have c0 := HC.out j hlt
      have HS := Lib.hid (show fnz (l.drop j) = if l[j] = 0 then fnz (l.drop (j + 1)) else l[j] by rw [List.drop_eq_getElem_cons hlt, fnz])
      generalize l[j] = x at *
      by_cases hx : x = 0
      · have HR := Lib.hid (show fnz l = fnz (l.drop (j + 1)) by rw [HF.out, HS.out, if_pos hx])
        have t1 : (x != 0) = false := by simpa using hx
        clear hx HF HS
        go_wp2_with fail
        go_round
        case rel => exact ⟨j + 1, by omega, by go_num, HR⟩
        case measure => simp [intOf]; omega
      · have HR := Lib.hid (show fnz l = x by rw [HF.out, HS.out, if_neg hx])
        have t1 : (x != 0) = true := by simpa using hx
        clear hx HF HS
        go_wp2_with fail
        go_ret
        exact ⟨by first | (rw [HR.out]; rfl) | rw [HR.out], rfl⟩
    · have HR := Lib.hid (show fnz l = 0 by rw [HF.out, List.drop_eq_nil_of_le (by omega), fnz])
      go_wp2_with fail
      go_ret
      exact ⟨by first | (rw [HR.out]; rfl) | rw [HR.out], rfl⟩
theorem cmpFunc_nil (a b : Option Addr) (c1 c2 : Nat) (f : Value) (w : World) : Calls Tryd.prog 119 #[.slice a 0 c1, .slice b 0 c2, f] w fun e w' => e = .returned (.int .i64 0) ∧ w' = w := by
  go_enter Tryd.func119, Tryd.ntmps119
  go_wp2_with fail
  go_loop [13] (fun i => i = .int .i64 0) (fun i => 0)
  case atStart => rfl
  case round =>
    obtain rfl := hrel
    go_wp2_with fail
    go_ret
    exact ⟨rfl, rfl⟩
theorem keepa {W : World} {o : Obj} {p : Addr} {x : Value} (h : W.cell? p = some x) : (W.alloc o).cell? p = some x := (World.cell?_of_block (Below.heap_alloc W o p.block (World.block_lt_of_cell? _ _ h))).trans h
def fullC (x y : V) : Int := fnz [cmpI x.k y.k, cmpI x.n y.n, cmpI x.e y.e, cmpT x.s y.s, cmpI 0 0]
set_option maxHeartbeats 8000000 in
theorem compare_key (x y : V) (xa ya : Option Addr) (xc yc : Nat) (w : World) :
    Calls Tryd.prog 82 #[.agg #[.int .i64 x.k, .int .i64 x.n, .int .i64 x.e, .string x.s, .slice xa 0 xc], .agg #[.int .i64 y.k, .int .i64 y.n, .int .i64 y.e, .string y.s, .slice ya 0 yc]] w fun e w' => e = .returned (.int .i64 (fullC x y)) ∧ ∃ q os, w' = Go.Sort.grow (w.drewN q) os := by
  have BX := Lib.hid ((Box.new w x.k x.n x.e x.s (.slice xa 0 xc) 29).alloc (.cells #[.int .i64 y.k, .int .i64 y.n, .int .i64 y.e, .string y.s, .slice ya 0 yc] 29))
  have BY := Lib.hid (Box.new (w.alloc (.cells #[.int .i64 x.k, .int .i64 x.n, .int .i64 x.e, .string x.s, .slice xa 0 xc] 29)) y.k y.n y.e y.s (.slice ya 0 yc) 29)
  rw [show (w.alloc (.cells #[.int .i64 x.k, .int .i64 x.n, .int .i64 x.e, .string x.s, .slice xa 0 xc] 29)).heap.size = w.heap.size + 1 by simp] at BY
  obtain ⟨W0, hW0⟩ : ∃ W0, W0 = (w.alloc (.cells #[.int .i64 x.k, .int .i64 x.n, .int .i64 x.e, .string x.s, .slice xa 0 xc] 29)).alloc (.cells #[.int .i64 y.k, .int .i64 y.n, .int .i64 y.e, .string y.s, .slice ya 0 yc] 29) := ⟨_, rfl⟩
  have HG0 := Lib.hid (show W0 = Go.Sort.grow w #[.cells #[.int .i64 x.k, .int .i64 x.n, .int .i64 x.e, .string x.s, .slice xa 0 xc] 29, .cells #[.int .i64 y.k, .int .i64 y.n, .int .i64 y.e, .string y.s, .slice ya 0 yc] 29] from by rw [hW0, Go.Sort.alloc_eq_grow, Go.Sort.alloc_eq_grow, Go.Sort.grow_grow]; rfl)
  rw [← hW0] at BX BY
  obtain ⟨x0, x1, x2, x3, x4⟩ := BX.out.cells
  obtain ⟨y0, y1, y2, y3, y4⟩ := BY.out.cells
  obtain ⟨F, hF⟩ : ∃ F, F = fullC x y := ⟨_, rfl⟩
  have HF := Lib.hid hF
  rw [← hF]
  clear hF
  have OC := Lib.hid (or_any [cmpI x.k y.k, cmpI x.n y.n, cmpI x.e y.e, cmpT x.s y.s, cmpI 0 0] W0.heap.size ((W0.alloc (.cells #[.int .i64 (cmpI x.k y.k), .int .i64 (cmpI x.n y.n), .int .i64 (cmpI x.e y.e), .int .i64 (cmpT x.s y.s), .int .i64 (cmpI 0 0)] 3)).drew) 3 (show (W0.alloc _).heap[W0.heap.size]? = _ from heap_alloc_new _ _) (by simp))
  have HGR := Lib.hid (show (W0.alloc (.cells #[.int .i64 (cmpI x.k y.k), .int .i64 (cmpI x.n y.n), .int .i64 (cmpI x.e y.e), .int .i64 (cmpT x.s y.s), .int .i64 (cmpI 0 0)] 3)).drew = Go.Sort.grow (w.drewN 1) (#[.cells #[.int .i64 x.k, .int .i64 x.n, .int .i64 x.e, .string x.s, .slice xa 0 xc] 29, .cells #[.int .i64 y.k, .int .i64 y.n, .int .i64 y.e, .string y.s, .slice ya 0 yc] 29] ++ #[.cells #[.int .i64 (cmpI x.k y.k), .int .i64 (cmpI x.n y.n), .int .i64 (cmpI x.e y.e), .int .i64 (cmpT x.s y.s), .int .i64 (cmpI 0 0)] 3]) from by rw [HG0.out, Go.Sort.alloc_eq_grow, Go.Sort.grow_grow]; rfl)
  go_enter Tryd.func82, Tryd.ntmps82
  go_upto_region 1 with fail
  rw [← hW0]
  clear hW0
  refine wp_region_held_drew (S := (fun W' => W'.cell? ⟨w.heap.size, 0, none⟩ = some (.int .i64 x.k) ∧ W'.cell? ⟨w.heap.size, 1, none⟩ = some (.int .i64 x.n) ∧ W'.cell? ⟨w.heap.size, 2, none⟩ = some (.int .i64 x.e) ∧ W'.cell? ⟨w.heap.size, 3, none⟩ = some (.string x.s) ∧ W'.cell? ⟨w.heap.size, 4, none⟩ = some (.slice xa 0 xc) ∧ W'.cell? ⟨w.heap.size + 1, 0, none⟩ = some (.int .i64 y.k) ∧ W'.cell? ⟨w.heap.size + 1, 1, none⟩ = some (.int .i64 y.n) ∧ W'.cell? ⟨w.heap.size + 1, 2, none⟩ = some (.int .i64 y.e) ∧ W'.cell? ⟨w.heap.size + 1, 3, none⟩ = some (.string y.s) ∧ W'.cell? ⟨w.heap.size + 1, 4, none⟩ = some (.slice ya 0 yc))) (by kernel_rfl) ?_ (fun hHeld => ?_)
  · exact ⟨x0, x1, x2, x3, x4, y0, y1, y2, y3, y4⟩
  clear x0 x1 x2 x3 x4 y0 y1 y2 y3 y4
  refine wpAnyH_take (i := 0) (v := ?_) rfl (by kernel_rfl) (by kernel_rfl) (by kernel_rfl) (fun _ _ _ h => h) (Or.inl ⟨by rfl, ?_⟩) hHeld ?_
  rotate_left
  · (intro w hSw; (try dsimp only at hSw); (try simp only [List.getElem_toArray, List.getElem_cons_succ, List.getElem_cons_zero]); go_simp <;> with_reducible rfl)
  try simp only [List.getElem_toArray, List.getElem_cons_succ, List.getElem_cons_zero, Act.put, List.setIfInBounds_toArray, List.set_cons_zero, List.set_cons_succ]
  refine wpAnyH_take (i := 1) (v := ?_) rfl (by kernel_rfl) (by kernel_rfl) (by kernel_rfl) (fun _ _ _ h => h) (Or.inl ⟨by rfl, ?_⟩) hHeld ?_
  rotate_left
  · (intro w hSw; (try dsimp only at hSw); (try simp only [List.getElem_toArray, List.getElem_cons_succ, List.getElem_cons_zero]); go_simp <;> with_reducible rfl)
  try simp only [List.getElem_toArray, List.getElem_cons_succ, List.getElem_cons_zero, Act.put, List.setIfInBounds_toArray, List.set_cons_zero, List.set_cons_succ]
  refine wpAnyH_take (i := 2) (v := ?_) rfl (by kernel_rfl) (by kernel_rfl) (by kernel_rfl) (fun _ _ _ h => h) (Or.inl ⟨by rfl, ?_⟩) hHeld ?_
  rotate_left
  · (intro w hSw; (try dsimp only at hSw); (try simp only [List.getElem_toArray, List.getElem_cons_succ, List.getElem_cons_zero]); go_simp <;> with_reducible rfl)
  try simp only [List.getElem_toArray, List.getElem_cons_succ, List.getElem_cons_zero, Act.put, List.setIfInBounds_toArray, List.set_cons_zero, List.set_cons_succ]
  refine wpAnyH_take (i := 3) (v := ?_) rfl (by kernel_rfl) (by kernel_rfl) (by kernel_rfl) (fun _ _ _ h => h) (Or.inl ⟨by rfl, ?_⟩) hHeld ?_
  rotate_left
  · (intro w hSw; (try dsimp only at hSw); (try simp only [List.getElem_toArray, List.getElem_cons_succ, List.getElem_cons_zero]); go_simp <;> with_reducible rfl)
  try simp only [List.getElem_toArray, List.getElem_cons_succ, List.getElem_cons_zero, Act.put, List.setIfInBounds_toArray, List.set_cons_zero, List.set_cons_succ]
  refine wpAnyH_take (i := 5) (v := ?_) rfl (by kernel_rfl) (by kernel_rfl) (by kernel_rfl) (fun _ _ _ h => h) (Or.inl ⟨by rfl, ?_⟩) hHeld ?_
  rotate_left
  · (intro w hSw; (try dsimp only at hSw); (try simp only [List.getElem_toArray, List.getElem_cons_succ, List.getElem_cons_zero]); go_simp <;> with_reducible rfl)
  try simp only [List.getElem_toArray, List.getElem_cons_succ, List.getElem_cons_zero, Act.put, List.setIfInBounds_toArray, List.set_cons_zero, List.set_cons_succ]
  refine wpAnyH_take (i := 6) (v := ?_) rfl (by kernel_rfl) (by kernel_rfl) (by kernel_rfl) (fun _ _ _ h => h) (Or.inl ⟨by rfl, ?_⟩) hHeld ?_
  rotate_left
  · (intro w hSw; (try dsimp only at hSw); (try simp only [List.getElem_toArray, List.getElem_cons_succ, List.getElem_cons_zero]); go_simp <;> with_reducible rfl)
  try simp only [List.getElem_toArray, List.getElem_cons_succ, List.getElem_cons_zero, Act.put, List.setIfInBounds_toArray, List.set_cons_zero, List.set_cons_succ]
  refine wpAnyH_take (i := 7) (v := ?_) rfl (by kernel_rfl) (by kernel_rfl) (by kernel_rfl) (fun _ _ _ h => h) (Or.inl ⟨by rfl, ?_⟩) hHeld ?_
  rotate_left
  · (intro w hSw; (try dsimp only at hSw); (try simp only [List.getElem_toArray, List.getElem_cons_succ, List.getElem_cons_zero]); go_simp <;> with_reducible rfl)
  try simp only [List.getElem_toArray, List.getElem_cons_succ, List.getElem_cons_zero, Act.put, List.setIfInBounds_toArray, List.set_cons_zero, List.set_cons_succ]
  refine wpAnyH_take (i := 8) (v := ?_) rfl (by kernel_rfl) (by kernel_rfl) (by kernel_rfl) (fun _ _ _ h => h) (Or.inl ⟨by rfl, ?_⟩) hHeld ?_
  rotate_left
  · (intro w hSw; (try dsimp only at hSw); (try simp only [List.getElem_toArray, List.getElem_cons_succ, List.getElem_cons_zero]); go_simp <;> with_reducible rfl)
  try simp only [List.getElem_toArray, List.getElem_cons_succ, List.getElem_cons_zero, Act.put, List.setIfInBounds_toArray, List.set_cons_zero, List.set_cons_succ]
  refine wpAnyH_take (i := 10) (v := ?_) rfl (by kernel_rfl) (by kernel_rfl) (by kernel_rfl) (fun _ _ _ h => h) (Or.inl ⟨by rfl, ?_⟩) hHeld ?_
  rotate_left
  · (intro w hSw; (try dsimp only at hSw); (try simp only [List.getElem_toArray, List.getElem_cons_succ, List.getElem_cons_zero]); go_simp <;> with_reducible rfl)
  try simp only [List.getElem_toArray, List.getElem_cons_succ, List.getElem_cons_zero, Act.put, List.setIfInBounds_toArray, List.set_cons_zero, List.set_cons_succ]
  refine wpAnyH_take (i := 11) (v := ?_) rfl (by kernel_rfl) (by kernel_rfl) (by kernel_rfl) (fun _ _ _ h => h) (Or.inl ⟨by rfl, ?_⟩) hHeld ?_
  rotate_left
  · (intro w hSw; (try dsimp only at hSw); (try simp only [List.getElem_toArray, List.getElem_cons_succ, List.getElem_cons_zero]); go_simp <;> with_reducible rfl)
  try simp only [List.getElem_toArray, List.getElem_cons_succ, List.getElem_cons_zero, Act.put, List.setIfInBounds_toArray, List.set_cons_zero, List.set_cons_succ]
  refine wpAnyH_take (i := 12) (v := ?_) rfl (by kernel_rfl) (by kernel_rfl) (by kernel_rfl) (fun _ _ _ h => h) (Or.inl ⟨by rfl, ?_⟩) hHeld ?_
  rotate_left
  · (intro w hSw; (try dsimp only at hSw); (try simp only [List.getElem_toArray, List.getElem_cons_succ, List.getElem_cons_zero]); go_simp <;> with_reducible rfl)
  try simp only [List.getElem_toArray, List.getElem_cons_succ, List.getElem_cons_zero, Act.put, List.setIfInBounds_toArray, List.set_cons_zero, List.set_cons_succ]
  refine wpAnyH_take (i := 13) (v := ?_) rfl (by kernel_rfl) (by kernel_rfl) (by kernel_rfl) (fun _ _ _ h => h) (Or.inl ⟨by rfl, ?_⟩) hHeld ?_
  rotate_left
  · (intro w hSw; (try dsimp only at hSw); (try simp only [List.getElem_toArray, List.getElem_cons_succ, List.getElem_cons_zero]); go_simp <;> with_reducible rfl)
  try simp only [List.getElem_toArray, List.getElem_cons_succ, List.getElem_cons_zero, Act.put, List.setIfInBounds_toArray, List.set_cons_zero, List.set_cons_succ]
  refine wpAnyH_take (i := 15) (v := ?_) rfl (by kernel_rfl) (by kernel_rfl) (by kernel_rfl) (fun _ _ _ h => h) (Or.inl ⟨by rfl, ?_⟩) hHeld ?_
  rotate_left
  · (intro w hSw; (try dsimp only at hSw); (try simp only [List.getElem_toArray, List.getElem_cons_succ, List.getElem_cons_zero]); go_simp <;> with_reducible rfl)
  try simp only [List.getElem_toArray, List.getElem_cons_succ, List.getElem_cons_zero, Act.put, List.setIfInBounds_toArray, List.set_cons_zero, List.set_cons_succ]
  refine wpAnyH_take (i := 16) (v := ?_) rfl (by kernel_rfl) (by kernel_rfl) (by kernel_rfl) (fun _ _ _ h => h) (Or.inl ⟨by rfl, ?_⟩) hHeld ?_
  rotate_left
  · (intro w hSw; (try dsimp only at hSw); (try simp only [List.getElem_toArray, List.getElem_cons_succ, List.getElem_cons_zero]); go_simp <;> with_reducible rfl)
  try simp only [List.getElem_toArray, List.getElem_cons_succ, List.getElem_cons_zero, Act.put, List.setIfInBounds_toArray, List.set_cons_zero, List.set_cons_succ]
  refine wpAnyH_take (i := 17) (v := ?_) rfl (by kernel_rfl) (by kernel_rfl) (by kernel_rfl) (fun _ _ _ h => h) (Or.inl ⟨by rfl, ?_⟩) hHeld ?_
  rotate_left
  · (intro w hSw; (try dsimp only at hSw); (try simp only [List.getElem_toArray, List.getElem_cons_succ, List.getElem_cons_zero]); go_simp <;> with_reducible rfl)
  try simp only [List.getElem_toArray, List.getElem_cons_succ, List.getElem_cons_zero, Act.put, List.setIfInBounds_toArray, List.set_cons_zero, List.set_cons_succ]
  refine wpAnyH_take (i := 18) (v := ?_) rfl (by kernel_rfl) (by kernel_rfl) (by kernel_rfl) (fun _ _ _ h => h) (Or.inl ⟨by rfl, ?_⟩) hHeld ?_
  rotate_left
  · (intro w hSw; (try dsimp only at hSw); (try simp only [List.getElem_toArray, List.getElem_cons_succ, List.getElem_cons_zero]); go_simp <;> with_reducible rfl)
  try simp only [List.getElem_toArray, List.getElem_cons_succ, List.getElem_cons_zero, Act.put, List.setIfInBounds_toArray, List.set_cons_zero, List.set_cons_succ]
  refine wpAnyH_take (i := 20) (v := ?_) rfl (by kernel_rfl) (by kernel_rfl) (by kernel_rfl) (fun _ _ _ h => h) (Or.inl ⟨by rfl, ?_⟩) hHeld ?_
  rotate_left
  · (intro w hSw; (try dsimp only at hSw); (try simp only [List.getElem_toArray, List.getElem_cons_succ, List.getElem_cons_zero]); go_simp <;> with_reducible rfl)
  try simp only [List.getElem_toArray, List.getElem_cons_succ, List.getElem_cons_zero, Act.put, List.setIfInBounds_toArray, List.set_cons_zero, List.set_cons_succ]
  refine wpAnyH_take (i := 21) (v := ?_) rfl (by kernel_rfl) (by kernel_rfl) (by kernel_rfl) (fun _ _ _ h => h) (Or.inl ⟨by rfl, ?_⟩) hHeld ?_
  rotate_left
  · (intro w hSw; (try dsimp only at hSw); (try simp only [List.getElem_toArray, List.getElem_cons_succ, List.getElem_cons_zero]); go_simp <;> with_reducible rfl)
  try simp only [List.getElem_toArray, List.getElem_cons_succ, List.getElem_cons_zero, Act.put, List.setIfInBounds_toArray, List.set_cons_zero, List.set_cons_succ]
  refine wpAnyH_take (i := 22) (v := ?_) rfl (by kernel_rfl) (by kernel_rfl) (by kernel_rfl) (fun _ _ _ h => h) (Or.inl ⟨by rfl, ?_⟩) hHeld ?_
  rotate_left
  · (intro w hSw; (try dsimp only at hSw); (try simp only [List.getElem_toArray, List.getElem_cons_succ, List.getElem_cons_zero]); go_simp <;> with_reducible rfl)
  try simp only [List.getElem_toArray, List.getElem_cons_succ, List.getElem_cons_zero, Act.put, List.setIfInBounds_toArray, List.set_cons_zero, List.set_cons_succ]
  refine wpAnyH_take (i := 23) (v := ?_) rfl (by kernel_rfl) (by kernel_rfl) (by kernel_rfl) (fun _ _ _ h => h) (Or.inl ⟨by rfl, ?_⟩) hHeld ?_
  rotate_left
  · (intro w hSw; (try dsimp only at hSw); (try simp only [List.getElem_toArray, List.getElem_cons_succ, List.getElem_cons_zero]); go_simp <;> with_reducible rfl)
  try simp only [List.getElem_toArray, List.getElem_cons_succ, List.getElem_cons_zero, Act.put, List.setIfInBounds_toArray, List.set_cons_zero, List.set_cons_succ]
  refine wpAnyH_take (i := 24) (v := ?_) rfl (by kernel_rfl) (by kernel_rfl) (by kernel_rfl) (fun _ _ _ h => h) (Or.inl ⟨by rfl, ?_⟩) hHeld ?_
  rotate_left
  · (intro w hSw; (try dsimp only at hSw); (try simp only [List.getElem_toArray, List.getElem_cons_succ, List.getElem_cons_zero]); go_simp <;> with_reducible rfl)
  try simp only [List.getElem_toArray, List.getElem_cons_succ, List.getElem_cons_zero, Act.put, List.setIfInBounds_toArray, List.set_cons_zero, List.set_cons_succ]
  refine wpAnyH_take (i := 25) (v := ?_) rfl (by kernel_rfl) (by kernel_rfl) (by kernel_rfl) (fun _ _ _ h => h) (Or.inl ⟨by rfl, ?_⟩) hHeld ?_
  rotate_left
  · (intro w hSw; (try dsimp only at hSw); (try simp only [List.getElem_toArray, List.getElem_cons_succ, List.getElem_cons_zero]); go_simp <;> with_reducible rfl)
  try simp only [List.getElem_toArray, List.getElem_cons_succ, List.getElem_cons_zero, Act.put, List.setIfInBounds_toArray, List.set_cons_zero, List.set_cons_succ]
  refine wpAnyH_ready (rs := [4]) (by kernel_rfl) (by simp) ?_
  refine AllReadyH.cons rfl (fun K hK => ?_) AllReadyH.nil
  go_simp
  refine (cmpInt_any _ _ _).mono ?_
  rintro e9 w9 ⟨rfl, rfl⟩
  refine hK.out _ _ hHeld (fun hHeld => ?_)
  clear hK K
  try simp only [List.getElem_toArray, List.getElem_cons_succ, List.getElem_cons_zero, Act.put, List.setIfInBounds_toArray, List.set_cons_zero, List.set_cons_succ]
  refine wpAnyH_ready (rs := [9]) (by kernel_rfl) (by simp) ?_
  refine AllReadyH.cons rfl (fun K hK => ?_) AllReadyH.nil
  go_simp
  refine (cmpInt_any _ _ _).mono ?_
  rintro e9 w9 ⟨rfl, rfl⟩
  refine hK.out _ _ hHeld (fun hHeld => ?_)
  clear hK K
  try simp only [List.getElem_toArray, List.getElem_cons_succ, List.getElem_cons_zero, Act.put, List.setIfInBounds_toArray, List.set_cons_zero, List.set_cons_succ]
  refine wpAnyH_ready (rs := [14]) (by kernel_rfl) (by simp) ?_
  refine AllReadyH.cons rfl (fun K hK => ?_) AllReadyH.nil
  go_simp
  refine (cmpInt_any _ _ _).mono ?_
  rintro e9 w9 ⟨rfl, rfl⟩
  refine hK.out _ _ hHeld (fun hHeld => ?_)
  clear hK K
  try simp only [List.getElem_toArray, List.getElem_cons_succ, List.getElem_cons_zero, Act.put, List.setIfInBounds_toArray, List.set_cons_zero, List.set_cons_succ]
  refine wpAnyH_ready (rs := [19]) (by kernel_rfl) (by simp) ?_
  refine AllReadyH.cons rfl (fun K hK => ?_) AllReadyH.nil
  go_simp
  refine (cmpStr_any _ _ _).mono ?_
  rintro e9 w9 ⟨rfl, rfl⟩
  refine hK.out _ _ hHeld (fun hHeld => ?_)
  clear hK K
  try simp only [List.getElem_toArray, List.getElem_cons_succ, List.getElem_cons_zero, Act.put, List.setIfInBounds_toArray, List.set_cons_zero, List.set_cons_succ]
  refine wpAnyH_ready (rs := [26]) (by kernel_rfl) (by simp) ?_
  refine AllReadyH.cons rfl (fun K hK => ?_) AllReadyH.nil
  go_simp
  refine (cmpInt_any _ _ _).mono ?_
  rintro e9 w9 ⟨rfl, rfl⟩
  refine hK.out _ _ hHeld (fun hHeld => ?_)
  clear hK K
  try simp only [List.getElem_toArray, List.getElem_cons_succ, List.getElem_cons_zero, Act.put, List.setIfInBounds_toArray, List.set_cons_zero, List.set_cons_succ]
  refine wpAnyH_ready (rs := [27]) (by kernel_rfl) (by simp) ?_
  refine AllReadyH.cons rfl (fun K hK => ?_) AllReadyH.nil
  go_simp
  refine hK.out _ _ (by obtain ⟨h0, h1, h2, h3, h4, h5, h6, h7, h8, h9⟩ := hHeld; exact ⟨keepa h0, keepa h1, keepa h2, keepa h3, keepa h4, keepa h5, keepa h6, keepa h7, keepa h8, keepa h9⟩) (fun hHeld => ?_)
  clear hK K
  try simp only [List.getElem_toArray, List.getElem_cons_succ, List.getElem_cons_zero, Act.put, List.setIfInBounds_toArray, List.set_cons_zero, List.set_cons_succ]
  refine wpAnyH_ready (rs := [28]) (by kernel_rfl) (by simp) ?_
  refine AllReadyH.cons rfl (fun K hK => ?_) AllReadyH.nil
  go_simp
  refine OC.out.mono ?_
  rintro e9 w9 ⟨rfl, rfl⟩
  refine hK.out _ _ hHeld (fun hHeld => ?_)
  clear hK K
  try simp only [List.getElem_toArray, List.getElem_cons_succ, List.getElem_cons_zero, Act.put, List.setIfInBounds_toArray, List.set_cons_zero, List.set_cons_succ]
  refine wpAnyH_take (i := 29) (v := ?_) rfl (by kernel_rfl) (by kernel_rfl) (by kernel_rfl) (fun _ _ _ h => h) (Or.inl ⟨by rfl, ?_⟩) hHeld ?_
  rotate_left
  · (intro w hSw; (try dsimp only at hSw); (try simp only [List.getElem_toArray, List.getElem_cons_succ, List.getElem_cons_zero]); go_simp <;> with_reducible rfl)
  try simp only [List.getElem_toArray, List.getElem_cons_succ, List.getElem_cons_zero, Act.put, List.setIfInBounds_toArray, List.set_cons_zero, List.set_cons_succ]
  obtain ⟨h0, h1, h2, h3, h4, h5, h6, h7, h8, h9⟩ := hHeld
  refine wpAnyH_done (by kernel_rfl) ?_ _
  rw [show fnz [cmpI x.k y.k, cmpI x.n y.n, cmpI x.e y.e, cmpT x.s y.s, cmpI 0 0] = F from HF.out.symm]
  clear OC
  by_cases hF0 : F = 0
  · subst hF0
    go_wp2_with (first | (go_at_call 119; refine (cmpFunc_nil _ _ _ _ _ _).mono ?_; rintro e w' ⟨rfl, rfl⟩) | fail)
    go_ret
    exact ⟨rfl, 1, _, HGR.out⟩
  · have t1 : (F != 0) = true := by simpa using hF0
    clear hF0
    go_wp2_with fail
    go_ret
    exact ⟨rfl, 1, _, HGR.out⟩
end Go.Proofs.YtfjehhdahpbbgaaDoor
namespace Go.Proofs.YtfjehhdahpbbgaaDoor
set_option linter.unusedSimpArgs false
set_option linter.unusedVariables false
set_option maxRecDepth 100000
def fiveC (x y : V) : List Int := [cmpI x.k y.k, cmpI x.n y.n, cmpI x.e y.e, cmpT x.s y.s, cmpI x.kids.length y.kids.length]
mutual
def cmpV : V → V → Int
  | .mk k n e s ks, y => if fnz (fiveC (.mk k n e s ks) y) ≠ 0 then fnz (fiveC (.mk k n e s ks) y) else cmpVs ks y.kids
def cmpVs : List V → List V → Int
  | [], _ => 0
  | _ :: _, [] => 0
  | x :: xs, y :: ys => if cmpV x y ≠ 0 then cmpV x y else cmpVs xs ys
end
theorem cmpV_eq (x y : V) : cmpV x y = if fnz (fiveC x y) ≠ 0 then fnz (fiveC x y) else cmpVs x.kids y.kids := by cases x; rw [cmpV]; rfl
theorem fnz_zero : ∀ l : List Int, fnz l = 0 ↔ ∀ a ∈ l, a = 0
  | [] => by simp [fnz]
  | a :: l => by
    rw [fnz]
    by_cases h : a = 0
    · rw [if_pos h, fnz_zero l]; simp [h]
    · rw [if_neg h]; simp [h]
theorem five_zero {x y : V} : fnz (fiveC x y) = 0 ↔ x.k = y.k ∧ x.n = y.n ∧ x.e = y.e ∧ x.s = y.s ∧ x.kids.length = y.kids.length := by
  rw [fnz_zero]
  unfold fiveC
  simp only [List.mem_cons, List.not_mem_nil, or_false, forall_eq_or_imp, forall_eq, cmpI_zero, cmpT_zero, Int.natCast_inj]
mutual
theorem cmpV_zero : ∀ (x y : V), cmpV x y = 0 ↔ x = y
  | .mk k n e s ks, y => by
    rw [cmpV_eq]
    have h2 := cmpVs_zero ks y.kids
    by_cases h : fnz (fiveC (.mk k n e s ks) y) = 0
    · rw [if_neg (by simpa using h)]
      obtain ⟨e1, e2, e3, e4, e5⟩ := five_zero.1 h
      rw [show cmpVs (V.mk k n e s ks).kids y.kids = cmpVs ks y.kids from rfl, h2 e5]
      constructor
      · intro h3
        rw [← V.eta y, ← e1, ← e2, ← e3, ← e4, ← h3]; rfl
      · intro h3; rw [← h3]; rfl
    · rw [if_pos h]
      refine ⟨fun h3 => absurd h3 h, fun h3 => absurd ?_ h⟩
      rw [← h3, five_zero]
      exact ⟨rfl, rfl, rfl, rfl, rfl⟩
theorem cmpVs_zero : ∀ (xs ys : List V), xs.length = ys.length → (cmpVs xs ys = 0 ↔ xs = ys)
  | [], ys, h => by
    rw [cmpVs]
    have : ys = [] := List.eq_nil_of_length_eq_zero h.symm
    simp [this]
  | x :: xs, [], h => by simp at h
  | x :: xs, y :: ys, h => by
    rw [cmpVs]
    have h1 := cmpV_zero x y
    have h2 := cmpVs_zero xs ys (by simpa using h)
    by_cases c : cmpV x y = 0
    · rw [if_neg (by simpa using c), h2, h1.1 c]; simp
    · rw [if_pos c]
      constructor
      · intro h3; exact absurd h3 c
      · intro h3
        injection h3 with h3 h4
        exact absurd (h1.2 h3) c
end
theorem cmpVs_at {xs ys : List V} (j : Nat) (h1 : j < xs.length) (h2 : j < ys.length) : cmpVs (xs.drop j) (ys.drop j) = if cmpV xs[j] ys[j] ≠ 0 then cmpV xs[j] ys[j] else cmpVs (xs.drop (j + 1)) (ys.drop (j + 1)) := by
  rw [List.drop_eq_getElem_cons h1, List.drop_eq_getElem_cons h2, cmpVs]
theorem cmpVs_end {xs ys : List V} (j : Nat) (h1 : ¬ j < xs.length) : cmpVs (xs.drop j) (ys.drop j) = 0 := by
  rw [List.drop_eq_nil_of_le (by omega), cmpVs]
theorem cmpV_key {x y : V} (hx : x.kids = []) (hy : y.kids = []) : cmpV x y = fullC x y := by
  rw [cmpV_eq, hx, hy, cmpVs]
  have : fiveC x y = [cmpI x.k y.k, cmpI x.n y.n, cmpI x.e y.e, cmpT x.s y.s, cmpI 0 0] := by unfold fiveC; rw [hx, hy]; rfl
  rw [this]
  show (if fullC x y ≠ 0 then fullC x y else 0) = fullC x y
  by_cases h : fullC x y = 0 <;> simp [h]
end Go.Proofs.YtfjehhdahpbbgaaDoor
namespace Go.Proofs.YtfjehhdahpbbgaaDoor
set_option linter.unusedSimpArgs false
set_option linter.unusedVariables false
set_option maxRecDepth 100000
open Go.RowKit
theorem l02Less_any (x y : Int) (w : World) : Calls Tryd.prog 99 #[.int .i64 x, .int .i64 y] w fun e w' => e = .returned (.int .i64 (cmpI x y)) ∧ w' = w := by
  obtain ⟨r, hr⟩ : ∃ r, r = cmpI x y := ⟨_, rfl⟩
  rw [← hr]
  have HR := Lib.hid hr
  clear hr
  by_cases h1 : x < y
  · have HV := Lib.hid (show r = -1 by rw [HR.out]; unfold cmpI; rw [if_pos h1])
    go_enter Tryd.func99, Tryd.ntmps99
    go_wp2_with fail
    go_ret
    exact ⟨by first | (rw [HV.out]; rfl) | rw [HV.out], rfl⟩
  · by_cases h2 : y < x
    · have HV := Lib.hid (show r = 1 by rw [HR.out]; unfold cmpI; rw [if_neg h1, if_pos h2])
      have h3 : x > y := h2
      go_enter Tryd.func99, Tryd.ntmps99
      go_wp2_with fail
      go_ret
      exact ⟨by first | (rw [HV.out]; rfl) | rw [HV.out], rfl⟩
    · have HV := Lib.hid (show r = 0 by rw [HR.out]; unfold cmpI; rw [if_neg h1, if_neg h2])
      go_enter Tryd.func99, Tryd.ntmps99
      go_wp2_with fail
      go_ret
      exact ⟨by first | (rw [HV.out]; rfl) | rw [HV.out], rfl⟩
theorem l02Texts_any (x y : ByteArray) (w : World) : Calls Tryd.prog 100 #[.string x, .string y] w fun e w' => e = .returned (.int .i64 (cmpT x y)) ∧ w' = w := by
  obtain ⟨r, hr⟩ : ∃ r, r = cmpT x y := ⟨_, rfl⟩
  rw [← hr]
  have HR := Lib.hid hr
  clear hr
  cases h1 : Op.bytesLess x.toList y.toList with
  | true =>
    have HV := Lib.hid (show r = -1 by rw [HR.out]; unfold cmpT; rw [if_pos h1])
    go_enter Tryd.func100, Tryd.ntmps100
    go_wp2_with fail
    go_ret
    exact ⟨by first | (rw [HV.out]; rfl) | rw [HV.out], rfl⟩
  | false =>
    cases h2 : Op.bytesLess y.toList x.toList with
    | true =>
      have h3 : (x.toList == y.toList) = false := by
        cases h : (x.toList == y.toList) with
        | false => rfl
        | true => rw [eq_of_beq h, bl_irr] at h2; cases h2
      have HV := Lib.hid (show r = 1 by rw [HR.out]; unfold cmpT; rw [if_neg (by rw [h1]; simp), if_pos h2])
      go_enter Tryd.func100, Tryd.ntmps100
      go_wp2_with fail
      go_ret
      exact ⟨by first | (rw [HV.out]; rfl) | rw [HV.out], rfl⟩
    | false =>
      have h3 : (x.toList == y.toList) = true := by rw [bl_tri h1 h2]; simp
      have HV := Lib.hid (show r = 0 by rw [HR.out]; unfold cmpT; rw [if_neg (by rw [h1]; simp), if_neg (by rw [h2]; simp)])
      go_enter Tryd.func100, Tryd.ntmps100
      go_wp2_with fail
      go_ret
      exact ⟨by first | (rw [HV.out]; rfl) | rw [HV.out], rfl⟩
def CmpRet (w : World) (c : Int) (e : Ending) (w' : World) : Prop := e = .returned (.int .i64 c) ∧ Below w.heap.size w w'
set_option maxHeartbeats 8000000 in
theorem Compare_any (w0 : World) : ∀ (N : Nat) (x y : V) (a b : Value), x.sz < N → Rep w0 a x → Rep w0 b y → x.sz ≤ 1048576 → y.sz ≤ 1048576 → ∀ (w : World), Below w0.heap.size w0 w →
    Calls Tryd.prog 69 #[a, b] w (CmpRet w (cmpV x y)) := by
  intro N
  induction N with
  | zero => intro x y a b h; omega
  | succ N ih =>
  intro x y a b hN hra hrb hx1 hy1 w hw
  obtain ⟨sl, rfl, -, hr⟩ := hra
  obtain ⟨sm, rfl, -, hr2⟩ := hrb
  have hxs := V.sz_eq x
  have hys := V.sz_eq y
  have hxl := szs_length x.kids
  have hyl := szs_length y.kids
  obtain ⟨xa, xb, xo, xc, rfl, hxa, -, -, xsl, hxe⟩ := hr.opened
  obtain ⟨ya, yb, yo, yc, rfl, hya, -, -, ysl, hye⟩ := hr2.opened
  have IH := Lib.hid (fun (i : Nat) (h1 : i < x.kids.length) (h2 : i < y.kids.length) (W : World) (hW : Below w0.heap.size w0 W) => ih x.kids[i] y.kids[i] (x.kids[i].agg (xsl i)) (y.kids[i].agg (ysl i)) (by have := szs_mem (List.getElem_mem h1); omega) ⟨_, rfl, (hxe i h1).2.1, (hxe i h1).2.2⟩ ⟨_, rfl, (hye i h2).2.1, (hye i h2).2.2⟩ (by have := szs_mem (List.getElem_mem h1); omega) (by have := szs_mem (List.getElem_mem h2); omega) W hW)
  have HXA := Lib.hid hxa; have HYA := Lib.hid hya; have HXE := Lib.hid hxe; have HYE := Lib.hid hye
  have hxl2 : x.kids.length ≤ 1048576 := by omega
  have hyl2 : y.kids.length ≤ 1048576 := by omega
  clear ih hr hr2 hxa hya hxe hye hN hxs hys hxl hyl hx1 hy1
  have BX := Lib.hid ((Box.new w x.k x.n x.e x.s (.slice xa x.kids.length xc) 29).alloc (.cells #[.int .i64 y.k, .int .i64 y.n, .int .i64 y.e, .string y.s, .slice ya y.kids.length yc] 29))
  have BY := Lib.hid (Box.new (w.alloc (.cells #[.int .i64 x.k, .int .i64 x.n, .int .i64 x.e, .string x.s, .slice xa x.kids.length xc] 29)) y.k y.n y.e y.s (.slice ya y.kids.length yc) 29)
  rw [show (w.alloc (.cells #[.int .i64 x.k, .int .i64 x.n, .int .i64 x.e, .string x.s, .slice xa x.kids.length xc] 29)).heap.size = w.heap.size + 1 by simp] at BY
  obtain ⟨W0, hW0⟩ : ∃ W0, W0 = (w.alloc (.cells #[.int .i64 x.k, .int .i64 x.n, .int .i64 x.e, .string x.s, .slice xa x.kids.length xc] 29)).alloc (.cells #[.int .i64 y.k, .int .i64 y.n, .int .i64 y.e, .string y.s, .slice ya y.kids.length yc] 29) := ⟨_, rfl⟩
  have HB0 := Lib.hid (show Below w.heap.size w W0 from by rw [hW0]; exact (by (with_reducible (repeat' (first | exact Below.refl _ _ | refine below_alloc ?_ _ ?_ | refine Below.setCell ?_ ?_ _ | refine Below.drew ?_ | refine below_drewN ?_ _ | refine below_step ?_ (by assumption) ?_ | refine below_mark ?_ (by assumption) ?_))); all_goals (first | omega | (simp; done) | (simp; omega))))
  have hz0 : W0.heap.size = w.heap.size + 2 := by rw [hW0]; simp
  rw [← hW0] at BX BY
  obtain ⟨x0, x1, x2, x3, x4⟩ := BX.out.cells
  obtain ⟨y0, y1, y2, y3, y4⟩ := BY.out.cells
  obtain ⟨F, hF⟩ : ∃ F, F = cmpV x y := ⟨_, rfl⟩
  have HF := Lib.hid hF
  rw [← hF]
  clear hF
  obtain ⟨l, hl⟩ : ∃ l, l = fiveC x y := ⟨_, rfl⟩
  have HL := Lib.hid hl
  have hll : l.length = 5 := by rw [hl]; rfl
  clear hl
  unfold V.agg
  go_enter Tryd.func69, Tryd.ntmps69
  go_upto_region 1 with fail
  rw [← hW0]
  clear hW0
  refine wp_region_held_drew (S := (fun W' => W'.cell? ⟨w.heap.size, 0, none⟩ = some (.int .i64 x.k) ∧ W'.cell? ⟨w.heap.size, 1, none⟩ = some (.int .i64 x.n) ∧ W'.cell? ⟨w.heap.size, 2, none⟩ = some (.int .i64 x.e) ∧ W'.cell? ⟨w.heap.size, 3, none⟩ = some (.string x.s) ∧ W'.cell? ⟨w.heap.size, 4, none⟩ = some (.slice xa x.kids.length xc) ∧ W'.cell? ⟨w.heap.size + 1, 0, none⟩ = some (.int .i64 y.k) ∧ W'.cell? ⟨w.heap.size + 1, 1, none⟩ = some (.int .i64 y.n) ∧ W'.cell? ⟨w.heap.size + 1, 2, none⟩ = some (.int .i64 y.e) ∧ W'.cell? ⟨w.heap.size + 1, 3, none⟩ = some (.string y.s) ∧ W'.cell? ⟨w.heap.size + 1, 4, none⟩ = some (.slice ya y.kids.length yc))) (by kernel_rfl) ?_ (fun hHeld => ?_)
  · exact ⟨x0, x1, x2, x3, x4, y0, y1, y2, y3, y4⟩
  clear x0 x1 x2 x3 x4 y0 y1 y2 y3 y4
  refine wpAnyH_take (i := 0) (v := ?_) rfl (by kernel_rfl) (by kernel_rfl) (by kernel_rfl) (fun _ _ _ h => h) (Or.inl ⟨by rfl, ?_⟩) hHeld ?_
  rotate_left
  · (intro w hSw; (try dsimp only at hSw); (try simp only [List.getElem_toArray, List.getElem_cons_succ, List.getElem_cons_zero]); go_simp <;> with_reducible rfl)
  try simp only [List.getElem_toArray, List.getElem_cons_succ, List.getElem_cons_zero, Act.put, List.setIfInBounds_toArray, List.set_cons_zero, List.set_cons_succ]
  refine wpAnyH_take (i := 1) (v := ?_) rfl (by kernel_rfl) (by kernel_rfl) (by kernel_rfl) (fun _ _ _ h => h) (Or.inl ⟨by rfl, ?_⟩) hHeld ?_
  rotate_left
  · (intro w hSw; (try dsimp only at hSw); (try simp only [List.getElem_toArray, List.getElem_cons_succ, List.getElem_cons_zero]); go_simp <;> with_reducible rfl)
  try simp only [List.getElem_toArray, List.getElem_cons_succ, List.getElem_cons_zero, Act.put, List.setIfInBounds_toArray, List.set_cons_zero, List.set_cons_succ]
  refine wpAnyH_take (i := 2) (v := ?_) rfl (by kernel_rfl) (by kernel_rfl) (by kernel_rfl) (fun _ _ _ h => h) (Or.inl ⟨by rfl, ?_⟩) hHeld ?_
  rotate_left
  · (intro w hSw; (try dsimp only at hSw); (try simp only [List.getElem_toArray, List.getElem_cons_succ, List.getElem_cons_zero]); go_simp <;> with_reducible rfl)
  try simp only [List.getElem_toArray, List.getElem_cons_succ, List.getElem_cons_zero, Act.put, List.setIfInBounds_toArray, List.set_cons_zero, List.set_cons_succ]
  refine wpAnyH_take (i := 3) (v := ?_) rfl (by kernel_rfl) (by kernel_rfl) (by kernel_rfl) (fun _ _ _ h => h) (Or.inl ⟨by rfl, ?_⟩) hHeld ?_
  rotate_left
  · (intro w hSw; (try dsimp only at hSw); (try simp only [List.getElem_toArray, List.getElem_cons_succ, List.getElem_cons_zero]); go_simp <;> with_reducible rfl)
  try simp only [List.getElem_toArray, List.getElem_cons_succ, List.getElem_cons_zero, Act.put, List.setIfInBounds_toArray, List.set_cons_zero, List.set_cons_succ]
  refine wpAnyH_take (i := 5) (v := ?_) rfl (by kernel_rfl) (by kernel_rfl) (by kernel_rfl) (fun _ _ _ h => h) (Or.inl ⟨by rfl, ?_⟩) hHeld ?_
  rotate_left
  · (intro w hSw; (try dsimp only at hSw); (try simp only [List.getElem_toArray, List.getElem_cons_succ, List.getElem_cons_zero]); go_simp <;> with_reducible rfl)
  try simp only [List.getElem_toArray, List.getElem_cons_succ, List.getElem_cons_zero, Act.put, List.setIfInBounds_toArray, List.set_cons_zero, List.set_cons_succ]
  refine wpAnyH_take (i := 6) (v := ?_) rfl (by kernel_rfl) (by kernel_rfl) (by kernel_rfl) (fun _ _ _ h => h) (Or.inl ⟨by rfl, ?_⟩) hHeld ?_
  rotate_left
  · (intro w hSw; (try dsimp only at hSw); (try simp only [List.getElem_toArray, List.getElem_cons_succ, List.getElem_cons_zero]); go_simp <;> with_reducible rfl)
  try simp only [List.getElem_toArray, List.getElem_cons_succ, List.getElem_cons_zero, Act.put, List.setIfInBounds_toArray, List.set_cons_zero, List.set_cons_succ]
  refine wpAnyH_take (i := 7) (v := ?_) rfl (by kernel_rfl) (by kernel_rfl) (by kernel_rfl) (fun _ _ _ h => h) (Or.inl ⟨by rfl, ?_⟩) hHeld ?_
  rotate_left
  · (intro w hSw; (try dsimp only at hSw); (try simp only [List.getElem_toArray, List.getElem_cons_succ, List.getElem_cons_zero]); go_simp <;> with_reducible rfl)
  try simp only [List.getElem_toArray, List.getElem_cons_succ, List.getElem_cons_zero, Act.put, List.setIfInBounds_toArray, List.set_cons_zero, List.set_cons_succ]
  refine wpAnyH_take (i := 8) (v := ?_) rfl (by kernel_rfl) (by kernel_rfl) (by kernel_rfl) (fun _ _ _ h => h) (Or.inl ⟨by rfl, ?_⟩) hHeld ?_
  rotate_left
  · (intro w hSw; (try dsimp only at hSw); (try simp only [List.getElem_toArray, List.getElem_cons_succ, List.getElem_cons_zero]); go_simp <;> with_reducible rfl)
  try simp only [List.getElem_toArray, List.getElem_cons_succ, List.getElem_cons_zero, Act.put, List.setIfInBounds_toArray, List.set_cons_zero, List.set_cons_succ]
  refine wpAnyH_take (i := 10) (v := ?_) rfl (by kernel_rfl) (by kernel_rfl) (by kernel_rfl) (fun _ _ _ h => h) (Or.inl ⟨by rfl, ?_⟩) hHeld ?_
  rotate_left
  · (intro w hSw; (try dsimp only at hSw); (try simp only [List.getElem_toArray, List.getElem_cons_succ, List.getElem_cons_zero]); go_simp <;> with_reducible rfl)
  try simp only [List.getElem_toArray, List.getElem_cons_succ, List.getElem_cons_zero, Act.put, List.setIfInBounds_toArray, List.set_cons_zero, List.set_cons_succ]
  refine wpAnyH_take (i := 11) (v := ?_) rfl (by kernel_rfl) (by kernel_rfl) (by kernel_rfl) (fun _ _ _ h => h) (Or.inl ⟨by rfl, ?_⟩) hHeld ?_
  rotate_left
  · (intro w hSw; (try dsimp only at hSw); (try simp only [List.getElem_toArray, List.getElem_cons_succ, List.getElem_cons_zero]); go_simp <;> with_reducible rfl)
  try simp only [List.getElem_toArray, List.getElem_cons_succ, List.getElem_cons_zero, Act.put, List.setIfInBounds_toArray, List.set_cons_zero, List.set_cons_succ]
  refine wpAnyH_take (i := 12) (v := ?_) rfl (by kernel_rfl) (by kernel_rfl) (by kernel_rfl) (fun _ _ _ h => h) (Or.inl ⟨by rfl, ?_⟩) hHeld ?_
  rotate_left
  · (intro w hSw; (try dsimp only at hSw); (try simp only [List.getElem_toArray, List.getElem_cons_succ, List.getElem_cons_zero]); go_simp <;> with_reducible rfl)
  try simp only [List.getElem_toArray, List.getElem_cons_succ, List.getElem_cons_zero, Act.put, List.setIfInBounds_toArray, List.set_cons_zero, List.set_cons_succ]
  refine wpAnyH_take (i := 13) (v := ?_) rfl (by kernel_rfl) (by kernel_rfl) (by kernel_rfl) (fun _ _ _ h => h) (Or.inl ⟨by rfl, ?_⟩) hHeld ?_
  rotate_left
  · (intro w hSw; (try dsimp only at hSw); (try simp only [List.getElem_toArray, List.getElem_cons_succ, List.getElem_cons_zero]); go_simp <;> with_reducible rfl)
  try simp only [List.getElem_toArray, List.getElem_cons_succ, List.getElem_cons_zero, Act.put, List.setIfInBounds_toArray, List.set_cons_zero, List.set_cons_succ]
  refine wpAnyH_take (i := 15) (v := ?_) rfl (by kernel_rfl) (by kernel_rfl) (by kernel_rfl) (fun _ _ _ h => h) (Or.inl ⟨by rfl, ?_⟩) hHeld ?_
  rotate_left
  · (intro w hSw; (try dsimp only at hSw); (try simp only [List.getElem_toArray, List.getElem_cons_succ, List.getElem_cons_zero]); go_simp <;> with_reducible rfl)
  try simp only [List.getElem_toArray, List.getElem_cons_succ, List.getElem_cons_zero, Act.put, List.setIfInBounds_toArray, List.set_cons_zero, List.set_cons_succ]
  refine wpAnyH_take (i := 16) (v := ?_) rfl (by kernel_rfl) (by kernel_rfl) (by kernel_rfl) (fun _ _ _ h => h) (Or.inl ⟨by rfl, ?_⟩) hHeld ?_
  rotate_left
  · (intro w hSw; (try dsimp only at hSw); (try simp only [List.getElem_toArray, List.getElem_cons_succ, List.getElem_cons_zero]); go_simp <;> with_reducible rfl)
  try simp only [List.getElem_toArray, List.getElem_cons_succ, List.getElem_cons_zero, Act.put, List.setIfInBounds_toArray, List.set_cons_zero, List.set_cons_succ]
  refine wpAnyH_take (i := 17) (v := ?_) rfl (by kernel_rfl) (by kernel_rfl) (by kernel_rfl) (fun _ _ _ h => h) (Or.inl ⟨by rfl, ?_⟩) hHeld ?_
  rotate_left
  · (intro w hSw; (try dsimp only at hSw); (try simp only [List.getElem_toArray, List.getElem_cons_succ, List.getElem_cons_zero]); go_simp <;> with_reducible rfl)
  try simp only [List.getElem_toArray, List.getElem_cons_succ, List.getElem_cons_zero, Act.put, List.setIfInBounds_toArray, List.set_cons_zero, List.set_cons_succ]
  refine wpAnyH_take (i := 18) (v := ?_) rfl (by kernel_rfl) (by kernel_rfl) (by kernel_rfl) (fun _ _ _ h => h) (Or.inl ⟨by rfl, ?_⟩) hHeld ?_
  rotate_left
  · (intro w hSw; (try dsimp only at hSw); (try simp only [List.getElem_toArray, List.getElem_cons_succ, List.getElem_cons_zero]); go_simp <;> with_reducible rfl)
  try simp only [List.getElem_toArray, List.getElem_cons_succ, List.getElem_cons_zero, Act.put, List.setIfInBounds_toArray, List.set_cons_zero, List.set_cons_succ]
  refine wpAnyH_take (i := 20) (v := ?_) rfl (by kernel_rfl) (by kernel_rfl) (by kernel_rfl) (fun _ _ _ h => h) (Or.inl ⟨by rfl, ?_⟩) hHeld ?_
  rotate_left
  · (intro w hSw; (try dsimp only at hSw); (try simp only [List.getElem_toArray, List.getElem_cons_succ, List.getElem_cons_zero]); go_simp <;> with_reducible rfl)
  try simp only [List.getElem_toArray, List.getElem_cons_succ, List.getElem_cons_zero, Act.put, List.setIfInBounds_toArray, List.set_cons_zero, List.set_cons_succ]
  refine wpAnyH_take (i := 21) (v := ?_) rfl (by kernel_rfl) (by kernel_rfl) (by kernel_rfl) (fun _ _ _ h => h) (Or.inl ⟨by rfl, ?_⟩) hHeld ?_
  rotate_left
  · (intro w hSw; (try dsimp only at hSw); (try simp only [List.getElem_toArray, List.getElem_cons_succ, List.getElem_cons_zero]); go_simp <;> with_reducible rfl)
  try simp only [List.getElem_toArray, List.getElem_cons_succ, List.getElem_cons_zero, Act.put, List.setIfInBounds_toArray, List.set_cons_zero, List.set_cons_succ]
  refine wpAnyH_take (i := 22) (v := ?_) rfl (by kernel_rfl) (by kernel_rfl) (by kernel_rfl) (fun _ _ _ h => h) (Or.inl ⟨by rfl, ?_⟩) hHeld ?_
  rotate_left
  · (intro w hSw; (try dsimp only at hSw); (try simp only [List.getElem_toArray, List.getElem_cons_succ, List.getElem_cons_zero]); go_simp <;> with_reducible rfl)
  try simp only [List.getElem_toArray, List.getElem_cons_succ, List.getElem_cons_zero, Act.put, List.setIfInBounds_toArray, List.set_cons_zero, List.set_cons_succ]
  refine wpAnyH_take (i := 23) (v := ?_) rfl (by kernel_rfl) (by kernel_rfl) (by kernel_rfl) (fun _ _ _ h => h) (Or.inl ⟨by rfl, ?_⟩) hHeld ?_
  rotate_left
  · (intro w hSw; (try dsimp only at hSw); (try simp only [List.getElem_toArray, List.getElem_cons_succ, List.getElem_cons_zero]); go_simp <;> with_reducible rfl)
  try simp only [List.getElem_toArray, List.getElem_cons_succ, List.getElem_cons_zero, Act.put, List.setIfInBounds_toArray, List.set_cons_zero, List.set_cons_succ]
  refine wpAnyH_take (i := 24) (v := ?_) rfl (by kernel_rfl) (by kernel_rfl) (by kernel_rfl) (fun _ _ _ h => h) (Or.inl ⟨by rfl, ?_⟩) hHeld ?_
  rotate_left
  · (intro w hSw; (try dsimp only at hSw); (try simp only [List.getElem_toArray, List.getElem_cons_succ, List.getElem_cons_zero]); go_simp <;> with_reducible rfl)
  try simp only [List.getElem_toArray, List.getElem_cons_succ, List.getElem_cons_zero, Act.put, List.setIfInBounds_toArray, List.set_cons_zero, List.set_cons_succ]
  refine wpAnyH_take (i := 25) (v := ?_) rfl (by kernel_rfl) (by kernel_rfl) (by kernel_rfl) (fun _ _ _ h => h) (Or.inl ⟨by rfl, ?_⟩) hHeld ?_
  rotate_left
  · (intro w hSw; (try dsimp only at hSw); (try simp only [List.getElem_toArray, List.getElem_cons_succ, List.getElem_cons_zero]); go_simp <;> with_reducible rfl)
  try simp only [List.getElem_toArray, List.getElem_cons_succ, List.getElem_cons_zero, Act.put, List.setIfInBounds_toArray, List.set_cons_zero, List.set_cons_succ]
  refine wpAnyH_ready (rs := [4]) (by kernel_rfl) (by simp) ?_
  refine AllReadyH.cons rfl (fun K hK => ?_) AllReadyH.nil
  go_simp
  refine (l02Less_any _ _ _).mono ?_
  rintro e9 w9 ⟨rfl, rfl⟩
  refine hK.out _ _ hHeld (fun hHeld => ?_)
  clear hK K
  try simp only [List.getElem_toArray, List.getElem_cons_succ, List.getElem_cons_zero, Act.put, List.setIfInBounds_toArray, List.set_cons_zero, List.set_cons_succ]
  refine wpAnyH_ready (rs := [9]) (by kernel_rfl) (by simp) ?_
  refine AllReadyH.cons rfl (fun K hK => ?_) AllReadyH.nil
  go_simp
  refine (l02Less_any _ _ _).mono ?_
  rintro e9 w9 ⟨rfl, rfl⟩
  refine hK.out _ _ hHeld (fun hHeld => ?_)
  clear hK K
  try simp only [List.getElem_toArray, List.getElem_cons_succ, List.getElem_cons_zero, Act.put, List.setIfInBounds_toArray, List.set_cons_zero, List.set_cons_succ]
  refine wpAnyH_ready (rs := [14]) (by kernel_rfl) (by simp) ?_
  refine AllReadyH.cons rfl (fun K hK => ?_) AllReadyH.nil
  go_simp
  refine (l02Less_any _ _ _).mono ?_
  rintro e9 w9 ⟨rfl, rfl⟩
  refine hK.out _ _ hHeld (fun hHeld => ?_)
  clear hK K
  try simp only [List.getElem_toArray, List.getElem_cons_succ, List.getElem_cons_zero, Act.put, List.setIfInBounds_toArray, List.set_cons_zero, List.set_cons_succ]
  refine wpAnyH_ready (rs := [19]) (by kernel_rfl) (by simp) ?_
  refine AllReadyH.cons rfl (fun K hK => ?_) AllReadyH.nil
  go_simp
  refine (l02Texts_any _ _ _).mono ?_
  rintro e9 w9 ⟨rfl, rfl⟩
  refine hK.out _ _ hHeld (fun hHeld => ?_)
  clear hK K
  try simp only [List.getElem_toArray, List.getElem_cons_succ, List.getElem_cons_zero, Act.put, List.setIfInBounds_toArray, List.set_cons_zero, List.set_cons_succ]
  refine wpAnyH_ready (rs := [26]) (by kernel_rfl) (by simp) ?_
  refine AllReadyH.cons rfl (fun K hK => ?_) AllReadyH.nil
  go_simp
  refine (l02Less_any _ _ _).mono ?_
  rintro e9 w9 ⟨rfl, rfl⟩
  refine hK.out _ _ hHeld (fun hHeld => ?_)
  clear hK K
  try simp only [List.getElem_toArray, List.getElem_cons_succ, List.getElem_cons_zero, Act.put, List.setIfInBounds_toArray, List.set_cons_zero, List.set_cons_succ]
  refine wpAnyH_ready (rs := [27]) (by kernel_rfl) (by simp) ?_
  refine AllReadyH.cons rfl (fun K hK => ?_) AllReadyH.nil
  go_simp
  refine hK.out _ _ (by obtain ⟨h0, h1, h2, h3, h4, h5, h6, h7, h8, h9⟩ := hHeld; exact ⟨keepa h0, keepa h1, keepa h2, keepa h3, keepa h4, keepa h5, keepa h6, keepa h7, keepa h8, keepa h9⟩) (fun hHeld => ?_)
  clear hK K
  try simp only [List.getElem_toArray, List.getElem_cons_succ, List.getElem_cons_zero, Act.put, List.setIfInBounds_toArray, List.set_cons_zero, List.set_cons_succ]
  refine wpAnyH_take (i := 28) (v := ?_) rfl (by kernel_rfl) (by kernel_rfl) (by kernel_rfl) (fun _ _ _ h => h) (Or.inl ⟨by rfl, ?_⟩) hHeld ?_
  rotate_left
  · (intro w hSw; (try dsimp only at hSw); (try simp only [List.getElem_toArray, List.getElem_cons_succ, List.getElem_cons_zero]); go_simp <;> with_reducible rfl)
  try simp only [List.getElem_toArray, List.getElem_cons_succ, List.getElem_cons_zero, Act.put, List.setIfInBounds_toArray, List.set_cons_zero, List.set_cons_succ]
  obtain ⟨h0, h1, h2, h3, h4, h5, h6, h7, h8, h9⟩ := hHeld
  refine wpAnyH_done (by kernel_rfl) ?_ _
  clear h0 h1 h2 h3 h5 h6 h7 h8
  obtain ⟨W1, hW1⟩ : ∃ W1, W1 = (W0.alloc (.cells #[.int .i64 (cmpI x.k y.k), .int .i64 (cmpI x.n y.n), .int .i64 (cmpI x.e y.e), .int .i64 (cmpT x.s y.s), .int .i64 (cmpI x.kids.length y.kids.length)] 3)).drew := ⟨_, rfl⟩
  have HC := Lib.hid (show ∀ i (hi : i < l.length), W1.cell? ⟨W0.heap.size, i, none⟩ = some (.int .i64 l[i]) from fun i hi => by
    have hh : W1.heap[W0.heap.size]? = some (.cells (l.map (Value.int .i64)).toArray 3 (0, 0)) := by
      rw [hW1, HL.out]
      exact heap_alloc_new W0 (.cells #[.int .i64 (cmpI x.k y.k), .int .i64 (cmpI x.n y.n), .int .i64 (cmpI x.e y.e), .int .i64 (cmpT x.s y.s), .int .i64 (cmpI x.kids.length y.kids.length)] 3)
    rw [cell_of_row W1 W0.heap.size i _ _ (0, 0) hh]; simp [hi])
  have HB1 := Lib.hid (show Below w.heap.size w W1 from by rw [hW1]; exact HB0.out.trans (((Below.refl W0.heap.size W0).alloc (Nat.le_refl _) _).drew.mono (by omega)))
  have HX1 := Lib.hid (show Box W1 w.heap.size x.k x.n x.e x.s (.slice xa x.kids.length xc) 29 from by rw [hW1]; exact BX.out.alloc _)
  have HY1 := Lib.hid (show Box W1 (w.heap.size + 1) y.k y.n y.e y.s (.slice ya y.kids.length yc) 29 from by rw [hW1]; exact BY.out.alloc _)
  rw [← hW1]
  clear hW1 HB0 BX BY
  rw [hz0] at HC
  clear hz0
  go_wp2_with fail
  go_loop [6] (fun i => ∃ j : Nat, j ≤ 5 ∧ i = .int .i64 j ∧ Hid (fnz l = fnz (l.drop j))) (fun i => 6 - (intOf i).toNat)
  case atStart => exact ⟨0, by omega, rfl, Lib.hid (by rw [List.drop_zero])⟩
  case round =>
    obtain ⟨j, hj, rfl, HJ⟩ := hrel
    by_cases hlt : j < 5
    · have c0 := HC.out j (by omega)
      have HS := Lib.hid (show fnz (l.drop j) = if l[j] = 0 then fnz (l.drop (j + 1)) else l[j] by rw [List.drop_eq_getElem_cons (by omega), fnz])
      generalize l[j] = z at *
      by_cases hx : z = 0
      · have HR := Lib.hid (show fnz l = fnz (l.drop (j + 1)) by rw [HJ.out, HS.out, if_pos hx])
        have t1 : (z != 0) = false := by simpa using hx
        clear hx HJ HS
        go_wp2_with fail
        go_round
        case rel => exact ⟨j + 1, by omega, by go_num, HR⟩
        case measure => simp [intOf]; omega
      · have HR := Lib.hid (show F = z by
          have e : fnz l = z := by rw [HJ.out, HS.out, if_neg hx]
          rw [HF.out, cmpV_eq, if_pos (by rw [← HL.out, e]; exact hx), ← HL.out, e])
        have t1 : (z != 0) = true := by simpa using hx
        clear hx HJ HS
        go_wp2_with fail
        go_ret
        exact ⟨by first | (rw [HR.out]; rfl) | rw [HR.out], HB1.out⟩
    · have hz : fnz l = 0 := by rw [HJ.out, List.drop_eq_nil_of_le (by omega), fnz]
      have hz5 : fnz (fiveC x y) = 0 := by rw [← HL.out]; exact hz
      have HR := Lib.hid (show F = cmpVs (x.kids.drop 0) (y.kids.drop 0) by rw [HF.out, cmpV_eq, if_neg (by simpa using hz5), List.drop_zero, List.drop_zero])
      have HLE := Lib.hid (show x.kids.length = y.kids.length from (five_zero.1 hz5).2.2.2.2)
      clear hz hz5 HJ HC HL HF
      have HN1 := Lib.hid HB1.out.size
      go_wp2_with fail
      go_loopw [7, 8] (fun i u wr => ∃ j : Nat, i = .int .i64 j ∧ j ≤ x.kids.length ∧ Hid (Below W1.heap.size W1 wr) ∧ Hid (F = cmpVs (x.kids.drop j) (y.kids.drop j))) (fun i _ _ => x.kids.length + 1 - (intOf i).toNat)
      case atStart => exact ⟨0, rfl, by omega, Lib.hid (Below.refl _ _), HR⟩
      case round =>
        obtain ⟨j, rfl, hj2, HBL, HJ⟩ := hrel
        have hzr := HBL.out.size
        obtain ⟨x0, x1, x2, x3, x4⟩ := (HX1.out.stay HBL.out).cells
        obtain ⟨y0, y1, y2, y3, y4⟩ := (HY1.out.stay HBL.out).cells
        clear x0 x1 x2 x3 y0 y1 y2 y3
        by_cases hlt2 : j < x.kids.length
        · have hlt3 : j < y.kids.length := by have := HLE.out; omega
          obtain ⟨rfl, hbx⟩ := HXA.out (by intro e; rw [e] at hlt2; simp at hlt2)
          obtain ⟨rfl, hby⟩ := HYA.out (by intro e; rw [e] at hlt3; simp at hlt3)
          have HWR := Lib.hid ((hw.trans (HB1.out.mono hw.size)).trans (HBL.out.mono (Nat.le_trans hw.size HB1.out.size)))
          obtain ⟨c0, c1, c2, c3, c4⟩ := (HXE.out j hlt2).1.keep (HWR.out.block xb hbx)
          obtain ⟨d0, d1, d2, d3, d4⟩ := (HYE.out j hlt3).1.keep (HWR.out.block yb hby)
          obtain ⟨sa, sc, hs1⟩ := (HXE.out j hlt2).2.2.slice
          obtain ⟨sa2, sc2, hs2⟩ := (HYE.out j hlt3).2.2.slice
          have CL := Lib.hid (fun (W : World) (hW : Below wr.heap.size wr W) => IH.out j hlt2 hlt3 W (HWR.out.trans (hW.mono HWR.out.size)))
          have HAT := Lib.hid (cmpVs_at j hlt2 hlt3)
          rw [hs1] at c4 CL
          rw [hs2] at d4 CL
          clear hs1 hs2 IH
          unfold V.agg at CL
          generalize cmpV x.kids[j] y.kids[j] = q at *
          generalize x.kids[j] = u at *
          generalize y.kids[j] = v at *
          obtain ⟨W9, hW9⟩ : ∃ W9 : World, W9 = wr.drew := ⟨_, rfl⟩
          have HB9 := Lib.hid (show Below wr.heap.size wr W9 from by rw [hW9]; exact (Below.refl _ _).drew)
          have hz9 : wr.heap.size = W9.heap.size := by rw [hW9]; rfl
          subst hW9
          by_cases hq : q = 0
          · have HR2 := Lib.hid (show F = cmpVs (x.kids.drop (j + 1)) (y.kids.drop (j + 1)) by rw [HJ.out, HAT.out, if_neg (by simpa using hq)])
            subst hq
            clear HJ HAT
            go_wp2_with fail
            go_region_law (go_simp; go_at_call 69; refine (CL.out _ HB9.out).mono ?_; rintro e5 w5 ⟨rfl, hb5⟩; have HB5 := Lib.hid (HBL.out.trans ((HB9.out.trans (hb5.mono (by omega))).mono hzr)); clear hb5)
            all_goals
              go_wp2_with fail
              go_roundw
              case rel => exact ⟨j + 1, by go_num, by omega, HB5, HR2⟩
              case measure => simp [intOf]; omega
          · have HR2 := Lib.hid (show F = q by rw [HJ.out, HAT.out, if_pos hq])
            have t1 : (q != 0) = true := by simpa using hq
            clear HJ HAT hq
            go_wp2_with fail
            go_region_law (go_simp; go_at_call 69; refine (CL.out _ HB9.out).mono ?_; rintro e5 w5 ⟨rfl, hb5⟩; have HB5 := Lib.hid (HBL.out.trans ((HB9.out.trans (hb5.mono (by omega))).mono hzr)); clear hb5)
            all_goals
              go_wp2_with fail
              go_ret
              exact ⟨by first | (rw [HR2.out]; rfl) | rw [HR2.out], HB1.out.trans (HB5.out.mono HB1.out.size)⟩
        · have HR2 := Lib.hid (show F = 0 by rw [HJ.out, cmpVs_end j hlt2])
          clear HJ
          go_wp2_with fail
          go_ret
          exact ⟨by first | (rw [HR2.out]; rfl) | rw [HR2.out], HB1.out.trans (HBL.out.mono HB1.out.size)⟩
end Go.Proofs.YtfjehhdahpbbgaaDoor
namespace Go.Proofs.YtfjehhdahpbbgaaDoor
set_option linter.unusedSimpArgs false
set_option linter.unusedVariables false
set_option maxRecDepth 100000
theorem swo_of {α : Type} {lt : α → α → Bool} (h : Ordr lt) : Go.Sort.SWO lt := by
  refine ⟨fun x => ?_, fun x y z h1 h2 => h.lt_le h1 (h.asym _ _ h2), fun x y z h1 h2 => h.tr z y x h2 h1⟩
  cases e : lt x x with
  | false => rfl
  | true => have := h.asym _ _ e; rw [e] at this; cases this
variable {α : Type} [Inhabited α]
def vw (d : Array α) : Nat → α := fun i => d[i]!
theorem vw_swp (d : Array α) {i j : Nat} (hi : i < d.size) (hj : j < d.size) : vw (Go.Sort.swp d i j) = swp (vw d) i j := by
  funext x
  show (Go.Sort.swp d i j)[x]! = _
  rw [Go.Sort.swp_get d hi hj]
  unfold swp vw
  by_cases h1 : x = i
  · by_cases h2 : x = j
    · rw [if_pos h2, if_pos h1]
      show d[i]! = d[j]!
      rw [← h1, ← h2]
    · rw [if_neg h2, if_pos h1, if_pos h1]
  · by_cases h2 : x = j
    · rw [if_pos h2, if_neg h1, if_pos h2]
    · rw [if_neg h2, if_neg h1, if_neg h1, if_neg h2]
theorem ins_mix (lt : α → α → Bool) (a b : Nat) : ∀ (j : Nat) (d : Array α), j < b → b ≤ d.size → Mix (vw d) (vw (Go.Sort.insInner lt a j d)) a b ∧ (Go.Sort.insInner lt a j d).size = d.size := by
  intro j
  induction j with
  | zero => intro d _ _; rw [Go.Sort.insInner]; exact ⟨Mix.refl _ _ _, rfl⟩
  | succ j ih =>
    intro d h1 h2
    rw [Go.Sort.insInner]
    split
    · rename_i hc
      have ha : a < j + 1 := by
        rw [Bool.and_eq_true, decide_eq_true_eq] at hc; exact hc.1
      obtain ⟨i1, i2⟩ := ih (Go.Sort.swp d (j + 1) j) (by omega) (by rw [Go.Sort.swp_size]; exact h2)
      rw [vw_swp d (by omega) (by omega)] at i1
      exact ⟨(Mix.swp (vw d) (i := j + 1) (j := j) ⟨by omega, by omega⟩ ⟨by omega, by omega⟩).trans i1, by rw [i2, Go.Sort.swp_size]⟩
    · exact ⟨Mix.refl _ _ _, rfl⟩
theorem insO_mix (lt : α → α → Bool) (a b : Nat) : ∀ (m i : Nat) (d : Array α), b - i ≤ m → b ≤ d.size → Mix (vw d) (vw (Go.Sort.insOuter lt a b i d)) a b ∧ (Go.Sort.insOuter lt a b i d).size = d.size := by
  intro m
  induction m with
  | zero => intro i d h1 h2; rw [Go.Sort.insOuter, if_neg (by omega)]; exact ⟨Mix.refl _ _ _, rfl⟩
  | succ m ih =>
    intro i d h1 h2
    rw [Go.Sort.insOuter]
    split
    · rename_i hc
      obtain ⟨i1, i2⟩ := ins_mix lt a b i d hc h2
      obtain ⟨j1, j2⟩ := ih (i + 1) (Go.Sort.insInner lt a i d) (by omega) (by rw [i2]; exact h2)
      exact ⟨i1.trans j1, by rw [j2, i2]⟩
    · exact ⟨Mix.refl _ _ _, rfl⟩
theorem ins_holds {lt : α → α → Bool} (ho : Ordr lt) (d : Array α) {a b : Nat} (hab : a ≤ b) (hb : b ≤ d.size) : (Go.Sort.insertionSort lt d a b).size = d.size ∧ Mix (vw d) (vw (Go.Sort.insertionSort lt d a b)) a b ∧ Srtd lt (vw (Go.Sort.insertionSort lt d a b)) a b := by
  obtain ⟨h1, h2⟩ := insO_mix lt a b (b - (a + 1)) (a + 1) d (Nat.le_refl _) hb
  exact ⟨h2, h1, (Go.Sort.insertionSort_holds (swo_of ho) d a b hab hb).2⟩
end Go.Proofs.YtfjehhdahpbbgaaDoor
namespace Go.Proofs.YtfjehhdahpbbgaaDoor
set_option linter.unusedSimpArgs false
set_option linter.unusedVariables false
set_option maxRecDepth 100000
open Go.Shelf Go.RowKit Go.Lib
structure SP (P : Program) (k : Nat) : Prop where
  mixed : P.follows .mixedOrders = true
  fs : P.funcs[156]? = some Tryd.f156
  fr : P.funcs[148]? = some Tryd.f148
  fm : P.funcs[137]? = some Tryd.f137
  t0 : P.underlying 0 = some (TypeDesc.tuple #[])
  a0 : ∀ w, (isAgg 0).run P w = .ok false w
  z0 : ∀ w, (Go.sizeOf 0).run P w = .ok 1 w
  v0 : ∀ w, (zeroValue 0).run P w = .ok (Value.tuple #[]) w
  t3 : P.underlying 3 = some (TypeDesc.int IntKind.i64)
  a3 : ∀ w, (isAgg 3).run P w = .ok false w
  z3 : ∀ w, (Go.sizeOf 3).run P w = .ok 1 w
  v3 : ∀ w, (zeroValue 3).run P w = .ok (Value.int IntKind.i64 0) w
  t4 : P.underlying 4 = some (TypeDesc.bool)
  a4 : ∀ w, (isAgg 4).run P w = .ok false w
  z4 : ∀ w, (Go.sizeOf 4).run P w = .ok 1 w
  v4 : ∀ w, (zeroValue 4).run P w = .ok (Value.bool false) w
  t9 : P.underlying 79 = some (TypeDesc.int IntKind.u64)
  a9 : ∀ w, (isAgg 79).run P w = .ok false w
  z9 : ∀ w, (Go.sizeOf 79).run P w = .ok 1 w
  v9 : ∀ w, (zeroValue 79).run P w = .ok (Value.int IntKind.u64 0) w
  t7 : P.underlying 88 = some (TypeDesc.slice 92)
  a7 : ∀ w, (isAgg 88).run P w = .ok false w
  z7 : ∀ w, (Go.sizeOf 88).run P w = .ok 1 w
  v7 : ∀ w, (zeroValue 88).run P w = .ok (Value.slice none 0 0) w
  tf : P.underlying 93 = some (TypeDesc.func #[92, 92] #[3] false)
  af : ∀ w, (isAgg 93).run P w = .ok false w
  zf : ∀ w, (Go.sizeOf 93).run P w = .ok 1 w
  vf : ∀ w, (zeroValue 93).run P w = .ok (Value.nilFunc) w
  aE : ∀ w, (isAgg 92).run P w = .ok true w
  zE : ∀ w, (Go.sizeOf 92).run P w = .ok k w
variable {P : Program} {k : Nat} {α : Type} [Inhabited α]
set_option maxHeartbeats 4000000 in
set_option maxRecDepth 1000000 in
theorem swapRange_any (L : SP P k) (enc : α → List Value) (g : Nat) (cb : Array Value) (blk off cap a b n : Nat) (d0 d : Array α) (w0 w : World)
    (R : RowK enc k w0 blk off d0) (hs : d0.size = d.size) (S : SWK enc k w0 blk off d w) (hab : a + n ≤ b) (hb : b + n ≤ d.size) (hsz : d.size < 4611686018427387904) :
    Calls P 156 #[.slice (some ⟨blk, off, none⟩) d.size cap, .int .i64 a, .int .i64 b, .int .i64 n, .func (.func g) #[] cb] w fun e w' => e = .returned (.tuple #[]) ∧ ∃ d' : Array α, d'.size = d.size ∧ vw d' = swr (vw d) a b n ∧ SWK enc k w0 blk off d' w' := by
  have mixed := L.mixed; have t0 := L.t0; have a0 := L.a0; have z0 := L.z0; have v0 := L.v0; have t3 := L.t3; have a3 := L.a3; have z3 := L.z3; have v3 := L.v3; have t4 := L.t4; have a4 := L.a4; have z4 := L.z4; have v4 := L.v4; have t7 := L.t7; have a7 := L.a7; have z7 := L.z7; have v7 := L.v7; have tf := L.tf; have af := L.af; have zf := L.zf; have vf := L.vf; have aE := L.aE; have zE := L.zE
  have FG := L.fs
  have S0 : Aside (SWK enc k w0 blk off d w) := S
  clear S
  go_enter FG, Tryd.ntmps156
  go_wp2
  go_loopg [10] n (fun kx s10 wr => ∃ (i : Nat) (dk : Array α), s10 = .int .i64 i ∧ i ≤ n ∧ n - i ≤ kx ∧ dk.size = d.size ∧ Aside (SWK enc k w0 blk off dk wr) ∧ Hid (vw dk = swr (vw d) a b i))
  case atStart => exact ⟨0, d, rfl, Nat.zero_le _, by omega, rfl, S0, by show _ = _; rw [swr_0]⟩
  case round =>
    clear S0
    obtain ⟨i, dk, rfl, hin, hkx, hds, S1, heq⟩ := hrel
    by_cases hlt : i < n
    · have hltz : (i : Int) < (n : Int) := by omega
      go_wp2_with fail
      have ea44 : ((a : Int) + (i : Int)).toNat = a + i := by omega
      have pa44 : (0 : Int) ≤ (a : Int) + (i : Int) := by omega
      have ba44 : (a : Int) + (i : Int) < (d.size : Int) := by omega
      have ra44 : IntKind.i64.wrap ((a : Int) + (i : Int)) = (a : Int) + (i : Int) := by rw [IntKind.wrap_i64]; omega
      have ec44 : ((b : Int) + (i : Int)).toNat = b + i := by omega
      have pc44 : (0 : Int) ≤ (b : Int) + (i : Int) := by omega
      have bc44 : (b : Int) + (i : Int) < (d.size : Int) := by omega
      have rc44 : IntKind.i64.wrap ((b : Int) + (i : Int)) = (b : Int) + (i : Int) := by rw [IntKind.wrap_i64]; omega
      have S2 : Aside (SWK enc k w0 blk off (Go.Sort.swp dk (a + i) (b + i)) ((wr.drew.setCells blk (off + (a + i) * k) (enc dk[b + i]!)).setCells blk (off + (b + i) * k) (enc dk[a + i]!))) := S1.out.swapped R (a + i) (b + i) (by omega) (by omega)
      have l44a := S1.out.ld1 R (by omega) P (a + i) (by omega)
      have l44b := S1.out.ld1 R (by omega) P (b + i) (by omega)
      have s44a := S1.out.st1 R (by omega) P (a + i) (by omega) dk[b + i]!
      have s44b := S1.out.st2 R (by omega) P (a + i) (b + i) (by omega) (by omega) dk[b + i]! dk[a + i]!
      have n44a : (enc dk[a + i]!).length = k := R.hk _
      have n44b : (enc dk[b + i]!).length = k := R.hk _
      have HQ : Hid (vw (Go.Sort.swp dk (a + i) (b + i)) = swr (vw d) a b (i + 1)) := by
        show _ = _
        rw [vw_swp dk (by omega) (by omega), heq.out, swr_succ _ (by omega)]
      generalize enc dk[a + i]! = cI44 at S2 l44a s44b n44a
      generalize enc dk[b + i]! = cJ44 at S2 l44b s44a s44b n44b
      clear S1
      go_wp2_with fail
      go_big_region_o
      clear l44a l44b s44a s44b
      generalize (wr.drew.setCells blk (off + (a + i) * k) cJ44).setCells blk (off + (b + i) * k) cI44 = w2 at S2 ⊢
      go_wp2
      go_roundg (n - (i + 1))
      case measure => omega
      case rel => exact ⟨i + 1, Go.Sort.swp dk (a + i) (b + i), by go_num, by omega, Nat.le_refl _, by rw [Go.Sort.swp_size]; exact hds, S2, HQ⟩
    · have hltz : ¬ (i : Int) < (n : Int) := by omega
      go_wp2
      go_end0
      obtain rfl : i = n := by omega
      exact ⟨rfl, dk, hds, heq.out, S1.out⟩
end Go.Proofs.YtfjehhdahpbbgaaDoor
namespace Go.Proofs.YtfjehhdahpbbgaaDoor
set_option linter.unusedSimpArgs false
set_option linter.unusedVariables false
set_option maxRecDepth 100000
open Go.Shelf Go.RowKit Go.Lib
variable {P : Program} {k : Nat} {α : Type} [Inhabited α]
set_option maxHeartbeats 4000000 in
set_option maxRecDepth 1000000 in
theorem rotate_any (L : SP P k) (enc : α → List Value) (g : Nat) (cb : Array Value) (blk off cap a m b : Nat) (d0 d : Array α) (w0 w : World)
    (R : RowK enc k w0 blk off d0) (hs : d0.size = d.size) (S : SWK enc k w0 blk off d w) (ham : a < m) (hmb : m < b) (hb : b ≤ d.size) (hsz : d.size < 4611686018427387904) :
    Calls P 148 #[.slice (some ⟨blk, off, none⟩) d.size cap, .int .i64 a, .int .i64 m, .int .i64 b, .func (.func g) #[] cb] w fun e w' => e = .returned (.tuple #[]) ∧ ∃ d' : Array α, d'.size = d.size ∧ vw d' = rot (vw d) a m b ∧ SWK enc k w0 blk off d' w' := by
  have mixed := L.mixed; have t0 := L.t0; have a0 := L.a0; have z0 := L.z0; have v0 := L.v0; have t3 := L.t3; have a3 := L.a3; have z3 := L.z3; have v3 := L.v3; have t4 := L.t4; have a4 := L.a4; have z4 := L.z4; have v4 := L.v4; have t7 := L.t7; have a7 := L.a7; have z7 := L.z7; have v7 := L.v7; have tf := L.tf; have af := L.af; have zf := L.zf; have vf := L.vf; have aE := L.aE; have zE := L.zE
  have FG := L.fr
  have es : ∀ args w, (callFunc 156 args).run P w = .ok (.enter 156 args) w := enters_of L.fs (by kernel_rfl) rfl
  have SR : Hid (∀ (p q n : Nat) (dk : Array α) (W : World), dk.size = d.size → SWK enc k w0 blk off dk W → p + n ≤ q → q + n ≤ d.size → Calls P 156 #[.slice (some ⟨blk, off, none⟩) d.size cap, .int .i64 p, .int .i64 q, .int .i64 n, .func (.func g) #[] cb] W fun e w' => e = .returned (.tuple #[]) ∧ ∃ d' : Array α, d'.size = d.size ∧ vw d' = swr (vw dk) p q n ∧ SWK enc k w0 blk off d' w') := fun p q n dk W h1 h2 h3 h4 => by
    have := swapRange_any L enc g cb blk off cap p q n d0 dk w0 W R (by omega) h2 h3 (by omega) (by omega)
    rw [h1] at this
    exact this
  have S0 : Aside (SWK enc k w0 blk off d w) := S
  have HS : Hid (d0.size = d.size) := hs
  clear S
  go_enter FG, Tryd.ntmps148
  go_wp2
  go_loopg [10, 11] ((m - a) + (b - m)) (fun kx s10 s11 wr => ∃ (i j : Nat) (dk : Array α), s10 = .int .i64 i ∧ s11 = .int .i64 j ∧ 0 < i ∧ 0 < j ∧ i ≤ m ∧ m + j ≤ d.size ∧ i + j ≤ kx ∧ dk.size = d.size ∧ Aside (SWK enc k w0 blk off dk wr) ∧ Hid (rot (vw dk) (m - i) m (m + j) = rot (vw d) a m b))
  case atStart => exact ⟨m - a, b - m, d, by rw [show (m : Int) - (a : Int) = ((m - a : Nat) : Int) by omega], by rw [show (b : Int) - (m : Int) = ((b - m : Nat) : Int) by omega], by omega, by omega, by omega, by omega, Nat.le_refl _, rfl, S0, by show _ = _; rw [show m - (m - a) = a by omega, show m + (b - m) = b by omega]⟩
  case round =>
    clear S0
    obtain ⟨i, j, dk, rfl, rfl, hi0, hj0, him, hmj, hkx, hds, S1, heq⟩ := hrel
    obtain ⟨p, hp⟩ : ∃ p : Nat, m = p + i := ⟨m - i, by omega⟩
    have hpe : (m : Int) - (i : Int) = (p : Int) := by omega
    have HP : Hid (m = p + i) := hp
    have hpm : p ≤ m := by omega
    have hpi : p + i ≤ m := by omega
    clear hp
    by_cases hij : i = j
    · subst hij
      have hc := SR.out p m i dk wr hds S1.out (by omega) (by omega)
      have hneq : ((i : Int) != (i : Int)) = false := by simp
      go_wp2_with (go_at_fn 156; refine hc.mono ?_; rintro e w2 ⟨rfl, d2, hd2, hv2, S2⟩)
      go_end0
      refine ⟨rfl, d2, hd2, ?_, S2⟩
      rw [hv2, ← heq.out, rot_eq _ him, show m - i = p by have := HP.out; omega]
    · by_cases hgt : j < i
      · have hgz : (j : Int) < (i : Int) := by omega
        have hne : ¬ (i : Int) = (j : Int) := by omega
        have hneb : ((i : Int) != (j : Int)) = true := by simp; omega
        have hc := SR.out p m j dk wr hds S1.out (by omega) (by omega)
        go_wp2_with (go_at_fn 156; refine hc.mono ?_; rintro e w2 ⟨rfl, d2, hd2, hv2, S2⟩)
        go_roundg ((i - j) + j)
        case measure => omega
        case rel => exact ⟨i - j, j, d2, by rw [show (i : Int) - (j : Int) = ((i - j : Nat) : Int) by omega], rfl, by omega, by omega, by omega, by omega, Nat.le_refl _, hd2, S2, by
          show _ = _
          rw [hv2, ← heq.out, show p = m - i by have := HP.out; omega]
          exact rot_gt _ him hgt⟩
      · have hgz : ¬ (j : Int) < (i : Int) := by omega
        have hne : ¬ (i : Int) = (j : Int) := by omega
        have hneb : ((i : Int) != (j : Int)) = true := by simp; omega
        have hq : (m : Int) + (j : Int) - (i : Int) = ((m + j - i : Nat) : Int) := by omega
        have hc := SR.out p (m + j - i) i dk wr hds S1.out (by omega) (by omega)
        rw [← hq] at hc
        clear hq
        go_wp2_with (go_at_fn 156; refine hc.mono ?_; rintro e w2 ⟨rfl, d2, hd2, hv2, S2⟩)
        go_roundg (i + (j - i))
        case measure => omega
        case rel => exact ⟨i, j - i, d2, rfl, by rw [show (j : Int) - (i : Int) = ((j - i : Nat) : Int) by omega], by omega, by omega, by omega, by omega, Nat.le_refl _, hd2, S2, by
          show _ = _
          rw [hv2, ← heq.out, show p = m - i by have := HP.out; omega]
          exact rot_lt _ him (by omega)⟩
end Go.Proofs.YtfjehhdahpbbgaaDoor
