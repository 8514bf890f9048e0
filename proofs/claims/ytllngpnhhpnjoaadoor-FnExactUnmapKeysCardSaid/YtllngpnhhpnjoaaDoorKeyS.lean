/- The reference's MapKeys: l11Whole, l11Map, l02Int, l02Str. -/
import Derived.Test.YtllngpnhhpnjoaaDoorMapM
import Derived.Test.YtllngpnhhpnjoaaDoorCopy
import Derived.Test.YtllngpnhhpnjoaaDoorRight
namespace Go.Proofs.YtllngpnhhpnjoaaDoor
set_option linter.unusedVariables false
set_option maxRecDepth 100000
open Go.RowKit
theorem heap_alloc_here {w : World} {b : Nat} (o : Obj) (hb : b = w.heap.size) : (w.alloc o).heap[b]? = some o := by rw [hb]; exact heap_alloc_new w o
theorem Box.set4 {w : World} {b : Nat} {k n e : Int} {s : ByteArray} {sl v : Value} {T : TypeId} (h : Box w b k n e s sl T) : Box (w.setCell ⟨b, 4, none⟩ v) b k n e s v T := by
  unfold Box at *
  rw [heap_setCell_same w b 4 _ _ _ h]; rfl
theorem Box.free {w : World} {b i : Nat} {k n e : Int} {s : ByteArray} {sl : Value} {T : TypeId} (h : Box w b k n e s sl T) : w.frozen? ⟨b, i, none⟩ = false := frozen_of_row w b i _ _ h
theorem VRows.move {w w' : World} {base : Nat} {E : TypeId} {G : Nat → Prop} {v : Value} {ts : List V} (h : VRows w base E G v ts) (hz : w.heap.size ≤ w'.heap.size) (hk : ∀ x, (G x ∨ v.ownBlock = some x) → w'.heap[x]? = w.heap[x]?) : VRows w' base E G v ts := by
  obtain ⟨sls, Fs, h⟩ := h
  refine ⟨sls, Fs, ⟨⟨h.row.1, ?_⟩, h.len, h.wfs, fun i hi => (h.kids i hi).keep (fun x hx _ => hk x (.inl (h.sub i hi x hx))), h.sub, h.dis, h.own, fun x hx => ⟨(h.inG x hx).1, Nat.lt_of_lt_of_le (h.inG x hx).2 hz⟩⟩⟩
  rcases h.row.2 with h2 | ⟨g, cap, cur, rfl, hbg, hg, r⟩
  · exact .inl h2
  · exact .inr ⟨g, cap, cur, rfl, hbg, by rw [hk g (.inr rfl)]; exact hg, r⟩
/-- a value under way: its box, and the row of its kids so far; of what lies below the box nothing turns -/
def Acc (w W : World) (b base : Nat) (k n e : Int) (s : ByteArray) (us : List V) (o : Value) (G : Nat → Prop) : Prop :=
  Box W b k n e s o 30 ∧ VRows W base 30 G o us ∧ Below b w W
theorem Acc.stay {w W W' : World} {b base : Nat} {k n e : Int} {s : ByteArray} {us : List V} {o : Value} {G : Nat → Prop} (h : Acc w W b base k n e s us o G) (hb : Below W.heap.size W W') : Acc w W' b base k n e s us o G :=
  ⟨h.1.stay hb, h.2.1.keep hb, h.2.2.trans (hb.mono (Nat.le_of_lt (h.1.lt)))⟩
/-- behind an append and the store of its slice -/
theorem Acc.put {w W W1 W2 : World} {b base : Nat} {k n e : Int} {s : ByteArray} {us us2 : List V} {o v2 : Value} {G G2 : Nat → Prop} (h : Acc w W b base k n e s us o G) (hb : b < base) (hW : Below W.heap.size W W1) (hg : W1.grownBy W2 o.ownBlock)
    (hr : VRows W2 base 30 G2 v2 us2) : Acc w (W2.setCell ⟨b, 4, none⟩ v2) b base k n e s us2 v2 G2 := by
  have hbl := h.1.lt
  have z1 := hW.size
  have B2 : Box W2 b k n e s o 30 := by
    have hn : o.ownBlock ≠ some b := fun e => by have := (h.2.1.lt b e).1; omega
    exact (hg.block b (by omega) (fun e => hn e.symm)).trans (h.1.stay hW)
  refine ⟨B2.set4, hr.move (by simp) (fun x hx => heap_setCell_other _ _ _ _ (fun e => ?_)), ?_⟩
  · have e' : x = b := e
    rcases hx with hx | hx
    · have := (hr.inG x hx).1; omega
    · have := (hr.lt x hx).1; omega
  · refine Below.setCell ?_ (by simp) _
    refine (h.2.2.trans (hW.mono (by omega))).grown hg (by have := h.2.2.size; omega) (fun x hx => ?_)
    have := (h.2.1.lt x hx).1; omega
theorem Acc.own {w W : World} {b base : Nat} {k n e : Int} {s : ByteArray} {us : List V} {o : Value} {G : Nat → Prop} (h : Acc w W b base k n e s us o G) : OwnS W (fun x => base ≤ x) o us := h.2.1.own
theorem Acc.nil {w W : World} {b base : Nat} {k n e : Int} {s : ByteArray} (hB : Box W b k n e s (.slice none 0 0) 30) (hb : Below b w W) : Acc w W b base k n e s [] (.slice none 0 0) (fun _ => False) :=
  ⟨hB, VRows.nil _ _ _, hb⟩
def mapTs (l : List ByteArray) (m : Bool) (ts : List V) : List V := (trns (mapS l) m 0 ts).getD []
theorem mapTs_some (l : List ByteArray) (m : Bool) (ts : List V) : trns (mapS l) m 0 ts = some (mapTs l m ts) := by
  have key : ∀ (ts : List V) (i : Nat), ∃ us, trns (mapS l) m i ts = some us := by
    intro ts
    induction ts with
    | nil => intro i; exact ⟨[], by rw [trns]⟩
    | cons t ts ih =>
      intro i
      obtain ⟨us, hus⟩ := ih (i + 1)
      exact ⟨keyM l (m && decide (i % 2 = 0)) (mapT l t) :: us, by rw [trns, mapT_some, hus]; rfl⟩
  obtain ⟨us, h⟩ := key ts 0
  rw [mapTs, h]; rfl
theorem mapT_eq (l : List ByteArray) (t : V) : mapT l t = .mk t.k t.n t.e t.s (mapTs l (decide (t.k = 8)) t.kids) := by
  have h := mapT_some l t
  rw [trn_eq, mapTs_some] at h
  exact (Option.some.inj h).symm
theorem mapTs_take (l : List ByteArray) (m : Bool) (ts : List V) (j : Nat) (hj : j < ts.length) : mapTs l m (ts.take (j + 1)) = mapTs l m (ts.take j) ++ [keyM l (m && decide (j % 2 = 0)) (mapT l ts[j])] := by
  have h := trns_take (mapS l) m ts j hj
  rw [mapTs_some, mapTs_some, mapT_some] at h
  exact Option.some.inj h
theorem mapTs_length (l : List ByteArray) (m : Bool) (ts : List V) : (mapTs l m ts).length = ts.length := (trns_get _ _ _ _ _ (mapTs_some l m ts)).1
theorem l02Int_any (n : Int) (w : World) : Calls Tryd.prog 111 #[.int .i64 n] w fun e w' => e = .returned (.agg #[.int .i64 3, .int .i64 n, .int .i64 0, .string ⟨#[]⟩, .slice none 0 0]) ∧ Below w.heap.size w w' := by
  go_enter Tryd.func111, Tryd.ntmps111
  go_wp2_with fail
  exact bodyPost_ret (v := .agg #[.int .i64 3, .int .i64 n, .int .i64 0, .string ⟨#[]⟩, .slice none 0 0]) (by simp [results, Tryd.results111, go_sem]) rfl ⟨rfl, (by (repeat' (first | with_reducible exact Below.refl _ _ | with_reducible refine below_alloc ?_ _ ?_ | with_reducible refine Below.setCell ?_ ?_ _ | with_reducible refine Below.drew ?_ | with_reducible refine below_drewN ?_ _ | with_reducible refine below_step ?_ (by assumption) ?_ | with_reducible refine below_mark ?_ (by assumption) ?_)); all_goals (first | omega | (simp; done) | (simp; omega)))⟩
theorem l02Str_any (s : ByteArray) (w : World) : Calls Tryd.prog 119 #[.string s] w fun e w' => e = .returned (.agg #[.int .i64 5, .int .i64 0, .int .i64 0, .string s, .slice none 0 0]) ∧ Below w.heap.size w w' := by
  go_enter Tryd.func119, Tryd.ntmps119
  go_wp2_with fail
  exact bodyPost_ret (v := .agg #[.int .i64 5, .int .i64 0, .int .i64 0, .string s, .slice none 0 0]) (by simp [results, Tryd.results119, go_sem]) rfl ⟨rfl, (by (repeat' (first | with_reducible exact Below.refl _ _ | with_reducible refine below_alloc ?_ _ ?_ | with_reducible refine Below.setCell ?_ ?_ _ | with_reducible refine Below.drew ?_ | with_reducible refine below_drewN ?_ _ | with_reducible refine below_step ?_ (by assumption) ?_ | with_reducible refine below_mark ?_ (by assumption) ?_)); all_goals (first | omega | (simp; done) | (simp; omega)))⟩
set_option maxHeartbeats 1000000 in
theorem l11Whole_any (w0 : World) : ∀ (N : Nat) (v : Value) (t : V), t.sz < N → Rep w0 v t → t.sz ≤ 1048576 → ∀ (w : World), Below w0.heap.size w0 w →
    Calls Tryd.prog 77 #[v] w (BoolRet (whole t) w) := by
  intro N
  induction N with
  | zero => intro v t h; omega
  | succ N ih =>
  intro v t hN h hsz w hw
  obtain ⟨sl, rfl, hwf, hr⟩ := h
  have hts := V.sz_eq t
  have hlen := szs_length t.kids
  obtain ⟨a, b, off, cap, rfl, ha, hc, hm, sls, hel⟩ := hr.opened
  have HA := Lib.hid ha; have HE := Lib.hid hel; have HW := Lib.hid hw
  have V1 := Lib.hid (fun (j : Nat) (hj : j < t.kids.length) (W : World) (hW : Below w0.heap.size w0 W) => ih (t.kids[j].agg (sls j)) t.kids[j] (by have h1 := szs_mem (List.getElem_mem hj); omega) ⟨sls j, rfl, (HE.out j hj).2.1, (HE.out j hj).2.2⟩ (by have h1 := szs_mem (List.getElem_mem hj); omega) W hW)
  have hl : t.kids.length ≤ 1048576 := by omega
  have HY := Lib.hid (show ∀ j (hj : j < t.kids.length), (t.k = 8 ∧ j % 2 = 0 ∧ t.kids[j].k = 3) ∨ whole t.kids[j] = true → whole t = true from fun j hj h => by rw [whole_eq, wholes_any]; exact ⟨j, hj, by rw [Nat.zero_add]; simpa using h⟩)
  have HN := Lib.hid (show (∀ j (hj : j < t.kids.length), ¬ ((t.k = 8 ∧ j % 2 = 0 ∧ t.kids[j].k = 3) ∨ whole t.kids[j] = true)) → whole t = false from fun h => by
    cases hw : whole t with
    | false => rfl
    | true => rw [whole_eq, wholes_any] at hw; obtain ⟨j, hj, h2⟩ := hw; rw [Nat.zero_add] at h2; exact absurd (by simpa using h2) (h j hj))
  have BX := Lib.hid (Box.new w t.k t.n t.e t.s (.slice a t.kids.length cap) 30)
  clear ih hel ha hc hm hN hr hwf hlen hts hsz
  unfold V.agg
  generalize whole t = wt at *
  generalize t.k = k at *
  generalize t.n = n at *
  generalize t.e = e at *
  generalize t.s = s at *
  generalize t.kids = ts at *
  go_enter Tryd.func77, Tryd.ntmps77
  go_wp2_with fail
  go_loopw [3] (fun i wr => ∃ j : Nat, j ≤ ts.length ∧ i = .int .i64 j ∧ Hid (∀ q (hq : q < ts.length), q < j → ¬ ((k = 8 ∧ q % 2 = 0 ∧ ts[q].k = 3) ∨ whole ts[q] = true)) ∧ Below (w.alloc (.cells #[.int .i64 k, .int .i64 n, .int .i64 e, .string s, .slice a ts.length cap] 30)).heap.size (w.alloc (.cells #[.int .i64 k, .int .i64 n, .int .i64 e, .string s, .slice a ts.length cap] 30)) wr) (fun i _ => ts.length + 1 - (intOf i).toNat)
  case atStart => exact ⟨0, by omega, rfl, Lib.hid (fun q _ h => absurd h (by omega)), Below.refl _ _⟩
  case round =>
    obtain ⟨j, hj, rfl, HQ, hbl⟩ := hrel
    have HBL := Lib.hid (show Below w.heap.size w wr from Below.trans ((by (repeat' (first | with_reducible exact Below.refl _ _ | with_reducible refine below_alloc ?_ _ ?_ | with_reducible refine Below.setCell ?_ ?_ _ | with_reducible refine Below.drew ?_ | with_reducible refine below_drewN ?_ _ | with_reducible refine below_step ?_ (by assumption) ?_ | with_reducible refine below_mark ?_ (by assumption) ?_)); all_goals (first | omega | (simp; done) | (simp; omega)))) (hbl.mono (by simp)))
    obtain ⟨q0, -, -, -, q4⟩ := (BX.out.stay hbl).cells
    by_cases hlt : j < ts.length
    · have hne : ts ≠ [] := by intro e; rw [e] at hlt; simp at hlt
      obtain ⟨rfl, hbw⟩ := HA.out hne
      have HWR := Lib.hid (HW.out.trans (HBL.out.mono HW.out.size))
      obtain ⟨c0, c1, c2, c3, c4⟩ := (HE.out j hlt).1.keep (HWR.out.block b hbw)
      have VJ := Lib.hid (fun (W : World) (hW : Below wr.heap.size wr W) => V1.out j hlt W (below_step HWR.out hW (by have := HWR.out.size; omega)))
      have HY1 := Lib.hid (HY.out j hlt)
      have HQ1 := Lib.hid (show ¬ ((k = 8 ∧ j % 2 = 0 ∧ ts[j].k = 3) ∨ whole ts[j] = true) → ∀ q (hq : q < ts.length), q < j + 1 → ¬ ((k = 8 ∧ q % 2 = 0 ∧ ts[q].k = 3) ∨ whole ts[q] = true) from fun h q hq hqj => by
        by_cases e : q = j
        · subst e; exact h
        · exact HQ.out q hq (by omega))
      obtain ⟨a3, cap3, hs3⟩ := (HE.out j hlt).2.2.slice
      rw [hs3] at c4 VJ
      clear hs3 V1
      unfold V.agg at VJ
      generalize whole ts[j] = wj at *
      generalize hxk : ts[j].k = xk at *
      have HXK := Lib.hid hxk; clear hxk
      by_cases hyes : k = 8 ∧ j % 2 = 0 ∧ xk = 3
      · have H := Lib.hid (HY1.out (.inl hyes))
        obtain ⟨h8, h2, h3⟩ := hyes
        have t1 : (k == 8) = true := by simpa using h8
        have t2 : ((j : Int) % 2 == 0) = true := by simp; omega
        have t3 : (xk == 3) = true := by simpa using h3
        clear h8 h2 h3 HY1 HQ1
        go_wp2_with fail
        go_ret
        exact ⟨by rw [H.out]; rfl, HBL.out⟩
      · have key : ((k == 8) = false) ∨ ((k == 8) = true ∧ (((j : Int) % 2 == 0) = false)) ∨ ((k == 8) = true ∧ (((j : Int) % 2 == 0) = true) ∧ ((xk == 3) = false)) := by
          by_cases h8 : k = 8
          · by_cases h2 : j % 2 = 0
            · exact .inr (.inr ⟨by simpa using h8, by simp; omega, by simpa using fun e => hyes ⟨h8, h2, e⟩⟩)
            · exact .inr (.inl ⟨by simpa using h8, by simp; omega⟩)
          · exact .inl (by simpa using h8)
        cases hwj : wj with
        | true =>
          have H := Lib.hid (HY1.out (.inr hwj))
          rw [hwj] at VJ
          clear HY1 HQ1 hyes hwj
          rcases key with t1 | ⟨t1, t2⟩ | ⟨t1, t2, t3⟩
          all_goals (go_wp2_with fail; refine (VJ.out _ ((by (repeat' (first | with_reducible exact Below.refl _ _ | with_reducible refine below_alloc ?_ _ ?_ | with_reducible refine Below.setCell ?_ ?_ _ | with_reducible refine Below.drew ?_ | with_reducible refine below_drewN ?_ _ | with_reducible refine below_step ?_ (by assumption) ?_ | with_reducible refine below_mark ?_ (by assumption) ?_)); all_goals (first | omega | (simp; done) | (simp; omega))))).mono ?_; rintro x w1 ⟨rfl, hb1⟩; go_wp2_with fail; go_ret; exact ⟨by rw [H.out]; rfl, HBL.out.trans (Below.mono ((by (repeat' (first | with_reducible exact Below.refl _ _ | with_reducible refine below_alloc ?_ _ ?_ | with_reducible refine Below.setCell ?_ ?_ _ | with_reducible refine Below.drew ?_ | with_reducible refine below_drewN ?_ _ | with_reducible refine below_step ?_ (by assumption) ?_ | with_reducible refine below_mark ?_ (by assumption) ?_)); all_goals (first | omega | (simp; done) | (simp; omega)))) HBL.out.size)⟩)
        | false =>
          have H := Lib.hid (HQ1.out (by rintro (h | h); exact hyes h; rw [hwj] at h; cases h))
          rw [hwj] at VJ
          clear HY1 HQ1 hyes hwj
          rcases key with t1 | ⟨t1, t2⟩ | ⟨t1, t2, t3⟩
          all_goals
            go_wp2_with fail
            refine (VJ.out _ ((by (repeat' (first | with_reducible exact Below.refl _ _ | with_reducible refine below_alloc ?_ _ ?_ | with_reducible refine Below.setCell ?_ ?_ _ | with_reducible refine Below.drew ?_ | with_reducible refine below_drewN ?_ _ | with_reducible refine below_step ?_ (by assumption) ?_ | with_reducible refine below_mark ?_ (by assumption) ?_)); all_goals (first | omega | (simp; done) | (simp; omega))))).mono ?_
            rintro x w1 ⟨rfl, hb1⟩
            go_wp2_with fail
            go_roundw
            case rel => exact ⟨j + 1, by omega, by go_num, H, hbl.trans (Below.mono ((by (repeat' (first | with_reducible exact Below.refl _ _ | with_reducible refine below_alloc ?_ _ ?_ | with_reducible refine Below.setCell ?_ ?_ _ | with_reducible refine Below.drew ?_ | with_reducible refine below_drewN ?_ _ | with_reducible refine below_step ?_ (by assumption) ?_ | with_reducible refine below_mark ?_ (by assumption) ?_)); all_goals (first | omega | (simp; done) | (simp; omega)))) hbl.size)⟩
            case measure => simp [intOf]; omega
    · have H := Lib.hid (HN.out (fun q hq => HQ.out q hq (by omega)))
      go_wp2_with fail
      go_ret
      exact ⟨by rw [H.out]; rfl, HBL.out⟩
end Go.Proofs.YtllngpnhhpnjoaaDoor
