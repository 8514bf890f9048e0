/- The reference's MapKeys: l11Whole, l11Map, l02Int, l02Str. The reference's MapKeys: l11Map, and the whole. The reference's UnmapKeys: l11Unmap. -/
import Derived.Test.YtllngpnhhpnjoaaDoorMapM
import Derived.Test.YtllngpnhhpnjoaaDoorCopy
import Derived.Test.YtllngpnhhpnjoaaDoorRight
namespace Go.Proofs.YtllngpnhhpnjoaaDoor
set_option linter.unusedVariables false
set_option maxRecDepth 100000
open Go.RowKit
theorem heap_alloc_here {w : World} {b : Nat} (o : Obj) (hb : b = w.heap.size) : (w.alloc o).heap[b]? = some o := by rw [hb]; exact heap_alloc_new w o
theorem Box.set4 {w : World} {b : Nat} {k n e : Int} {s : ByteArray} {sl v : Value} {T : TypeId} (h : Box w b k n e s sl T) : Box (w.setCell ⟨b, 4, none⟩ v) b k n e s v T := by
  unfold Box at *
  rw [heap_setCell_same w b 4 _ _ _ h]; rfl
theorem Box.free {w : World} {b i : Nat} {k n e : Int} {s : ByteArray} {sl : Value} {T : TypeId} (h : Box w b k n e s sl T) : w.frozen? ⟨b, i, none⟩ = false := frozen_of_row w b i _ _ h
theorem VRows.move {w w' : World} {base : Nat} {E : TypeId} {G : Nat → Prop} {v : Value} {ts : List V} (h : VRows w base E G v ts) (hz : w.heap.size ≤ w'.heap.size) (hk : ∀ x, (G x ∨ v.ownBlock = some x) → w'.heap[x]? = w.heap[x]?) : VRows w' base E G v ts := by
  obtain ⟨sls, Fs, h⟩ := h
  refine ⟨sls, Fs, ⟨⟨h.row.1, ?_⟩, h.len, h.wfs, fun i hi => (h.kids i hi).keep (fun x hx _ => hk x (.inl (h.sub i hi x hx))), h.sub, h.dis, h.own, fun x hx => ⟨(h.inG x hx).1, Nat.lt_of_lt_of_le (h.inG x hx).2 hz⟩⟩⟩
  rcases h.row.2 with h2 | ⟨g, cap, cur, rfl, hbg, hg, r⟩
  · exact .inl h2
  · exact .inr ⟨g, cap, cur, rfl, hbg, by rw [hk g (.inr rfl)]; exact hg, r⟩
/-- a value under way: its box, and the row of its kids so far; of what lies below the box nothing turns -/
def Acc (w W : World) (b base : Nat) (k n e : Int) (s : ByteArray) (us : List V) (o : Value) (G : Nat → Prop) : Prop :=
  Box W b k n e s o 30 ∧ VRows W base 30 G o us ∧ Below b w W
theorem Acc.stay {w W W' : World} {b base : Nat} {k n e : Int} {s : ByteArray} {us : List V} {o : Value} {G : Nat → Prop} (h : Acc w W b base k n e s us o G) (hb : Below W.heap.size W W') : Acc w W' b base k n e s us o G :=
  ⟨h.1.stay hb, h.2.1.keep hb, h.2.2.trans (hb.mono (Nat.le_of_lt (h.1.lt)))⟩
/-- behind an append and the store of its slice -/
theorem Acc.put {w W W1 W2 : World} {b base : Nat} {k n e : Int} {s : ByteArray} {us us2 : List V} {o v2 : Value} {G G2 : Nat → Prop} (h : Acc w W b base k n e s us o G) (hb : b < base) (hW : Below W.heap.size W W1) (hg : W1.grownBy W2 o.ownBlock)
    (hr : VRows W2 base 30 G2 v2 us2) : Acc w (W2.setCell ⟨b, 4, none⟩ v2) b base k n e s us2 v2 G2 := by
  have hbl := h.1.lt
  have z1 := hW.size
  have B2 : Box W2 b k n e s o 30 := by
    have hn : o.ownBlock ≠ some b := fun e => by have := (h.2.1.lt b e).1; omega
    exact (hg.block b (by omega) (fun e => hn e.symm)).trans (h.1.stay hW)
  refine ⟨B2.set4, hr.move (by simp) (fun x hx => heap_setCell_other _ _ _ _ (fun e => ?_)), ?_⟩
  · have e' : x = b := e
    rcases hx with hx | hx
    · have := (hr.inG x hx).1; omega
    · have := (hr.lt x hx).1; omega
  · refine Below.setCell ?_ (by simp) _
    refine (h.2.2.trans (hW.mono (by omega))).grown hg (by have := h.2.2.size; omega) (fun x hx => ?_)
    have := (h.2.1.lt x hx).1; omega
theorem Acc.own {w W : World} {b base : Nat} {k n e : Int} {s : ByteArray} {us : List V} {o : Value} {G : Nat → Prop} (h : Acc w W b base k n e s us o G) : OwnS W (fun x => base ≤ x) o us := h.2.1.own
theorem Acc.nil {w W : World} {b base : Nat} {k n e : Int} {s : ByteArray} (hB : Box W b k n e s (.slice none 0 0) 30) (hb : Below b w W) : Acc w W b base k n e s [] (.slice none 0 0) (fun _ => False) :=
  ⟨hB, VRows.nil _ _ _, hb⟩
def mapTs (l : List ByteArray) (m : Bool) (ts : List V) : List V := (trns (mapS l) m 0 ts).getD []
theorem mapTs_some (l : List ByteArray) (m : Bool) (ts : List V) : trns (mapS l) m 0 ts = some (mapTs l m ts) := by
  have key : ∀ (ts : List V) (i : Nat), ∃ us, trns (mapS l) m i ts = some us := by
    intro ts
    induction ts with
    | nil => intro i; exact ⟨[], by rw [trns]⟩
    | cons t ts ih =>
      intro i
      obtain ⟨us, hus⟩ := ih (i + 1)
      exact ⟨keyM l (m && decide (i % 2 = 0)) (mapT l t) :: us, by rw [trns, mapT_some, hus]; rfl⟩
  obtain ⟨us, h⟩ := key ts 0
  rw [mapTs, h]; rfl
theorem mapT_eq (l : List ByteArray) (t : V) : mapT l t = .mk t.k t.n t.e t.s (mapTs l (decide (t.k = 8)) t.kids) := by
  have h := mapT_some l t
  rw [trn_eq, mapTs_some] at h
  exact (Option.some.inj h).symm
theorem mapTs_take (l : List ByteArray) (m : Bool) (ts : List V) (j : Nat) (hj : j < ts.length) : mapTs l m (ts.take (j + 1)) = mapTs l m (ts.take j) ++ [keyM l (m && decide (j % 2 = 0)) (mapT l ts[j])] := by
  have h := trns_take (mapS l) m ts j hj
  rw [mapTs_some, mapTs_some, mapT_some] at h
  exact Option.some.inj h
theorem mapTs_length (l : List ByteArray) (m : Bool) (ts : List V) : (mapTs l m ts).length = ts.length := (trns_get _ _ _ _ _ (mapTs_some l m ts)).1
theorem l02Int_any (n : Int) (w : World) : Calls Tryd.prog 111 #[.int .i64 n] w fun e w' => e = .returned (.agg #[.int .i64 3, .int .i64 n, .int .i64 0, .string ⟨#[]⟩, .slice none 0 0]) ∧ Below w.heap.size w w' := by
  go_enter Tryd.func111, Tryd.ntmps111
  go_wp2_with fail
  exact bodyPost_ret (v := .agg #[.int .i64 3, .int .i64 n, .int .i64 0, .string ⟨#[]⟩, .slice none 0 0]) (by simp [results, Tryd.results111, go_sem]) rfl ⟨rfl, (by (repeat' (first | with_reducible exact Below.refl _ _ | with_reducible refine below_alloc ?_ _ ?_ | with_reducible refine Below.setCell ?_ ?_ _ | with_reducible refine Below.drew ?_ | with_reducible refine below_drewN ?_ _ | with_reducible refine below_step ?_ (by assumption) ?_ | with_reducible refine below_mark ?_ (by assumption) ?_)); all_goals (first | omega | (simp; done) | (simp; omega)))⟩
theorem l02Str_any (s : ByteArray) (w : World) : Calls Tryd.prog 119 #[.string s] w fun e w' => e = .returned (.agg #[.int .i64 5, .int .i64 0, .int .i64 0, .string s, .slice none 0 0]) ∧ Below w.heap.size w w' := by
  go_enter Tryd.func119, Tryd.ntmps119
  go_wp2_with fail
  exact bodyPost_ret (v := .agg #[.int .i64 5, .int .i64 0, .int .i64 0, .string s, .slice none 0 0]) (by simp [results, Tryd.results119, go_sem]) rfl ⟨rfl, (by (repeat' (first | with_reducible exact Below.refl _ _ | with_reducible refine below_alloc ?_ _ ?_ | with_reducible refine Below.setCell ?_ ?_ _ | with_reducible refine Below.drew ?_ | with_reducible refine below_drewN ?_ _ | with_reducible refine below_step ?_ (by assumption) ?_ | with_reducible refine below_mark ?_ (by assumption) ?_)); all_goals (first | omega | (simp; done) | (simp; omega)))⟩
set_option maxHeartbeats 1000000 in
theorem l11Whole_any (w0 : World) : ∀ (N : Nat) (v : Value) (t : V), t.sz < N → Rep w0 v t → t.sz ≤ 1048576 → ∀ (w : World), Below w0.heap.size w0 w →
    Calls Tryd.prog 77 #[v] w (BoolRet (whole t) w) := by
  intro N
  induction N with
  | zero => intro v t h; omega
  | succ N ih =>
  intro v t hN h hsz w hw
  obtain ⟨sl, rfl, hwf, hr⟩ := h
  have hts := V.sz_eq t
  have hlen := szs_length t.kids
  obtain ⟨a, b, off, cap, rfl, ha, hc, hm, sls, hel⟩ := hr.opened
  have HA := Lib.hid ha; have HE := Lib.hid hel; have HW := Lib.hid hw
  have V1 := Lib.hid (fun (j : Nat) (hj : j < t.kids.length) (W : World) (hW : Below w0.heap.size w0 W) => ih (t.kids[j].agg (sls j)) t.kids[j] (by have h1 := szs_mem (List.getElem_mem hj); omega) ⟨sls j, rfl, (HE.out j hj).2.1, (HE.out j hj).2.2⟩ (by have h1 := szs_mem (List.getElem_mem hj); omega) W hW)
  have hl : t.kids.length ≤ 1048576 := by omega
  have HY := Lib.hid (show ∀ j (hj : j < t.kids.length), (t.k = 8 ∧ j % 2 = 0 ∧ t.kids[j].k = 3) ∨ whole t.kids[j] = true → whole t = true from fun j hj h => by rw [whole_eq, wholes_any]; exact ⟨j, hj, by rw [Nat.zero_add]; simpa using h⟩)
  have HN := Lib.hid (show (∀ j (hj : j < t.kids.length), ¬ ((t.k = 8 ∧ j % 2 = 0 ∧ t.kids[j].k = 3) ∨ whole t.kids[j] = true)) → whole t = false from fun h => by
    cases hw : whole t with
    | false => rfl
    | true => rw [whole_eq, wholes_any] at hw; obtain ⟨j, hj, h2⟩ := hw; rw [Nat.zero_add] at h2; exact absurd (by simpa using h2) (h j hj))
  have BX := Lib.hid (Box.new w t.k t.n t.e t.s (.slice a t.kids.length cap) 30)
  clear ih hel ha hc hm hN hr hwf hlen hts hsz
  unfold V.agg
  generalize whole t = wt at *
  generalize t.k = k at *
  generalize t.n = n at *
  generalize t.e = e at *
  generalize t.s = s at *
  generalize t.kids = ts at *
  go_enter Tryd.func77, Tryd.ntmps77
  go_wp2_with fail
  go_loopw [3] (fun i wr => ∃ j : Nat, j ≤ ts.length ∧ i = .int .i64 j ∧ Hid (∀ q (hq : q < ts.length), q < j → ¬ ((k = 8 ∧ q % 2 = 0 ∧ ts[q].k = 3) ∨ whole ts[q] = true)) ∧ Below (w.alloc (.cells #[.int .i64 k, .int .i64 n, .int .i64 e, .string s, .slice a ts.length cap] 30)).heap.size (w.alloc (.cells #[.int .i64 k, .int .i64 n, .int .i64 e, .string s, .slice a ts.length cap] 30)) wr) (fun i _ => ts.length + 1 - (intOf i).toNat)
  case atStart => exact ⟨0, by omega, rfl, Lib.hid (fun q _ h => absurd h (by omega)), Below.refl _ _⟩
  case round =>
    obtain ⟨j, hj, rfl, HQ, hbl⟩ := hrel
    have HBL := Lib.hid (show Below w.heap.size w wr from Below.trans ((by (repeat' (first | with_reducible exact Below.refl _ _ | with_reducible refine below_alloc ?_ _ ?_ | with_reducible refine Below.setCell ?_ ?_ _ | with_reducible refine Below.drew ?_ | with_reducible refine below_drewN ?_ _ | with_reducible refine below_step ?_ (by assumption) ?_ | with_reducible refine below_mark ?_ (by assumption) ?_)); all_goals (first | omega | (simp; done) | (simp; omega)))) (hbl.mono (by simp)))
    obtain ⟨q0, -, -, -, q4⟩ := (BX.out.stay hbl).cells
    by_cases hlt : j < ts.length
    · have hne : ts ≠ [] := by intro e; rw [e] at hlt; simp at hlt
      obtain ⟨rfl, hbw⟩ := HA.out hne
      have HWR := Lib.hid (HW.out.trans (HBL.out.mono HW.out.size))
      obtain ⟨c0, c1, c2, c3, c4⟩ := (HE.out j hlt).1.keep (HWR.out.block b hbw)
      have VJ := Lib.hid (fun (W : World) (hW : Below wr.heap.size wr W) => V1.out j hlt W (below_step HWR.out hW (by have := HWR.out.size; omega)))
      have HY1 := Lib.hid (HY.out j hlt)
      have HQ1 := Lib.hid (show ¬ ((k = 8 ∧ j % 2 = 0 ∧ ts[j].k = 3) ∨ whole ts[j] = true) → ∀ q (hq : q < ts.length), q < j + 1 → ¬ ((k = 8 ∧ q % 2 = 0 ∧ ts[q].k = 3) ∨ whole ts[q] = true) from fun h q hq hqj => by
        by_cases e : q = j
        · subst e; exact h
        · exact HQ.out q hq (by omega))
      obtain ⟨a3, cap3, hs3⟩ := (HE.out j hlt).2.2.slice
      rw [hs3] at c4 VJ
      clear hs3 V1
      unfold V.agg at VJ
      generalize whole ts[j] = wj at *
      generalize hxk : ts[j].k = xk at *
      have HXK := Lib.hid hxk; clear hxk
      by_cases hyes : k = 8 ∧ j % 2 = 0 ∧ xk = 3
      · have H := Lib.hid (HY1.out (.inl hyes))
        obtain ⟨h8, h2, h3⟩ := hyes
        have t1 : (k == 8) = true := by simpa using h8
        have t2 : ((j : Int) % 2 == 0) = true := by simp; omega
        have t3 : (xk == 3) = true := by simpa using h3
        clear h8 h2 h3 HY1 HQ1
        go_wp2_with fail
        go_ret
        exact ⟨by rw [H.out]; rfl, HBL.out⟩
      · have key : ((k == 8) = false) ∨ ((k == 8) = true ∧ (((j : Int) % 2 == 0) = false)) ∨ ((k == 8) = true ∧ (((j : Int) % 2 == 0) = true) ∧ ((xk == 3) = false)) := by
          by_cases h8 : k = 8
          · by_cases h2 : j % 2 = 0
            · exact .inr (.inr ⟨by simpa using h8, by simp; omega, by simpa using fun e => hyes ⟨h8, h2, e⟩⟩)
            · exact .inr (.inl ⟨by simpa using h8, by simp; omega⟩)
          · exact .inl (by simpa using h8)
        cases hwj : wj with
        | true =>
          have H := Lib.hid (HY1.out (.inr hwj))
          rw [hwj] at VJ
          clear HY1 HQ1 hyes hwj
          rcases key with t1 | ⟨t1, t2⟩ | ⟨t1, t2, t3⟩
          all_goals (go_wp2_with fail; refine (VJ.out _ ((by (repeat' (first | with_reducible exact Below.refl _ _ | with_reducible refine below_alloc ?_ _ ?_ | with_reducible refine Below.setCell ?_ ?_ _ | with_reducible refine Below.drew ?_ | with_reducible refine below_drewN ?_ _ | with_reducible refine below_step ?_ (by assumption) ?_ | with_reducible refine below_mark ?_ (by assumption) ?_)); all_goals (first | omega | (simp; done) | (simp; omega))))).mono ?_; rintro x w1 ⟨rfl, hb1⟩; go_wp2_with fail; go_ret; exact ⟨by rw [H.out]; rfl, HBL.out.trans (Below.mono ((by (repeat' (first | with_reducible exact Below.refl _ _ | with_reducible refine below_alloc ?_ _ ?_ | with_reducible refine Below.setCell ?_ ?_ _ | with_reducible refine Below.drew ?_ | with_reducible refine below_drewN ?_ _ | with_reducible refine below_step ?_ (by assumption) ?_ | with_reducible refine below_mark ?_ (by assumption) ?_)); all_goals (first | omega | (simp; done) | (simp; omega)))) HBL.out.size)⟩)
        | false =>
          have H := Lib.hid (HQ1.out (by rintro (h | h); exact hyes h; rw [hwj] at h; cases h))
          rw [hwj] at VJ
          clear HY1 HQ1 hyes hwj
          rcases key with t1 | ⟨t1, t2⟩ | ⟨t1, t2, t3⟩
          all_goals
            go_wp2_with fail
            refine (VJ.out _ ((by (repeat' (first | with_reducible exact Below.refl _ _ | with_reducible refine below_alloc ?_ _ ?_ | with_reducible refine Below.setCell ?_ ?_ _ | with_reducible refine Below.drew ?_ | with_reducible refine below_drewN ?_ _ | with_reducible refine below_step ?_ (by assumption) ?_ | with_reducible refine below_mark ?_ (by assumption) ?_)); all_goals (first | omega | (simp; done) | (simp; omega))))).mono ?_
            rintro x w1 ⟨rfl, hb1⟩
            go_wp2_with fail
            go_roundw
            case rel => exact ⟨j + 1, by omega, by go_num, H, hbl.trans (Below.mono ((by (repeat' (first | with_reducible exact Below.refl _ _ | with_reducible refine below_alloc ?_ _ ?_ | with_reducible refine Below.setCell ?_ ?_ _ | with_reducible refine Below.drew ?_ | with_reducible refine below_drewN ?_ _ | with_reducible refine below_step ?_ (by assumption) ?_ | with_reducible refine below_mark ?_ (by assumption) ?_)); all_goals (first | omega | (simp; done) | (simp; omega)))) hbl.size)⟩
            case measure => simp [intOf]; omega
    · have H := Lib.hid (HN.out (fun q hq => HQ.out q hq (by omega)))
      go_wp2_with fail
      go_ret
      exact ⟨by rw [H.out]; rfl, HBL.out⟩
end Go.Proofs.YtllngpnhhpnjoaaDoor
namespace Go.Proofs.YtllngpnhhpnjoaaDoor
set_option linter.unusedVariables false
set_option maxRecDepth 100000
open Go.RowKit
theorem atFrom_lo (s : ByteArray) : ∀ (l : List ByteArray) (i : Nat), -1 ≤ atFrom s i l
  | [], i => by simp [atFrom]
  | x :: l, i => by rw [atFrom]; split; omega; exact atFrom_lo s l (i + 1)
theorem atS_lo (l : List ByteArray) (s : ByteArray) : -1 ≤ atS l s := atFrom_lo s l 0
set_option maxHeartbeats 2000000 in
theorem l11Map_any (w0 : World) (nv : Value) (l : List ByteArray) (hl0 : RepSs w0 nv l) : ∀ (N : Nat) (v : Value) (t : V), t.sz < N → Rep w0 v t → t.sz ≤ 1048576 → ∀ (w : World), Below w0.heap.size w0 w →
    Calls Tryd.prog 78 #[v, nv] w (ValRet w (mapT l t)) := by
  intro N
  induction N with
  | zero => intro v t h; omega
  | succ N ih =>
  intro v t hN h hsz w hw
  obtain ⟨sl, rfl, hwf, hr⟩ := h
  have hts := V.sz_eq t
  have hlen := szs_length t.kids
  have HP := Lib.hid (show ∀ e w', (∃ sl, e = .returned (.agg #[.int .i64 t.k, .int .i64 t.n, .int .i64 t.e, .string t.s, sl]) ∧ OwnS w' (fun x => w.heap.size ≤ x) sl (mapTs l (decide (t.k = 8)) t.kids) ∧ Below w.heap.size w w') → ValRet w (mapT l t) e w' from
    fun e w' ⟨sl, h1, h2, h3⟩ => by rw [mapT_eq]; exact ⟨sl, h1, hwf, h2, h3⟩)
  obtain ⟨a, b, off, cap, rfl, ha, hc, hm, sls, hel⟩ := hr.opened
  have HA := Lib.hid ha; have HE := Lib.hid hel; have HW := Lib.hid hw
  have V1 := Lib.hid (fun (j : Nat) (hj : j < t.kids.length) (W : World) (hW : Below w0.heap.size w0 W) => ih (t.kids[j].agg (sls j)) t.kids[j] (by have h1 := szs_mem (List.getElem_mem hj); omega) ⟨sls j, rfl, (HE.out j hj).2.1, (HE.out j hj).2.2⟩ (by have h1 := szs_mem (List.getElem_mem hj); omega) W hW)
  have AT := Lib.hid (fun (s : ByteArray) (W : World) (hW : Below w0.heap.size w0 W) => l11At_any w0 nv l s hl0 W hW)
  have HT := Lib.hid (fun (j : Nat) (hj : j < t.kids.length) => mapTs_take l (decide (t.k = 8)) t.kids j hj)
  have HLN := Lib.hid (fun (j : Nat) => mapTs_length l (decide (t.k = 8)) (t.kids.take j))
  have hl : t.kids.length ≤ 1048576 := by omega
  obtain ⟨na, nn, nc, rfl⟩ : ∃ a n c, nv = .slice a n c := by obtain ⟨a, _, _, c, h, _⟩ := hl0; exact ⟨a, _, c, h⟩
  have HIN := Lib.hid (fun s => show In64 (atS l s) by
    rcases Int.lt_or_le (atS l s) 0 with h | h
    · have := atS_lo l s; exact ⟨by omega, by omega⟩
    · obtain ⟨k, hk, e, _⟩ := atS_at h
      obtain ⟨_, _, _, _, _, _, hc, hm, _⟩ := hl0
      exact ⟨by omega, by omega⟩)
  have BX := Lib.hid (show Box (((w.alloc (.cells #[.int .i64 t.k, .int .i64 t.n, .int .i64 t.e, .string t.s, .slice a t.kids.length cap] 30)).alloc (.cells #[.int .i64 0, .int .i64 0, .int .i64 0, .string ⟨#[]⟩, .slice none 0 0] 30)).alloc (.cells #[.int .i64 t.k, .int .i64 t.n, .int .i64 t.e, .string t.s, .slice none 0 0] 30)) w.heap.size t.k t.n t.e t.s (.slice a t.kids.length cap) 30 from ((Box.new w _ _ _ _ _ _).alloc _).alloc _)
  have BZ := Lib.hid (show Box (((w.alloc (.cells #[.int .i64 t.k, .int .i64 t.n, .int .i64 t.e, .string t.s, .slice a t.kids.length cap] 30)).alloc (.cells #[.int .i64 0, .int .i64 0, .int .i64 0, .string ⟨#[]⟩, .slice none 0 0] 30)).alloc (.cells #[.int .i64 t.k, .int .i64 t.n, .int .i64 t.e, .string t.s, .slice none 0 0] 30)) (w.heap.size + 1) 0 0 0 ⟨#[]⟩ (.slice none 0 0) 30 by
    have := (Box.new (w.alloc (.cells #[.int .i64 t.k, .int .i64 t.n, .int .i64 t.e, .string t.s, .slice a t.kids.length cap] 30)) 0 0 0 ⟨#[]⟩ (.slice none 0 0) 30).alloc (.cells #[.int .i64 t.k, .int .i64 t.n, .int .i64 t.e, .string t.s, .slice none 0 0] 30)
    rwa [show (w.alloc (.cells #[.int .i64 t.k, .int .i64 t.n, .int .i64 t.e, .string t.s, .slice a t.kids.length cap] 30)).heap.size = w.heap.size + 1 by simp] at this)
  have BO := Lib.hid (show Box (((w.alloc (.cells #[.int .i64 t.k, .int .i64 t.n, .int .i64 t.e, .string t.s, .slice a t.kids.length cap] 30)).alloc (.cells #[.int .i64 0, .int .i64 0, .int .i64 0, .string ⟨#[]⟩, .slice none 0 0] 30)).alloc (.cells #[.int .i64 t.k, .int .i64 t.n, .int .i64 t.e, .string t.s, .slice none 0 0] 30)) (w.heap.size + 1 + 1) t.k t.n t.e t.s (.slice none 0 0) 30 by
    have := Box.new ((w.alloc (.cells #[.int .i64 t.k, .int .i64 t.n, .int .i64 t.e, .string t.s, .slice a t.kids.length cap] 30)).alloc (.cells #[.int .i64 0, .int .i64 0, .int .i64 0, .string ⟨#[]⟩, .slice none 0 0] 30)) t.k t.n t.e t.s (.slice none 0 0) 30
    rwa [show ((w.alloc (.cells #[.int .i64 t.k, .int .i64 t.n, .int .i64 t.e, .string t.s, .slice a t.kids.length cap] 30)).alloc (.cells #[.int .i64 0, .int .i64 0, .int .i64 0, .string ⟨#[]⟩, .slice none 0 0] 30)).heap.size = w.heap.size + 1 + 1 by simp] at this)
  clear ih hel ha hc hm hN hr hwf hlen hts hsz hl0
  unfold V.agg
  generalize t.k = k at *
  generalize t.n = n at *
  generalize t.e = e at *
  generalize t.s = s at *
  generalize t.kids = ts at *
  go_enter Tryd.func78, Tryd.ntmps78
  go_wp2_with fail
  have HBW := Lib.hid (show Below w.heap.size w (((w.alloc (.cells #[.int .i64 k, .int .i64 n, .int .i64 e, .string s, .slice a ts.length cap] 30)).alloc (.cells #[.int .i64 0, .int .i64 0, .int .i64 0, .string ⟨#[]⟩, .slice none 0 0] 30)).alloc (.cells #[.int .i64 k, .int .i64 n, .int .i64 e, .string s, .slice none 0 0] 30)) from (by (repeat' (first | with_reducible exact Below.refl _ _ | with_reducible refine below_alloc ?_ _ ?_ | with_reducible refine Below.setCell ?_ ?_ _ | with_reducible refine Below.drew ?_ | with_reducible refine below_drewN ?_ _ | with_reducible refine below_step ?_ (by assumption) ?_ | with_reducible refine below_mark ?_ (by assumption) ?_)); all_goals (first | omega | (simp; done) | (simp; omega))))
  have HZW := Lib.hid (show (((w.alloc (.cells #[.int .i64 k, .int .i64 n, .int .i64 e, .string s, .slice a ts.length cap] 30)).alloc (.cells #[.int .i64 0, .int .i64 0, .int .i64 0, .string ⟨#[]⟩, .slice none 0 0] 30)).alloc (.cells #[.int .i64 k, .int .i64 n, .int .i64 e, .string s, .slice none 0 0] 30)).heap.size = w.heap.size + 1 + 1 + 1 by simp)
  generalize (((w.alloc (.cells #[.int .i64 k, .int .i64 n, .int .i64 e, .string s, .slice a ts.length cap] 30)).alloc (.cells #[.int .i64 0, .int .i64 0, .int .i64 0, .string ⟨#[]⟩, .slice none 0 0] 30)).alloc (.cells #[.int .i64 k, .int .i64 n, .int .i64 e, .string s, .slice none 0 0] 30)) = W3 at *
  go_loopw [6, 7, 8] (fun i _ _ wr => ∃ (j : Nat) (G : Nat → Prop) (o : Value), j ≤ ts.length ∧ i = .int .i64 j ∧ Acc W3 wr (w.heap.size + 1 + 1) (w.heap.size + 1 + 1 + 1) k n e s (mapTs l (decide (k = 8)) (ts.take j)) o G) (fun i _ _ _ => ts.length + 1 - (intOf i).toNat)
  case atStart => exact ⟨0, _, _, by omega, rfl, by have : mapTs l (decide (k = 8)) (ts.take 0) = [] := List.eq_nil_of_length_eq_zero (by rw [HLN.out]; simp)
                                                    rw [this]; exact Acc.nil BO.out (Below.refl _ _)⟩
  case round =>
    obtain ⟨j, G, o, hj, rfl, hacc⟩ := hrel
    have HACC := Lib.hid hacc; clear hacc
    have HBL := Lib.hid (HBW.out.trans (HACC.out.2.2.mono (by omega)))
    have hz9 := HACC.out.2.2.size
    rw [HZW.out] at hz9
    obtain ⟨q0, q1, q2, q3, q4⟩ := (show Box wr w.heap.size k n e s (.slice a ts.length cap) 30 from (HACC.out.2.2.block w.heap.size (by omega)).trans BX.out).cells
    by_cases hlt : j < ts.length
    · have hne : ts ≠ [] := by intro e; rw [e] at hlt; simp at hlt
      obtain ⟨rfl, hbw⟩ := HA.out hne
      have HWR := Lib.hid (HW.out.trans (HBL.out.mono HW.out.size))
      obtain ⟨c0, c1, c2, c3, c4⟩ := (HE.out j hlt).1.keep (HWR.out.block b hbw)
      have VJ := Lib.hid (fun (W : World) (hW : Below wr.heap.size wr W) => V1.out j hlt W (below_step HWR.out hW (by have := HWR.out.size; omega)))
      have ATJ := Lib.hid (fun (s : ByteArray) (W : World) (hW : Below wr.heap.size wr W) => AT.out s W (below_step HWR.out hW (by have := HWR.out.size; omega)))
      have HTJ := Lib.hid (HT.out j hlt)
      have HLEN := Lib.hid (show (mapTs l (decide (k = 8)) (ts.take j)).length ≤ 1048576 by rw [HLN.out, List.length_take]; omega)
      obtain ⟨a3, cap3, hs3⟩ := (HE.out j hlt).2.2.slice
      rw [hs3] at c4 VJ
      clear hs3 V1 AT HT HLN
      unfold V.agg at VJ
      generalize mapT l ts[j] = u at *
      generalize mapTs l (decide (k = 8)) (ts.take j) = L1 at *
      generalize ts[j] = tk at *
      go_wp2_with fail
      refine (VJ.out _ (Below.refl _ _)).mono ?_
      rintro x w1 ⟨s2, rfl, twf, ho, hb1⟩
      obtain ⟨sa, sn, sc, rfl⟩ : ∃ sa sn sc, s2 = .slice sa sn sc := by obtain ⟨p, q, e⟩ := ho.slice; exact ⟨p, _, q, e⟩
      unfold V.agg
      have hz1 := hb1.size
      have HO := Lib.hid ho.bound; clear ho
      have HWF := Lib.hid twf; clear twf
      obtain ⟨p0, p1, p2, p3, p4⟩ := ((show Box wr w.heap.size k n e s (.slice (some ⟨b, off, none⟩) ts.length cap) 30 from (HACC.out.2.2.block w.heap.size (by omega)).trans BX.out).stay hb1).cells
      obtain ⟨g0, g1, g2, g3, g4⟩ := (HACC.out.1.stay hb1).cells
      have hw1n : w.heap.size ≠ w1.heap.size := by omega
      have hw1s : w1.heap.size ≠ w.heap.size := by omega
      have hw1l : w.heap.size < w1.heap.size := by omega
      have hw1k : w.heap.size + 1 + 1 < w1.heap.size := by omega
      have hw1t : w1.heap.size ≠ w.heap.size + 1 + 1 := by omega
      have hw1m : w.heap.size + 1 + 1 ≠ w1.heap.size := by omega
      clear q0 q1 q2 q3 q4
      go_wp2_with fail
      refine (ATJ.out _ _ ((by (repeat' (first | with_reducible exact Below.refl _ _ | with_reducible refine below_alloc ?_ _ ?_ | with_reducible refine Below.setCell ?_ ?_ _ | with_reducible refine Below.drew ?_ | with_reducible refine below_drewN ?_ _ | with_reducible refine below_step ?_ (by assumption) ?_ | with_reducible refine below_mark ?_ (by assumption) ?_)); all_goals (first | omega | (simp; done) | (simp; omega))))).mono ?_
      rintro x w1' ⟨rfl, rfl⟩
      have HINJ := Lib.hid (HIN.out u.s)
      have HKE := Lib.hid (show ∀ c : Bool, keyM l c u = if c = true ∧ u.k = 5 ∧ 0 ≤ atS l u.s then intV (atS l u.s) else u from fun c => rfl)
      generalize hgq : atS l u.s = q at *
      clear hgq
      by_cases hyes : k = 8 ∧ j % 2 = 0 ∧ u.k = 5 ∧ 0 ≤ q
      · have HK := Lib.hid (show keyM l (decide (k = 8) && decide (j % 2 = 0)) u = intV q by rw [HKE.out, if_pos ⟨by simp [hyes.1, hyes.2.1], hyes.2.2.1, hyes.2.2.2⟩])
        obtain ⟨h8, h2, h5, h0⟩ := hyes
        have t1 : (k == 8) = true := by simpa using h8
        have t2 : ((j : Int) % 2 == 0) = true := by simp; omega
        have t3 : (u.k == 5) = true := by simpa using h5
        have t4 : decide (0 ≤ q) = true := decide_eq_true h0
        have HWI := Lib.hid (show (intV q).wf from ⟨⟨by show (-9223372036854775808 : Int) ≤ 3; omega, by show (3 : Int) ≤ _; omega⟩, HINJ.out, ⟨by show (-9223372036854775808 : Int) ≤ 0; omega, by show (0 : Int) ≤ _; omega⟩, by show ByteArray.size ⟨#[]⟩ ≤ _; simp [ByteArray.size]⟩)
        clear h8 h2 h5
        go_wp2_with fail
        refine (l02Int_any q _).mono ?_
        rintro x w3 ⟨rfl, hb3⟩
        have hz3 := hb3.size
        simp at hz3
        obtain ⟨y0, y1, y2, y3, y4⟩ := (((Box.new w1 u.k u.n u.e u.s (.slice sa sn sc) 30).stay hb3)).cells
        have yf := fun i => (((Box.new w1 u.k u.n u.e u.s (.slice sa sn sc) 30).stay hb3)).free (i := i)
        have yf0 := yf 0; have yf1 := yf 1; have yf2 := yf 2; have yf3 := yf 3; have yf4 := yf 4
        clear yf g0 g1 g2 g3 g4 p0 p1 p2 p3 p4
        obtain ⟨g0, g1, g2, g3, g4⟩ := (HACC.out.stay (show Below wr.heap.size wr w3 from (by (repeat' (first | with_reducible exact Below.refl _ _ | with_reducible refine below_alloc ?_ _ ?_ | with_reducible refine Below.setCell ?_ ?_ _ | with_reducible refine Below.drew ?_ | with_reducible refine below_drewN ?_ _ | with_reducible refine below_step ?_ (by assumption) ?_ | with_reducible refine below_mark ?_ (by assumption) ?_)); all_goals (first | omega | (simp; done) | (simp; omega))))).1.cells
        go_wp2_with (at_builtin; go_loud (refine app_own rfl _ _ rfl (w.heap.size + 1 + 1 + 1) G (fun _ => False) _ L1 rfl ((HACC.out.stay ((by (repeat' (first | with_reducible exact Below.refl _ _ | with_reducible refine below_alloc ?_ _ ?_ | with_reducible refine Below.setCell ?_ ?_ _ | with_reducible refine Below.drew ?_ | with_reducible refine below_drewN ?_ _ | with_reducible refine below_step ?_ (by assumption) ?_ | with_reducible refine below_mark ?_ (by assumption) ?_)); all_goals (first | omega | (simp; done) | (simp; omega))))).2.1) (intV q) (.slice none 0 0) _ rfl (by first | exact heap_alloc_here _ (by simp) | exact heap_alloc_here _ rfl) HWI.out (OwnS.nil _ _) (fun x hx => hx.elim) (by have := HLEN.out; omega) (by simp; omega) ?_); intro v2 w2 hrow2 hg2 hfr2; obtain ⟨va, vn, vc, rfl⟩ := hrow2.slice3; have HG2 := Lib.hid hg2; have HR2 := Lib.hid hrow2; have HB2 := Lib.hid (show Box w2 (w.heap.size + 1 + 1) k n e s o 30 from (hg2.block (w.heap.size + 1 + 1) (by simp; omega) (fun e => by have := (HACC.out.2.1.lt _ e.symm).1; omega)).trans (HACC.out.stay ((by (repeat' (first | with_reducible exact Below.refl _ _ | with_reducible refine below_alloc ?_ _ ?_ | with_reducible refine Below.setCell ?_ ?_ _ | with_reducible refine Below.drew ?_ | with_reducible refine below_drewN ?_ _ | with_reducible refine below_step ?_ (by assumption) ?_ | with_reducible refine below_mark ?_ (by assumption) ?_)); all_goals (first | omega | (simp; done) | (simp; omega))))).1); have hfz := HB2.out.free (i := 4); have hcc := HB2.out.cells.2.2.2.2; clear hrow2 hg2 hfr2)
        go_roundw
        case rel => exact ⟨j + 1, _, _, by omega, by go_num, by rw [HTJ.out, HK.out]; exact HACC.out.put (by omega) ((by (repeat' (first | with_reducible exact Below.refl _ _ | with_reducible refine below_alloc ?_ _ ?_ | with_reducible refine Below.setCell ?_ ?_ _ | with_reducible refine Below.drew ?_ | with_reducible refine below_drewN ?_ _ | with_reducible refine below_step ?_ (by assumption) ?_ | with_reducible refine below_mark ?_ (by assumption) ?_)); all_goals (first | omega | (simp; done) | (simp; omega)))) HG2.out HR2.out⟩
        case measure => simp [intOf]; omega
      · have HK := Lib.hid (show keyM l (decide (k = 8) && decide (j % 2 = 0)) u = u by rw [HKE.out, if_neg]; rintro ⟨h1, h2, h3⟩; simp only [Bool.and_eq_true, decide_eq_true_eq] at h1; exact hyes ⟨h1.1, h1.2, h2, h3⟩)
        have key : ((k == 8) = false) ∨ ((k == 8) = true ∧ (((j : Int) % 2 == 0) = false)) ∨ ((k == 8) = true ∧ (((j : Int) % 2 == 0) = true) ∧ ((u.k == 5) = false)) ∨ ((k == 8) = true ∧ (((j : Int) % 2 == 0) = true) ∧ ((u.k == 5) = true) ∧ decide (0 ≤ q) = false) := by
          by_cases h8 : k = 8
          · by_cases h2 : j % 2 = 0
            · by_cases h5 : u.k = 5
              · exact .inr (.inr (.inr ⟨by simpa using h8, by simp; omega, by simpa using h5, decide_eq_false (fun e => hyes ⟨h8, h2, h5, e⟩)⟩))
              · exact .inr (.inr (.inl ⟨by simpa using h8, by simp; omega, by simpa using h5⟩))
            · exact .inr (.inl ⟨by simpa using h8, by simp; omega⟩)
          · exact .inl (by simpa using h8)
        clear hyes
        rcases key with t1 | ⟨t1, t2⟩ | ⟨t1, t2, t3⟩ | ⟨t1, t2, t3, t4⟩
        all_goals
          go_wp2_with (at_builtin; refine app_own rfl _ _ rfl (w.heap.size + 1 + 1 + 1) G (fun x => wr.heap.size ≤ x ∧ x < w1.heap.size) _ L1 rfl ((HACC.out.stay ((by (repeat' (first | with_reducible exact Below.refl _ _ | with_reducible refine below_alloc ?_ _ ?_ | with_reducible refine Below.setCell ?_ ?_ _ | with_reducible refine Below.drew ?_ | with_reducible refine below_drewN ?_ _ | with_reducible refine below_step ?_ (by assumption) ?_ | with_reducible refine below_mark ?_ (by assumption) ?_)); all_goals (first | omega | (simp; done) | (simp; omega))))).2.1) u (.slice sa sn sc) _ rfl (by first | exact heap_alloc_here _ (by simp) | exact heap_alloc_here _ rfl) HWF.out (HO.out.keep (fun x hx hxs => (show Below w1.heap.size w1 _ from (by (repeat' (first | with_reducible exact Below.refl _ _ | with_reducible refine below_alloc ?_ _ ?_ | with_reducible refine Below.setCell ?_ ?_ _ | with_reducible refine Below.drew ?_ | with_reducible refine below_drewN ?_ _ | with_reducible refine below_step ?_ (by assumption) ?_ | with_reducible refine below_mark ?_ (by assumption) ?_)); all_goals (first | omega | (simp; done) | (simp; omega)))).block x hxs)) (fun x hx => ⟨by omega, by simp; omega, fun hG => by have := (HACC.out.2.1.inG x hG).2; omega, fun e => by have := (HACC.out.2.1.lt x e).2; omega⟩) (by have := HLEN.out; omega) (by simp; omega) ?_; intro v2 w2 hrow2 hg2 hfr2; obtain ⟨va, vn, vc, rfl⟩ := hrow2.slice3; have HG2 := Lib.hid hg2; have HR2 := Lib.hid hrow2; have HB2 := Lib.hid (show Box w2 (w.heap.size + 1 + 1) k n e s o 30 from (hg2.block (w.heap.size + 1 + 1) (by simp; omega) (fun e => by have := (HACC.out.2.1.lt _ e.symm).1; omega)).trans (HACC.out.stay ((by (repeat' (first | with_reducible exact Below.refl _ _ | with_reducible refine below_alloc ?_ _ ?_ | with_reducible refine Below.setCell ?_ ?_ _ | with_reducible refine Below.drew ?_ | with_reducible refine below_drewN ?_ _ | with_reducible refine below_step ?_ (by assumption) ?_ | with_reducible refine below_mark ?_ (by assumption) ?_)); all_goals (first | omega | (simp; done) | (simp; omega))))).1); have hfz := HB2.out.free (i := 4); have hcc := HB2.out.cells.2.2.2.2; clear hrow2 hg2 hfr2)
          go_roundw
          case rel => exact ⟨j + 1, _, _, by omega, by go_num, by rw [HTJ.out, HK.out]; exact HACC.out.put (by omega) ((by (repeat' (first | with_reducible exact Below.refl _ _ | with_reducible refine below_alloc ?_ _ ?_ | with_reducible refine Below.setCell ?_ ?_ _ | with_reducible refine Below.drew ?_ | with_reducible refine below_drewN ?_ _ | with_reducible refine below_step ?_ (by assumption) ?_ | with_reducible refine below_mark ?_ (by assumption) ?_)); all_goals (first | omega | (simp; done) | (simp; omega)))) HG2.out HR2.out⟩
          case measure => simp [intOf]; omega
    · have H := Lib.hid (show ts.take j = ts from List.take_of_length_le (by omega))
      obtain ⟨oa, on, oc, rfl⟩ := HACC.out.2.1.slice3
      obtain ⟨g0, g1, g2, g3, g4⟩ := HACC.out.1.cells
      have BZr := Lib.hid (show Box wr (w.heap.size + 1) 0 0 0 ⟨#[]⟩ (.slice none 0 0) 30 from (HACC.out.2.2.block (w.heap.size + 1) (by omega)).trans BZ.out)
      obtain ⟨z0, z1, z2, z3, z4⟩ := BZr.out.cells
      have zf0 := BZr.out.free (i := 0); have zf1 := BZr.out.free (i := 1); have zf2 := BZr.out.free (i := 2); have zf3 := BZr.out.free (i := 3); have zf4 := BZr.out.free (i := 4)
      have HO := Lib.hid (show OwnS wr (fun x => w.heap.size + 1 + 1 + 1 ≤ x) (.slice oa on oc) (mapTs l (decide (k = 8)) ts) by have := HACC.out.own; rwa [H.out] at this)
      clear H HE HA V1 HT HLN AT BX BO BZ BZr HACC
      go_wp2_with fail
      refine bodyPost_ret (v := .agg #[.int .i64 k, .int .i64 n, .int .i64 e, .string s, .slice oa on oc]) (by simp [results, Tryd.results78, go_sem, z0, z1, z2, z3, z4]) rfl (HP.out _ _ ⟨_, rfl, ?_, ?_⟩)
      · refine OwnS.mono (F := fun x => w.heap.size + 1 + 1 + 1 ≤ x) ?_ (fun x hx => by omega)
        repeat refine OwnS.set ?_ _ _ (by first | omega | (simp; done) | (simp; omega))
        exact HO.out
      · repeat' (refine Below.setCell ?_ ?_ _)
        all_goals (first | exact HBL.out | (simp; done) | (simp; omega))
end Go.Proofs.YtllngpnhhpnjoaaDoor
namespace Go.Proofs.YtllngpnhhpnjoaaDoor
set_option linter.unusedVariables false
set_option maxRecDepth 100000
open Go.RowKit
/-- a turned value and true, or any value and false -/
def ByRet (o : Option V) (w : World) (e : Ending) (w' : World) : Prop := match o with
  | some u => ∃ sl, e = .returned (.tuple #[u.agg sl, .bool true]) ∧ u.wf ∧ OwnS w' (fun x => w.heap.size ≤ x) sl u.kids ∧ Below w.heap.size w w'
  | none => ∃ (t' : V) (a : Option Addr) (n c : Nat), e = .returned (.tuple #[t'.agg (.slice a n c), .bool false]) ∧ Below w.heap.size w w'
theorem zero5_wf (k n : Int) (s : ByteArray) (hk : In64 k) (hn : In64 n) (hs : s.size ≤ 9223372036854775807) : (V.mk k n 0 s []).wf := ⟨hk, hn, ⟨by show (-9223372036854775808 : Int) ≤ 0; omega, by show (0 : Int) ≤ _; omega⟩, hs⟩
theorem in64_small {n : Int} (h0 : 0 ≤ n) (h1 : n ≤ 9223372036854775807) : In64 n := ⟨by omega, h1⟩
theorem RepSs.getB {w : World} {a : Option Addr} {n c : Nat} {l : List ByteArray} (h : RepSs w (.slice a n c) l) : n = l.length ∧ l.length ≤ 9223372036854775807 ∧ ∀ j, (hj : j < l.length) → ∃ b off, a = some ⟨b, off, none⟩ ∧ w.cell? ⟨b, off + j, none⟩ = some (.string l[j]) ∧ l[j].size ≤ 9223372036854775807 := by
  obtain ⟨a', b, off, cap, hv, ha, hc, hm, hcell⟩ := h
  simp only [Value.slice.injEq] at hv
  obtain ⟨rfl, rfl, rfl⟩ := hv
  refine ⟨rfl, by omega, fun j hj => ?_⟩
  have hne : l ≠ [] := by intro e; rw [e] at hj; simp at hj
  exact ⟨b, off, (ha hne).1, (hcell j hj).1, (hcell j hj).2⟩
set_option maxHeartbeats 2000000 in
theorem l11Unmap_any (w0 : World) (nv : Value) (l : List ByteArray) (hl0 : RepSs w0 nv l) : ∀ (N : Nat) (v : Value) (t : V) (d : Int), t.sz < N → rightB t d = true → Rep w0 v t → t.sz ≤ 1048576 → ∀ (w : World), Below w0.heap.size w0 w →
    Calls Tryd.prog 82 #[v, nv] w (ByRet (trn (unS l) t) w) := by
  intro N
  induction N with
  | zero => intro v t d h; omega
  | succ N ih =>
  intro v t d hN hright h hsz w hw
  obtain ⟨sl, rfl, hwf, hr⟩ := h
  have hts := V.sz_eq t
  have hlen := szs_length t.kids
  have HPS := Lib.hid (show ∀ us, trns (unS l) (decide (t.k = 8)) 0 t.kids = some us → ∀ e w', (∃ sl, e = .returned (.tuple #[.agg #[.int .i64 t.k, .int .i64 t.n, .int .i64 t.e, .string t.s, sl], .bool true]) ∧ OwnS w' (fun x => w.heap.size ≤ x) sl us ∧ Below w.heap.size w w') → ByRet (trn (unS l) t) w e w' from
    fun us hu e w' ⟨sl, h1, h2, h3⟩ => by rw [trn_eq, hu]; exact ⟨sl, h1, hwf, h2, h3⟩)
  have HPN := Lib.hid (show trns (unS l) (decide (t.k = 8)) 0 t.kids = none → ∀ e w', (∃ t' a n c, e = .returned (.tuple #[V.agg t' (.slice a n c), .bool false]) ∧ Below w.heap.size w w') → ByRet (trn (unS l) t) w e w' from
    fun hu e w' h => by rw [trn_eq, hu]; exact h)
  obtain ⟨a, b, off, cap, rfl, ha, hc, hm, sls, hel⟩ := hr.opened
  have HA := Lib.hid ha; have HE := Lib.hid hel; have HW := Lib.hid hw
  have HR := Lib.hid (fun (j : Nat) (hj : j < t.kids.length) => rightsB_at (right_kids hright) j hj)
  have HKY := Lib.hid (fun (j : Nat) (hj : j < t.kids.length) (h8 : t.k = 8) (h2 : j % 2 = 0) => key_at hright h8 j hj h2)
  have V1 := Lib.hid (fun (j : Nat) (hj : j < t.kids.length) (W : World) (hW : Below w0.heap.size w0 W) => ih (t.kids[j].agg (sls j)) t.kids[j] (d - 1) (by have h1 := szs_mem (List.getElem_mem hj); omega) (HR.out j hj) ⟨sls j, rfl, (HE.out j hj).2.1, (HE.out j hj).2.2⟩ (by have h1 := szs_mem (List.getElem_mem hj); omega) W hW)
  have HT := Lib.hid (fun (j : Nat) (hj : j < t.kids.length) => trns_take (unS l) (decide (t.k = 8)) t.kids j hj)
  have hl : t.kids.length ≤ 1048576 := by omega
  obtain ⟨na, nn, nc, rfl⟩ : ∃ a n c, nv = .slice a n c := by obtain ⟨a, _, _, c, h, _⟩ := hl0; exact ⟨a, _, c, h⟩
  have HLB := Lib.hid (hl0.getB)
  have HLK := Lib.hid (fun (W : World) (hW : Below w0.heap.size w0 W) => (hl0.keep hW).getB.2.2)
  have HKL := Lib.hid (fun (j : Nat) (hj : j < t.kids.length) (hk : isKeyB t.kids[j] = true) => leaf_trn (unS l) (key_leaf (HR.out j hj) hk))
  have BX := Lib.hid (show Box (((w.alloc (.cells #[.int .i64 t.k, .int .i64 t.n, .int .i64 t.e, .string t.s, .slice a t.kids.length cap] 30)).alloc (.cells #[.int .i64 0, .int .i64 0, .int .i64 0, .string ⟨#[]⟩, .slice none 0 0] 30)).alloc (.cells #[.int .i64 t.k, .int .i64 t.n, .int .i64 t.e, .string t.s, .slice none 0 0] 30)) w.heap.size t.k t.n t.e t.s (.slice a t.kids.length cap) 30 from ((Box.new w _ _ _ _ _ _).alloc _).alloc _)
  have BZ := Lib.hid (show Box (((w.alloc (.cells #[.int .i64 t.k, .int .i64 t.n, .int .i64 t.e, .string t.s, .slice a t.kids.length cap] 30)).alloc (.cells #[.int .i64 0, .int .i64 0, .int .i64 0, .string ⟨#[]⟩, .slice none 0 0] 30)).alloc (.cells #[.int .i64 t.k, .int .i64 t.n, .int .i64 t.e, .string t.s, .slice none 0 0] 30)) (w.heap.size + 1) 0 0 0 ⟨#[]⟩ (.slice none 0 0) 30 by
    have := (Box.new (w.alloc (.cells #[.int .i64 t.k, .int .i64 t.n, .int .i64 t.e, .string t.s, .slice a t.kids.length cap] 30)) 0 0 0 ⟨#[]⟩ (.slice none 0 0) 30).alloc (.cells #[.int .i64 t.k, .int .i64 t.n, .int .i64 t.e, .string t.s, .slice none 0 0] 30)
    rwa [show (w.alloc (.cells #[.int .i64 t.k, .int .i64 t.n, .int .i64 t.e, .string t.s, .slice a t.kids.length cap] 30)).heap.size = w.heap.size + 1 by simp] at this)
  have BO := Lib.hid (show Box (((w.alloc (.cells #[.int .i64 t.k, .int .i64 t.n, .int .i64 t.e, .string t.s, .slice a t.kids.length cap] 30)).alloc (.cells #[.int .i64 0, .int .i64 0, .int .i64 0, .string ⟨#[]⟩, .slice none 0 0] 30)).alloc (.cells #[.int .i64 t.k, .int .i64 t.n, .int .i64 t.e, .string t.s, .slice none 0 0] 30)) (w.heap.size + 1 + 1) t.k t.n t.e t.s (.slice none 0 0) 30 by
    have := Box.new ((w.alloc (.cells #[.int .i64 t.k, .int .i64 t.n, .int .i64 t.e, .string t.s, .slice a t.kids.length cap] 30)).alloc (.cells #[.int .i64 0, .int .i64 0, .int .i64 0, .string ⟨#[]⟩, .slice none 0 0] 30)) t.k t.n t.e t.s (.slice none 0 0) 30
    rwa [show ((w.alloc (.cells #[.int .i64 t.k, .int .i64 t.n, .int .i64 t.e, .string t.s, .slice a t.kids.length cap] 30)).alloc (.cells #[.int .i64 0, .int .i64 0, .int .i64 0, .string ⟨#[]⟩, .slice none 0 0] 30)).heap.size = w.heap.size + 1 + 1 by simp] at this)
  clear ih hel ha hc hm hN hr hwf hlen hts hsz hl0 hright
  unfold V.agg
  generalize trn (unS l) t = TR at *
  generalize t.k = k at *
  generalize t.n = n at *
  generalize t.e = e at *
  generalize t.s = s at *
  generalize t.kids = ts at *
  go_enter Tryd.func82, Tryd.ntmps82
  go_wp2_with fail
  have HBW := Lib.hid (show Below w.heap.size w (((w.alloc (.cells #[.int .i64 k, .int .i64 n, .int .i64 e, .string s, .slice a ts.length cap] 30)).alloc (.cells #[.int .i64 0, .int .i64 0, .int .i64 0, .string ⟨#[]⟩, .slice none 0 0] 30)).alloc (.cells #[.int .i64 k, .int .i64 n, .int .i64 e, .string s, .slice none 0 0] 30)) from (by (repeat' (first | with_reducible exact Below.refl _ _ | with_reducible refine below_alloc ?_ _ ?_ | with_reducible refine Below.setCell ?_ ?_ _ | with_reducible refine Below.drew ?_ | with_reducible refine below_drewN ?_ _ | with_reducible refine below_step ?_ (by assumption) ?_ | with_reducible refine below_mark ?_ (by assumption) ?_)); all_goals (first | omega | (simp; done) | (simp; omega))))
  have HZW := Lib.hid (show (((w.alloc (.cells #[.int .i64 k, .int .i64 n, .int .i64 e, .string s, .slice a ts.length cap] 30)).alloc (.cells #[.int .i64 0, .int .i64 0, .int .i64 0, .string ⟨#[]⟩, .slice none 0 0] 30)).alloc (.cells #[.int .i64 k, .int .i64 n, .int .i64 e, .string s, .slice none 0 0] 30)).heap.size = w.heap.size + 1 + 1 + 1 by simp)
  generalize (((w.alloc (.cells #[.int .i64 k, .int .i64 n, .int .i64 e, .string s, .slice a ts.length cap] 30)).alloc (.cells #[.int .i64 0, .int .i64 0, .int .i64 0, .string ⟨#[]⟩, .slice none 0 0] 30)).alloc (.cells #[.int .i64 k, .int .i64 n, .int .i64 e, .string s, .slice none 0 0] 30)) = W3 at *
  obtain ⟨rfl, hl63, -⟩ := HLB.out
  clear HLB
  go_loopw [7, 8, 9] (fun i _ _ wr => ∃ (j : Nat) (G : Nat → Prop) (o : Value) (L1 : List V), j ≤ ts.length ∧ i = .int .i64 j ∧ trns (unS l) (decide (k = 8)) 0 (ts.take j) = some L1 ∧ Acc W3 wr (w.heap.size + 1 + 1) (w.heap.size + 1 + 1 + 1) k n e s L1 o G) (fun i _ _ _ => ts.length + 1 - (intOf i).toNat)
  case atStart => exact ⟨0, _, _, [], by omega, rfl, by rw [List.take_zero, trns], Acc.nil BO.out (Below.refl _ _)⟩
  case round =>
    obtain ⟨j, G, o, L1, hj, rfl, htr, hacc⟩ := hrel
    have HACC := Lib.hid hacc; have HTR := Lib.hid htr; clear hacc htr
    have HBL := Lib.hid (HBW.out.trans (HACC.out.2.2.mono (by omega)))
    have hz9 := HACC.out.2.2.size
    rw [HZW.out] at hz9
    obtain ⟨q0, q1, q2, q3, q4⟩ := (show Box wr w.heap.size k n e s (.slice a ts.length cap) 30 from (HACC.out.2.2.block w.heap.size (by omega)).trans BX.out).cells
    by_cases hlt : j < ts.length
    · have hne : ts ≠ [] := by intro e; rw [e] at hlt; simp at hlt
      obtain ⟨rfl, hbw⟩ := HA.out hne
      have HWR := Lib.hid (HW.out.trans (HBL.out.mono HW.out.size))
      obtain ⟨c0, c1, c2, c3, c4⟩ := (HE.out j hlt).1.keep (HWR.out.block b hbw)
      have VJ := Lib.hid (fun (W : World) (hW : Below wr.heap.size wr W) => V1.out j hlt W (below_step HWR.out hW (by have := HWR.out.size; omega)))
      have HTJ0 := Lib.hid (HT.out j hlt)
      rw [HTR.out, Option.bind_some] at HTJ0
      have HLEN := Lib.hid (show L1.length ≤ 1048576 by have := (trns_get _ _ _ _ _ HTR.out).1; rw [this, List.length_take]; omega)
      have HSTK := Lib.hid (show trns (unS l) (decide (k = 8)) 0 (ts.take (j + 1)) = none → trns (unS l) (decide (k = 8)) 0 ts = none from trns_none _ _ _ _)
      have HUS := Lib.hid (show ∀ (b : Bool) (t : V) (r : Option V), unS l b t r = r.bind fun u => if b = true ∧ u.k = 3 then unkey l u.n else some u from fun _ _ _ => rfl)
      have HKYJ := Lib.hid (fun h8 h2 => HKY.out j hlt h8 h2)
      have HKLJ := Lib.hid (fun hk => HKL.out j hlt hk)
      have HKWF := Lib.hid ((HE.out j hlt).2.1)
      obtain ⟨a3, cap3, hs3⟩ := (HE.out j hlt).2.2.slice
      rw [hs3] at c4 VJ
      clear hs3 V1 HT HKL HKY
      unfold V.agg at VJ
      generalize htu : trn (unS l) ts[j] = ou at *
      clear htu
      generalize ts[j] = tk at *
      cases hou : ou with
      | none =>
        have HNO := Lib.hid (HPN.out (HSTK.out (by rw [HTJ0.out, HUS.out, hou]; rfl)))
        have hnk : (k == 8) = false ∨ ((k == 8) = true ∧ (((j : Int) % 2 == 0) = false)) := by
          by_cases h8 : k = 8
          · by_cases h2 : j % 2 = 0
            · have := HKLJ.out (HKYJ.out h8 h2); rw [hou] at this; cases this
            · exact .inr ⟨by simpa using h8, by simp; omega⟩
          · exact .inl (by simpa using h8)
        rw [hou] at VJ
        clear HTJ0 HSTK HUS HKYJ HKLJ hou HPS HTR
        go_wp2_with fail
        refine (VJ.out _ (Below.refl _ _)).mono ?_
        rintro x w1 ⟨t', sa, sn, sc, rfl, hb1⟩
        unfold V.agg
        have hz1 := hb1.size
        have BXr := Lib.hid ((show Box wr w.heap.size k n e s (.slice (some ⟨b, off, none⟩) ts.length cap) 30 from (HACC.out.2.2.block w.heap.size (by omega)).trans BX.out).stay hb1)
        have BZr := Lib.hid ((show Box wr (w.heap.size + 1) 0 0 0 ⟨#[]⟩ (.slice none 0 0) 30 from (HACC.out.2.2.block (w.heap.size + 1) (by omega)).trans BZ.out).stay hb1)
        obtain ⟨p0, p1, p2, p3, p4⟩ := BXr.out.cells
        obtain ⟨z0, z1, z2, z3, z4⟩ := BZr.out.cells
        have zf0 := BZr.out.free (i := 0); have zf1 := BZr.out.free (i := 1); have zf2 := BZr.out.free (i := 2); have zf3 := BZr.out.free (i := 3); have zf4 := BZr.out.free (i := 4)
        have hw1n : w.heap.size ≠ w1.heap.size := by omega
        have hw1s : w1.heap.size ≠ w.heap.size := by omega
        have hw1l : w.heap.size < w1.heap.size := by omega
        have hw2n : w.heap.size + 1 ≠ w1.heap.size := by omega
        have hw2s : w1.heap.size ≠ w.heap.size + 1 := by omega
        have hw2l : w.heap.size + 1 < w1.heap.size := by omega
        clear q0 q1 q2 q3 q4 c0 c1 c2 c3 c4
        rcases hnk with t1 | ⟨t1, t2⟩
        all_goals
          go_wp2_with fail
          refine bodyPost_ret (v := .tuple #[.agg #[.int .i64 k, .int .i64 n, .int .i64 e, .string s, .slice (some ⟨b, off, none⟩) ts.length cap], .bool false]) (by simp [results, Tryd.results82, go_sem, z0, z1, z2, z3, z4, hw2n, hw2s, hw2l]) rfl (HNO.out _ _ ⟨.mk k n e s [], _, _, _, rfl, ?_⟩)
          have hbl9 := HBL.out
          exact (by (repeat' (first | with_reducible exact Below.refl _ _ | with_reducible refine below_alloc ?_ _ ?_ | with_reducible refine Below.setCell ?_ ?_ _ | with_reducible refine Below.drew ?_ | with_reducible refine below_drewN ?_ _ | with_reducible refine below_step ?_ (by assumption) ?_ | with_reducible refine below_mark ?_ (by assumption) ?_)); all_goals (first | omega | (simp; done) | (simp; omega)))
      | some u =>
        rw [hou] at VJ
        have HTJ1 := HTJ0
        rw [HUS.out, hou, Option.bind_some] at HTJ1
        go_wp2_with fail
        refine (VJ.out _ (Below.refl _ _)).mono ?_
        rintro x w1 ⟨s2, rfl, twf, ho, hb1⟩
        obtain ⟨sa, sn, sc, rfl⟩ : ∃ sa sn sc, s2 = .slice sa sn sc := by obtain ⟨p, q, e⟩ := ho.slice; exact ⟨p, _, q, e⟩
        unfold V.agg
        have hz1 := hb1.size
        have HO := Lib.hid ho.bound; clear ho
        have HWF := Lib.hid twf; clear twf
        have BXr := Lib.hid ((show Box wr w.heap.size k n e s (.slice (some ⟨b, off, none⟩) ts.length cap) 30 from (HACC.out.2.2.block w.heap.size (by omega)).trans BX.out).stay hb1)
        have BZr := Lib.hid ((show Box wr (w.heap.size + 1) 0 0 0 ⟨#[]⟩ (.slice none 0 0) 30 from (HACC.out.2.2.block (w.heap.size + 1) (by omega)).trans BZ.out).stay hb1)
        obtain ⟨p0, p1, p2, p3, p4⟩ := BXr.out.cells
        obtain ⟨g0, g1, g2, g3, g4⟩ := (HACC.out.1.stay hb1).cells
        have hw1n : w.heap.size ≠ w1.heap.size := by omega
        have hw1s : w1.heap.size ≠ w.heap.size := by omega
        have hw1l : w.heap.size < w1.heap.size := by omega
        have hw2n : w.heap.size + 1 ≠ w1.heap.size := by omega
        have hw2s : w1.heap.size ≠ w.heap.size + 1 := by omega
        have hw2l : w.heap.size + 1 < w1.heap.size := by omega
        have hw1m : w.heap.size + 1 + 1 ≠ w1.heap.size := by omega
        have hw1k : w.heap.size + 1 + 1 < w1.heap.size := by omega
        have hw1t : w1.heap.size ≠ w.heap.size + 1 + 1 := by omega
        clear q0 q1 q2 q3 q4 c0 c1 c2 c3 c4
        by_cases hyes : k = 8 ∧ j % 2 = 0 ∧ u.k = 3
        · have t1 : (k == 8) = true := by simpa using hyes.1
          have t2 : ((j : Int) % 2 == 0) = true := by have := hyes.2.1; simp; omega
          have t3 : (u.k == 3) = true := by simpa using hyes.2.2
          have HUK := Lib.hid (show (decide (k = 8) && decide (j % 2 = 0)) = true ∧ u.k = 3 from ⟨by simp [hyes.1, hyes.2.1], hyes.2.2⟩)
          have HIN := Lib.hid (fun W => l01In_any u.n 0 ((l.length : Int) - 1) W)
          rw [if_pos HUK.out] at HTJ1
          by_cases hin : 0 ≤ u.n ∧ u.n ≤ (l.length : Int) - 1
          · have HK := Lib.hid (show unkey l u.n = some (textV (l.getD u.n.toNat ⟨#[]⟩)) from if_pos hin)
            rw [HK.out, Option.map_some] at HTJ1
            have HTJ := HTJ1
            rw [decide_eq_true hin] at HIN
            have hix : u.n.toNat < l.length := by omega
            have HSZ := Lib.hid (show In64 u.n from HWF.out.2.1)
            obtain ⟨nb, noff, rfl, hcell, hsz2⟩ := HLK.out wr HWR.out _ hix
            have hnb : nb < wr.heap.size := World.block_lt_of_cell? _ _ hcell
            have hcell1 : w1.cell? ⟨nb, noff + u.n.toNat, none⟩ = some (.string l[u.n.toNat]) := by rw [hb1.cell (p := ⟨nb, noff + u.n.toNat, none⟩) hnb]; exact hcell
            have e9 : l.getD u.n.toNat ⟨#[]⟩ = l[u.n.toNat] := by rw [List.getD_eq_getElem?_getD, List.getElem?_eq_getElem hix]; rfl
            rw [e9] at HTJ
            have HWI := Lib.hid (zero5_wf 5 0 l[u.n.toNat] ⟨by omega, by omega⟩ ⟨by omega, by omega⟩ hsz2)
            have hnb1 : nb < w1.heap.size := by omega
            have hnb2 : w1.heap.size ≠ nb := by omega
            have hnb3 : nb ≠ w1.heap.size := by omega
            have hi1 := hin.1
            have hi2 : u.n < (l.length : Int) := by omega
            generalize l[u.n.toNat] = ls at *
            have hm1 : wrap64 ((l.length : Int) - 1) = (l.length : Int) - 1 := by unfold wrap64; omega
            clear HPN HSTK HUS HKYJ HKLJ HTJ0 HTJ1 hou hyes hin HK e9 HPS HLK hcell HTR
            have HTJ := Lib.hid HTJ
            go_wp2_with fail
            refine (HIN.out _).mono ?_
            rintro x w1' ⟨rfl, rfl⟩
            go_wp2_with fail
            refine (l02Str_any ls _).mono ?_
            rintro x w3 ⟨rfl, hb3⟩
            have hz3 := hb3.size
            simp at hz3
            have BK := Lib.hid ((Box.new w1 u.k u.n u.e u.s (.slice sa sn sc) 30).stay hb3)
            obtain ⟨y0, y1, y2, y3, y4⟩ := BK.out.cells
            have yf0 := BK.out.free (i := 0); have yf1 := BK.out.free (i := 1); have yf2 := BK.out.free (i := 2); have yf3 := BK.out.free (i := 3); have yf4 := BK.out.free (i := 4)
            clear g0 g1 g2 g3 g4 p0 p1 p2 p3 p4 BXr BZr BK
            obtain ⟨g0, g1, g2, g3, g4⟩ := (HACC.out.stay (show Below wr.heap.size wr w3 from (by (repeat' (first | with_reducible exact Below.refl _ _ | with_reducible refine below_alloc ?_ _ ?_ | with_reducible refine Below.setCell ?_ ?_ _ | with_reducible refine Below.drew ?_ | with_reducible refine below_drewN ?_ _ | with_reducible refine below_step ?_ (by assumption) ?_ | with_reducible refine below_mark ?_ (by assumption) ?_)); all_goals (first | omega | (simp; done) | (simp; omega))))).1.cells
            go_wp2_with (at_builtin; refine app_own rfl _ _ rfl (w.heap.size + 1 + 1 + 1) G (fun _ => False) _ L1 rfl ((HACC.out.stay ((by (repeat' (first | with_reducible exact Below.refl _ _ | with_reducible refine below_alloc ?_ _ ?_ | with_reducible refine Below.setCell ?_ ?_ _ | with_reducible refine Below.drew ?_ | with_reducible refine below_drewN ?_ _ | with_reducible refine below_step ?_ (by assumption) ?_ | with_reducible refine below_mark ?_ (by assumption) ?_)); all_goals (first | omega | (simp; done) | (simp; omega))))).2.1) (textV ls) (.slice none 0 0) _ rfl (by first | exact heap_alloc_here _ (by simp) | exact heap_alloc_here _ rfl) HWI.out (OwnS.nil _ _) (fun x hx => hx.elim) (by have := HLEN.out; omega) (by simp; omega) ?_; intro v2 w2 hrow2 hg2 hfr2; obtain ⟨va, vn, vc, rfl⟩ := hrow2.slice3; have HG2 := Lib.hid hg2; have HR2 := Lib.hid hrow2; have HB2 := Lib.hid (show Box w2 (w.heap.size + 1 + 1) k n e s o 30 from (hg2.block (w.heap.size + 1 + 1) (by simp; omega) (fun e => by have := (HACC.out.2.1.lt _ e.symm).1; omega)).trans (HACC.out.stay ((by (repeat' (first | with_reducible exact Below.refl _ _ | with_reducible refine below_alloc ?_ _ ?_ | with_reducible refine Below.setCell ?_ ?_ _ | with_reducible refine Below.drew ?_ | with_reducible refine below_drewN ?_ _ | with_reducible refine below_step ?_ (by assumption) ?_ | with_reducible refine below_mark ?_ (by assumption) ?_)); all_goals (first | omega | (simp; done) | (simp; omega))))).1); have hfz := HB2.out.free (i := 4); have hcc := HB2.out.cells.2.2.2.2; clear hrow2 hg2 hfr2)
            go_roundw
            case rel => exact ⟨j + 1, _, _, _, by omega, by go_num, HTJ.out, HACC.out.put (by omega) ((by (repeat' (first | with_reducible exact Below.refl _ _ | with_reducible refine below_alloc ?_ _ ?_ | with_reducible refine Below.setCell ?_ ?_ _ | with_reducible refine Below.drew ?_ | with_reducible refine below_drewN ?_ _ | with_reducible refine below_step ?_ (by assumption) ?_ | with_reducible refine below_mark ?_ (by assumption) ?_)); all_goals (first | omega | (simp; done) | (simp; omega)))) HG2.out HR2.out⟩
            case measure => simp [intOf]; omega
          · have HNO := Lib.hid (HPN.out (HSTK.out (by rw [HTJ1, show unkey l u.n = none from if_neg hin]; rfl)))
            rw [decide_eq_false hin] at HIN
            obtain ⟨z0, z1, z2, z3, z4⟩ := BZr.out.cells
            have zf0 := BZr.out.free (i := 0); have zf1 := BZr.out.free (i := 1); have zf2 := BZr.out.free (i := 2); have zf3 := BZr.out.free (i := 3); have zf4 := BZr.out.free (i := 4)
            have hm1 : wrap64 ((l.length : Int) - 1) = (l.length : Int) - 1 := by unfold wrap64; omega
            clear HPN HSTK HUS HKYJ HKLJ HTJ0 HTJ1 hou hyes hin HPS HLK HTR
            go_wp2_with fail
            refine (HIN.out _).mono ?_
            rintro x w1' ⟨rfl, rfl⟩
            go_wp2_with fail
            refine bodyPost_ret (v := .tuple #[.agg #[.int .i64 k, .int .i64 n, .int .i64 e, .string s, .slice (some ⟨b, off, none⟩) ts.length cap], .bool false]) (by simp [results, Tryd.results82, go_sem, z0, z1, z2, z3, z4, hw2n, hw2s, hw2l]) rfl (HNO.out _ _ ⟨.mk k n e s [], _, _, _, rfl, ?_⟩)
            have hbl9 := HBL.out
            exact (by (repeat' (first | with_reducible exact Below.refl _ _ | with_reducible refine below_alloc ?_ _ ?_ | with_reducible refine Below.setCell ?_ ?_ _ | with_reducible refine Below.drew ?_ | with_reducible refine below_drewN ?_ _ | with_reducible refine below_step ?_ (by assumption) ?_ | with_reducible refine below_mark ?_ (by assumption) ?_)); all_goals (first | omega | (simp; done) | (simp; omega)))
        · have HTJ := HTJ1
          rw [if_neg (by rintro ⟨h1, h2⟩; simp only [Bool.and_eq_true, decide_eq_true_eq] at h1; exact hyes ⟨h1.1, h1.2, h2⟩), Option.map_some] at HTJ
          have key : ((k == 8) = false) ∨ ((k == 8) = true ∧ (((j : Int) % 2 == 0) = false)) ∨ ((k == 8) = true ∧ (((j : Int) % 2 == 0) = true) ∧ ((u.k == 3) = false)) := by
            by_cases h8 : k = 8
            · by_cases h2 : j % 2 = 0
              · exact .inr (.inr ⟨by simpa using h8, by simp; omega, by simpa using fun e => hyes ⟨h8, h2, e⟩⟩)
              · exact .inr (.inl ⟨by simpa using h8, by simp; omega⟩)
            · exact .inl (by simpa using h8)
          clear hyes HPN HSTK HUS HKYJ HKLJ HTJ0 HTJ1 hou HPS HLK HTR BXr BZr
          have HTJ := Lib.hid HTJ
          rcases key with t1 | ⟨t1, t2⟩ | ⟨t1, t2, t3⟩
          all_goals
            go_wp2_with (at_builtin; refine app_own rfl _ _ rfl (w.heap.size + 1 + 1 + 1) G (fun x => wr.heap.size ≤ x ∧ x < w1.heap.size) _ L1 rfl ((HACC.out.stay ((by (repeat' (first | with_reducible exact Below.refl _ _ | with_reducible refine below_alloc ?_ _ ?_ | with_reducible refine Below.setCell ?_ ?_ _ | with_reducible refine Below.drew ?_ | with_reducible refine below_drewN ?_ _ | with_reducible refine below_step ?_ (by assumption) ?_ | with_reducible refine below_mark ?_ (by assumption) ?_)); all_goals (first | omega | (simp; done) | (simp; omega))))).2.1) u (.slice sa sn sc) _ rfl (by first | exact heap_alloc_here _ (by simp) | exact heap_alloc_here _ rfl) HWF.out (HO.out.keep (fun x hx hxs => (show Below w1.heap.size w1 _ from (by (repeat' (first | with_reducible exact Below.refl _ _ | with_reducible refine below_alloc ?_ _ ?_ | with_reducible refine Below.setCell ?_ ?_ _ | with_reducible refine Below.drew ?_ | with_reducible refine below_drewN ?_ _ | with_reducible refine below_step ?_ (by assumption) ?_ | with_reducible refine below_mark ?_ (by assumption) ?_)); all_goals (first | omega | (simp; done) | (simp; omega)))).block x hxs)) (fun x hx => ⟨by omega, by simp; omega, fun hG => by have := (HACC.out.2.1.inG x hG).2; omega, fun e => by have := (HACC.out.2.1.lt x e).2; omega⟩) (by have := HLEN.out; omega) (by simp; omega) ?_; intro v2 w2 hrow2 hg2 hfr2; obtain ⟨va, vn, vc, rfl⟩ := hrow2.slice3; have HG2 := Lib.hid hg2; have HR2 := Lib.hid hrow2; have HB2 := Lib.hid (show Box w2 (w.heap.size + 1 + 1) k n e s o 30 from (hg2.block (w.heap.size + 1 + 1) (by simp; omega) (fun e => by have := (HACC.out.2.1.lt _ e.symm).1; omega)).trans (HACC.out.stay ((by (repeat' (first | with_reducible exact Below.refl _ _ | with_reducible refine below_alloc ?_ _ ?_ | with_reducible refine Below.setCell ?_ ?_ _ | with_reducible refine Below.drew ?_ | with_reducible refine below_drewN ?_ _ | with_reducible refine below_step ?_ (by assumption) ?_ | with_reducible refine below_mark ?_ (by assumption) ?_)); all_goals (first | omega | (simp; done) | (simp; omega))))).1); have hfz := HB2.out.free (i := 4); have hcc := HB2.out.cells.2.2.2.2; clear hrow2 hg2 hfr2)
            go_roundw
            case rel => exact ⟨j + 1, _, _, _, by omega, by go_num, HTJ.out, HACC.out.put (by omega) ((by (repeat' (first | with_reducible exact Below.refl _ _ | with_reducible refine below_alloc ?_ _ ?_ | with_reducible refine Below.setCell ?_ ?_ _ | with_reducible refine Below.drew ?_ | with_reducible refine below_drewN ?_ _ | with_reducible refine below_step ?_ (by assumption) ?_ | with_reducible refine below_mark ?_ (by assumption) ?_)); all_goals (first | omega | (simp; done) | (simp; omega)))) HG2.out HR2.out⟩
            case measure => simp [intOf]; omega
    · have H := Lib.hid (show ts.take j = ts from List.take_of_length_le (by omega))
      have HTE := Lib.hid (show trns (unS l) (decide (k = 8)) 0 ts = some L1 by have := HTR.out; rwa [H.out] at this)
      obtain ⟨oa, on, oc, rfl⟩ := HACC.out.2.1.slice3
      obtain ⟨g0, g1, g2, g3, g4⟩ := HACC.out.1.cells
      have BZr := Lib.hid (show Box wr (w.heap.size + 1) 0 0 0 ⟨#[]⟩ (.slice none 0 0) 30 from (HACC.out.2.2.block (w.heap.size + 1) (by omega)).trans BZ.out)
      obtain ⟨z0, z1, z2, z3, z4⟩ := BZr.out.cells
      have zf0 := BZr.out.free (i := 0); have zf1 := BZr.out.free (i := 1); have zf2 := BZr.out.free (i := 2); have zf3 := BZr.out.free (i := 3); have zf4 := BZr.out.free (i := 4)
      have HO := Lib.hid (show OwnS wr (fun x => w.heap.size + 1 + 1 + 1 ≤ x) (.slice oa on oc) L1 from HACC.out.own)
      have HPY := Lib.hid (HPS.out L1 HTE.out)
      clear H HE HA V1 HT BX BO BZ BZr HACC HPN HTR HTE HPS
      go_wp2_with fail
      refine bodyPost_ret (v := .tuple #[.agg #[.int .i64 k, .int .i64 n, .int .i64 e, .string s, .slice oa on oc], .bool true]) (by simp [results, Tryd.results82, go_sem, z0, z1, z2, z3, z4]) rfl (HPY.out _ _ ⟨_, rfl, ?_, ?_⟩)
      · refine OwnS.mono (F := fun x => w.heap.size + 1 + 1 + 1 ≤ x) ?_ (fun x hx => by omega)
        repeat refine OwnS.set ?_ _ _ (by first | omega | (simp; done) | (simp; omega))
        exact HO.out
      · repeat' (refine Below.setCell ?_ ?_ _)
        all_goals (first | exact HBL.out | (simp; done) | (simp; omega))
end Go.Proofs.YtllngpnhhpnjoaaDoor
