/- The reference's MapKeys: l11Whole, l11Map, l02Int, l02Str. The reference's MapKeys: l11Map, and the whole. The reference's UnmapKeys: l11Unmap. -/
import Derived.Test.YtiemlefmhleaeaaDoorMapM
import Derived.Test.YtiemlefmhleaeaaDoorCopy
import Derived.Test.YtiemlefmhleaeaaDoorRight
namespace Go.Proofs.YtiemlefmhleaeaaDoor
set_option linter.unusedVariables false
set_option maxRecDepth 100000
open Go.RowKit
theorem heap_alloc_here {w : World} {b : Nat} (o : Obj) (hb : b = w.heap.size) : (w.alloc o).heap[b]? = some o := by rw [hb]; exact heap_alloc_new w o
theorem Box.set4 {w : World} {b : Nat} {k n e : Int} {s : ByteArray} {sl v : Value} {T : TypeId} (h : Box w b k n e s sl T) : Box (w.setCell ⟨b, 4, none⟩ v) b k n e s v T := by
  unfold Box at *
  rw [heap_setCell_same w b 4 _ _ _ h]; rfl
theorem Box.free {w : World} {b i : Nat} {k n e : Int} {s : ByteArray} {sl : Value} {T : TypeId} (h : Box w b k n e s sl T) : w.frozen? ⟨b, i, none⟩ = false := frozen_of_row w b i _ _ h
theorem VRows.move {w w' : World} {base : Nat} {E : TypeId} {G : Nat → Prop} {v : Value} {ts : List V} (h : VRows w base E G v ts) (hz : w.heap.size ≤ w'.heap.size) (hk : ∀ x, (G x ∨ v.ownBlock = some x) → w'.heap[x]? = w.heap[x]?) : VRows w' base E G v ts := by
  obtain ⟨sls, Fs, h⟩ := h
  refine ⟨sls, Fs, ⟨⟨h.row.1, ?_⟩, h.len, h.wfs, fun i hi => (h.kids i hi).keep (fun x hx _ => hk x (.inl (h.sub i hi x hx))), h.sub, h.dis, h.own, fun x hx => ⟨(h.inG x hx).1, Nat.lt_of_lt_of_le (h.inG x hx).2 hz⟩⟩⟩
  rcases h.row.2 with h2 | ⟨g, cap, cur, rfl, hbg, hg, r⟩
  · exact .inl h2
  · exact .inr ⟨g, cap, cur, rfl, hbg, by rw [hk g (.inr rfl)]; exact hg, r⟩
/-- a value under way: its box, and the row of its kids so far; of what lies below the box nothing turns -/
def Acc (w W : World) (b base : Nat) (k n e : Int) (s : ByteArray) (us : List V) (o : Value) (G : Nat → Prop) : Prop :=
  Box W b k n e s o 28 ∧ VRows W base 28 G o us ∧ Below b w W
theorem Acc.stay {w W W' : World} {b base : Nat} {k n e : Int} {s : ByteArray} {us : List V} {o : Value} {G : Nat → Prop} (h : Acc w W b base k n e s us o G) (hb : Below W.heap.size W W') : Acc w W' b base k n e s us o G :=
  ⟨h.1.stay hb, h.2.1.keep hb, h.2.2.trans (hb.mono (Nat.le_of_lt (h.1.lt)))⟩
/-- behind an append and the store of its slice -/
theorem Acc.put {w W W1 W2 : World} {b base : Nat} {k n e : Int} {s : ByteArray} {us us2 : List V} {o v2 : Value} {G G2 : Nat → Prop} (h : Acc w W b base k n e s us o G) (hb : b < base) (hW : Below W.heap.size W W1) (hg : W1.grownBy W2 o.ownBlock)
    (hr : VRows W2 base 28 G2 v2 us2) : Acc w (W2.setCell ⟨b, 4, none⟩ v2) b base k n e s us2 v2 G2 := by
  have hbl := h.1.lt
  have z1 := hW.size
  have B2 : Box W2 b k n e s o 28 := by
    have hn : o.ownBlock ≠ some b := fun e => by have := (h.2.1.lt b e).1; omega
    exact (hg.block b (by omega) (fun e => hn e.symm)).trans (h.1.stay hW)
  refine ⟨B2.set4, hr.move (by simp) (fun x hx => heap_setCell_other _ _ _ _ (fun e => ?_)), ?_⟩
  · have e' : x = b := e
    rcases hx with hx | hx
    · have := (hr.inG x hx).1; omega
    · have := (hr.lt x hx).1; omega
  · refine Below.setCell ?_ (by simp) _
    refine (h.2.2.trans (hW.mono (by omega))).grown hg (by have := h.2.2.size; omega) (fun x hx => ?_)
    have := (h.2.1.lt x hx).1; omega
theorem Acc.own {w W : World} {b base : Nat} {k n e : Int} {s : ByteArray} {us : List V} {o : Value} {G : Nat → Prop} (h : Acc w W b base k n e s us o G) : OwnS W (fun x => base ≤ x) o us := h.2.1.own
theorem Acc.nil {w W : World} {b base : Nat} {k n e : Int} {s : ByteArray} (hB : Box W b k n e s (.slice none 0 0) 28) (hb : Below b w W) : Acc w W b base k n e s [] (.slice none 0 0) (fun _ => False) :=
  ⟨hB, VRows.nil _ _ _, hb⟩
def mapTs (l : List ByteArray) (m : Bool) (ts : List V) : List V := (trns (mapS l) m 0 ts).getD []
theorem mapTs_some (l : List ByteArray) (m : Bool) (ts : List V) : trns (mapS l) m 0 ts = some (mapTs l m ts) := by
  have key : ∀ (ts : List V) (i : Nat), ∃ us, trns (mapS l) m i ts = some us := by
    intro ts
    induction ts with
    | nil => intro i; exact ⟨[], by rw [trns]⟩
    | cons t ts ih =>
      intro i
      obtain ⟨us, hus⟩ := ih (i + 1)
      exact ⟨keyM l (m && decide (i % 2 = 0)) (mapT l t) :: us, by rw [trns, mapT_some, hus]; rfl⟩
  obtain ⟨us, h⟩ := key ts 0
  rw [mapTs, h]; rfl
theorem mapT_eq (l : List ByteArray) (t : V) : mapT l t = .mk t.k t.n t.e t.s (mapTs l (decide (t.k = 8)) t.kids) := by
  have h := mapT_some l t
  rw [trn_eq, mapTs_some] at h
  exact (Option.some.inj h).symm
theorem mapTs_take (l : List ByteArray) (m : Bool) (ts : List V) (j : Nat) (hj : j < ts.length) : mapTs l m (ts.take (j + 1)) = mapTs l m (ts.take j) ++ [keyM l (m && decide (j % 2 = 0)) (mapT l ts[j])] := by
  have h := trns_take (mapS l) m ts j hj
  rw [mapTs_some, mapTs_some, mapT_some] at h
  exact Option.some.inj h
theorem mapTs_length (l : List ByteArray) (m : Bool) (ts : List V) : (mapTs l m ts).length = ts.length := (trns_get _ _ _ _ _ (mapTs_some l m ts)).1
theorem l02Int_any (n : Int) (w : World) : Calls Tryd.prog 134 #[.int .i64 n] w fun e w' => e = .returned (.agg #[.int .i64 3, .int .i64 n, .int .i64 0, .string ⟨#[]⟩, .slice none 0 0]) ∧ Below w.heap.size w w' := by
  go_enter Tryd.func134, Tryd.ntmps134
  go_wp2_with fail
  exact bodyPost_ret (v := .agg #[.int .i64 3, .int .i64 n, .int .i64 0, .string ⟨#[]⟩, .slice none 0 0]) (by simp [results, Tryd.results134, go_sem]) rfl ⟨rfl, (by (repeat' (first | with_reducible exact Below.refl _ _ | with_reducible refine below_alloc ?_ _ ?_ | with_reducible refine Below.setCell ?_ ?_ _ | with_reducible refine Below.drew ?_ | with_reducible refine below_drewN ?_ _ | with_reducible refine below_step ?_ (by assumption) ?_ | with_reducible refine below_mark ?_ (by assumption) ?_)); all_goals (first | omega | (simp; done) | (simp; omega)))⟩
theorem l02Str_any (s : ByteArray) (w : World) : Calls Tryd.prog 213 #[.string s] w fun e w' => e = .returned (.agg #[.int .i64 5, .int .i64 0, .int .i64 0, .string s, .slice none 0 0]) ∧ Below w.heap.size w w' := by
  go_enter Tryd.func213, Tryd.ntmps213
  go_wp2_with fail
  exact bodyPost_ret (v := .agg #[.int .i64 5, .int .i64 0, .int .i64 0, .string s, .slice none 0 0]) (by simp [results, Tryd.results213, go_sem]) rfl ⟨rfl, (by (repeat' (first | with_reducible exact Below.refl _ _ | with_reducible refine below_alloc ?_ _ ?_ | with_reducible refine Below.setCell ?_ ?_ _ | with_reducible refine Below.drew ?_ | with_reducible refine below_drewN ?_ _ | with_reducible refine below_step ?_ (by assumption) ?_ | with_reducible refine below_mark ?_ (by assumption) ?_)); all_goals (first | omega | (simp; done) | (simp; omega)))⟩
end Go.Proofs.YtiemlefmhleaeaaDoor
namespace Go.Proofs.YtiemlefmhleaeaaDoor
set_option linter.unusedVariables false
set_option maxRecDepth 100000
open Go.RowKit
theorem atFrom_lo (s : ByteArray) : ∀ (l : List ByteArray) (i : Nat), -1 ≤ atFrom s i l
  | [], i => by simp [atFrom]
  | x :: l, i => by rw [atFrom]; split; omega; exact atFrom_lo s l (i + 1)
theorem atS_lo (l : List ByteArray) (s : ByteArray) : -1 ≤ atS l s := atFrom_lo s l 0
end Go.Proofs.YtiemlefmhleaeaaDoor
namespace Go.Proofs.YtiemlefmhleaeaaDoor
set_option linter.unusedVariables false
set_option maxRecDepth 100000
open Go.RowKit
/-- a turned value and true, or any value and false -/
def ByRet (o : Option V) (w : World) (e : Ending) (w' : World) : Prop := match o with
  | some u => ∃ sl, e = .returned (.tuple #[u.agg sl, .bool true]) ∧ u.wf ∧ OwnS w' (fun x => w.heap.size ≤ x) sl u.kids ∧ Below w.heap.size w w'
  | none => ∃ (t' : V) (a : Option Addr) (n c : Nat), e = .returned (.tuple #[t'.agg (.slice a n c), .bool false]) ∧ Below w.heap.size w w'
theorem zero5_wf (k n : Int) (s : ByteArray) (hk : In64 k) (hn : In64 n) (hs : s.size ≤ 9223372036854775807) : (V.mk k n 0 s []).wf := ⟨hk, hn, ⟨by show (-9223372036854775808 : Int) ≤ 0; omega, by show (0 : Int) ≤ _; omega⟩, hs⟩
theorem in64_small {n : Int} (h0 : 0 ≤ n) (h1 : n ≤ 9223372036854775807) : In64 n := ⟨by omega, h1⟩
theorem RepSs.getB {w : World} {a : Option Addr} {n c : Nat} {l : List ByteArray} (h : RepSs w (.slice a n c) l) : n = l.length ∧ l.length ≤ 9223372036854775807 ∧ ∀ j, (hj : j < l.length) → ∃ b off, a = some ⟨b, off, none⟩ ∧ w.cell? ⟨b, off + j, none⟩ = some (.string l[j]) ∧ l[j].size ≤ 9223372036854775807 := by
  obtain ⟨a', b, off, cap, hv, ha, hc, hm, hcell⟩ := h
  simp only [Value.slice.injEq] at hv
  obtain ⟨rfl, rfl, rfl⟩ := hv
  refine ⟨rfl, by omega, fun j hj => ?_⟩
  have hne : l ≠ [] := by intro e; rw [e] at hj; simp at hj
  exact ⟨b, off, (ha hne).1, (hcell j hj).1, (hcell j hj).2⟩
end Go.Proofs.YtiemlefmhleaeaaDoor
