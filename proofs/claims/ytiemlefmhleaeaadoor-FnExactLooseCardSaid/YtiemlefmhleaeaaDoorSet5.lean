/- Five cells of one block; a row of one element. The reference's l02Int, l02Str. -/
import Derived.Test.YtiemlefmhleaeaaDoorOwnApp
import Derived.Test.YtiemlefmhleaeaaDoorLawAid
import Derived.Test.YtiemlefmhleaeaaDoorLens
import Derived.Deep.RegionWith
import Derived.WalkSpells
import Derived.Lib.Hide
namespace Go.Proofs.YtiemlefmhleaeaaDoor
set_option linter.unusedVariables false
set_option maxRecDepth 100000
open Go.RowKit
theorem heap_alloc_here {w : World} {b : Nat} (o : Obj) (hb : b = w.heap.size) : (w.alloc o).heap[b]? = some o := by rw [hb]; exact heap_alloc_new w o
theorem Box.set4 {w : World} {b : Nat} {k n e : Int} {s : ByteArray} {sl v : Value} {T : TypeId} (h : Box w b k n e s sl T) : Box (w.setCell ⟨b, 4, none⟩ v) b k n e s v T := by
  unfold Box at *
  rw [heap_setCell_same w b 4 _ _ _ h]; rfl
theorem Box.free {w : World} {b i : Nat} {k n e : Int} {s : ByteArray} {sl : Value} {T : TypeId} (h : Box w b k n e s sl T) : w.frozen? ⟨b, i, none⟩ = false := frozen_of_row w b i _ _ h
theorem VRows.move {w w' : World} {base : Nat} {E : TypeId} {G : Nat → Prop} {v : Value} {ts : List V} (h : VRows w base E G v ts) (hz : w.heap.size ≤ w'.heap.size) (hk : ∀ x, (G x ∨ v.ownBlock = some x) → w'.heap[x]? = w.heap[x]?) : VRows w' base E G v ts := by
  obtain ⟨sls, Fs, h⟩ := h
  refine ⟨sls, Fs, ⟨⟨h.row.1, ?_⟩, h.len, h.wfs, fun i hi => (h.kids i hi).keep (fun x hx _ => hk x (.inl (h.sub i hi x hx))), h.sub, h.dis, h.own, fun x hx => ⟨(h.inG x hx).1, Nat.lt_of_lt_of_le (h.inG x hx).2 hz⟩⟩⟩
  rcases h.row.2 with h2 | ⟨g, cap, cur, rfl, hbg, hg, r⟩
  · exact .inl h2
  · exact .inr ⟨g, cap, cur, rfl, hbg, by rw [hk g (.inr rfl)]; exact hg, r⟩
theorem VRows.ownG {w : World} {base : Nat} {E : TypeId} {G : Nat → Prop} {v : Value} {ts : List V} (h : VRows w base E G v ts) : OwnS w (fun x => G x ∨ v.ownBlock = some x) v ts := by
  obtain ⟨sls, Fs, h⟩ := h
  rcases h.row.2 with ⟨rfl, hn⟩ | ⟨g, cap, cur, rfl, hbg, hg, hnc, hcm, hcs, htake⟩
  · obtain rfl : ts = [] := List.eq_nil_of_length_eq_zero hn
    exact OwnS.nil _ _
  · have hcell : ∀ j u, (flat ts sls)[j]? = some u → w.cell? ⟨g, j, none⟩ = some u := by
      intro j u hu
      have := h.row.cells (g := g) rfl j u hu
      rwa [addr_add _ _ rfl, Nat.zero_add] at this
    refine .mk _ (some ⟨g, 0, none⟩) g 0 cap ts (fun i => sls.getD i undef) Fs (fun _ => rfl) hnc (by simpa [maxLen] using hcm) (fun _ => ⟨.inr rfl, cur, E, hg⟩) ?_ h.dis ?_ h.wfs h.kids
    · intro i hi x hx
      have hG := h.sub i hi x hx
      exact ⟨.inl hG, by intro e; subst e; exact h.own x rfl hG⟩
    · intro i hi
      have hi2 : i < sls.length := by rw [h.len]; exact hi
      obtain ⟨h0, h1, h2, h3, h4⟩ := flat_get ts sls i hi hi2
      rw [Nat.zero_add, List.getD_eq_getElem?_getD, List.getElem?_eq_getElem hi2]
      exact ⟨hcell _ _ h0, hcell _ _ h1, hcell _ _ h2, hcell _ _ h3, hcell _ _ h4⟩
theorem own_one {w : World} {F : Nat → Prop} {b : Nat} {t : V} {sl : Value} {E : TypeId} (hb : w.heap[b]? = some (.cells #[.int .i64 t.k, .int .i64 t.n, .int .i64 t.e, .string t.s, sl] E (0, 0))) (ht : t.wf) (h : OwnS w F sl t.kids) (hF : ¬ F b) :
    OwnS w (fun x => F x ∨ x = b) (.slice (some ⟨b, 0, none⟩) 1 1) [t] := by
  refine .mk _ (some ⟨b, 0, none⟩) b 0 1 [t] (fun _ => sl) (fun _ => F) (fun _ => rfl) (by simp) (by omega) (fun _ => ⟨.inr rfl, _, _, hb⟩) (fun i hi x hx => ⟨.inl hx, fun e => hF (e ▸ hx)⟩) (fun i j hij hj => by simp at hj; omega) (fun i hi => ?_) (fun i hi => ?_) (fun i hi => ?_)
  · obtain rfl : i = 0 := by simpa using hi
    have hc := fun j => cell_of_row w b j _ _ (0, 0) hb
    exact ⟨by rw [hc]; rfl, by rw [hc]; rfl, by rw [hc]; rfl, by rw [hc]; rfl, by rw [hc]; rfl⟩
  · obtain rfl : i = 0 := by simpa using hi
    exact ht
  · obtain rfl : i = 0 := by simpa using hi
    exact h
abbrev set5 (w : World) (c : Nat) (v0 v1 v2 v3 v4 : Value) : World := ((((w.setCell ⟨c, 0, none⟩ v0).setCell ⟨c, 1, none⟩ v1).setCell ⟨c, 2, none⟩ v2).setCell ⟨c, 3, none⟩ v3).setCell ⟨c, 4, none⟩ v4
theorem heap_set5 (w : World) (c x : Nat) (v0 v1 v2 v3 v4 : Value) (h : x ≠ c) : (set5 w c v0 v1 v2 v3 v4).heap[x]? = w.heap[x]? := by
  unfold set5
  rw [heap_setCell_other _ _ _ _ h, heap_setCell_other _ _ _ _ h, heap_setCell_other _ _ _ _ h, heap_setCell_other _ _ _ _ h, heap_setCell_other _ _ _ _ h]
theorem below_set5 (w : World) (c : Nat) (v0 v1 v2 v3 v4 : Value) : Below c w (set5 w c v0 v1 v2 v3 v4) := by
  unfold set5
  exact (((((Below.refl c w).setCell (Nat.le_refl c) v0).setCell (Nat.le_refl c) v1).setCell (Nat.le_refl c) v2).setCell (Nat.le_refl c) v3).setCell (Nat.le_refl c) v4
theorem size_set5 (w : World) (c : Nat) (v0 v1 v2 v3 v4 : Value) : (set5 w c v0 v1 v2 v3 v4).heap.size = w.heap.size := by simp [set5]
theorem OwnS.set5 {w : World} {F : Nat → Prop} {v : Value} {ts : List V} (h : OwnS w F v ts) (c : Nat) (hc : ¬ F c) (v0 v1 v2 v3 v4 : Value) : OwnS (Go.Proofs.YtiemlefmhleaeaaDoor.set5 w c v0 v1 v2 v3 v4) F v ts :=
  h.keep (fun x hx _ => heap_set5 _ _ _ _ _ _ _ _ (fun e => hc (e ▸ hx)))
theorem Touch.set5 {A A' : Nat → Prop} {w W : World} (h : Touch A A' w W) (c : Nat) (hc : w.heap.size ≤ c) (v0 v1 v2 v3 v4 : Value) : Touch A A' w (Go.Proofs.YtiemlefmhleaeaaDoor.set5 W c v0 v1 v2 v3 v4) :=
  ⟨(below_set5 W c v0 v1 v2 v3 v4).os.trans h.os, (below_set5 W c v0 v1 v2 v3 v4).tape.trans h.tape, (below_set5 W c v0 v1 v2 v3 v4).output.trans h.output, by rw [size_set5]; exact h.size, fun x hx hn => (heap_set5 _ _ _ _ _ _ _ _ (by omega)).trans (h.block x hx hn), h.new⟩
theorem l02Int_any (n : Int) (w : World) : Calls Tryd.prog 134 #[.int .i64 n] w fun e w' => e = .returned (.agg #[.int .i64 3, .int .i64 n, .int .i64 0, .string ⟨#[]⟩, .slice none 0 0]) ∧ Below w.heap.size w w' := by
  go_enter Tryd.func134, Tryd.ntmps134
  go_wp2_with fail
  exact bodyPost_ret (v := .agg #[.int .i64 3, .int .i64 n, .int .i64 0, .string ⟨#[]⟩, .slice none 0 0]) (by simp [results, Tryd.results134, go_sem]) rfl ⟨rfl, (by (repeat' (first | with_reducible exact Below.refl _ _ | with_reducible refine below_alloc ?_ _ ?_ | with_reducible refine Below.setCell ?_ ?_ _ | with_reducible refine Below.drew ?_ | with_reducible refine below_drewN ?_ _ | with_reducible refine below_step ?_ (by assumption) ?_ | with_reducible refine below_mark ?_ (by assumption) ?_)); all_goals (first | omega | (simp; done) | (simp; omega)))⟩
theorem l02Str_any (s : ByteArray) (w : World) : Calls Tryd.prog 213 #[.string s] w fun e w' => e = .returned (.agg #[.int .i64 5, .int .i64 0, .int .i64 0, .string s, .slice none 0 0]) ∧ Below w.heap.size w w' := by
  go_enter Tryd.func213, Tryd.ntmps213
  go_wp2_with fail
  exact bodyPost_ret (v := .agg #[.int .i64 5, .int .i64 0, .int .i64 0, .string s, .slice none 0 0]) (by simp [results, Tryd.results213, go_sem]) rfl ⟨rfl, (by (repeat' (first | with_reducible exact Below.refl _ _ | with_reducible refine below_alloc ?_ _ ?_ | with_reducible refine Below.setCell ?_ ?_ _ | with_reducible refine Below.drew ?_ | with_reducible refine below_drewN ?_ _ | with_reducible refine below_step ?_ (by assumption) ?_ | with_reducible refine below_mark ?_ (by assumption) ?_)); all_goals (first | omega | (simp; done) | (simp; omega)))⟩
end Go.Proofs.YtiemlefmhleaeaaDoor
