/- How often a text stands again in a value: spec.Again and impl.Again. -/
import Derived.Test.YtmjnghlmmaalhaaTexts
import Derived.Test.YtmjnghlmmaalhaaKSet
import Derived.Test.YtmjnghlmmaalhaaWalk2
import Derived.Deep.RegionHeld3
namespace Go.Proofs.Ytmjnghlmmaalhaa
set_option linter.unusedVariables false
set_option maxRecDepth 100000
open Go.RowKit
def keyT (u : V) : KS := (u.k, u.s)
def agR : List KS → Nat
  | [] => 0
  | x :: r => agR r + if x ∈ r then 1 else 0
def agN (K : List KS) : Nat := agR K.reverse
theorem agN_snoc (K : List KS) (x : KS) : agN (K ++ [x]) = agN K + if x ∈ K then 1 else 0 := by simp [agN, agR]
theorem agR_le : ∀ K : List KS, agR K ≤ K.length
  | [] => by simp [agR]
  | x :: r => by have := agR_le r; simp only [agR, List.length_cons]; split <;> omega
theorem agN_le (K : List KS) : agN K ≤ K.length := by have := agR_le K.reverse; simpa [agN] using this
def txK (L : List V) : List KS := (L.filter isTx).map keyT
theorem txK_snoc (L : List V) (u : V) : txK (L ++ [u]) = if isTx u then txK L ++ [keyT u] else txK L := by
  unfold txK; rw [List.filter_append]; split <;> rename_i h <;> simp [h]
theorem mem_keyT (R : List V) (u : V) : 0 ≤ atV R u.k u.s ↔ keyT u ∈ R.map keyT := by
  rw [atV, idxI_nonneg, List.any_eq_true]
  simp only [sameTx, decide_eq_true_eq, List.mem_map, keyT, Prod.mk.injEq]
set_option maxHeartbeats 400000 in
theorem Again_spec (w0 : World) (v : Value) (t : V) (h : Rep w0 v t) (hsz : t.sz ≤ 1048576) (w : World) (hw : Below w0.heap.size w0 w) :
    Calls Try.prog 7 #[v] w fun e w' => e = .returned (.int .i64 (agN (txK t.pre))) ∧ Below w.heap.size w w' := by
  obtain ⟨sl, rfl, hwf, hr⟩ := h
  have K1 := Lib.hid (fun w'' (hh : Below w.heap.size w w'') => l10Texts_any w0 sl t.kids hr (by have := V.sz_eq t; omega) t rfl hwf w'' (below_step hw hh (Nat.le_refl _)))
  have hkl : (txts t).length ≤ 1048577 := Nat.le_trans (txts_length t) (by omega)
  have HTX := Lib.hid (show (txts t).map keyT = txK t.pre from rfl)
  unfold V.agg at K1 ⊢
  generalize t.k = vk at *
  generalize t.n = vn at *
  generalize t.e = ve at *
  generalize t.s = vs at *
  generalize txts t = R at *
  generalize txK t.pre = KK at *
  clear hr hwf hsz
  go_enter Try.func7, Try.ntmps7
  go_wp2_with fail
  refine (K1.out _ (by (repeat' (first | with_reducible exact Below.refl _ _ | with_reducible refine below_alloc ?_ _ ?_ | with_reducible refine Below.setCell ?_ ?_ _ | with_reducible refine Below.drew ?_ | with_reducible refine below_drewN ?_ _ | with_reducible refine below_step ?_ (by assumption) ?_ | with_reducible refine below_mark ?_ (by assumption) ?_)); all_goals (first | omega | (simp; done) | (simp; omega)))).mono ?_
  rintro e1 w1 ⟨kv, G, rfl, hk1, _, hb1⟩
  have HREP := Lib.hid hk1.rep
  obtain ⟨ka, kb, koff, kcap, rfl, hka, hkc, hkm, sls, hel⟩ := hk1.rep.opened'
  have HKA := Lib.hid hka; have HE := Lib.hid hel
  have HB1 := Lib.hid (show Below w.heap.size w w1 by exact (by (repeat' (first | with_reducible exact Below.refl _ _ | with_reducible refine below_alloc ?_ _ ?_ | with_reducible refine Below.setCell ?_ ?_ _ | with_reducible refine Below.drew ?_ | with_reducible refine below_drewN ?_ _ | with_reducible refine below_step ?_ (by assumption) ?_ | with_reducible refine below_mark ?_ (by assumption) ?_)); all_goals (first | omega | (simp; done) | (simp; omega))))
  clear hka hkc hkm hel hk1
  go_wp2_with fail
  go_loopw [3, 5] (fun c i wr => ∃ k : Nat, ∃ q : Nat, k ≤ R.length ∧ i = .int .i64 k ∧ c = .int .i64 q ∧ q ≤ k ∧ Hid (q = agN ((R.take k).map keyT)) ∧ Below w1.heap.size w1 wr) (fun _ i _ => R.length - (intOf i).toNat)
  case atStart => exact ⟨0, 0, by omega, rfl, rfl, by omega, Lib.hid rfl, Below.refl _ _⟩
  case round =>
    obtain ⟨k, q, hk, rfl, rfl, hqk, HQ, hbl⟩ := hrel
    by_cases hlt : k < R.length
    · have hne : R ≠ [] := by intro e; rw [e] at hlt; simp at hlt
      obtain ⟨rfl, hbw⟩ := HKA.out hne
      obtain ⟨c0, c1, c2, c3, c4⟩ := (HE.out k hlt).1.keep (hbl.block kb hbw)
      have HT := Lib.hid (show agN ((R.take (k + 1)).map keyT) = agN ((R.take k).map keyT) + if 0 ≤ atV (R.take k) R[k].k R[k].s then 1 else 0 by
        rw [List.take_succ_eq_append_getElem hlt, List.map_append, List.map_singleton, agN_snoc]
        simp only [mem_keyT])
      obtain ⟨ak, kc, hks⟩ := (HE.out k hlt).2.2.slice
      rw [hks] at c4
      clear hks
      have hkk : (k : Int) ≤ kcap := by have := HREP.out.opened'; obtain ⟨_, _, _, c', e, _, h2, _⟩ := this; simp at e; omega
      have A1 := Lib.hid (fun w'' (hh : Below wr.heap.size wr w'') => l10At_any w1 _ _ (HREP.out.take k hk) w'' (hbl.trans (hh.mono (by have := hbl.size; omega))) R[k].k R[k].n R[k].e R[k].s (.slice ak R[k].kids.length kc))
      generalize R[k].k = xk at *
      generalize R[k].n = xn at *
      generalize R[k].e = xe at *
      generalize R[k].s = xs at *
      generalize atV (R.take k) xk xs = x at *
      by_cases hx : 0 ≤ x
      · have HN := Lib.hid (show q + 1 = agN ((R.take (k + 1)).map keyT) by rw [HT.out, if_pos hx, HQ.out])
        go_wp2_with fail
        go_region_held3 (fun w' => w'.cell? ⟨kb, koff + k * 5, none⟩ = some (.int .i64 xk) ∧ w'.cell? ⟨kb, koff + k * 5 + 1, none⟩ = some (.int .i64 xn) ∧ w'.cell? ⟨kb, koff + k * 5 + 2, none⟩ = some (.int .i64 xe) ∧ w'.cell? ⟨kb, koff + k * 5 + 3, none⟩ = some (.string xs) ∧ w'.cell? ⟨kb, koff + k * 5 + 4, none⟩ = some (.slice ak R[k].kids.length kc)) (first | exact ⟨‹_›, ‹_›, ‹_›, ‹_›, ‹_›⟩ | go_keep) ((go_at_call 24; refine (A1.out _ (by (repeat' (first | with_reducible exact Below.refl _ _ | with_reducible refine below_alloc ?_ _ ?_ | with_reducible refine Below.setCell ?_ ?_ _ | with_reducible refine Below.drew ?_ | with_reducible refine below_drewN ?_ _ | with_reducible refine below_step ?_ (by assumption) ?_ | with_reducible refine below_mark ?_ (by assumption) ?_)); all_goals (first | omega | (simp; done) | (simp; omega)))).mono ?_; rintro e2 w2 ⟨rfl, hb2⟩; obtain ⟨hx1, hx2⟩ := bcell hb2; have hbs := World.block_lt_of_cell? _ _ c0; have hd0 := (hx1 kb (koff + k * 5) (by simp; exact hbs)).trans (by simpa using c0); have hd1 := (hx1 kb (koff + k * 5 + 1) (by simp; exact hbs)).trans (by simpa using c1); have hd2 := (hx1 kb (koff + k * 5 + 2) (by simp; exact hbs)).trans (by simpa using c2); have hd3 := (hx1 kb (koff + k * 5 + 3) (by simp; exact hbs)).trans (by simpa using c3); have hd4 := (hx1 kb (koff + k * 5 + 4) (by simp; exact hbs)).trans (by simpa using c4)))
        go_wp2_with fail
        go_roundw
        case rel => exact ⟨k + 1, q + 1, by omega, by go_num, by go_num, by omega, HN, (by (repeat' (first | with_reducible exact Below.refl _ _ | with_reducible refine below_alloc ?_ _ ?_ | with_reducible refine Below.setCell ?_ ?_ _ | with_reducible refine Below.drew ?_ | with_reducible refine below_drewN ?_ _ | with_reducible refine below_step ?_ (by assumption) ?_ | with_reducible refine below_mark ?_ (by assumption) ?_)); all_goals (first | omega | (simp; done) | (simp; omega)))⟩
        case measure => simp [intOf]; omega
      · have HN := Lib.hid (show q = agN ((R.take (k + 1)).map keyT) by rw [HT.out, if_neg hx, HQ.out]; rfl)
        go_wp2_with fail
        go_region_held3 (fun w' => w'.cell? ⟨kb, koff + k * 5, none⟩ = some (.int .i64 xk) ∧ w'.cell? ⟨kb, koff + k * 5 + 1, none⟩ = some (.int .i64 xn) ∧ w'.cell? ⟨kb, koff + k * 5 + 2, none⟩ = some (.int .i64 xe) ∧ w'.cell? ⟨kb, koff + k * 5 + 3, none⟩ = some (.string xs) ∧ w'.cell? ⟨kb, koff + k * 5 + 4, none⟩ = some (.slice ak R[k].kids.length kc)) (first | exact ⟨‹_›, ‹_›, ‹_›, ‹_›, ‹_›⟩ | go_keep) ((go_at_call 24; refine (A1.out _ (by (repeat' (first | with_reducible exact Below.refl _ _ | with_reducible refine below_alloc ?_ _ ?_ | with_reducible refine Below.setCell ?_ ?_ _ | with_reducible refine Below.drew ?_ | with_reducible refine below_drewN ?_ _ | with_reducible refine below_step ?_ (by assumption) ?_ | with_reducible refine below_mark ?_ (by assumption) ?_)); all_goals (first | omega | (simp; done) | (simp; omega)))).mono ?_; rintro e2 w2 ⟨rfl, hb2⟩; obtain ⟨hx1, hx2⟩ := bcell hb2; have hbs := World.block_lt_of_cell? _ _ c0; have hd0 := (hx1 kb (koff + k * 5) (by simp; exact hbs)).trans (by simpa using c0); have hd1 := (hx1 kb (koff + k * 5 + 1) (by simp; exact hbs)).trans (by simpa using c1); have hd2 := (hx1 kb (koff + k * 5 + 2) (by simp; exact hbs)).trans (by simpa using c2); have hd3 := (hx1 kb (koff + k * 5 + 3) (by simp; exact hbs)).trans (by simpa using c3); have hd4 := (hx1 kb (koff + k * 5 + 4) (by simp; exact hbs)).trans (by simpa using c4)))
        go_wp2_with fail
        go_roundw
        case rel => exact ⟨k + 1, q, by omega, by go_num, rfl, by omega, HN, (by (repeat' (first | with_reducible exact Below.refl _ _ | with_reducible refine below_alloc ?_ _ ?_ | with_reducible refine Below.setCell ?_ ?_ _ | with_reducible refine Below.drew ?_ | with_reducible refine below_drewN ?_ _ | with_reducible refine below_step ?_ (by assumption) ?_ | with_reducible refine below_mark ?_ (by assumption) ?_)); all_goals (first | omega | (simp; done) | (simp; omega)))⟩
        case measure => simp [intOf]; omega
    · have H := Lib.hid (show q = agN KK by rw [HQ.out, List.take_of_length_le (by omega), HTX.out])
      go_wp2_with fail
      go_ret
      exact ⟨by rw [← H.out]; rfl, HB1.out.trans (hbl.mono (by have := HB1.out.size; omega))⟩
/-- what the function value's two variables hold: the set, and the count -/
def ownA (c1 c2 m : Nat) : Nat → Prop := fun x => x = c1 ∨ x = c2 ∨ x = m
structure AOf (B c1 c2 m : Nat) (K : List KS) (w : World) : Prop where
  b1 : B ≤ c1
  b2 : B ≤ c2
  bm : B ≤ m
  n12 : c1 ≠ c2
  n1m : c1 ≠ m
  n2m : c2 ≠ m
  h1 : w.heap[c1]? = some (.cells #[.map (some m)] 46 (0, 0))
  h2 : w.heap[c2]? = some (.cells #[.int .i64 (agN K)] 3 (0, 0))
  hm : KSet w m K.length K
def AInv (B c1 c2 m : Nat) (L : List V) (A : Nat → Prop) (w : World) : Prop := AOf B c1 c2 m (txK L) w ∧ A = ownA c1 c2 m
theorem AOf.keep {B c1 c2 m : Nat} {K : List KS} {w w' : World} (h : AOf B c1 c2 m K w) (hb : ∀ x, ownA c1 c2 m x → w'.heap[x]? = w.heap[x]?) : AOf B c1 c2 m K w' :=
  { h with
    h1 := by rw [hb c1 (.inl rfl)]; exact h.h1
    h2 := by rw [hb c2 (.inr (.inl rfl))]; exact h.h2
    hm := h.hm.keep (hb m (.inr (.inr rfl))) }
theorem AOf.lt {B c1 c2 m : Nat} {K : List KS} {w : World} (h : AOf B c1 c2 m K w) : ∀ x, ownA c1 c2 m x → B ≤ x ∧ x < w.heap.size := by
  rintro x (rfl | rfl | rfl)
  · exact ⟨h.b1, lt_of_heap h.h1⟩
  · exact ⟨h.b2, lt_of_heap h.h2⟩
  · exact ⟨h.bm, h.hm.lt⟩
theorem AOf.add {B c1 c2 m : Nat} {K : List KS} {w W W' w2 : World} {a : KS} (h : AOf B c1 c2 m K w) (hW : Below w.heap.size w W) (n : Nat) (hn : n = agN (K ++ [a]))
    (hW' : W' = W ∧ n = agN K ∨ W' = W.setCell ⟨c2, 0, none⟩ (.int .i64 n)) (g : W'.grownBy w2 (some m)) (hm : KSet w2 m (K.length + 1) (K ++ [a])) :
    AOf B c1 c2 m (K ++ [a]) w2 ∧ Touch (ownA c1 c2 m) (ownA c1 c2 m) w w2 := by
  have l1 := lt_of_heap h.h1
  have l2 := lt_of_heap h.h2
  have lm := h.hm.lt
  have zW := hW.size
  have z2 := g.size
  have zW' : W'.heap.size = W.heap.size := by rcases hW' with ⟨rfl, _⟩ | rfl <;> simp
  have oth : ∀ x, x ≠ c2 → W'.heap[x]? = W.heap[x]? := by
    intro x hx
    rcases hW' with ⟨rfl, _⟩ | rfl
    · rfl
    · exact heap_setCell_other _ _ _ _ hx
  have c2W' : W'.heap[c2]? = some (.cells #[.int .i64 n] 3 (0, 0)) := by
    have e : W.heap[c2]? = some (.cells #[.int .i64 (agN K)] 3 (0, 0)) := (hW.block c2 l2).trans h.h2
    rcases hW' with ⟨rfl, e2⟩ | rfl
    · rw [e, e2]
    · rw [heap_setCell_same W c2 0 #[.int .i64 (agN K)] _ _ e]; rfl
  have hos : W'.os = W.os ∧ W'.tape = W.tape ∧ W'.output = W.output := by rcases hW' with ⟨rfl, _⟩ | rfl <;> exact ⟨rfl, rfl, rfl⟩
  refine ⟨{ h with h1 := ?_, h2 := ?_, hm := by rw [List.length_append]; exact hm }, ?_⟩
  · rw [g.block c1 (by omega) (fun e => h.n1m (by simpa using e)), oth c1 h.n12, hW.block c1 l1]; exact h.h1
  · rw [g.block c2 (by omega) (fun e => h.n2m (by simpa using e)), c2W', hn]
  · refine ⟨g.os.trans (hos.1.trans hW.os), g.tape.trans (hos.2.1.trans hW.tape), g.output.trans (hos.2.2.trans hW.output), by omega, fun x hx hn => ?_, fun x hx => .inl hx⟩
    rw [g.block x (by omega) (fun e => hn (.inr (.inr (by simpa using e)))), oth x (fun e => hn (.inr (.inl e))), hW.block x hx]
theorem txK_length (L : List V) : (txK L).length ≤ wtL L := by
  unfold txK
  rw [List.length_map]
  refine Nat.le_trans (List.length_filter_le _ _) ?_
  induction L with
  | nil => simp
  | cons u us ih => simp only [List.length_cons, wtL]; omega
set_option maxHeartbeats 1000000 in
theorem Again1_any (B c1 c2 m : Nat) (u : V) (sl : Value) (L : List V) (A : Nat → Prop) (w : World) (hu : u.wf) (hsl : ∃ a n c, sl = .slice a n c) (hi : AInv B c1 c2 m L A w) (hBw : B ≤ w.heap.size) (hf : Few (L ++ [u])) :
    Calls Try.prog 27 #[u.agg sl, .pointer (some ⟨c1, 0, none⟩), .pointer (some ⟨c2, 0, none⟩)] w (Yields (AInv B c1 c2 m) A w (L ++ [u])) := by
  obtain ⟨hk, rfl⟩ := hi
  obtain ⟨sa, sn, sc, rfl⟩ := hsl
  have hlen : (txK L).length ≤ 4194304 := by have h1 := txK_length L; have h2 := hf.of_append; unfold Few at h2; omega
  have l1 := lt_of_heap hk.h1
  have l2 := lt_of_heap hk.h2
  have lm := hk.hm.lt
  have hok : okK (keyT u) := ⟨hu.1, hu.2.2.2⟩
  have HK := Lib.hid hk
  have HOK := Lib.hid hok
  have D1 := Lib.hid (fun (W : World) (hW : Below w.heap.size w W) => show W.cell? ⟨c1, 0, none⟩ = some (.map (some m)) from cell_of_one ((hW.block c1 l1).trans hk.h1))
  have D2 := Lib.hid (fun (W : World) (hW : Below w.heap.size w W) => show W.cell? ⟨c2, 0, none⟩ = some (.int .i64 (agN (txK L))) ∧ W.frozen? ⟨c2, 0, none⟩ = false from ⟨cell_of_one ((hW.block c2 l2).trans hk.h2), free_of_one ((hW.block c2 l2).trans hk.h2)⟩)
  have LK := Lib.hid (fun (W : World) (hW : Below w.heap.size w W) => (hk.hm.keep (hW.block m lm)).look (keyT u) hok)
  have hqn := agN_le (txK L)
  unfold V.agg
  have HY := Lib.hid (show ¬ isTx u = true → ∀ w', Below w.heap.size w w' → Yields (AInv B c1 c2 m) (ownA c1 c2 m) w (L ++ [u]) (.returned (.tuple #[])) w' from fun h w' hb => by
    refine ⟨rfl, ownA c1 c2 m, ⟨?_, rfl⟩, Touch.of_below hb⟩
    rw [txK_snoc, if_neg h]
    exact HK.out.keep (fun x hx => hb.block x (HK.out.lt x hx).2))
  have HZ := Lib.hid (show isTx u = true → ∀ w', AOf B c1 c2 m (txK L ++ [keyT u]) w' ∧ Touch (ownA c1 c2 m) (ownA c1 c2 m) w w' → Yields (AInv B c1 c2 m) (ownA c1 c2 m) w (L ++ [u]) (.returned (.tuple #[])) w' from fun h w' ⟨h1, h2⟩ => by
    refine ⟨rfl, ownA c1 c2 m, ⟨?_, rfl⟩, h2⟩
    rw [txK_snoc, if_pos h]; exact h1)
  have T1 := Lib.hid (fun (W : World) => isText_any u.k u.n u.e u.s (.slice sa sn sc) W)
  have hn1 := hk.n12; have hn2 := hk.n1m; have hn3 := hk.n2m
  have HN1 := Lib.hid hn1; have HN2 := Lib.hid hn2; have HN3 := Lib.hid hn3
  clear hk hok hn1 hn2 hn3 hf
  by_cases htx : isTx u = true
  · have hdec : decide (u.k = 5 ∨ u.k = 6) = true := htx
    rw [hdec] at T1
    have HZ2 := Lib.hid (HZ.out htx)
    clear hdec HY HZ htx
    have HMEM := Lib.hid (agN_snoc (txK L) (keyT u))
    have LK2 := Lib.hid (show ∀ W : World, Below w.heap.size w W → (Instr.lookup 46 (.map (some m)) (.agg #[.int .i64 u.k, .string u.s]) false).run Try.prog W = .ok (.bool (decide (keyT u ∈ txK L))) W from LK.out)
    have HKV := Lib.hid (show keyV (keyT u) = .agg #[.int .i64 u.k, .string u.s] from rfl)
    generalize txK L = K at *
    generalize keyT u = a at *
    generalize u.k = vk at *
    generalize u.n = vn at *
    generalize u.e = ve at *
    generalize u.s = vs at *
    clear LK
    by_cases hin : a ∈ K
    · have hdec : decide (a ∈ K) = true := decide_eq_true hin
      rw [hdec] at LK2
      have HN := Lib.hid (show agN K + 1 = agN (K ++ [a]) by rw [HMEM.out, if_pos hin])
      clear hdec hin HMEM
      have HAD := Lib.hid (fun (W w2 : World) hW g hm => AOf.add (w := w) (W := W) (W' := W.setCell ⟨c2, 0, none⟩ (.int .i64 (agN K + 1 : Nat))) (w2 := w2) (a := a) HK.out hW (agN K + 1) HN.out (.inr rfl) g hm)
      have KM := Lib.hid (fun (W : World) (hW : Below w.heap.size w W) => show KSet (W.setCell ⟨c2, 0, none⟩ (.int .i64 (agN K + 1 : Nat))) m K.length K from HK.out.hm.keep ((heap_setCell_other _ _ _ _ (fun e => HN3.out e.symm)).trans (hW.block m lm)))
      have hql : (agN K : Int) ≤ 4194304 := by omega
      generalize agN K = q at *
      go_enter Try.func27, Try.ntmps27
      go_wp2_with fail
      have B0 := Lib.hid (Box.new w vk vn ve vs (.slice sa sn sc) 29)
      refine (T1.out _).mono ?_
      rintro e1 w1 ⟨rfl, hb1⟩
      obtain ⟨p0, p1, p2, p3, p4⟩ := (Box.stay B0.out hb1).cells
      have hz1 := hb1.size
      simp at hz1
      have HB := Lib.hid (show Below w.heap.size w (w1.alloc (.cells #[.int .i64 vk, .string vs] 50)) by exact (by (repeat' (first | with_reducible exact Below.refl _ _ | with_reducible refine below_alloc ?_ _ ?_ | with_reducible refine Below.setCell ?_ ?_ _ | with_reducible refine Below.drew ?_ | with_reducible refine below_drewN ?_ _ | with_reducible refine below_step ?_ (by assumption) ?_ | with_reducible refine below_mark ?_ (by assumption) ?_)); all_goals (first | omega | (simp; done) | (simp; omega))))
      have d1 := D1.out _ HB.out
      obtain ⟨d2, d3⟩ := D2.out _ HB.out
      have lk := LK2.out _ HB.out
      have hx1 := HN1.out; have hx2 := hx1.symm
      have hx3 : w1.heap.size ≠ c2 := by omega
      have hx4 := hx3.symm
      go_wp2_with (at_mapUpdate; go_loud (refine wp_ksetAdd rfl _ _ _ rfl m _ K rfl (KM.out _ HB.out) (by omega) a HOK.out (by rw [HKV.out]; rfl) rfl ?_); intro w2 hm2 hg2)
      go_end0
      exact HZ2.out _ (HAD.out _ _ HB.out hg2 hm2)
    · have hdec : decide (a ∈ K) = false := decide_eq_false hin
      rw [hdec] at LK2
      have HN := Lib.hid (show agN K = agN (K ++ [a]) by rw [HMEM.out, if_neg hin]; rfl)
      clear hdec hin HMEM
      have HAD := Lib.hid (fun (W w2 : World) hW g hm => AOf.add (w := w) (W := W) (W' := W) (w2 := w2) (a := a) HK.out hW (agN K) HN.out (.inl ⟨rfl, rfl⟩) g hm)
      have KM := Lib.hid (fun (W : World) (hW : Below w.heap.size w W) => show KSet W m K.length K from HK.out.hm.keep (hW.block m lm))
      generalize agN K = q at *
      go_enter Try.func27, Try.ntmps27
      go_wp2_with fail
      have B0 := Lib.hid (Box.new w vk vn ve vs (.slice sa sn sc) 29)
      refine (T1.out _).mono ?_
      rintro e1 w1 ⟨rfl, hb1⟩
      obtain ⟨p0, p1, p2, p3, p4⟩ := (Box.stay B0.out hb1).cells
      have hz1 := hb1.size
      simp at hz1
      have HB := Lib.hid (show Below w.heap.size w (w1.alloc (.cells #[.int .i64 vk, .string vs] 50)) by exact (by (repeat' (first | with_reducible exact Below.refl _ _ | with_reducible refine below_alloc ?_ _ ?_ | with_reducible refine Below.setCell ?_ ?_ _ | with_reducible refine Below.drew ?_ | with_reducible refine below_drewN ?_ _ | with_reducible refine below_step ?_ (by assumption) ?_ | with_reducible refine below_mark ?_ (by assumption) ?_)); all_goals (first | omega | (simp; done) | (simp; omega))))
      have d1 := D1.out _ HB.out
      have lk := LK2.out _ HB.out
      go_wp2_with (at_mapUpdate; go_loud (refine wp_ksetAdd rfl _ _ _ rfl m _ K rfl (KM.out _ HB.out) (by omega) a HOK.out (by rw [HKV.out]; rfl) rfl ?_); intro w2 hm2 hg2)
      go_end0
      exact HZ2.out _ (HAD.out _ _ HB.out hg2 hm2)
  · have hdec : decide (u.k = 5 ∨ u.k = 6) = false := by simpa [isTx] using htx
    rw [hdec] at T1
    have HY2 := Lib.hid (HY.out htx)
    clear hdec HY HZ htx LK D1 D2 HK HOK
    generalize txK L = K at *
    generalize u.k = vk at *
    generalize u.n = vn at *
    generalize u.e = ve at *
    generalize u.s = vs at *
    go_enter Try.func27, Try.ntmps27
    go_wp2_with fail
    refine (T1.out _).mono ?_
    rintro e1 w1 ⟨rfl, hb1⟩
    go_wp2_with fail
    go_end0
    exact HY2.out _ (by (repeat' (first | with_reducible exact Below.refl _ _ | with_reducible refine below_alloc ?_ _ ?_ | with_reducible refine Below.setCell ?_ ?_ _ | with_reducible refine Below.drew ?_ | with_reducible refine below_drewN ?_ _ | with_reducible refine below_step ?_ (by assumption) ?_ | with_reducible refine below_mark ?_ (by assumption) ?_)); all_goals (first | omega | (simp; done) | (simp; omega)))
theorem enters_Again1 : ∀ (args : Array Value) (w : World), (callFunc 27 args).run Try.prog w = .ok (.enter 27 args) w := by
  intro args w
  have h1 : (Try.f27.name == "runtime.NumGoroutine") = false := by kernel_rfl
  have h2 : Try.f27.body.isNone = false := by kernel_rfl
  have h1' : ¬ Try.f27.name = "runtime.NumGoroutine" := by simpa using h1
  have h2' : ¬ Try.f27.body = none := by intro e; rw [e] at h2; cases h2
  simp [callFunc, Try.func27, go_sem, h1', h2']
theorem aof_start {w W : World} {g : Nat} (hg : W.heap.size = g) (hwg : w.heap.size ≤ g) :
    AOf w.heap.size (g + 1) (g + 1 + 1) g [] (((W.alloc (.map #[] 0)).alloc (.cells #[.map (some g)] 46)).alloc (.cells #[.int .i64 0] 3)) := by
  have z1 : (W.alloc (.map #[] 0)).heap.size = g + 1 := by simp [hg]
  have z2 : ((W.alloc (.map #[] 0)).alloc (.cells #[.map (some g)] 46)).heap.size = g + 1 + 1 := by simp [hg]
  refine { b1 := by omega, b2 := by omega, bm := hwg, n12 := by omega, n1m := by omega, n2m := by omega, h1 := ?_, h2 := ?_, hm := ?_ }
  · rw [heap_alloc_old _ _ (by rw [z2]; omega)]
    have := heap_alloc_new (W.alloc (.map #[] 0)) (.cells #[.map (some g)] 46)
    rw [z1] at this; exact this
  · have := heap_alloc_new ((W.alloc (.map #[] 0)).alloc (.cells #[.map (some g)] 46)) (.cells #[.int .i64 0] 3)
    rw [z2] at this; exact this
  · have := KSet.made W
    rw [hg] at this
    refine this.keep ?_
    rw [heap_alloc_old _ _ (by rw [z2]; omega), heap_alloc_old _ _ (by rw [z1]; omega)]
set_option maxHeartbeats 400000 in
theorem Again_impl (w0 : World) (v : Value) (t : V) (h : Rep w0 v t) (hsz : t.sz ≤ 1048576) (w : World) (hw : Below w0.heap.size w0 w) :
    Calls Try.prog 9 #[v] w fun e w' => e = .returned (.int .i64 (agN (txK t.pre))) ∧ Below w.heap.size w w' := by
  obtain ⟨sl, rfl, hwf, hr⟩ := h.keep hw
  clear hw h
  have hwk := fun (c1 c2 m : Nat) (L : List V) (A : Nat → Prop) (W : World) (hi : AInv w.heap.size c1 c2 m L A W) (hW : Below w.heap.size w W) (hf : Few (L ++ t.pre)) =>
    walk2_any w 27 (.pointer (some ⟨c1, 0, none⟩)) (.pointer (some ⟨c2, 0, none⟩)) (AInv w.heap.size c1 c2 m) enters_Again1
      (fun L A _ _ ⟨h1, h2⟩ hb => ⟨h1.keep (fun x hx => hb.block x (h1.lt x hx).2), h2⟩)
      (fun L A _ ⟨h1, h2⟩ x hx => by subst h2; exact h1.lt x hx)
      (fun u sl L A W hu hs hi hw hf => Again1_any w.heap.size c1 c2 m u sl L A W hu (by obtain ⟨a, c, e⟩ := hs.slice; exact ⟨a, _, c, e⟩) hi hw.size hf) sl t.kids hr t rfl hwf L A W hi hW hf
  have HW := Lib.hid hwk; clear hwk
  have HF := Lib.hid (few_pre hsz)
  unfold V.agg at HW ⊢
  generalize t.k = vk at *
  generalize t.n = vn at *
  generalize t.e = ve at *
  generalize t.s = vs at *
  have hmm := @run_makeMap Try.prog
  go_enter Try.func9, Try.ntmps9
  go_wp2_with fail
  have HK := Lib.hid (aof_start (w := w) (W := w.alloc (.cells #[.int .i64 vk, .int .i64 vn, .int .i64 ve, .string vs, sl] 29)) (g := w.heap.size + 1) (by simp) (by omega))
  refine (HW.out _ _ (w.heap.size + 1) [] _ _ ⟨HK.out, rfl⟩ (by (repeat' (first | with_reducible exact Below.refl _ _ | with_reducible refine below_alloc ?_ _ ?_ | with_reducible refine Below.setCell ?_ ?_ _ | with_reducible refine Below.drew ?_ | with_reducible refine below_drewN ?_ _ | with_reducible refine below_step ?_ (by assumption) ?_ | with_reducible refine below_mark ?_ (by assumption) ?_)); all_goals (first | omega | (simp; done) | (simp; omega))) HF.out).mono ?_
  rintro e1 w1 ⟨rfl, A1, ⟨hk1, rfl⟩, ht⟩
  have d2 := cell_of_one hk1.h2
  have HT := Lib.hid (ht.below (B := w.heap.size) (fun x hx => (HK.out.lt x hx).1) (by simp; omega))
  rw [List.nil_append] at d2
  clear hk1 ht
  go_wp2_with fail
  go_ret
  refine ⟨rfl, Below.trans ?_ HT.out⟩
  exact (by (repeat' (first | with_reducible exact Below.refl _ _ | with_reducible refine below_alloc ?_ _ ?_ | with_reducible refine Below.setCell ?_ ?_ _ | with_reducible refine Below.drew ?_ | with_reducible refine below_drewN ?_ _ | with_reducible refine below_step ?_ (by assumption) ?_ | with_reducible refine below_mark ?_ (by assumption) ?_)); all_goals (first | omega | (simp; done) | (simp; omega)))
end Go.Proofs.Ytmjnghlmmaalhaa
