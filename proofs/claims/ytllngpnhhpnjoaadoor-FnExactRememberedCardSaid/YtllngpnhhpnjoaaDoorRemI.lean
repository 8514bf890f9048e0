/- impl.Remembered: the function value that walk calls, and the whole. -/
import Derived.Test.YtllngpnhhpnjoaaDoorNote
import Derived.Test.YtllngpnhhpnjoaaDoorIsValue
namespace Go.Proofs.YtllngpnhhpnjoaaDoor
set_option linter.unusedVariables false
set_option maxRecDepth 100000
open Go.RowKit
def ownM2 (c m : Nat) (o : Value) : Nat → Prop := fun x => x = c ∨ ownM m o x
structure ROf (B c m : Nat) (R : List V) (o : Value) (w : World) : Prop where
  b1 : B ≤ c
  ncm : c ≠ m
  h1 : w.heap[c]? = some (.cells #[.pointer (some ⟨m, 0, none⟩)] 65 (0, 0))
  hm : MOf B m R false o w
  oc : o.ownBlock ≠ some c
def remR (L : List V) : List V := foldK [] (L.filter isTx)
def RInv (B c m : Nat) (L : List V) (A : Nat → Prop) (w : World) : Prop := ∃ o, ROf B c m (remR L) o w ∧ A = ownM2 c m o
theorem ROf.lt {B c m : Nat} {R : List V} {o : Value} {w : World} (h : ROf B c m R o w) : ∀ x, ownM2 c m o x → B ≤ x ∧ x < w.heap.size := by
  rintro x (rfl | hx)
  · exact ⟨h.b1, lt_of_heap h.h1⟩
  · exact h.hm.lt x hx
theorem ROf.stay {B c m : Nat} {R : List V} {o : Value} {w w' : World} (h : ROf B c m R o w) (hb : Below w.heap.size w w') : ROf B c m R o w' :=
  { h with
    h1 := (hb.block c (lt_of_heap h.h1)).trans h.h1
    hm := h.hm.keep hb.size (fun x hx => hb.block x (h.hm.lt x hx).2) }
theorem ROf.note {B c m : Nat} {R R' : List V} {o o' : Value} {w W W' : World} (h : ROf B c m R o w) (hW : Below w.heap.size w W) (hm : MOf B m R' false o' W') (ht : Touch (ownM m o) (ownM m o') W W') :
    ROf B c m R' o' W' ∧ Touch (ownM2 c m o) (ownM2 c m o') w W' := by
  have lc := lt_of_heap h.h1
  have hz := hW.size
  have hnc : ¬ ownM m o c := fun e => e.elim h.ncm h.oc
  refine ⟨{ b1 := h.b1, ncm := h.ncm, h1 := ?_, hm := hm, oc := ?_ }, ?_⟩
  · rw [ht.block c (by omega) hnc, hW.block c lc]; exact h.h1
  · intro e
    rcases ht.new c (.inr e) with e | e
    · exact hnc e
    · omega
  · refine ⟨ht.os.trans hW.os, ht.tape.trans hW.tape, ht.output.trans hW.output, by have := ht.size; omega, fun x hx hn => ?_, fun x hx => ?_⟩
    · rw [ht.block x (by omega) (fun e => hn (.inr e)), hW.block x hx]
    · rcases hx with hx | hx
      · exact .inl (.inl hx)
      · rcases ht.new x hx with e | e
        · exact .inl (.inr e)
        · exact .inr (by omega)
theorem foldK_length : ∀ (L R : List V), (foldK R L).length ≤ R.length + L.length
  | [], R => by simp [foldK]
  | t :: L, R => by
    have h1 := foldK_length L (keepR R t)
    have h2 := keepR_length R t
    have e : foldK R (t :: L) = foldK (keepR R t) L := rfl
    rw [e]; simp only [List.length_cons]; omega
theorem remR_snoc (L : List V) (u : V) : remR (L ++ [u]) = if isTx u then keepR (remR L) u else remR L := by
  unfold remR
  rw [List.filter_append]
  by_cases h : isTx u = true
  · rw [if_pos h, List.filter_cons_of_pos h, List.filter_nil, foldK, List.foldl_append]; rfl
  · rw [if_neg h, List.filter_cons_of_neg h, List.filter_nil, List.append_nil]
theorem remR_length (L : List V) : (remR L).length ≤ wtL L := by
  refine Nat.le_trans (foldK_length _ []) ?_
  simp only [List.length_nil, Nat.zero_add]
  refine Nat.le_trans (List.length_filter_le _ _) ?_
  induction L with
  | nil => simp
  | cons u us ih => simp only [List.length_cons, wtL]; omega
set_option maxHeartbeats 1000000 in
theorem Rem1_any (B c m : Nat) (u : V) (sl : Value) (L : List V) (A : Nat → Prop) (w : World) (hu : u.wf) (hsl : ∃ a n k, sl = .slice a n k) (hi : RInv B c m L A w) (hf : Few (L ++ [u])) :
    Calls Tryd.prog 60 #[u.agg sl, .pointer (some ⟨c, 0, none⟩)] w (Yields (RInv B c m) A w (L ++ [u])) := by
  obtain ⟨o, hk, rfl⟩ := hi
  obtain ⟨sa, sn, sc, rfl⟩ := hsl
  have hlen : (remR L).length ≤ 4194304 := by have h1 := remR_length L; have h2 := hf.of_append; unfold Few at h2; omega
  have HY := Lib.hid (show ¬ isTx u = true → ∀ w', Below w.heap.size w w' → Yields (RInv B c m) (ownM2 c m o) w (L ++ [u]) (.returned (.tuple #[])) w' from fun h w' hb => by
    refine ⟨rfl, ownM2 c m o, ⟨o, ?_, rfl⟩, Touch.of_below hb⟩
    rw [remR_snoc, if_neg h]
    exact hk.stay hb)
  have HZ := Lib.hid (show isTx u = true → ∀ W e w', Below w.heap.size w W → NoteRet B m (keepR (remR L) u) false o W e w' → Yields (RInv B c m) (ownM2 c m o) w (L ++ [u]) (.returned (.tuple #[])) w' from fun h W e w' hb ⟨_, o', h1, h2⟩ => by
    have := hk.note hb h1 h2
    refine ⟨rfl, ownM2 c m o', ⟨o', ?_, rfl⟩, this.2⟩
    rw [remR_snoc, if_pos h]; exact this.1)
  have T1 := Lib.hid (fun (W : World) => isText_any u.k u.n u.e u.s (.slice sa sn sc) W)
  have N1 := Lib.hid (fun (W : World) (hW : Below w.heap.size w W) => note_any B m (remR L) false o u (.slice sa sn sc) W ((hk.stay hW).hm) (by omega) hu)
  have D1 := Lib.hid (fun (W : World) (hW : Below w.heap.size w W) => show W.cell? ⟨c, 0, none⟩ = some (.pointer (some ⟨m, 0, none⟩)) from cell_of_one ((hW.block c (lt_of_heap hk.h1)).trans hk.h1))
  have BX := Lib.hid (Box.new w u.k u.n u.e u.s (.slice sa sn sc) 30)
  have HC := Lib.hid (lt_of_heap hk.h1)
  clear hk hf hu
  unfold V.agg at N1 ⊢
  by_cases htx : isTx u = true
  · have hdec : decide (u.k = 5 ∨ u.k = 6) = true := htx
    rw [hdec] at T1
    have HZ2 := Lib.hid (HZ.out htx)
    clear hdec HY HZ htx
    generalize keepR (remR L) u = R2 at *
    generalize remR L = R at *
    generalize u.k = vk at *
    generalize u.n = vn at *
    generalize u.e = ve at *
    generalize u.s = vs at *
    go_enter Tryd.func60, Tryd.ntmps60
    go_wp2_with fail
    refine (T1.out _).mono ?_
    rintro e1 w1 ⟨rfl, hb1⟩
    obtain ⟨p0, p1, p2, p3, p4⟩ := (Box.stay BX.out hb1).cells
    have HB := Lib.hid (show Below w.heap.size w w1 by exact (by (repeat' (first | with_reducible exact Below.refl _ _ | with_reducible refine below_alloc ?_ _ ?_ | with_reducible refine Below.setCell ?_ ?_ _ | with_reducible refine Below.drew ?_ | with_reducible refine below_drewN ?_ _ | with_reducible refine below_step ?_ (by assumption) ?_ | with_reducible refine below_mark ?_ (by assumption) ?_)); all_goals (first | omega | (simp; done) | (simp; omega))))
    have d1 := D1.out _ HB.out
    go_wp2_with fail
    refine (N1.out _ HB.out).mono ?_
    rintro e2 w2 hn
    have HN := Lib.hid (HZ2.out _ _ _ HB.out hn)
    obtain ⟨rfl, _⟩ := hn
    go_wp2_with fail
    go_end0
    exact HN.out
  · have hdec : decide (u.k = 5 ∨ u.k = 6) = false := by simpa [isTx] using htx
    rw [hdec] at T1
    have HY2 := Lib.hid (HY.out htx)
    clear hdec HY HZ htx D1 N1 BX
    generalize u.k = vk at *
    generalize u.n = vn at *
    generalize u.e = ve at *
    generalize u.s = vs at *
    go_enter Tryd.func60, Tryd.ntmps60
    go_wp2_with fail
    refine (T1.out _).mono ?_
    rintro e1 w1 ⟨rfl, hb1⟩
    go_wp2_with fail
    go_end0
    exact HY2.out _ (by (repeat' (first | with_reducible exact Below.refl _ _ | with_reducible refine below_alloc ?_ _ ?_ | with_reducible refine Below.setCell ?_ ?_ _ | with_reducible refine Below.drew ?_ | with_reducible refine below_drewN ?_ _ | with_reducible refine below_step ?_ (by assumption) ?_ | with_reducible refine below_mark ?_ (by assumption) ?_)); all_goals (first | omega | (simp; done) | (simp; omega)))
theorem enters_Rem1 : ∀ (args : Array Value) (w : World), (callFunc 60 args).run Tryd.prog w = .ok (.enter 60 args) w := by
  intro args w
  have h1 : (Tryd.f60.name == "runtime.NumGoroutine") = false := by kernel_rfl
  have h2 : Tryd.f60.body.isNone = false := by kernel_rfl
  have h1' : ¬ Tryd.f60.name = "runtime.NumGoroutine" := by simpa using h1
  have h2' : ¬ Tryd.f60.body = none := by intro e; rw [e] at h2; cases h2
  simp [callFunc, Tryd.func60, go_sem, h1', h2']
theorem rof_start {W : World} {g B : Nat} (hg : W.heap.size = g) (hB : B ≤ g) :
    ROf B (g + 1) g [] (.slice none 0 0) ((W.alloc (.cells #[.slice none 0 0, .bool false] 67)).alloc (.cells #[.pointer (some ⟨g, 0, none⟩)] 65)) := by
  have z1 : (W.alloc (.cells #[.slice none 0 0, .bool false] 67)).heap.size = g + 1 := by simp [hg]
  refine { b1 := by omega, ncm := by omega, h1 := ?_, hm := { bm := hB, hm := ?_, hr := PRow.nil _ _, om := by simp [Value.ownBlock] }, oc := by simp [Value.ownBlock] }
  · have := heap_alloc_new (W.alloc (.cells #[.slice none 0 0, .bool false] 67)) (.cells #[.pointer (some ⟨g, 0, none⟩)] 65)
    rw [z1] at this; exact this
  · rw [heap_alloc_old _ _ (by rw [z1]; omega)]
    have := heap_alloc_new W (.cells #[.slice none 0 0, .bool false] 67)
    rw [hg] at this; exact this
theorem remB_walk {t : V} (h : okT t = true) : remB t = (remR t.pre).map V.s := by
  rw [remB, if_pos h]; rfl
set_option maxHeartbeats 1000000 in
theorem Remembered_impl (w0 : World) (v : Value) (t : V) (h : Rep w0 v t) (hsz : t.sz ≤ 1048576) (w : World) (hw : Below w0.heap.size w0 w) (hE : Env w0) :
    Calls Tryd.prog 17 #[v] w (StrsRet w (remB t)) := by
  have VO := Lib.hid (fun (W : World) (hW : Below w.heap.size w W) => ValueOk_impl w0 hE v t h hsz W (hw.trans (hW.mono hw.size)))
  obtain ⟨sl, rfl, hwf, hr⟩ := h.keep hw
  have hwk := fun (c m : Nat) (L : List V) (A : Nat → Prop) (W : World) (hi : RInv w.heap.size c m L A W) (hW : Below w.heap.size w W) (hf : Few (L ++ t.pre)) =>
    walk_any w 60 (.pointer (some ⟨c, 0, none⟩)) (RInv w.heap.size c m) enters_Rem1
      (fun L A _ _ ⟨o, h1, h2⟩ hb => ⟨o, h1.stay hb, h2⟩)
      (fun L A _ ⟨o, h1, h2⟩ x hx => by subst h2; exact h1.lt x hx)
      (fun u sl L A W hu hs hi hw hf => Rem1_any w.heap.size c m u sl L A W hu (by obtain ⟨a, c, e⟩ := hs.slice; exact ⟨a, _, c, e⟩) hi hf) sl t.kids hr t rfl hwf L A W hi hW hf
  have HW := Lib.hid hwk; clear hwk
  have HF := Lib.hid (few_pre hsz)
  have RY := Lib.hid (fun h => remB_walk (t := t) h)
  have RN := Lib.hid (fun h => remB_no (t := t) h)
  have hlen : (remR t.pre).length ≤ 4194304 := by have h1 := remR_length t.pre; have h2 := few_pre hsz; unfold Few at h2; rw [List.nil_append] at h2; omega
  have BX := Lib.hid (Box.new w t.k t.n t.e t.s sl 30)
  obtain ⟨sa, scap, rfl⟩ := hr.slice
  clear hr hwf hsz hE hw
  unfold V.agg at *
  generalize remB t = RB at *
  simp only [List.nil_append] at *
  cases hok : okT t
  · have H := Lib.hid (RN.out hok)
    rw [hok] at VO
    rw [H.out]
    clear RY RN hok HW HF BX
    generalize t.k = vk at *
    generalize t.n = vn at *
    generalize t.e = ve at *
    generalize t.s = vs at *
    go_enter Tryd.func17, Tryd.ntmps17
    go_wp2_with fail
    refine (VO.out _ ((by (repeat' (first | with_reducible exact Below.refl _ _ | with_reducible refine below_alloc ?_ _ ?_ | with_reducible refine Below.setCell ?_ ?_ _ | with_reducible refine Below.drew ?_ | with_reducible refine below_drewN ?_ _ | with_reducible refine below_step ?_ (by assumption) ?_ | with_reducible refine below_mark ?_ (by assumption) ?_)); all_goals (first | omega | (simp; done) | (simp; omega))))).mono ?_
    rintro x w1 ⟨rfl, hb1⟩
    go_wp2_with fail
    go_ret
    exact ⟨_, rfl, SRow.nil _ _, (by (repeat' (first | with_reducible exact Below.refl _ _ | with_reducible refine below_alloc ?_ _ ?_ | with_reducible refine Below.setCell ?_ ?_ _ | with_reducible refine Below.drew ?_ | with_reducible refine below_drewN ?_ _ | with_reducible refine below_step ?_ (by assumption) ?_ | with_reducible refine below_mark ?_ (by assumption) ?_)); all_goals (first | omega | (simp; done) | (simp; omega)))⟩
  · have H := Lib.hid (RY.out hok)
    rw [hok] at VO
    rw [H.out]
    clear RY RN hok
    generalize t.k = vk at *
    generalize t.n = vn at *
    generalize t.e = ve at *
    generalize t.s = vs at *
    go_enter Tryd.func17, Tryd.ntmps17
    go_wp2_with fail
    refine (VO.out _ ((by (repeat' (first | with_reducible exact Below.refl _ _ | with_reducible refine below_alloc ?_ _ ?_ | with_reducible refine Below.setCell ?_ ?_ _ | with_reducible refine Below.drew ?_ | with_reducible refine below_drewN ?_ _ | with_reducible refine below_step ?_ (by assumption) ?_ | with_reducible refine below_mark ?_ (by assumption) ?_)); all_goals (first | omega | (simp; done) | (simp; omega))))).mono ?_
    rintro x w1 ⟨rfl, hb1⟩
    have hz1 := hb1.size
    simp at hz1
    obtain ⟨p0, p1, p2, p3, p4⟩ := (Box.stay BX.out hb1).cells
    have hq1 : w.heap.size ≠ w1.heap.size := by omega
    have hq2 : w1.heap.size ≠ w.heap.size := by omega
    have hq3 : w.heap.size ≠ w1.heap.size + 1 := by omega
    have hq4 : w1.heap.size + 1 ≠ w.heap.size := by omega
    have hq5 : w.heap.size < w1.heap.size := by omega
    have HK := Lib.hid (rof_start (W := w1) (g := w1.heap.size) (B := w.heap.size) rfl (by omega))
    have HB1 := Lib.hid (show Below w.heap.size w w1 from (by (repeat' (first | with_reducible exact Below.refl _ _ | with_reducible refine below_alloc ?_ _ ?_ | with_reducible refine Below.setCell ?_ ?_ _ | with_reducible refine Below.drew ?_ | with_reducible refine below_drewN ?_ _ | with_reducible refine below_step ?_ (by assumption) ?_ | with_reducible refine below_mark ?_ (by assumption) ?_)); all_goals (first | omega | (simp; done) | (simp; omega))))
    go_wp2_with fail
    have HWx := Lib.hid (fun (A : Nat → Prop) (W : World) (hi : RInv w.heap.size (w1.heap.size + 1) w1.heap.size [] A W) (hW : Below w.heap.size w W) => HW.out (w1.heap.size + 1) w1.heap.size [] A W hi hW (by rw [List.nil_append]; exact HF.out))
    refine (HWx.out _ _ ⟨_, HK.out, rfl⟩ (by (repeat' (first | with_reducible exact Below.refl _ _ | with_reducible refine below_alloc ?_ _ ?_ | with_reducible refine Below.setCell ?_ ?_ _ | with_reducible refine Below.drew ?_ | with_reducible refine below_drewN ?_ _ | with_reducible refine below_step ?_ (by assumption) ?_ | with_reducible refine below_mark ?_ (by assumption) ?_)); all_goals (first | omega | (simp; done) | (simp; omega)))).mono ?_
    rintro e2 w2 ⟨rfl, A2, ⟨o, hk2, rfl⟩, ht2⟩
    rw [List.nil_append] at hk2
    generalize remR t.pre = L at *
    have HT2 := Lib.hid (ht2.below (B := w.heap.size) (fun x hx => (HK.out.lt x hx).1) (by simp; omega))
    have HB2 := Lib.hid (show Below w.heap.size w w2 from Below.trans ((by (repeat' (first | with_reducible exact Below.refl _ _ | with_reducible refine below_alloc ?_ _ ?_ | with_reducible refine Below.setCell ?_ ?_ _ | with_reducible refine Below.drew ?_ | with_reducible refine below_drewN ?_ _ | with_reducible refine below_step ?_ (by assumption) ?_ | with_reducible refine below_mark ?_ (by assumption) ?_)); all_goals (first | omega | (simp; done) | (simp; omega)))) HT2.out)
    have d1 : w2.cell? ⟨w1.heap.size + 1, 0, none⟩ = some (.pointer (some ⟨w1.heap.size, 0, none⟩)) := cell_of_one hk2.h1
    have hbm := hk2.hm.hm
    have d2 : w2.cell? ⟨w1.heap.size, 0, none⟩ = some o := by rw [cell_of_row _ _ _ _ _ (0, 0) hbm]; rfl
    have hr2 := hk2.hm.hr.rep
    obtain ⟨ka, kb, koff, kcap, rfl, hka, hkc, hkm, sls, hel⟩ := hr2.opened
    have HKA := Lib.hid hka; have HE := Lib.hid hel
    clear hka hkc hkm hel hr2 hbm hk2 ht2 HW HWx HF VO BX HK p0 p1 p2 p3 p4
    have hz2 := HB2.out.size
    have R0 := Lib.hid (show SRow (w2.alloc (.cells #[] 9)) w2.heap.size (.slice (some ⟨w2.heap.size, 0, none⟩) 0 0) [] from SRow.made0 (Nat.le_refl _))
    have hn1 : w1.heap.size + 1 ≠ w2.heap.size := by have := World.block_lt_of_cell? _ _ d1; simp at this; omega
    have hn2 : w1.heap.size ≠ w2.heap.size := by have := World.block_lt_of_cell? _ _ d2; simp at this; omega
    have hn3 := hn1.symm; have hn4 := hn2.symm
    have hn5 : w1.heap.size + 1 < w2.heap.size := World.block_lt_of_cell? _ _ d1
    have hn6 : w1.heap.size < w2.heap.size := World.block_lt_of_cell? _ _ d2
    go_wp2_with fail
    go_loopw [4, 21, 6] (fun o i _ wr => ∃ k : Nat, k ≤ L.length ∧ i = .int .i64 k ∧ SRow wr w2.heap.size o ((L.take k).map V.s) ∧ Below w2.heap.size w2 wr) (fun _ i _ _ => L.length - (intOf i).toNat)
    case atStart => exact ⟨0, by omega, rfl, R0.out, (by (repeat' (first | with_reducible exact Below.refl _ _ | with_reducible refine below_alloc ?_ _ ?_ | with_reducible refine Below.setCell ?_ ?_ _ | with_reducible refine Below.drew ?_ | with_reducible refine below_drewN ?_ _ | with_reducible refine below_step ?_ (by assumption) ?_ | with_reducible refine below_mark ?_ (by assumption) ?_)); all_goals (first | omega | (simp; done) | (simp; omega)))⟩
    case round =>
      obtain ⟨k, hk, rfl, hrow, hbl⟩ := hrel
      have HROW := Lib.hid hrow; clear hrow
      by_cases hlt : k < L.length
      · have hne : L ≠ [] := by intro e; rw [e] at hlt; simp at hlt
        obtain ⟨rfl, hbw⟩ := HKA.out hne
        obtain ⟨q0, q1, q2, q3, q4⟩ := (HE.out k hlt).1.keep (hbl.block kb hbw)
        have hs3 := (HE.out k hlt).2.1.2.2.2
        have HN := Lib.hid (show (L.take (k + 1)).map V.s = (L.take k).map V.s ++ [L[k].s] by rw [List.take_succ_eq_append_getElem hlt, List.map_append]; rfl)
        have HLEN := Lib.hid (show ((L.take k).map V.s).length ≤ 4194304 by rw [List.length_map, List.length_take]; omega)
        generalize hgl : L[k] = lk at *
        clear hgl
        generalize lk.s = s at *
        generalize lk.k = k0 at *
        generalize lk.n = n0 at *
        generalize lk.e = e0 at *
        generalize (L.take k).map V.s = L1 at *
        have hzr := hbl.size
        obtain ⟨xa, xn, xc, hxx⟩ : ∃ a n c, sls k = .slice a n c := by obtain ⟨a, c, e⟩ := (HE.out k hlt).2.2.slice; exact ⟨a, _, c, e⟩
        rw [hxx] at q4
        clear hxx
        have S0 := src_str1 (wr.alloc (.cells #[.int .i64 k0, .int .i64 n0, .int .i64 e0, .string s, .slice xa xn xc] 30)) s
        rw [show (wr.alloc (.cells #[.int .i64 k0, .int .i64 n0, .int .i64 e0, .string s, .slice xa xn xc] 30)).heap.size = wr.heap.size + 1 by simp] at S0
        have S1 := Lib.hid S0
        clear S0
        have R1 := Lib.hid (show SRow ((wr.alloc (.cells #[.int .i64 k0, .int .i64 n0, .int .i64 e0, .string s, .slice xa xn xc] 30)).alloc (.cells #[.string s] 9)) w2.heap.size u4 L1 from
          HROW.out.keep (fun x hx => (heap_alloc_old _ _ (by have := (HROW.out.lt x hx).2; simp; omega)).trans (heap_alloc_old _ _ (HROW.out.lt x hx).2)))
        go_wp2_with (at_builtin; refine app_strs rfl _ _ _ rfl w2.heap.size _ _ rfl R1.out _ rfl _ S1.out (by intro q hq; simp at hq; rw [hq]; exact hs3) (by have := HLEN.out; first | omega | (simp; omega)) (by simp; omega) ?_; intro v2 w2' hrow2 hg2 hfr2)
        go_roundw
        case rel => exact ⟨k + 1, by omega, by go_num, by rw [HN.out]; exact hrow2, hbl.trans (Below.grown ((by (repeat' (first | with_reducible exact Below.refl _ _ | with_reducible refine below_alloc ?_ _ ?_ | with_reducible refine Below.setCell ?_ ?_ _ | with_reducible refine Below.drew ?_ | with_reducible refine below_drewN ?_ _ | with_reducible refine below_step ?_ (by assumption) ?_ | with_reducible refine below_mark ?_ (by assumption) ?_)); all_goals (first | omega | (simp; done) | (simp; omega)))) hg2 (by simp; omega) (fun x hx => (HROW.out.lt x hx).1))⟩
        case measure => simp [intOf]; omega
      · have H := Lib.hid (show L.take k = L from List.take_of_length_le (by omega))
        go_wp2_with fail
        go_ret
        exact ⟨_, rfl, by have := HROW.out; rw [H.out] at this; exact this.lower hz2, HB2.out.trans (hbl.mono hz2)⟩
end Go.Proofs.YtllngpnhhpnjoaaDoor
